/- Joined texts: SS, KN, SK, SY, SZ, SxRw. -/
import Derived.Test.YthfpekhpeiebjaaGreatDoorQAM
import Derived.Test.YthfpekhpeiebjaaGreatDoorQAJ
import Derived.Test.YthfpekhpeiebjaaGreatDoorQAD
set_option linter.unusedSectionVars false
set_option linter.unusedSimpArgs false
set_option linter.unusedVariables false
namespace Go.Sx
open Go
def cwAN (g s k sz sl of gp lt ea : Int) (d : Bool) (wk : Int) (A : Option Addr) (n c : Nat) : List SV := [.io .i64 g, .io .i64 s, .io .i64 k, .io .i64 sz, .io .i64 sl, .io .i64 of, .io .i64 gp, .io .i64 lt, .io .i64 ea, .bo d, .io .i64 wk, .sl A n c]
def zAN0 : List SV := [.v (.int .i64 2), .v (.int .i64 0), .v (.string (ByteArray.mk #[])), .v (.int .i64 0), .v (.int .i64 0), .v (.int .i64 0), .v (.int .i64 1), .v (.int .i64 0), .v (.int .i64 0), .v (.int IntKind.u32 0), .v (.int .i64 1), .v (.int .i64 1), .v (.string (ByteArray.mk #[97])), .v (.int .i64 5), .v (.int .i64 (-1)), .v (.int .i64 0), .v (.int .i64 0), .v (.int .i64 0), .v (.int .i64 0), .v (.int IntKind.u32 0)]
def zAN1 : List SV := [.v (.int .i64 4), .v (.int .i64 2), .v (.int .i64 1), .v (.int .i64 10), .v (.int .i64 0), .v (.int .i64 0), .v (.int .i64 0), .v (.int .i64 0), .v (.int .i64 0), .v (.bool false)]
def pAN2 : List Nat := [1, 1, 0, 1, 4, 4, 1, 1, 0, 4, 1, 1, 1, 1, 2]
def pAN3 : List Nat := [1, 1, 0, 1, 4, 4, 1, 1, 0, 4, 1, 0, 0]
def pAN4 : List Nat := [1, 1, 0, 1, 4, 4, 1, 1, 0, 4, 1, 0, 1]
def pAN5 : List Nat := [1, 1, 0, 1, 4, 4, 1, 0, 4, 1, 1, 1, 2]
def pAN6 : List Nat := [1, 1, 0, 1, 4, 4, 1, 1, 0, 4, 1, 1]
def pAN7 : List Nat := [1, 1, 0, 1, 4, 4, 1, 0, 4, 1, 1, 1]
def pAN8 : List Nat := [1, 1, 0, 1, 4, 4, 1, 0, 4, 1]
def pAN9 : List Nat := [1, 1, 0, 1, 4, 4, 1, 1, 1]
def pAN10 : List Nat := [1, 1, 0, 1, 4, 4, 1, 1]
def pAN11 : List Nat := [1, 1, 1]
end Go.Sx
section
namespace Go.Proofs.YthfpekhpeiebjaaGreatDoor
open Go.RowKit Go.Sx
noncomputable def B11 : Code := (Tryz.f11.body).getD .skip
theorem cf_beq (ga sa ka sza sla ofa gpa lta eaa gb sb kb szb slb ofb gpb ltb eab : Int) (da db : Bool) : (ga == gb && (sa == sb && (ka == kb && (sza == szb && (sla == slb && (ofa == ofb && (gpa == gpb && (lta == ltb && (eaa == eab && (da == db && true)))))))))) = decide (((Cf.mk ga sa ka sza sla ofa gpa lta eaa da) : Cf) = (Cf.mk gb sb kb szb slb ofb gpb ltb eab db)) := by
 rw [Bool.eq_iff_iff]
 simp [and_assoc]
theorem cf_ne {ga sa ka sza sla ofa gpa lta eaa gb sb kb szb slb ofb gpb ltb eab : Int} {da db : Bool} (h : (!(ga == gb && (sa == sb && (ka == kb && (sza == szb && (sla == slb && (ofa == ofb && (gpa == gpb && (lta == ltb && (eaa == eab && (da == db && true))))))))))) = true) : ((Cf.mk ga sa ka sza sla ofa gpa lta eaa da) : Cf) ≠ (Cf.mk gb sb kb szb slb ofb gpb ltb eab db) := fun e => by
 rw [cf_beq, decide_eq_true e] at h
 cases h
theorem cf_eq {ga sa ka sza sla ofa gpa lta eaa gb sb kb szb slb ofb gpb ltb eab : Int} {da db : Bool} (h : (!(ga == gb && (sa == sb && (ka == kb && (sza == szb && (sla == slb && (ofa == ofb && (gpa == gpb && (lta == ltb && (eaa == eab && (da == db && true))))))))))) = false) : ((Cf.mk ga sa ka sza sla ofa gpa lta eaa da) : Cf) = (Cf.mk gb sb kb szb slb ofb gpb ltb eab db) := by
 rw [cf_beq] at h
 exact of_decide_eq_true (by simpa only [Bool.not_eq_false'] using h)
theorem st_beq (kda ika tia va srca wka wksa bita maska kdb ikb tib vb srcb wkb wksb bitb maskb : Int) (keya keyb : List UInt8) : (kda == kdb && ((ika == ikb && ((mkB keya).toList == (mkB keyb).toList && (tia == tib && (va == vb && (srca == srcb && true))))) && (wka == wkb && (wksa == wksb && (bita == bitb && (maska == maskb && true)))))) = decide (((St.mk kda ika keya tia va srca wka wksa bita maska) : St) = (St.mk kdb ikb keyb tib vb srcb wkb wksb bitb maskb)) := by
 rw [Bool.eq_iff_iff, str_beq]
 simp [and_assoc]
theorem st_ne {kda ika tia va srca wka wksa bita maska kdb ikb tib vb srcb wkb wksb bitb maskb : Int} {keya keyb : List UInt8} (h : (!(kda == kdb && ((ika == ikb && ((mkB keya).toList == (mkB keyb).toList && (tia == tib && (va == vb && (srca == srcb && true))))) && (wka == wkb && (wksa == wksb && (bita == bitb && (maska == maskb && true))))))) = true) : ((St.mk kda ika keya tia va srca wka wksa bita maska) : St) ≠ (St.mk kdb ikb keyb tib vb srcb wkb wksb bitb maskb) := fun e => by
 rw [st_beq, decide_eq_true e] at h
 cases h
theorem st_eq {kda ika tia va srca wka wksa bita maska kdb ikb tib vb srcb wkb wksb bitb maskb : Int} {keya keyb : List UInt8} (h : (!(kda == kdb && ((ika == ikb && ((mkB keya).toList == (mkB keyb).toList && (tia == tib && (va == vb && (srca == srcb && true))))) && (wka == wkb && (wksa == wksb && (bita == bitb && (maska == maskb && true))))))) = false) : ((St.mk kda ika keya tia va srca wka wksa bita maska) : St) = (St.mk kdb ikb keyb tib vb srcb wkb wksb bitb maskb) := by
 rw [st_beq] at h
 exact of_decide_eq_true (by simpa only [Bool.not_eq_false'] using h)
def frS (i : Nat) : Fr := [(2, .lp 0 0), (3, .lp 1 0), (5, .io .i64 (i : Int))]
def locS (c : Cf) (wk : Int) (A : Option Addr) (n cap : Nat) (c2 : Cf) (wk2 : Int) (B : Option Addr) (m cap2 : Nat) (_ : Nat) : Sx.Loc := match c, c2 with
 | (Cf.mk ga sa ka sza sla ofa gpa lta eaa da), (Cf.mk gb sb kb szb slb ofb gpb ltb eab db) => [((cwAN ga sa ka sza sla ofa gpa lta eaa da wk A n cap), 28), ((cwAN gb sb kb szb slb ofb gpb ltb eab db wk2 B m cap2), 28)]
set_option maxHeartbeats 8000000 in
set_option maxRecDepth 100000 in
theorem same_go (ga sa ka sza sla ofa gpa lta eaa : Int) (da : Bool) (wka : Int) (A : Option Addr) (n ca : Nat) (xs : List St) (gb sb kb szb slb ofb gpb ltb eab : Int) (db : Bool) (wkb : Int) (B : Option Addr) (m cb : Nat) (ys : List St) (w : World) (hS : SlS w A n xs) (hT : SlS w B m ys) (hn : n ≤ 1048576) (hm2 : m ≤ 1048576) :
  Calls Tryz.prog 11 #[.agg #[.int .i64 ga, .int .i64 sa, .int .i64 ka, .int .i64 sza, .int .i64 sla, .int .i64 ofa, .int .i64 gpa, .int .i64 lta, .int .i64 eaa, .bool da, .int .i64 wka, .slice A n ca], .agg #[.int .i64 gb, .int .i64 sb, .int .i64 kb, .int .i64 szb, .int .i64 slb, .int .i64 ofb, .int .i64 gpb, .int .i64 ltb, .int .i64 eab, .bool db, .int .i64 wkb, .slice B m cb]] w fun e w' => e = .returned (.bool (decide (((Cf.mk ga sa ka sza sla ofa gpa lta eaa da) : Cf) = (Cf.mk gb sb kb szb slb ofb gpb ltb eab db) ∧ wka = wkb ∧ xs = ys))) ∧ Below w.heap.size w w' := by
 refine enter (fn := Tryz.f11) (c := B11) [.agg (cwAN ga sa ka sza sla ofa gpa lta eaa da wka A n ca), .agg (cwAN gb sb kb szb slb ofb gpb ltb eab db wkb B m cb)] Tryz.func11 rfl rfl ?_
 refine At.to (noF_stable) (noF_fewer) 0 300 [2, 3, 11] 2 ⟨pops B11 [1, 0, 0] 6, [.seq (sub B11 [1, 0, 1]), .seq (sub B11 [1, 1])], [(2, .lp 0 0), (3, .lp 1 0), (11, .bo !(ga == gb && (sa == sb && (ka == kb && (sza == szb && (sla == slb && (ofa == ofb && (gpa == gpb && (lta == ltb && (eaa == eab && (da == db && true)))))))))))], [((cwAN ga sa ka sza sla ofa gpa lta eaa da wka A n ca), 28), ((cwAN gb sb kb szb slb ofb gpb ltb eab db wkb B m cb), 28)]⟩ (by kernel_rfl) (by kernel_rfl) ?_
 rcases Bool.eq_false_or_eq_true (!(ga == gb && (sa == sb && (ka == kb && (sza == szb && (sla == slb && (ofa == ofb && (gpa == gpb && (lta == ltb && (eaa == eab && (da == db && true))))))))))) with b0 | b0
 ·refine At.res 11 (!(ga == gb && (sa == sb && (ka == kb && (sza == szb && (sla == slb && (ofa == ofb && (gpa == gpb && (lta == ltb && (eaa == eab && (da == db && true))))))))))) true (by kernel_rfl) b0 ?_
  refine At.to (noF_stable) (noF_fewer) 0 300 [4] 0 ⟨.exit .ret, [], [(4, .v (.bool false))], []⟩ (by kernel_rfl) (by kernel_rfl) ?_
  refine At.ret (by kernel_rfl) (.v (.bool false)) (by kernel_rfl) ?_
  have hne : (Cf.mk ga sa ka sza sla ofa gpa lta eaa da) ≠ (Cf.mk gb sb kb szb slb ofb gpb ltb eab db) := cf_ne b0
  rw [show decide ((Cf.mk ga sa ka sza sla ofa gpa lta eaa da) = (Cf.mk gb sb kb szb slb ofb gpb ltb eab db) ∧ wka = wkb ∧ xs = ys) = false from decide_eq_false fun ⟨e1, e2, e3⟩ => hne e1]
  intro ρ w9 hm' hf
  exact ⟨rfl, hm'.below⟩
 ·refine At.res 11 (!(ga == gb && (sa == sb && (ka == kb && (sza == szb && (sla == slb && (ofa == ofb && (gpa == gpb && (lta == ltb && (eaa == eab && (da == db && true))))))))))) false (by kernel_rfl) b0 ?_
  refine At.to (noF_stable) (noF_fewer) 0 300 [2, 3, 18] 2 ⟨pops B11 [1, 0, 0] 13, [.seq (sub B11 [1, 0, 1]), .seq (sub B11 [1, 1])], [(2, .lp 0 0), (3, .lp 1 0), (18, .bo (wka != wkb))], [((cwAN ga sa ka sza sla ofa gpa lta eaa da wka A n ca), 28), ((cwAN gb sb kb szb slb ofb gpb ltb eab db wkb B m cb), 28)]⟩ (by kernel_rfl) (by kernel_rfl) ?_
  rcases Bool.eq_false_or_eq_true (wka != wkb) with b1 | b1
  ·refine At.res 18 (wka != wkb) true (by kernel_rfl) b1 ?_
   refine At.to (noF_stable) (noF_fewer) 0 300 [4] 0 ⟨.exit .ret, [], [(4, .v (.bool false))], []⟩ (by kernel_rfl) (by kernel_rfl) ?_
   refine At.ret (by kernel_rfl) (.v (.bool false)) (by kernel_rfl) ?_
   have hne : wka ≠ wkb := by simpa using b1
   rw [show decide ((Cf.mk ga sa ka sza sla ofa gpa lta eaa da) = (Cf.mk gb sb kb szb slb ofb gpb ltb eab db) ∧ wka = wkb ∧ xs = ys) = false from decide_eq_false fun ⟨e1, e2, e3⟩ => hne e2]
   intro ρ w9 hm' hf
   exact ⟨rfl, hm'.below⟩
  ·refine At.res 18 (wka != wkb) false (by kernel_rfl) b1 ?_
   refine At.to (noF_stable) (noF_fewer) 0 300 [2, 3, 26] 2 ⟨.code (sub B11 [1, 0, 1]), [.seq (sub B11 [1, 1])], [(2, .lp 0 0), (3, .lp 1 0), (26, .bo ((↑n : Int) != (↑m : Int)))], [((cwAN ga sa ka sza sla ofa gpa lta eaa da wka A n ca), 28), ((cwAN gb sb kb szb slb ofb gpb ltb eab db wkb B m cb), 28)]⟩ (by kernel_rfl) (by kernel_rfl) ?_
   rcases Bool.eq_false_or_eq_true ((↑n : Int) != (↑m : Int)) with b2 | b2
   ·refine At.res 26 ((↑n : Int) != (↑m : Int)) true (by kernel_rfl) b2 ?_
    refine At.to (noF_stable) (noF_fewer) 0 300 [4] 0 ⟨.exit .ret, [], [(4, .v (.bool false))], []⟩ (by kernel_rfl) (by kernel_rfl) ?_
    refine At.ret (by kernel_rfl) (.v (.bool false)) (by kernel_rfl) ?_
    have hne : n ≠ m := by simp at b2; omega
    rw [show decide ((Cf.mk ga sa ka sza sla ofa gpa lta eaa da) = (Cf.mk gb sb kb szb slb ofb gpb ltb eab db) ∧ wka = wkb ∧ xs = ys) = false from decide_eq_false fun ⟨e1, e2, e3⟩ => hne (by rw [hS.1, hT.1, e3])]
    intro ρ w9 hm' hf
    exact ⟨rfl, hm'.below⟩
   ·refine At.res 26 ((↑n : Int) != (↑m : Int)) false (by kernel_rfl) b2 ?_
    refine At.to (noF_stable) (noF_fewer) 0 300 [2, 3, 5] 2 ⟨.code (sub B11 [1, 1, 0, 1, 4]), [.block 0, .seq (sub B11 pAN11)], [(2, .lp 0 0), (3, .lp 1 0), (5, .v (.int .i64 0))], [((cwAN ga sa ka sza sla ofa gpa lta eaa da wka A n ca), 28), ((cwAN gb sb kb szb slb ofb gpb ltb eab db wkb B m cb), 28)]⟩ (by kernel_rfl) (by kernel_rfl) ?_
    have he1 : (Cf.mk ga sa ka sza sla ofa gpa lta eaa da) = (Cf.mk gb sb kb szb slb ofb gpb ltb eab db) := cf_eq b0
    have he2 : wka = wkb := by simpa using b1
    have hnm : n = m := by simp at b2; omega
    clear b0 b1 b2
    refine At.canonT [5] _ rfl ?_
    refine At.loop (σ := Nat) (sub B11 [1, 1, 0, 1, 4, 4]) frS (locS (Cf.mk ga sa ka sza sla ofa gpa lta eaa da) wka A n ca (Cf.mk gb sb kb szb slb ofb gpb ltb eab db) wkb B m cb) (fun i _ _ => True ∧ (i ≤ n ∧ ∀ k, k < i → xs[k]? = ys[k]?)) (fun i => n - i) 0 (by kernel_rfl) (by unfold subFr; kernel_rfl) (by kernel_rfl) (fun _ _ _ _ h => ⟨trivial, Nat.zero_le _, fun k hk => absurd hk (Nat.not_lt_zero k)⟩) ?_
    intro i
    refine At.pure fun ⟨h1, h2⟩ => ?_
    refine At.to (noF_stable) (noF_fewer) 0 300 [2, 3, 5, 31] 2 ⟨.code (sub B11 [1, 1, 0, 1, 4, 4, 0, 1]), [.seq (sub B11 [1, 1, 0, 1, 4, 4, 1]), .next (Sx.Next w.heap.size w Tryz.f11.ntmps frS (locS (Cf.mk ga sa ka sza sla ofa gpa lta eaa da) wka A n ca (Cf.mk gb sb kb szb slb ofb gpb ltb eab db) wkb B m cb) (fun i x x_1 => True ∧ i ≤ n ∧ ∀ (k : Nat), k < i → xs[k]? = ys[k]?) (fun i => n - i) i), .block 0, .seq (sub B11 pAN11)], [(2, .lp 0 0), (3, .lp 1 0), (5, .io .i64 (↑i : Int)), (31, .bo (decide ((↑i : Int) < (↑n : Int))))], [((cwAN ga sa ka sza sla ofa gpa lta eaa da wka A n ca), 28), ((cwAN gb sb kb szb slb ofb gpb ltb eab db wkb B m cb), 28)]⟩ (by kernel_rfl) (by kernel_rfl) ?_
    rcases Bool.eq_false_or_eq_true (decide ((↑i : Int) < (↑n : Int))) with b0 | b0
    ·refine At.res 31 (decide ((↑i : Int) < (↑n : Int))) true (by kernel_rfl) b0 ?_
     refine At.to (noF_stable) (noF_fewer) 0 300 [2, 3, 5, 35, 36] 2 ⟨pqops B11 [1, 1, 0, 1, 4, 4, 1, 0, 4, 0] 3, [.seq (sub B11 pAN8), .block 1, .seq (sub B11 pAN10), .next (Sx.Next w.heap.size w Tryz.f11.ntmps frS (locS (Cf.mk ga sa ka sza sla ofa gpa lta eaa da) wka A n ca (Cf.mk gb sb kb szb slb ofb gpb ltb eab db) wkb B m cb) (fun i x x_1 => True ∧ i ≤ n ∧ ∀ (k : Nat), k < i → xs[k]? = ys[k]?) (fun i => n - i) i), .block 0, .seq (sub B11 pAN11)], [(2, .lp 0 0), (3, .lp 1 0), (5, .io .i64 (↑i : Int)), (35, .sl A n ca), (36, .io .i64 (↑i : Int))], [((cwAN ga sa ka sza sla ofa gpa lta eaa da wka A n ca), 28), ((cwAN gb sb kb szb slb ofb gpb ltb eab db wkb B m cb), 28)]⟩ (by kernel_rfl) (by kernel_rfl) ?_
     have hi : i < n := by have := of_decide_eq_true b0; omega
     clear b0
     obtain ⟨x, hx⟩ : ∃ x, xs[i]? = some x := ⟨_, List.getElem?_eq_getElem (by rw [← hS.1]; exact hi)⟩
     obtain ⟨y, hy⟩ : ∃ y, ys[i]? = some y := ⟨_, List.getElem?_eq_getElem (by rw [← hT.1]; omega)⟩
     obtain ⟨a, rfl, hcell⟩ := hS.get hx
     obtain ⟨b, rfl, hcel2⟩ := hT.get hy
     obtain ⟨kda, ika, keya, tia, va, srca, wkc, wksa, bita, maska⟩ := x
     obtain ⟨kdb, ikb, keyb, tib, vb, srcb, wkd, wksb, bitb, maskb⟩ := y
     refine At.idx a n 10 (i : Int) (by kernel_rfl) (by omega) (by omega) noF_stable ?_
     refine At.lda (a.add ((i : Int).toNat * 10)) 10 [.io .i64 kda, .io .i64 ika, .so (mkB keya), .io .i64 tia, .io .i64 va, .io .i64 srca, .io .i64 wkc, .io .i64 wksa, .io .i64 bita, .io .u32 maska] (by kernel_rfl) rfl noF_stable (fun ρ w1 hm' hf j v2 hj => cell_below (hcell j v2 hj) hm'.below) ?_
     refine At.to (noF_stable) (noF_fewer) 0 300 [2, 3, 5, 38, 40, 41] 2 ⟨pqops B11 [1, 1, 0, 1, 4, 4, 1, 0, 4, 0] 8, [.seq (sub B11 pAN8), .block 1, .seq (sub B11 pAN10), .next (Sx.Next w.heap.size w Tryz.f11.ntmps frS (locS (Cf.mk ga sa ka sza sla ofa gpa lta eaa da) wka (some a) n ca (Cf.mk gb sb kb szb slb ofb gpb ltb eab db) wkb (some b) m cb) (fun i x x_1 => True ∧ i ≤ n ∧ ∀ (k : Nat), k < i → xs[k]? = ys[k]?) (fun i => n - i) i), .block 0, .seq (sub B11 pAN11)], [(2, .lp 0 0), (3, .lp 1 0), (5, .io .i64 (↑i : Int)), (38, .agg [.io .i64 kda, .io .i64 ika, .so (mkB keya), .io .i64 tia, .io .i64 va, .io .i64 srca, .io .i64 wkc, .io .i64 wksa, .io .i64 bita, .io IntKind.u32 maska]), (40, .sl (some b) m cb), (41, .io .i64 (↑i : Int))], [((cwAN ga sa ka sza sla ofa gpa lta eaa da wka (some a) n ca), 28), ((cwAN gb sb kb szb slb ofb gpb ltb eab db wkb (some b) m cb), 28)]⟩ (by kernel_rfl) (by kernel_rfl) ?_
     refine At.idx b m 10 (i : Int) (by kernel_rfl) (by omega) (by omega) noF_stable ?_
     refine At.lda (b.add ((i : Int).toNat * 10)) 10 [.io .i64 kdb, .io .i64 ikb, .so (mkB keyb), .io .i64 tib, .io .i64 vb, .io .i64 srcb, .io .i64 wkd, .io .i64 wksb, .io .i64 bitb, .io .u32 maskb] (by kernel_rfl) rfl noF_stable (fun ρ w1 hm' hf j v2 hj => cell_below (hcel2 j v2 hj) hm'.below) ?_
     refine At.to (noF_stable) (noF_fewer) 0 300 [2, 3, 5, 44] 2 ⟨.code (sub B11 pAN8), [.block 1, .seq (sub B11 pAN10), .next (Sx.Next w.heap.size w Tryz.f11.ntmps frS (locS (Cf.mk ga sa ka sza sla ofa gpa lta eaa da) wka (some a) n ca (Cf.mk gb sb kb szb slb ofb gpb ltb eab db) wkb (some b) m cb) (fun i x x_1 => True ∧ i ≤ n ∧ ∀ (k : Nat), k < i → xs[k]? = ys[k]?) (fun i => n - i) i), .block 0, .seq (sub B11 pAN11)], [(2, .lp 0 0), (3, .lp 1 0), (5, .io .i64 (↑i : Int)), (44, .bo !(kda == kdb && (ika == ikb && ((mkB keya).toList == (mkB keyb).toList && (tia == tib && (va == vb && (srca == srcb && true)))) && (wkc == wkd && (wksa == wksb && (bita == bitb && (maska == maskb && true)))))))], [((cwAN ga sa ka sza sla ofa gpa lta eaa da wka (some a) n ca), 28), ((cwAN gb sb kb szb slb ofb gpb ltb eab db wkb (some b) m cb), 28)]⟩ (by kernel_rfl) (by kernel_rfl) ?_
     rcases Bool.eq_false_or_eq_true (!(kda == kdb && (ika == ikb && ((mkB keya).toList == (mkB keyb).toList && (tia == tib && (va == vb && (srca == srcb && true)))) && (wkc == wkd && (wksa == wksb && (bita == bitb && (maska == maskb && true))))))) with b0 | b0
     ·refine At.res 44 (!(kda == kdb && (ika == ikb && ((mkB keya).toList == (mkB keyb).toList && (tia == tib && (va == vb && (srca == srcb && true)))) && (wkc == wkd && (wksa == wksb && (bita == bitb && (maska == maskb && true))))))) true (by kernel_rfl) b0 ?_
      refine At.to (noF_stable) (noF_fewer) 0 300 [4] 0 ⟨.exit .ret, [], [(4, .v (.bool false))], []⟩ (by kernel_rfl) (by kernel_rfl) ?_
      refine At.ret (by kernel_rfl) (.v (.bool false)) (by kernel_rfl) ?_
      have hne : ((St.mk kda ika keya tia va srca wkc wksa bita maska) : St) ≠ (St.mk kdb ikb keyb tib vb srcb wkd wksb bitb maskb) := st_ne b0
      rw [show decide ((Cf.mk ga sa ka sza sla ofa gpa lta eaa da) = (Cf.mk gb sb kb szb slb ofb gpb ltb eab db) ∧ wka = wkb ∧ xs = ys) = false from decide_eq_false fun ⟨e1, e2, e3⟩ => hne (by rw [e3, hy] at hx; exact (Option.some.inj hx).symm)]
      intro ρ w9 hm' hf
      exact ⟨rfl, hm'.below⟩
     ·refine At.res 44 (!(kda == kdb && (ika == ikb && ((mkB keya).toList == (mkB keyb).toList && (tia == tib && (va == vb && (srca == srcb && true)))) && (wkc == wkd && (wksa == wksb && (bita == bitb && (maska == maskb && true))))))) false (by kernel_rfl) b0 ?_
      refine At.to (noF_stable) (noF_fewer) 0 300 [2, 3, 5] 2 ⟨.exit .normal, [.next (Sx.Next w.heap.size w Tryz.f11.ntmps frS (locS (Cf.mk ga sa ka sza sla ofa gpa lta eaa da) wka (some a) n ca (Cf.mk gb sb kb szb slb ofb gpb ltb eab db) wkb (some b) m cb) (fun i x x_1 => True ∧ i ≤ n ∧ ∀ (k : Nat), k < i → xs[k]? = ys[k]?) (fun i => n - i) i), .block 0, .seq (sub B11 pAN11)], [(2, .lp 0 0), (3, .lp 1 0), (5, .io .i64 (IntKind.i64.wrap ((↑i : Int) + 1)))], [((cwAN ga sa ka sza sla ofa gpa lta eaa da wka (some a) n ca), 28), ((cwAN gb sb kb szb slb ofb gpb ltb eab db wkb (some b) m cb), 28)]⟩ (by kernel_rfl) (by kernel_rfl) ?_
      have heq : ((St.mk kda ika keya tia va srca wkc wksa bita maska) : St) = (St.mk kdb ikb keyb tib vb srcb wkd wksb bitb maskb) := st_eq b0
      have hw3 : IntKind.i64.wrap ((i : Int) + 1) = ((i + 1 : Nat) : Int) := by
       rw [wrap63 (by omega) (by omega)]
       omega
      rw [hw3]
      refine At.next (σ := Nat) (i + 1) rfl rfl (by unfold subFr; kernel_rfl) (by kernel_rfl) ?_ ?_
      ·intro ρ a' w' hi' hf
       refine ⟨trivial, by omega, fun k hk => ?_⟩
       by_cases hki : k = i
       ·subst hki
        rw [hx, hy, heq]
       ·exact h2 k (by omega)
      ·show n - (i + 1) < n - i
       omega
    ·refine At.res 31 (decide ((↑i : Int) < (↑n : Int))) false (by kernel_rfl) b0 ?_
     refine At.to (noF_stable) (noF_fewer) 0 300 [4] 0 ⟨.exit .ret, [], [(4, .v (.bool true))], []⟩ (by kernel_rfl) (by kernel_rfl) ?_
     refine At.ret (by kernel_rfl) (.v (.bool true)) (by kernel_rfl) ?_
     have hi : ¬ (i : Int) < (n : Int) := of_decide_eq_false b0
     rw [show decide ((Cf.mk ga sa ka sza sla ofa gpa lta eaa da) = (Cf.mk gb sb kb szb slb ofb gpb ltb eab db) ∧ wka = wkb ∧ xs = ys) = true from decide_eq_true ⟨he1, he2, List.ext_getElem? fun k => if hk : k < i then h2 k hk else by rw [List.getElem?_eq_none (by rw [← hS.1]; omega), List.getElem?_eq_none (by rw [← hT.1]; omega)]⟩]
     intro ρ w9 hm' hf
     exact ⟨rfl, hm'.below⟩
end Go.Proofs.YthfpekhpeiebjaaGreatDoor
end
section
namespace Go.Proofs.YthfpekhpeiebjaaGreatDoor
open Go.RowKit Go.Sx
def kc : Cf := ⟨4, 2, 1, 10, 0, 0, 0, 0, 0, false⟩
def kx : List St := [pk 1, ev [97] 5 (-1)]
def kt : List UInt8 := [106, 111, 98, 32, 103, 114, 111, 117, 112, 115, 32, 52, 32, 115, 111, 117, 114, 99, 101, 115, 32, 50, 32, 107, 105, 110, 100, 32, 116, 117, 109, 98, 108, 105, 110, 103, 32, 115, 105, 122, 101, 32, 49, 48, 32, 115, 108, 105, 100, 101, 32, 48, 32, 111, 102, 102, 115, 101, 116, 32, 48, 32, 103, 97, 112, 32, 48, 32, 108, 97, 116, 101, 32, 48, 32, 101, 97, 114, 108, 121, 32, 48, 32, 100, 105, 115, 99, 97, 114, 100, 32, 110, 111, 10, 119, 111, 114, 107, 101, 114, 115, 32, 50, 10, 112, 105, 99, 107, 32, 49, 10, 101, 118, 101, 110, 116, 32, 34, 97, 34, 32, 53, 32, 45, 49, 10]
theorem kchk : (chkP kc 2 kx).2 = 0 := by decide +kernel
theorem kok : ∀ x ∈ kx, x.ok := by
 intro x hx
 simp only [kx, List.mem_cons, List.not_mem_nil, or_false] at hx
 rcases hx with rfl | rfl <;> simp [St.ok, pk, ev, in64]
def kF (a b c d e f g : List UInt8) : List UInt8 := [106, 111, 98, 32] ++ Lib.join (weaveL wordsW [a, b, kindW 1, d, e, e, e, e, e, saysW false]) [32] ++ [10, 119, 111, 114, 107, 101, 114, 115, 32] ++ b ++ [10] ++ (([112, 105, 99, 107, 32] ++ c ++ [10]) ++ (([101, 118, 101, 110, 116, 32] ++ quoteB [97] ++ [32] ++ f ++ [32] ++ g ++ [10]) ++ []))
theorem dec1 {u : Nat} (h : u < 10) : Lib.decDigits u = [UInt8.ofNat (48 + u)] := by
 rw [Lib.decDigits, dif_pos h]
theorem ito1 (u : Nat) (h : u < 10) : Lib.itoa (u : Int) = [UInt8.ofNat (48 + u)] := by
 unfold Lib.itoa
 rw [if_neg (by omega), Int.toNat_natCast, dec1 h]
theorem it10 : Lib.itoa 10 = [49, 48] := by
 show Lib.decDigits 10 = _
 rw [Lib.decDigits, dif_neg (by decide), dec1 (by decide)]
 rfl
theorem itm1 : Lib.itoa (-1) = [45, 49] := by
 show 45 :: Lib.decDigits 1 = _
 rw [dec1 (by decide)]
 rfl
theorem ktext : scriptB kc 2 kx = kt := by
 have h : scriptB kc 2 kx = kF (Lib.itoa (4 : Nat)) (Lib.itoa (2 : Nat)) (Lib.itoa (1 : Nat)) (Lib.itoa 10) (Lib.itoa (0 : Nat)) (Lib.itoa (5 : Nat)) (Lib.itoa (-1)) := rfl
 rw [h, ito1 4 (by decide), ito1 2 (by decide), ito1 1 (by decide), ito1 0 (by decide), ito1 5 (by decide), it10, itm1]
 decide +kernel
theorem kparse : parseS kt = ⟨4, kc, 2, kx, none⟩ := by
 rw [← ktext]
 exact parse_script kchk kok
theorem ent_sls {w0 w : World} {A : Option Addr} {n c n2 : Nat} {B : Option Addr} {xs : List St} {ρ : List Nat} (h : EntV w0 A n c (B, stW xs) ρ w) (hn : n2 = xs.length) : SlS w B n2 xs := by
 obtain ⟨b, hb, _, _, _, _, hs⟩ := h
 simp only at hb
 subst hb
 exact ⟨hn, by simp, fun a ha => by injection ha with ha; subst ha; exact hs⟩
noncomputable def B8 : Code := (Tryz.f8.body).getD .skip
set_option maxHeartbeats 8000000 in
set_option maxRecDepth 100000 in
theorem known_true (w : World) (hw : Wd w) : Calls Tryz.prog 8 #[] w fun e w' => e = .returned (.bool true) ∧ Below w.heap.size w w' := by
 refine enterF (N := w.heap.size) (F := RowE w (fun _ => False) [] w.heap.size 41 10 none 0 0 [] []) (fn := Tryz.f8) (c := B8) [] Tryz.func8 rfl rfl (Nat.le_refl _) ⟨⟨⟨⟨World.ownsRow_nil _ _ _ _, by simp [Value.ownBlock]⟩, Nat.le_refl _⟩, FrameR.start _ [] (by simp), by simp [Value.ownBlock]⟩, by simp⟩ ?_
 refine At.toJ (RowE.stable) RowE.fewer 20 300 [9, 13] 1 ⟨pops B8 [1, 0] 5, [.seq (sub B8 [1, 1])], [(9, .agg zAN1), (13, .ls 0 0 2 2)], [(zAN0, 41)]⟩ (by kernel_rfl) (by kernel_rfl) ?_
 refine At.mkrowE (e2 := 41) (size2 := 10) 15 [.agg zAN1, .v (.int .i64 2), .ls 0 0 2 2] (fun A' n' c' => .tup [.agg [.v (.int .i64 4), .v (.int .i64 2), .v (.int .i64 1), .v (.int .i64 10), .v (.int .i64 0), .v (.int .i64 0), .v (.int .i64 0), .v (.int .i64 0), .v (.int .i64 0), .v (.bool false), .v (.int .i64 2), .sl A' n' c'], .v (.int .i64 0)]) (stW kx) (by kernel_rfl) (by kernel_rfl) (by kernel_rfl) (by kernel_rfl) (by kernel_rfl) (by simp [stW, St.w, kx, pk]) (fun ρ w1 hm' hf => ?_) ?_
 ·have hS : SlS w1 (some ⟨nth ρ 0, 0, none⟩) 2 kx := ⟨rfl, by simp, fun a ha j u hj => by
   injection ha with ha
   subst ha
   rw [add_ok, cell_of_loc hm' (i := 0) rfl, Nat.zero_add, ← List.getElem?_map]
   exact hj⟩
  refine (put_go 4 2 1 10 0 0 0 0 0 false 2 (some ⟨nth ρ 0, 0, none⟩) 2 2 kx w1 hS (by decide)).mono fun e w2 h => ?_
  unfold putE at h
  rw [if_pos (show (chkP ⟨4, 2, 1, 10, 0, 0, 0, 0, 0, false⟩ 2 kx).2 = 0 from kchk)] at h
  obtain ⟨A', c', h1, h2⟩ := h
  exact ⟨A', 2, c', h1, h2⟩
 intro A1 n1 c1
 refine At.pure fun ⟨hn1, hc1⟩ => ?_
 obtain rfl : n1 = 2 := by
  have h20 : (stW kx).length = 20 := rfl
  omega
 clear hn1 hc1
 refine At.toJ (RowE.stable) RowE.fewer 20 300 [1, 2, 18] 2 ⟨pops B8 [1, 1, 0] 1, [.seq (sub B8 pAN11)], [(1, .lp 1 0), (2, .v (.int .i64 0)), (18, .agg [.v (.int .i64 4), .v (.int .i64 2), .v (.int .i64 1), .v (.int .i64 10), .v (.int .i64 0), .v (.int .i64 0), .v (.int .i64 0), .v (.int .i64 0), .v (.int .i64 0), .v (.bool false), .v (.int .i64 2), .sl A1 2 c1])], [(zAN0, 41), ([.v (.int .i64 4), .v (.int .i64 2), .v (.int .i64 1), .v (.int .i64 10), .v (.int .i64 0), .v (.int .i64 0), .v (.int .i64 0), .v (.int .i64 0), .v (.int .i64 0), .v (.bool false), .v (.int .i64 2), .sl A1 2 c1], 28)]⟩ (by kernel_rfl) (by kernel_rfl) ?_
 refine At.call RowE.stable 12 [.agg [.v (.int .i64 4), .v (.int .i64 2), .v (.int .i64 1), .v (.int .i64 10), .v (.int .i64 0), .v (.int .i64 0), .v (.int .i64 0), .v (.int .i64 0), .v (.int .i64 0), .v (.bool false), .v (.int .i64 2), .sl A1 2 c1]] (.tup [.so (mkB kt), .v (.int .i64 0)]) (by kernel_rfl) (by kernel_rfl) (by kernel_rfl) (fun _ _ w1 hi hf => (text_go 4 2 1 10 0 0 0 0 0 false 2 A1 2 c1 kx w1 (hw.below hi.mem.below) (ent_sls (hf.2 _ (by simp)) rfl) (by decide) kok).mono fun e w2 h => ⟨h.1.trans (by rw [show textP ⟨4, 2, 1, 10, 0, 0, 0, 0, 0, false⟩ 2 kx = (scriptB kc 2 kx, 0) from if_pos kchk, ktext]; rfl), h.2⟩) ?_
 refine At.toJ (RowE.stable) RowE.fewer 20 300 [1, 2, 3, 4, 23] 2 ⟨pops B8 [1, 1, 1, 0] 1, [.seq (sub B8 [1, 1, 1, 1])], [(1, .lp 1 0), (2, .v (.int .i64 0)), (3, .so (mkB kt)), (4, .v (.int .i64 0)), (23, .so (mkB kt))], [(zAN0, 41), ([.v (.int .i64 4), .v (.int .i64 2), .v (.int .i64 1), .v (.int .i64 10), .v (.int .i64 0), .v (.int .i64 0), .v (.int .i64 0), .v (.int .i64 0), .v (.int .i64 0), .v (.bool false), .v (.int .i64 2), .sl A1 2 c1], 28)]⟩ (by kernel_rfl) (by kernel_rfl) ?_
 refine At.mkrowE (e2 := 41) (size2 := 10) 9 [.so (mkB kt)] (fun A' n' c' => .tup [.agg [.v (.int .i64 4), .v (.int .i64 2), .v (.int .i64 1), .v (.int .i64 10), .v (.int .i64 0), .v (.int .i64 0), .v (.int .i64 0), .v (.int .i64 0), .v (.int .i64 0), .v (.bool false), .v (.int .i64 2), .sl A' n' c'], .v (.int .i64 4), .v (.int .i64 0)]) (stW kx) (by kernel_rfl) (by kernel_rfl) (by kernel_rfl) (by kernel_rfl) (by kernel_rfl) (by simp [stW, St.w, kx, pk]) (fun ρ w1 hm' hf => ?_) ?_
 ·refine (parse_kit kt (by decide +kernel) w1 (hw.below hm'.below)).mono fun e w2 h => ?_
  rw [kparse] at h
  unfold parseE at h
  rw [if_pos (by decide)] at h
  obtain ⟨A', c', h1, h2⟩ := h
  exact ⟨A', 2, c', h1, h2⟩
 intro A2 n2 c2
 refine At.pure fun ⟨hn2, hc2⟩ => ?_
 obtain rfl : n2 = 2 := by
  have h20 : (stW kx).length = 20 := rfl
  omega
 clear hn2 hc2
 refine At.toJ (RowE.stable) RowE.fewer 20 300 [3, 42, 43, 44] 0 ⟨pops B8 [1, 1, 1, 1, 0] 17, [.seq (sub B8 [1, 1, 1, 1, 1])], [(3, .so (mkB kt)), (42, .v (.bool true)), (43, .agg [.v (.int .i64 4), .v (.int .i64 2), .v (.int .i64 1), .v (.int .i64 10), .v (.int .i64 0), .v (.int .i64 0), .v (.int .i64 0), .v (.int .i64 0), .v (.int .i64 0), .v (.bool false), .v (.int .i64 2), .sl A1 2 c1]), (44, .agg [.v (.int .i64 4), .v (.int .i64 2), .v (.int .i64 1), .v (.int .i64 10), .v (.int .i64 0), .v (.int .i64 0), .v (.int .i64 0), .v (.int .i64 0), .v (.int .i64 0), .v (.bool false), .v (.int .i64 2), .sl A2 2 c2])], []⟩ (by kernel_rfl) (by kernel_rfl) ?_
 refine At.call RowE.stable 11 [.agg [.v (.int .i64 4), .v (.int .i64 2), .v (.int .i64 1), .v (.int .i64 10), .v (.int .i64 0), .v (.int .i64 0), .v (.int .i64 0), .v (.int .i64 0), .v (.int .i64 0), .v (.bool false), .v (.int .i64 2), .sl A1 2 c1], .agg [.v (.int .i64 4), .v (.int .i64 2), .v (.int .i64 1), .v (.int .i64 10), .v (.int .i64 0), .v (.int .i64 0), .v (.int .i64 0), .v (.int .i64 0), .v (.int .i64 0), .v (.bool false), .v (.int .i64 2), .sl A2 2 c2]] (.v (.bool true)) (by kernel_rfl) (by kernel_rfl) (by kernel_rfl) (fun _ _ w1 hi hf => (same_go 4 2 1 10 0 0 0 0 0 false 2 A1 2 c1 kx 4 2 1 10 0 0 0 0 0 false 2 A2 2 c2 kx w1 (ent_sls (hf.2 (A1, stW kx) (by simp)) rfl) (ent_sls (hf.2 (A2, stW kx) (by simp)) rfl) (by decide) (by decide)).mono fun e w2 h => ⟨h.1.trans (by rw [decide_eq_true ⟨rfl, rfl, rfl⟩]; rfl), h.2⟩) ?_
 refine At.toJ (RowE.stable) RowE.fewer 20 300 [3, 52] 0 ⟨pops B8 [1, 1, 1, 1, 0] 25, [.seq (sub B8 [1, 1, 1, 1, 1])], [(3, .so (mkB kt)), (52, .bo true)], []⟩ (by kernel_rfl) (by kernel_rfl) ?_
 refine At.res 52 (true) true (by kernel_rfl) (by first | assumption | (simp only [*]; done) | (simp [*]; done)) ?_
 refine At.toJ (RowE.stable) RowE.fewer 20 300 [52, 53, 56] 0 ⟨pops B8 [1, 1, 1, 1, 0] 29, [.seq (sub B8 [1, 1, 1, 1, 1])], [(52, .v (.bool true)), (53, .so (mkB kt)), (56, .io .i64 104)], []⟩ (by kernel_rfl) (by kernel_rfl) ?_
 refine sslW kt 104 [112, 105, 99, 107, 32, 49, 10, 101, 118, 101, 110, 116, 32, 34, 97, 34, 32, 53, 32, 45, 49, 10] (by decide +kernel) (by kernel_rfl) (by decide) RowE.stable ?_
 refine At.toJ (RowE.stable) RowE.fewer 20 300 [0] 0 ⟨.exit .ret, [], [(0, .bo true)], []⟩ (by kernel_rfl) (by kernel_rfl) ?_
 refine At.ret (by kernel_rfl) (.bo true) (by kernel_rfl) ?_
 intro ρ w9 hm' hf
 exact ⟨rfl, hm'.below⟩
end Go.Proofs.YthfpekhpeiebjaaGreatDoor
end
section
/- Bits turned: plain. -/
namespace Go.Proofs.YthfpekhpeiebjaaGreatDoor
open Go.RowKit Go.Sx
def bitB (n : Int) : UInt8 := UInt8.ofNat (2 ^ (n % 8).toNat)
/-- The bit of that number turned, where there is one. -/
def flipB (bs : List UInt8) (n : Int) : List UInt8 := if 0 ≤ n then bs.modify (n.toNat / 8) (fun c => c ^^^ bitB n) else bs
theorem flipB_len (bs : List UInt8) (n : Int) : (flipB bs n).length = bs.length := by
 unfold flipB
 split
 ·exact List.length_modify ..
 ·rfl
theorem modify_comm (l : List UInt8) (i j : Nat) (a b : UInt8) : (l.modify i (fun c => c ^^^ a)).modify j (fun c => c ^^^ b) = (l.modify j (fun c => c ^^^ b)).modify i (fun c => c ^^^ a) := by
 apply List.ext_getElem?
 intro k
 simp only [List.getElem?_modify]
 cases l[k]? with
 | none => simp
 | some x =>
  simp only [Option.map_eq_map, Option.map_some]
  congr 1
  by_cases h1 : i = k <;> by_cases h2 : j = k <;> simp [h1, h2, UInt8.xor_assoc, UInt8.xor_comm a b]
theorem modify_self (l : List UInt8) (i : Nat) (a : UInt8) : (l.modify i (fun c => c ^^^ a)).modify i (fun c => c ^^^ a) = l := by
 apply List.ext_getElem?
 intro k
 simp only [List.getElem?_modify]
 cases l[k]? with
 | none => simp
 | some x =>
  simp only [Option.map_eq_map, Option.map_some]
  by_cases h1 : i = k <;> simp [h1, UInt8.xor_assoc]
theorem flipB_comm (bs : List UInt8) (n m : Int) : flipB (flipB bs n) m = flipB (flipB bs m) n := by
 unfold flipB
 split <;> split <;> first | rfl | exact modify_comm ..
theorem flipB_self (bs : List UInt8) (n : Int) : flipB (flipB bs n) n = bs := by
 unfold flipB
 split
 ·exact modify_self ..
 ·rfl
/-- The bits of the mask that are set, of those listed, turned from 'bit' on. -/
def turnB (on : Nat → Bool) (bit : Int) : List Nat → List UInt8 → List UInt8
 | [], bs => bs
 | i :: l, bs => turnB on bit l (bif on i then flipB bs (bit + i) else bs)
theorem turnB_len (on : Nat → Bool) (bit : Int) : ∀ (l : List Nat) (bs : List UInt8), (turnB on bit l bs).length = bs.length
 | [], _ => rfl
 | i :: l, bs => by
  rw [turnB, turnB_len on bit l]
  cases on i
  ·rfl
  ·exact flipB_len ..
theorem turnB_flip (on : Nat → Bool) (bit n : Int) : ∀ (l : List Nat) (bs : List UInt8), turnB on bit l (flipB bs n) = flipB (turnB on bit l bs) n
 | [], _ => rfl
 | i :: l, bs => by
  rw [turnB, turnB]
  cases on i
  ·exact turnB_flip on bit n l bs
  ·show turnB on bit l (flipB (flipB bs n) _) = flipB (turnB on bit l (flipB bs _)) n
   rw [flipB_comm, turnB_flip on bit n l]
theorem turnB_self (on : Nat → Bool) (bit : Int) : ∀ (l : List Nat) (bs : List UInt8), turnB on bit l (turnB on bit l bs) = bs
 | [], _ => rfl
 | i :: l, bs => by
  rw [turnB, turnB]
  cases on i
  ·exact turnB_self on bit l bs
  ·show turnB on bit l (flipB (turnB on bit l (flipB bs _)) _) = bs
   rw [turnB_flip, turnB_self on bit l, flipB_self]
theorem turnB_low (on : Nat → Bool) (bit : Int) : ∀ (l : List Nat) (bs : List UInt8), (∀ i ∈ l, bit + i < 0) → turnB on bit l bs = bs
 | [], _, _ => rfl
 | i :: l, bs, h => by
  rw [turnB]
  have hi := h i (by simp)
  have hl : ∀ j ∈ l, bit + j < 0 := fun j hj => h j (by simp [hj])
  cases on i
  ·exact turnB_low on bit l bs hl
  ·have : flipB bs (bit + i) = bs := by unfold flipB; rw [if_neg (by omega)]
   show turnB on bit l (flipB bs _) = bs
   rw [this]
   exact turnB_low on bit l bs hl
theorem turnB_high (on : Nat → Bool) (bit : Int) : ∀ (l : List Nat) (bs : List UInt8), (8 * (bs.length : Int) ≤ bit) → turnB on bit l bs = bs
 | [], _, _ => rfl
 | i :: l, bs, h => by
  rw [turnB]
  cases on i
  ·exact turnB_high on bit l bs h
  ·have : flipB bs (bit + i) = bs := by
    unfold flipB
    split
    ·apply List.ext_getElem?
     intro k
     simp only [List.getElem?_modify]
     cases hk : bs[k]? with
     | none => simp
     | some x =>
      have := (List.getElem?_eq_some_iff.1 hk).1
      simp only [Option.map_eq_map, Option.map_some]
      rw [if_neg (by omega)]
    ·rfl
   show turnB on bit l (flipB bs _) = bs
   rw [this]
   exact turnB_high on bit l bs h
end Go.Proofs.YthfpekhpeiebjaaGreatDoor
end
section
namespace Go.Proofs.YthfpekhpeiebjaaGreatDoor
open Go.RowKit Go.Sx
/-- Bytes handed in. -/
def SlB (w : World) (A : Option Addr) (n : Nat) (bs : List UInt8) : Prop := n = bs.length ∧ (A = none → bs = []) ∧ ∀ a, A = some a → Src w a (bw bs)
theorem src_low {w w' : World} {a : Addr} {xs : List Value} (h : Src w a xs) (hb : Below w.heap.size w w') : Src w' a xs := fun j u hj => cell_below (h j u hj) hb
theorem row_is {base e size n c : Nat} {A : Option Addr} {xs : List Value} {ρ : List Nat} {w : World} (h : Row base e size A n c xs ρ w) (hn : 0 < n) : (∃ a, A = some a) ∧ n ≤ c := by
 rcases h.1.2 with ⟨_, h'⟩ | ⟨g, cap, cur, hv, _, _, hnc, _⟩
 ·omega
 ·injection hv with hv _ hcc
  exact ⟨⟨_, hv⟩, by omega⟩
theorem row_src {base e size n c : Nat} {a : Addr} {xs : List Value} {w : World} (h : w.ownsRow base e size (.slice (some a) n c) n xs) : Src w a xs := by
 intro j u hj
 have hj' := (List.getElem?_eq_some_iff.1 hj).1
 have ha : a = ⟨a.block, 0, none⟩ := by
  rcases h.2 with ⟨h', _⟩ | ⟨g, cap, cur, hv, _⟩
  ·cases h'
  ·injection hv with hv _ _
   injection hv with hv
   rw [hv]
 generalize hg : a.block = g at ha
 subst ha
 rw [add_ok, Nat.zero_add, h.cellAt j (by have := h.1; omega)]
 exact hj
theorem bw_len (l : List UInt8) : (bw l).length = l.length := List.length_map ..
theorem bw_one (l : List UInt8) : ∀ u ∈ bw l, u.oneCell' = true := by
 intro u hu
 obtain ⟨c, _, rfl⟩ := List.mem_map.1 hu
 rfl
section
variable {Q : Exit → Act → World → Prop} {N : Nat} {w0 : World} {ntm : Nat} {F : List Nat → World → Prop} [Md]
/-- A shift to the right by a number that is open. -/
def shrQ (P : Program) (ntm : Nat) (s : S) : Option (IntKind × Int × Int) :=
 match s.head?, s.dstOk ntm with
 | some o, true => match o.op with
  | .binOp .shr t x y _ => match evalS s.fr x, evalS s.fr y with
   | some sx, some sy => match litOf sx, litOf sy, sx.calm with
    | some (.int k a, _), some (.int _ b, _), true => some (k, a, b)
    | _, _, _ => none
   | _, _ => none
  | _ => none
 | _, _ => none
theorem At.shr {s : S} (k : IntKind) (a b : Int) (hq : shrQ Tryz.prog ntm s = some (k, a, b)) (h0 : 0 ≤ b) (hF : Stable F)
  (h : At Tryz.prog Q N w0 ntm F (s.tail ntm (.io k (a.fdiv (2 ^ (min b.toNat k.bits)))))) : At Tryz.prog Q N w0 ntm F s := by
 unfold shrQ at hq
 split at hq
 ·rename_i o ho hd
  split at hq
  ·rename_i t x y t2 hop
   split at hq
   ·rename_i sx sy hx hy
    split at hq
    ·rename_i k' a' l1 k2 b' l2 h1 h2 hcalm
     simp only [Option.some.injEq, Prod.mk.injEq] at hq
     obtain ⟨rfl, rfl, rfl⟩ := hq
     refine At.op hF o (.io k' (a'.fdiv (2 ^ (min b'.toNat k'.bits)))) ho hd (fun ρ act w hi _ => ?_) h
     obtain ⟨dst, op, ty, pos, after, guard⟩ := o
     simp only at hop
     subst hop
     have hr : (binOp .shr t (.int k' a') (.int k2 b')).run Tryz.prog w = .ok (.int k' (a'.fdiv (2 ^ (min b'.toNat k'.bits)))) w :=
      run_shiftS (P := Tryz.prog) (op := .shr) (by simp only [shiftS]; rw [decide_eq_false (by omega)]) t w
     have hg := run_eqGuard_calm (P := Tryz.prog) (ρ := ρ) hcalm .shr t x y (sy.den ρ) w
     rw [litOf_den h1, litOf_den h2] at hg
     simp [execOp, evalS_sound hi.act hx, evalS_sound hi.act hy, litOf_den h1, litOf_den h2, SV.den, hg, hr]
    ·cases hq
   ·cases hq
  ·cases hq
 ·cases hq
end
def onM (mask : Int) (i : Nat) : Bool := mask.toNat.testBit i
theorem on_eq {mask : Int} (hm : 0 ≤ mask ∧ mask < 4294967296) {i : Nat} (hi : i < 32) : (IntKind.u32.wrap ((BitVec.ofInt IntKind.u32.bits (mask.fdiv (2 ^ min (i : Int).toNat IntKind.u32.bits)) &&& BitVec.ofInt IntKind.u32.bits 1).toNat : Int) == 0) = !onM mask i := by
 obtain ⟨m, rfl⟩ := Int.eq_ofNat_of_zero_le hm.1
 have e1 : min ((i : Int).toNat) IntKind.u32.bits = i := by
  rw [Int.toNat_natCast]
  exact Nat.min_eq_left (by show i ≤ 32; omega)
 have e2 : (m : Int).fdiv (2 ^ i) = ((m / 2 ^ i : Nat) : Int) := by
  rw [Int.fdiv_eq_ediv_of_nonneg _ (Int.le_of_lt (Int.pow_pos (by decide)))]
  norm_cast
 have e3 : (BitVec.ofInt IntKind.u32.bits ((m / 2 ^ i : Nat) : Int) &&& BitVec.ofInt IntKind.u32.bits 1).toNat = m / 2 ^ i % 2 := by
  have h4 : m / 2 ^ i < 2 ^ 32 := Nat.lt_of_le_of_lt (Nat.div_le_self ..) (by omega)
  show (BitVec.ofInt 32 ((m / 2 ^ i : Nat) : Int) &&& BitVec.ofInt 32 1).toNat = m / 2 ^ i % 2
  rw [BitVec.ofInt_natCast, BitVec.toNat_and, BitVec.toNat_ofNat, Nat.mod_eq_of_lt h4]
  show (m / 2 ^ i) &&& 1 = _
  exact Nat.and_one_is_mod _
 rw [e1, e2, e3]
 have e4 : onM ((m : Nat) : Int) i = decide (m / 2 ^ i % 2 = 1) := by
  unfold onM
  rw [Int.toNat_natCast, Nat.testBit_eq_decide_div_mod_eq]
 rw [e4]
 rcases Nat.mod_two_eq_zero_or_one (m / 2 ^ i) with h | h <;> rw [h] <;> decide
theorem flipB_low {ys : List UInt8} {n : Int} (h : n < 0) : flipB ys n = ys := by
 unfold flipB
 rw [if_neg (by omega)]
theorem flipB_high {ys : List UInt8} {n : Int} (h : 8 * (ys.length : Int) ≤ n) : flipB ys n = ys := by
 have := turnB_high (fun _ => true) n [0] ys h
 simpa [turnB] using this
theorem xor_all : ∀ (z : Fin 256) (r : Fin 8), IntKind.u8.wrap ((BitVec.ofInt IntKind.u8.bits ((z.val : Nat) : Int) ^^^ BitVec.ofInt IntKind.u8.bits (IntKind.u8.wrap (1 * 2 ^ min ((r.val : Nat) : Int).toNat IntKind.u8.bits))).toNat : Int) = ((UInt8.ofNat z.val ^^^ UInt8.ofNat (2 ^ r.val)).toNat : Int) := by decide +kernel
theorem xor_val (y : UInt8) (q : Nat) : IntKind.u8.wrap ((BitVec.ofInt IntKind.u8.bits (y.toNat : Int) ^^^ BitVec.ofInt IntKind.u8.bits (IntKind.u8.wrap (1 * 2 ^ min ((q % 8 : Nat) : Int).toNat IntKind.u8.bits))).toNat : Int) = ((y ^^^ bitB (q : Int)).toNat : Int) := by
 have h := xor_all ⟨y.toNat, y.toNat_lt⟩ ⟨q % 8, Nat.mod_lt _ (by decide)⟩
 simp only at h
 rw [h]
 have e1 : UInt8.ofNat y.toNat = y := UInt8.ofNat_toNat
 have e2 : ((q : Int) % 8).toNat = q % 8 := by omega
 unfold bitB
 rw [e1, e2]
theorem flip_set {ys : List UInt8} {q : Nat} {y : UInt8} (hy : ys[q / 8]? = some y) : (bw ys).set (q / 8) (.int .u8 ((y ^^^ bitB (q : Int)).toNat : Int)) = bw (flipB ys (q : Int)) := by
 have hl := (List.getElem?_eq_some_iff.1 hy).1
 unfold flipB
 rw [if_pos (by omega), Int.toNat_natCast]
 apply List.ext_getElem?
 intro k
 by_cases h : q / 8 = k
 ·subst h
  have he : ys[q / 8] = y := by
   rw [List.getElem?_eq_getElem hl] at hy
   exact Option.some.inj hy
  simp [bw, List.getElem?_map, List.getElem?_modify, List.getElem?_set, he, hl]
 ·simp [bw, List.getElem?_map, List.getElem?_modify, List.getElem?_set, h]
theorem turn_step {on : Nat → Bool} {bit : Int} {i : Nat} {ys : List UInt8} (hi : i < 32) : turnB on bit (List.range' i (32 - i)) ys = turnB on bit (List.range' (i + 1) (32 - (i + 1))) (bif on i then flipB ys (bit + i) else ys) := by
 rw [show 32 - i = (32 - (i + 1)) + 1 by omega, List.range'_succ, turnB]
def frY (A : Option Addr) (n c : Nat) (bit mask : Int) : Nat × List UInt8 → Fr
 | (i, _) => [(1, .io .i64 bit), (2, .io .u32 mask), (7, .sl A n c), (12, .io .i64 (i : Int))]
def locY (_ : Nat × List UInt8) : Sx.Loc := []
def GY (w : World) (A : Option Addr) (n c : Nat) (bit mask : Int) (R : List UInt8) (x : Nat × List UInt8) (ρ : List Nat) (w1 : World) : Prop := RowF w (fun _ => False) [] w.heap.size 5 1 A n c (bw x.2) ρ w1 ∧ (x.1 ≤ 32 ∧ turnB (onM mask) bit (List.range' x.1 (32 - x.1)) x.2 = R ∧ n = x.2.length)
noncomputable def B17 : Code := (Tryz.f17.body).getD .skip
set_option maxHeartbeats 20000000 in
set_option maxRecDepth 100000 in
theorem spoil_any {M : Option Addr} {n c : Nat} {bs : List UInt8} (bit mask : Int) (w : World) (h : SlB w M n bs) (hn : n ≤ 1048576) (hb : in64 bit) (hmk : 0 ≤ mask ∧ mask < 4294967296) :
  Calls Tryz.prog 17 #[.slice M n c, .int .i64 bit, .int .u32 mask] w fun e w' => ∃ A c', e = .returned (.slice A n c') ∧ RowF w (fun _ => False) [] w.heap.size 5 1 A n c' (bw (turnB (onM mask) bit (List.range' 0 32) bs)) [] w' := by
 refine enterF (N := w.heap.size) (F := RowF w (fun _ => False) [] w.heap.size 5 1 none 0 0 []) (fn := Tryz.f17) (c := B17) [.sl M n c, .io .i64 bit, .io .u32 mask] Tryz.func17 rfl rfl (Nat.le_refl _) ⟨⟨⟨World.ownsRow_nil _ _ _ _, by simp [Value.ownBlock]⟩, Nat.le_refl _⟩, FrameR.start _ [] (by simp), by simp [Value.ownBlock]⟩ ?_
 refine At.toJ (RowF.stable) RowF.fewer 0 300 [1, 2, 10] 0 ⟨pops B17 [1, 0] 1, [.seq (sub B17 [1, 1])], [(1, .io .i64 bit), (2, .io IntKind.u32 mask), (10, .sl M n c)], []⟩ (by kernel_rfl) (by kernel_rfl) ?_
 refine At.appAny 5 1 1 none 0 0 M n c (fun _ => False) [] w.heap.size [] (bw bs) (by kernel_rfl) (by rw [bw_len, ← h.1, Nat.mul_one]) (bw_one bs) (fun e => by have h9 := h.1; rw [h.2.1 e] at h9; exact h9) (fun b hb ρ w1 hm => src_low (h.2.2 b hb) hm.below) (by omega) (by simp only [maxLen]; omega) (Nat.le_refl _) (fun A' c' => ?_)
 rw [Nat.zero_add, List.nil_append]
 refine At.toJ (RowF.stable) RowF.fewer 0 300 [1, 2, 7, 12] 0 ⟨.code (sub B17 [1, 1, 0, 1, 4]), [.block 0, .seq (sub B17 pAN11)], [(1, .io .i64 bit), (2, .io IntKind.u32 mask), (7, .sl A' n c'), (12, .v (.int .i64 0))], []⟩ (by kernel_rfl) (by kernel_rfl) ?_
 refine At.canon _ rfl ?_
 refine At.loop (σ := Nat × List UInt8) (sub B17 [1, 1, 0, 1, 4, 4]) (frY A' n c' bit mask) locY (GY w A' n c' bit mask (turnB (onM mask) bit (List.range' 0 32) bs)) (fun x => 32 - x.1) (0, bs) (by kernel_rfl) (by unfold subFr; kernel_rfl) (by kernel_rfl) (fun _ _ _ _ h1 => ⟨h1, Nat.zero_le _, rfl, h.1⟩) ?_
 generalize hR : turnB (onM mask) bit (List.range' 0 32) bs = R
 rintro ⟨i, ys⟩
 refine At.pure fun ⟨h1, h2, h3⟩ => ?_
 simp only at h1 h2 h3
 dsimp only
 refine At.toJ (RowF.stable) RowF.fewer 0 300 [1, 2, 7, 12, 13] 0 ⟨.code (sub B17 [1, 1, 0, 1, 4, 4, 1, 0]), [.seq (sub B17 pAN10), .next (Sx.Next w.heap.size w Tryz.f17.ntmps (frY A' n c' bit mask) locY (GY w A' n c' bit mask R) (fun x => 32 - x.fst) (i, ys)), .block 0, .seq (sub B17 pAN11)], [(1, .io .i64 bit), (2, .io IntKind.u32 mask), (7, .sl A' n c'), (12, .io .i64 (↑i : Int)), (13, .bo (decide ((↑i : Int) < 32)))], []⟩ (by kernel_rfl) (by kernel_rfl) ?_
 rcases Bool.eq_false_or_eq_true (decide ((↑i : Int) < 32)) with b0 | b0
 ·refine At.res 13 (decide ((↑i : Int) < 32)) true (by kernel_rfl) b0 ?_
  refine At.toJ (RowF.stable) RowF.fewer 0 300 [1, 2, 7, 8, 12, 15, 16] 0 ⟨pops B17 pAN3 2, [.seq (sub B17 pAN4), .seq (sub B17 pAN6), .block 1, .seq (sub B17 pAN9), .next (Sx.Next w.heap.size w Tryz.f17.ntmps (frY A' n c' bit mask) locY (GY w A' n c' bit mask R) (fun x => 32 - x.fst) (i, ys)), .block 0, .seq (sub B17 pAN11)], [(1, .io .i64 bit), (2, .io IntKind.u32 mask), (7, .sl A' n c'), (8, .io .i64 (↑i : Int)), (12, .io .i64 (↑i : Int)), (15, .io IntKind.u32 mask), (16, .io .i64 (↑i : Int))], []⟩ (by kernel_rfl) (by kernel_rfl) ?_
  have hi : i < 32 := by have := of_decide_eq_true b0; omega
  clear b0
  refine At.shr .u32 mask (i : Int) (by kernel_rfl) (by omega) RowF.stable ?_
  refine At.toJ (RowF.stable) RowF.fewer 0 300 [1, 2, 7, 8, 12, 20] 0 ⟨pops B17 pAN3 6, [.seq (sub B17 pAN4), .seq (sub B17 pAN6), .block 1, .seq (sub B17 pAN9), .next (Sx.Next w.heap.size w Tryz.f17.ntmps (frY A' n c' bit mask) locY (GY w A' n c' bit mask R) (fun x => 32 - x.fst) (i, ys)), .block 0, .seq (sub B17 pAN11)], [(1, .io .i64 bit), (2, .io IntKind.u32 mask), (7, .sl A' n c'), (8, .io .i64 (↑i : Int)), (12, .io .i64 (↑i : Int)), (20, .bo (IntKind.u32.wrap (↑(BitVec.ofInt IntKind.u32.bits (mask.fdiv (2 ^ min (↑i : Int).toNat IntKind.u32.bits)) &&& BitVec.ofInt IntKind.u32.bits 1).toNat : Int) == 0))], []⟩ (by kernel_rfl) (by kernel_rfl) ?_
  rcases Bool.eq_false_or_eq_true (IntKind.u32.wrap (↑(BitVec.ofInt IntKind.u32.bits (mask.fdiv (2 ^ min (↑i : Int).toNat IntKind.u32.bits)) &&& BitVec.ofInt IntKind.u32.bits 1).toNat : Int) == 0) with b0 | b0
  ·refine At.res 20 (IntKind.u32.wrap (↑(BitVec.ofInt IntKind.u32.bits (mask.fdiv (2 ^ min (↑i : Int).toNat IntKind.u32.bits)) &&& BitVec.ofInt IntKind.u32.bits 1).toNat : Int) == 0) true (by kernel_rfl) b0 ?_
   refine At.toJ (RowF.stable) RowF.fewer 0 300 [1, 2, 7, 8, 12] 0 ⟨.exit .normal, [.next (Sx.Next w.heap.size w Tryz.f17.ntmps (frY A' n c' bit mask) locY (GY w A' n c' bit mask R) (fun x => 32 - x.fst) (i, ys)), .block 0, .seq (sub B17 pAN11)], [(1, .io .i64 bit), (2, .io IntKind.u32 mask), (7, .sl A' n c'), (8, .io .i64 (↑i : Int)), (12, .io .i64 (IntKind.i64.wrap ((↑i : Int) + 1)))], []⟩ (by kernel_rfl) (by kernel_rfl) ?_
   rw [on_eq hmk hi] at b0
   have hstep : (bif onM mask i then flipB ys (bit + i) else ys) = ys := by
    cases hon : onM mask i
    ·rfl
    ·rw [hon] at b0; cases b0
   have hw3 : IntKind.i64.wrap ((i : Int) + 1) = ((i + 1 : Nat) : Int) := by
    rw [wrap63 (by omega) (by omega)]
    omega
   rw [hw3]
   refine At.next (σ := Nat × List UInt8) (i + 1, ys) rfl rfl (by unfold subFr; kernel_rfl) (by kernel_rfl) ?_ ?_
   ·intro ρ a' w' hi' hf
    refine ⟨hf, by simp only; omega, ?_, h3⟩
    rw [turn_step hi, hstep] at h2
    exact h2
   ·show 32 - (i + 1) < 32 - i
    omega
  ·refine At.res 20 (IntKind.u32.wrap (↑(BitVec.ofInt IntKind.u32.bits (mask.fdiv (2 ^ min (↑i : Int).toNat IntKind.u32.bits)) &&& BitVec.ofInt IntKind.u32.bits 1).toNat : Int) == 0) false (by kernel_rfl) b0 ?_
   refine At.toJ (RowF.stable) RowF.fewer 0 300 [1, 2, 7, 8, 12, 27] 0 ⟨pops B17 pAN3 13, [.seq (sub B17 pAN4), .seq (sub B17 pAN6), .block 1, .seq (sub B17 pAN9), .next (Sx.Next w.heap.size w Tryz.f17.ntmps (frY A' n c' bit mask) locY (GY w A' n c' bit mask R) (fun x => 32 - x.fst) (i, ys)), .block 0, .seq (sub B17 pAN11)], [(1, .io .i64 bit), (2, .io IntKind.u32 mask), (7, .sl A' n c'), (8, .io .i64 (↑i : Int)), (12, .io .i64 (↑i : Int)), (27, .bo (decide (bit > IntKind.i64.wrap (8 * (↑n : Int)))))], []⟩ (by kernel_rfl) (by kernel_rfl) ?_
   rcases Bool.eq_false_or_eq_true (decide (bit > IntKind.i64.wrap (8 * (↑n : Int)))) with b1 | b1
   ·refine At.res 27 (decide (bit > IntKind.i64.wrap (8 * (↑n : Int)))) true (by kernel_rfl) b1 ?_
    refine At.toJ (RowF.stable) RowF.fewer 0 300 [1, 2, 7, 8, 12] 0 ⟨.exit .normal, [.next (Sx.Next w.heap.size w Tryz.f17.ntmps (frY A' n c' bit mask) locY (GY w A' n c' bit mask R) (fun x => 32 - x.fst) (i, ys)), .block 0, .seq (sub B17 pAN11)], [(1, .io .i64 bit), (2, .io IntKind.u32 mask), (7, .sl A' n c'), (8, .io .i64 (↑i : Int)), (12, .io .i64 (IntKind.i64.wrap ((↑i : Int) + 1)))], []⟩ (by kernel_rfl) (by kernel_rfl) ?_
    have hb1 : 8 * (ys.length : Int) ≤ bit + i := by
     have := of_decide_eq_true b1
     rw [wrap63 (by omega) (by omega)] at this
     omega
    have hstep : (bif onM mask i then flipB ys (bit + i) else ys) = ys := by
     cases onM mask i
     ·rfl
     ·exact flipB_high hb1
    have hw3 : IntKind.i64.wrap ((i : Int) + 1) = ((i + 1 : Nat) : Int) := by
     rw [wrap63 (by omega) (by omega)]
     omega
    rw [hw3]
    refine At.next (σ := Nat × List UInt8) (i + 1, ys) rfl rfl (by unfold subFr; kernel_rfl) (by kernel_rfl) ?_ ?_
    ·intro ρ a' w' hi' hf
     refine ⟨hf, by simp only; omega, ?_, h3⟩
     rw [turn_step hi, hstep] at h2
     exact h2
    ·show 32 - (i + 1) < 32 - i
     omega
   ·refine At.res 27 (decide (bit > IntKind.i64.wrap (8 * (↑n : Int)))) false (by kernel_rfl) b1 ?_
    refine At.toJ (RowF.stable) RowF.fewer 0 300 [1, 2, 7, 8, 12, 30] 0 ⟨.code (sub B17 pAN4), [.seq (sub B17 pAN6), .block 1, .seq (sub B17 pAN9), .next (Sx.Next w.heap.size w Tryz.f17.ntmps (frY A' n c' bit mask) locY (GY w A' n c' bit mask R) (fun x => 32 - x.fst) (i, ys)), .block 0, .seq (sub B17 pAN11)], [(1, .io .i64 bit), (2, .io IntKind.u32 mask), (7, .sl A' n c'), (8, .io .i64 (↑i : Int)), (12, .io .i64 (↑i : Int)), (30, .bo (decide (bit < -32)))], []⟩ (by kernel_rfl) (by kernel_rfl) ?_
    rcases Bool.eq_false_or_eq_true (decide (bit < -32)) with b2 | b2
    ·refine At.res 30 (decide (bit < -32)) true (by kernel_rfl) b2 ?_
     refine At.toJ (RowF.stable) RowF.fewer 0 300 [1, 2, 7, 8, 12] 0 ⟨.exit .normal, [.next (Sx.Next w.heap.size w Tryz.f17.ntmps (frY A' n c' bit mask) locY (GY w A' n c' bit mask R) (fun x => 32 - x.fst) (i, ys)), .block 0, .seq (sub B17 pAN11)], [(1, .io .i64 bit), (2, .io IntKind.u32 mask), (7, .sl A' n c'), (8, .io .i64 (↑i : Int)), (12, .io .i64 (IntKind.i64.wrap ((↑i : Int) + 1)))], []⟩ (by kernel_rfl) (by kernel_rfl) ?_
     have hstep : (bif onM mask i then flipB ys (bit + i) else ys) = ys := by
      cases onM mask i
      ·rfl
      ·exact flipB_low (by have := of_decide_eq_true b2; omega)
     have hw3 : IntKind.i64.wrap ((i : Int) + 1) = ((i + 1 : Nat) : Int) := by
      rw [wrap63 (by omega) (by omega)]
      omega
     rw [hw3]
     refine At.next (σ := Nat × List UInt8) (i + 1, ys) rfl rfl (by unfold subFr; kernel_rfl) (by kernel_rfl) ?_ ?_
     ·intro ρ a' w' hi' hf
      refine ⟨hf, by simp only; omega, ?_, h3⟩
      rw [turn_step hi, hstep] at h2
      exact h2
     ·show 32 - (i + 1) < 32 - i
      omega
    ·refine At.res 30 (decide (bit < -32)) false (by kernel_rfl) b2 ?_
     refine At.toJ (RowF.stable) RowF.fewer 0 300 [1, 2, 7, 8, 9, 12, 36] 0 ⟨pops B17 [1, 1, 0, 1, 4, 4, 1, 1, 0, 4, 1, 1, 1, 0] 3, [.seq (sub B17 [1, 1, 0, 1, 4, 4, 1, 1, 0, 4, 1, 1, 1, 1]), .block 1, .seq (sub B17 pAN9), .next (Sx.Next w.heap.size w Tryz.f17.ntmps (frY A' n c' bit mask) locY (GY w A' n c' bit mask R) (fun x => 32 - x.fst) (i, ys)), .block 0, .seq (sub B17 pAN11)], [(1, .io .i64 bit), (2, .io IntKind.u32 mask), (7, .sl A' n c'), (8, .io .i64 (↑i : Int)), (9, .io .i64 (IntKind.i64.wrap (bit + (↑i : Int)))), (12, .io .i64 (↑i : Int)), (36, .bo (decide (IntKind.i64.wrap (bit + (↑i : Int)) ≥ 0)))], []⟩ (by kernel_rfl) (by kernel_rfl) ?_
     rcases Bool.eq_false_or_eq_true (decide (IntKind.i64.wrap (bit + (↑i : Int)) ≥ 0)) with b3 | b3
     ·refine At.res 36 (decide (IntKind.i64.wrap (bit + (↑i : Int)) ≥ 0)) true (by kernel_rfl) b3 ?_
      refine At.toJ (RowF.stable) RowF.fewer 0 300 [1, 2, 7, 8, 9, 12, 42] 0 ⟨.code (sub B17 [1, 1, 0, 1, 4, 4, 1, 1, 0, 4, 1, 1, 1, 1]), [.block 1, .seq (sub B17 pAN9), .next (Sx.Next w.heap.size w Tryz.f17.ntmps (frY A' n c' bit mask) locY (GY w A' n c' bit mask R) (fun x => 32 - x.fst) (i, ys)), .block 0, .seq (sub B17 pAN11)], [(1, .io .i64 bit), (2, .io IntKind.u32 mask), (7, .sl A' n c'), (8, .io .i64 (↑i : Int)), (9, .io .i64 (IntKind.i64.wrap (bit + (↑i : Int)))), (12, .io .i64 (↑i : Int)), (42, .bo (decide (IntKind.i64.wrap ((IntKind.i64.wrap (bit + (↑i : Int))).tdiv 8) < (↑n : Int))))], []⟩ (by kernel_rfl) (by kernel_rfl) ?_
      rcases Bool.eq_false_or_eq_true (decide (IntKind.i64.wrap ((IntKind.i64.wrap (bit + (↑i : Int))).tdiv 8) < (↑n : Int))) with b4 | b4
      ·refine At.res 42 (decide (IntKind.i64.wrap ((IntKind.i64.wrap (bit + (↑i : Int))).tdiv 8) < (↑n : Int))) true (by kernel_rfl) b4 ?_
       refine At.toJ (RowF.stable) RowF.fewer 0 300 [1, 2, 7, 8, 9, 12, 43, 45] 0 ⟨.qops (opsOf (sub B17 pAN2)) (((opsOf (sub B17 pAN2)).toList.take 10).drop 3), [.tail (opsOf (sub B17 pAN2)) ((opsOf (sub B17 pAN2)).toList.drop 10), .block 1, .seq (sub B17 pAN9), .next (Sx.Next w.heap.size w Tryz.f17.ntmps (frY A' n c' bit mask) locY (GY w A' n c' bit mask R) (fun x => 32 - x.fst) (i, ys)), .block 0, .seq (sub B17 pAN11)], [(1, .io .i64 bit), (2, .io IntKind.u32 mask), (7, .sl A' n c'), (8, .io .i64 (↑i : Int)), (9, .io .i64 (IntKind.i64.wrap (bit + (↑i : Int)))), (12, .io .i64 (↑i : Int)), (43, .sl A' n c'), (45, .io .i64 (IntKind.i64.wrap ((IntKind.i64.wrap (bit + (↑i : Int))).tdiv 8)))], []⟩ (by kernel_rfl) (by kernel_rfl) ?_
       have hbb : bit ≤ 8 * (n : Int) := by
        have := of_decide_eq_false b1
        rw [wrap63 (by omega) (by omega)] at this
        omega
       have hb0 := of_decide_eq_false b2
       have hbi : IntKind.i64.wrap (bit + (i : Int)) = bit + i := wrap_id ⟨by omega, by omega⟩
       rw [hbi] at b3 b4
       have hp := of_decide_eq_true b3
       obtain ⟨q, hq⟩ := Int.eq_ofNat_of_zero_le hp
       have hdv : IntKind.i64.wrap ((bit + (i : Int)).tdiv 8) = ((q / 8 : Nat) : Int) := by
        rw [Int.tdiv_eq_ediv_of_nonneg hp, wrap63 (by omega) (by omega)]
        omega
       have hlt := of_decide_eq_true b4
       rw [hbi, hdv]
       rw [hdv] at hlt
       rw [on_eq hmk hi] at b0
       have hon : onM mask i = true := by simpa using b0
       have hstep : (bif onM mask i then flipB ys (bit + i) else ys) = flipB ys (bit + i) := by rw [hon]; rfl
       refine At.mono (F' := fun ρ w1 => RowF w (fun _ => False) [] w.heap.size 5 1 A' n c' (bw ys) ρ w1 ∧ ∃ a, A' = some a) (fun ρ w1 h => ⟨h, (row_is h.1.1 (by omega)).1⟩) (At.pure ?_)
       rintro ⟨a, rfl⟩
       refine At.idx a n 1 ((q / 8 : Nat) : Int) (by kernel_rfl) (by omega) (by omega) RowF.stable ?_
       refine At.toJ (RowF.stable) RowF.fewer 0 300 [1, 2, 7, 8, 9, 12, 43, 45, 46] 0 ⟨.qops (opsOf (sub B17 pAN2)) (((opsOf (sub B17 pAN2)).toList.take 10).drop 4), [.tail (opsOf (sub B17 pAN2)) ((opsOf (sub B17 pAN2)).toList.drop 10), .block 1, .seq (sub B17 pAN9), .next (Sx.Next w.heap.size w Tryz.f17.ntmps (frY (some a) n c' bit mask) locY (GY w (some a) n c' bit mask R) (fun x => 32 - x.fst) (i, ys)), .block 0, .seq (sub B17 pAN11)], [(1, .io .i64 bit), (2, .io IntKind.u32 mask), (7, .sl (some a) n c'), (8, .io .i64 (↑i : Int)), (9, .io .i64 (bit + (↑i : Int))), (12, .io .i64 (↑i : Int)), (43, .sl (some a) n c'), (45, .io .i64 (↑(q / 8) : Int)), (46, .v (.pointer (some (a.add ((↑(q / 8) : Int).toNat * 1)))))], []⟩ (by kernel_rfl) (by kernel_rfl) ?_
       have hql : q / 8 < ys.length := by omega
       obtain ⟨y, hy⟩ : ∃ y, ys[q / 8]? = some y := ⟨_, List.getElem?_eq_getElem hql⟩
       have hyv : (bw ys)[q / 8]? = some (.int .u8 (y.toNat : Int)) := by rw [bw, List.getElem?_map, hy]; rfl
       refine At.ldx (a.add (((q / 8 : Nat) : Int).toNat * 1)) (.io .u8 (y.toNat : Int)) (by kernel_rfl) RowF.stable (fun ρ w1 hm' hf => by rw [Int.toNat_natCast, Nat.mul_one]; exact row_src hf.1.1.1 _ _ hyv) ?_
       refine At.toJ (RowF.stable) RowF.fewer 0 300 [1, 2, 7, 8, 12, 43, 45, 47, 49] 0 ⟨.qops (opsOf (sub B17 pAN2)) (((opsOf (sub B17 pAN2)).toList.take 10).drop 7), [.tail (opsOf (sub B17 pAN2)) ((opsOf (sub B17 pAN2)).toList.drop 10), .block 1, .seq (sub B17 pAN9), .next (Sx.Next w.heap.size w Tryz.f17.ntmps (frY (some a) n c' bit mask) locY (GY w (some a) n c' bit mask R) (fun x => 32 - x.fst) (i, ys)), .block 0, .seq (sub B17 pAN11)], [(1, .io .i64 bit), (2, .io IntKind.u32 mask), (7, .sl (some a) n c'), (8, .io .i64 (↑i : Int)), (12, .io .i64 (↑i : Int)), (43, .sl (some a) n c'), (45, .io .i64 (↑(q / 8) : Int)), (47, .io IntKind.u8 (↑y.toNat : Int)), (49, .io .i64 ((bit + (↑i : Int)).tmod 8))], []⟩ (by kernel_rfl) (by kernel_rfl) ?_
       have hmd : (bit + (i : Int)).tmod 8 = ((q % 8 : Nat) : Int) := by
        rw [Int.tmod_eq_emod_of_nonneg hp]
        omega
       rw [hmd]
       refine At.shl .u8 1 ((q % 8 : Nat) : Int) (by kernel_rfl) (by omega) RowF.stable ?_
       refine At.toJ (RowF.stable) RowF.fewer 0 300 [1, 2, 7, 8, 12, 43, 45, 51] 0 ⟨.qops (opsOf (sub B17 pAN2)) (((opsOf (sub B17 pAN2)).toList.take 10).drop 9), [.tail (opsOf (sub B17 pAN2)) ((opsOf (sub B17 pAN2)).toList.drop 10), .block 1, .seq (sub B17 pAN9), .next (Sx.Next w.heap.size w Tryz.f17.ntmps (frY (some a) n c' bit mask) locY (GY w (some a) n c' bit mask R) (fun x => 32 - x.fst) (i, ys)), .block 0, .seq (sub B17 pAN11)], [(1, .io .i64 bit), (2, .io IntKind.u32 mask), (7, .sl (some a) n c'), (8, .io .i64 (↑i : Int)), (12, .io .i64 (↑i : Int)), (43, .sl (some a) n c'), (45, .io .i64 (↑(q / 8) : Int)), (51, .io IntKind.u8 (IntKind.u8.wrap (↑(BitVec.ofInt IntKind.u8.bits (↑y.toNat : Int) ^^^ BitVec.ofInt IntKind.u8.bits (IntKind.u8.wrap (1 * 2 ^ min (↑(q % 8) : Int).toNat IntKind.u8.bits))).toNat : Int)))], []⟩ (by kernel_rfl) (by kernel_rfl) ?_
       refine At.idx a n 1 ((q / 8 : Nat) : Int) (by kernel_rfl) (by omega) (by omega) RowF.stable ?_
       refine At.toJ (RowF.stable) RowF.fewer 0 300 [1, 2, 7, 8, 12, 51, 52] 0 ⟨pops B17 pAN2 10, [.block 1, .seq (sub B17 pAN9), .next (Sx.Next w.heap.size w Tryz.f17.ntmps (frY (some a) n c' bit mask) locY (GY w (some a) n c' bit mask R) (fun x => 32 - x.fst) (i, ys)), .block 0, .seq (sub B17 pAN11)], [(1, .io .i64 bit), (2, .io IntKind.u32 mask), (7, .sl (some a) n c'), (8, .io .i64 (↑i : Int)), (12, .io .i64 (↑i : Int)), (51, .io IntKind.u8 (IntKind.u8.wrap (↑(BitVec.ofInt IntKind.u8.bits (↑y.toNat : Int) ^^^ BitVec.ofInt IntKind.u8.bits (IntKind.u8.wrap (1 * 2 ^ min (↑(q % 8) : Int).toNat IntKind.u8.bits))).toNat : Int))), (52, .v (.pointer (some (a.add ((↑(q / 8) : Int).toNat * 1)))))], []⟩ (by kernel_rfl) (by kernel_rfl) ?_
       rw [xor_val y q]
       refine At.mono (F' := RowE w (fun _ => False) [] w.heap.size 5 1 (some a) n c' (bw ys) []) (fun ρ w1 hf => ⟨hf, fun p hp => (by cases hp)⟩) ?_
       refine At.stRow (q / 8) (a.add (((q / 8 : Nat) : Int).toNat * 1)) (.io .u8 ((y ^^^ bitB (q : Int)).toNat : Int)) (.int .u8 ((y ^^^ bitB (q : Int)).toNat : Int)) (by kernel_rfl) (by rw [Int.toNat_natCast, Nat.mul_one]) (by omega) (fun _ => rfl) (Nat.le_refl _) ?_
       refine At.mono (F' := RowF w (fun _ => False) [] w.heap.size 5 1 (some a) n c' (bw (flipB ys (q : Int)))) (fun ρ w1 hf => by have := hf.1; rw [flip_set hy] at this; exact this) ?_
       refine At.toJ (RowF.stable) RowF.fewer 0 300 [1, 2, 7, 8, 12] 0 ⟨.exit .normal, [.next (Sx.Next w.heap.size w Tryz.f17.ntmps (frY (some a) n c' bit mask) locY (GY w (some a) n c' bit mask R) (fun x => 32 - x.fst) (i, ys)), .block 0, .seq (sub B17 pAN11)], [(1, .io .i64 bit), (2, .io IntKind.u32 mask), (7, .sl (some a) n c'), (8, .io .i64 (↑i : Int)), (12, .io .i64 (IntKind.i64.wrap ((↑i : Int) + 1)))], []⟩ (by kernel_rfl) (by kernel_rfl) ?_
       have hw3 : IntKind.i64.wrap ((i : Int) + 1) = ((i + 1 : Nat) : Int) := by
        rw [wrap63 (by omega) (by omega)]
        omega
       rw [hw3]
       refine At.next (σ := Nat × List UInt8) (i + 1, flipB ys (q : Int)) rfl rfl (by unfold subFr; kernel_rfl) (by kernel_rfl) ?_ ?_
       ·intro ρ a' w' hi' hf
        refine ⟨hf, by simp only; omega, ?_, by rw [flipB_len]; exact h3⟩
        rw [turn_step hi, hstep, hq] at h2
        exact h2
       ·show 32 - (i + 1) < 32 - i
        omega
      ·refine At.res 42 (decide (IntKind.i64.wrap ((IntKind.i64.wrap (bit + (↑i : Int))).tdiv 8) < (↑n : Int))) false (by kernel_rfl) b4 ?_
       refine At.toJ (RowF.stable) RowF.fewer 0 300 [1, 2, 7, 8, 12] 0 ⟨.exit .normal, [.next (Sx.Next w.heap.size w Tryz.f17.ntmps (frY A' n c' bit mask) locY (GY w A' n c' bit mask R) (fun x => 32 - x.fst) (i, ys)), .block 0, .seq (sub B17 pAN11)], [(1, .io .i64 bit), (2, .io IntKind.u32 mask), (7, .sl A' n c'), (8, .io .i64 (↑i : Int)), (12, .io .i64 (IntKind.i64.wrap ((↑i : Int) + 1)))], []⟩ (by kernel_rfl) (by kernel_rfl) ?_
       have hbb : bit ≤ 8 * (n : Int) := by
        have := of_decide_eq_false b1
        rw [wrap63 (by omega) (by omega)] at this
        omega
       have hb0 := of_decide_eq_false b2
       have hbi : IntKind.i64.wrap (bit + (i : Int)) = bit + i := wrap_id ⟨by omega, by omega⟩
       rw [hbi] at b3 b4
       have hp := of_decide_eq_true b3
       have hstep : (bif onM mask i then flipB ys (bit + i) else ys) = ys := by
        cases onM mask i
        ·rfl
        ·refine flipB_high ?_
         have := of_decide_eq_false b4
         rw [Int.tdiv_eq_ediv_of_nonneg hp, wrap63 (by omega) (by omega)] at this
         omega
       have hw3 : IntKind.i64.wrap ((i : Int) + 1) = ((i + 1 : Nat) : Int) := by
        rw [wrap63 (by omega) (by omega)]
        omega
       rw [hw3]
       refine At.next (σ := Nat × List UInt8) (i + 1, ys) rfl rfl (by unfold subFr; kernel_rfl) (by kernel_rfl) ?_ ?_
       ·intro ρ a' w' hi' hf
        refine ⟨hf, by simp only; omega, ?_, h3⟩
        rw [turn_step hi, hstep] at h2
        exact h2
       ·show 32 - (i + 1) < 32 - i
        omega
     ·refine At.res 36 (decide (IntKind.i64.wrap (bit + (↑i : Int)) ≥ 0)) false (by kernel_rfl) b3 ?_
      refine At.toJ (RowF.stable) RowF.fewer 0 300 [1, 2, 7, 8, 12] 0 ⟨.exit .normal, [.next (Sx.Next w.heap.size w Tryz.f17.ntmps (frY A' n c' bit mask) locY (GY w A' n c' bit mask R) (fun x => 32 - x.fst) (i, ys)), .block 0, .seq (sub B17 pAN11)], [(1, .io .i64 bit), (2, .io IntKind.u32 mask), (7, .sl A' n c'), (8, .io .i64 (↑i : Int)), (12, .io .i64 (IntKind.i64.wrap ((↑i : Int) + 1)))], []⟩ (by kernel_rfl) (by kernel_rfl) ?_
      have hbb : bit ≤ 8 * (n : Int) := by
       have := of_decide_eq_false b1
       rw [wrap63 (by omega) (by omega)] at this
       omega
      have hb0 := of_decide_eq_false b2
      have hbi : IntKind.i64.wrap (bit + (i : Int)) = bit + i := wrap_id ⟨by omega, by omega⟩
      rw [hbi] at b3
      have hstep : (bif onM mask i then flipB ys (bit + i) else ys) = ys := by
       cases onM mask i
       ·rfl
       ·exact flipB_low (by have := of_decide_eq_false b3; omega)
      have hw3 : IntKind.i64.wrap ((i : Int) + 1) = ((i + 1 : Nat) : Int) := by
       rw [wrap63 (by omega) (by omega)]
       omega
      rw [hw3]
      refine At.next (σ := Nat × List UInt8) (i + 1, ys) rfl rfl (by unfold subFr; kernel_rfl) (by kernel_rfl) ?_ ?_
      ·intro ρ a' w' hi' hf
       refine ⟨hf, by simp only; omega, ?_, h3⟩
       rw [turn_step hi, hstep] at h2
       exact h2
      ·show 32 - (i + 1) < 32 - i
       omega
 ·refine At.res 13 (decide ((↑i : Int) < 32)) false (by kernel_rfl) b0 ?_
  refine At.toJ (RowF.stable) RowF.fewer 0 300 [6] 0 ⟨.exit .ret, [], [(6, .sl A' n c')], []⟩ (by kernel_rfl) (by kernel_rfl) ?_
  refine At.ret (by kernel_rfl) (.sl A' n c') (by kernel_rfl) ?_
  have hi : ¬ (i : Int) < 32 := of_decide_eq_false b0
  clear b0
  have hi32 : i = 32 := by omega
  subst hi32
  intro ρ w9 hm' hf
  have e : ys = R := h2
  subst e
  exact ⟨A', c', rfl, RowF.fewer _ _ 0 (Nat.zero_le _) hf⟩
end Go.Proofs.YthfpekhpeiebjaaGreatDoor
end
section
namespace Go.Proofs.YthfpekhpeiebjaaGreatDoor
open Go.RowKit Go.Sx
theorem u64_nat (n : Nat) (h : n < 18446744073709551616) : IntKind.u64.wrap (n : Int) = (n : Int) := by
 have e : IntKind.u64.wrap (n : Int) = (n : Int) % 18446744073709551616 := by simp [IntKind.wrap, IntKind.signed, IntKind.bits]
 rw [e]
 omega
theorem on_low {mask : Int} (hm : 0 ≤ mask ∧ mask < 4294967296) {i : Nat} (hi : i < 32) : ∃ r : Int, (r = 0 ∨ r = 1) ∧ IntKind.u32.wrap ((BitVec.ofInt IntKind.u32.bits (mask.fdiv (2 ^ min (i : Int).toNat IntKind.u32.bits)) &&& BitVec.ofInt IntKind.u32.bits 1).toNat : Int) = r := by
 refine ⟨_, ?_, rfl⟩
 generalize BitVec.ofInt IntKind.u32.bits (mask.fdiv (2 ^ min (i : Int).toNat IntKind.u32.bits)) = x
 have e : (x &&& BitVec.ofInt IntKind.u32.bits 1).toNat = x.toNat % 2 := by
  rw [BitVec.toNat_and]
  exact Nat.and_one_is_mod _
 rw [e]
 rcases Nat.mod_two_eq_zero_or_one x.toNat with h | h <;> rw [h]
 ·exact .inl rfl
 ·exact .inr rfl
theorem on_eq1 {mask : Int} (hm : 0 ≤ mask ∧ mask < 4294967296) {i : Nat} (hi : i < 32) : (IntKind.u32.wrap ((BitVec.ofInt IntKind.u32.bits (mask.fdiv (2 ^ min (i : Int).toNat IntKind.u32.bits)) &&& BitVec.ofInt IntKind.u32.bits 1).toNat : Int) == 1) = onM mask i := by
 obtain ⟨r, hr, he⟩ := on_low hm hi
 have h := on_eq hm hi
 rw [he] at h ⊢
 rcases hr with rfl | rfl
 ·have : onM mask i = false := by simpa using h.symm
  rw [this]; rfl
 ·have : onM mask i = true := by simpa using h.symm
  rw [this]; rfl
def frZ (A : Option Addr) (n c : Nat) (bit mask : Int) : Nat × List UInt8 → Fr
 | (i, _) => [(1, .io .i64 bit), (2, .io .u32 mask), (7, .sl A n c), (8, .io .i64 (i : Int))]
noncomputable def B18 : Code := (Tryz.f18.body).getD .skip
set_option maxHeartbeats 20000000 in
set_option maxRecDepth 100000 in
theorem rspoil_any {M : Option Addr} {n c : Nat} {bs : List UInt8} (bit mask : Int) (w : World) (h : SlB w M n bs) (hn : n ≤ 1048576) (hb : -32 < bit ∧ bit < 200000) (hmk : 0 ≤ mask ∧ mask < 4294967296) :
  Calls Tryz.prog 18 #[.slice M n c, .int .i64 bit, .int .u32 mask] w fun e w' => ∃ A c', e = .returned (.slice A n c') ∧ RowF w (fun _ => False) [] w.heap.size 5 1 A n c' (bw (turnB (onM mask) bit (List.range' 0 32) bs)) [] w' := by
 refine enterF (N := w.heap.size) (F := RowF w (fun _ => False) [] w.heap.size 5 1 none 0 0 []) (fn := Tryz.f18) (c := B18) [.sl M n c, .io .i64 bit, .io .u32 mask] Tryz.func18 rfl rfl (Nat.le_refl _) ⟨⟨⟨World.ownsRow_nil _ _ _ _, by simp [Value.ownBlock]⟩, Nat.le_refl _⟩, FrameR.start _ [] (by simp), by simp [Value.ownBlock]⟩ ?_
 refine At.toJ (RowF.stable) RowF.fewer 0 300 [1, 2, 11] 0 ⟨pops B18 [1, 0] 1, [.seq (sub B18 [1, 1])], [(1, .io .i64 bit), (2, .io IntKind.u32 mask), (11, .sl M n c)], []⟩ (by kernel_rfl) (by kernel_rfl) ?_
 refine At.appAny 5 1 1 none 0 0 M n c (fun _ => False) [] w.heap.size [] (bw bs) (by kernel_rfl) (by rw [bw_len, ← h.1, Nat.mul_one]) (bw_one bs) (fun e => by have h9 := h.1; rw [h.2.1 e] at h9; exact h9) (fun b hb ρ w1 hm => src_low (h.2.2 b hb) hm.below) (by omega) (by simp only [maxLen]; omega) (Nat.le_refl _) (fun A' c' => ?_)
 rw [Nat.zero_add, List.nil_append]
 refine At.toJ (RowF.stable) RowF.fewer 0 300 [1, 2, 7, 8] 0 ⟨.code (sub B18 [1, 1, 0, 1, 4]), [.block 0, .seq (sub B18 pAN11)], [(1, .io .i64 bit), (2, .io IntKind.u32 mask), (7, .sl A' n c'), (8, .v (.int .i64 0))], []⟩ (by kernel_rfl) (by kernel_rfl) ?_
 refine At.canon _ rfl ?_
 refine At.loop (σ := Nat × List UInt8) (sub B18 [1, 1, 0, 1, 4, 4]) (frZ A' n c' bit mask) locY (GY w A' n c' bit mask (turnB (onM mask) bit (List.range' 0 32) bs)) (fun x => 32 - x.1) (0, bs) (by kernel_rfl) (by unfold subFr; kernel_rfl) (by kernel_rfl) (fun _ _ _ _ h1 => ⟨h1, Nat.zero_le _, rfl, h.1⟩) ?_
 generalize hR : turnB (onM mask) bit (List.range' 0 32) bs = R
 rintro ⟨i, ys⟩
 refine At.pure fun ⟨h1, h2, h3⟩ => ?_
 simp only at h1 h2 h3
 dsimp only
 refine At.toJ (RowF.stable) RowF.fewer 0 300 [1, 2, 7, 8, 14] 0 ⟨.code (sub B18 [1, 1, 0, 1, 4, 4, 0, 1]), [.seq (sub B18 [1, 1, 0, 1, 4, 4, 1]), .next (Sx.Next w.heap.size w Tryz.f18.ntmps (frZ A' n c' bit mask) locY (GY w A' n c' bit mask R) (fun x => 32 - x.fst) (i, ys)), .block 0, .seq (sub B18 pAN11)], [(1, .io .i64 bit), (2, .io IntKind.u32 mask), (7, .sl A' n c'), (8, .io .i64 (↑i : Int)), (14, .bo (decide ((↑i : Int) < 32)))], []⟩ (by kernel_rfl) (by kernel_rfl) ?_
 rcases Bool.eq_false_or_eq_true (decide ((↑i : Int) < 32)) with b0 | b0
 ·refine At.res 14 (decide ((↑i : Int) < 32)) true (by kernel_rfl) b0 ?_
  refine At.toJ (RowF.stable) RowF.fewer 0 300 [1, 2, 7, 8, 9, 20, 22] 0 ⟨pops B18 [1, 1, 0, 1, 4, 4, 1, 0, 4, 1, 0] 3, [.seq (sub B18 [1, 1, 0, 1, 4, 4, 1, 0, 4, 1, 1]), .block 1, .seq (sub B18 pAN10), .next (Sx.Next w.heap.size w Tryz.f18.ntmps (frZ A' n c' bit mask) locY (GY w A' n c' bit mask R) (fun x => 32 - x.fst) (i, ys)), .block 0, .seq (sub B18 pAN11)], [(1, .io .i64 bit), (2, .io IntKind.u32 mask), (7, .sl A' n c'), (8, .io .i64 (↑i : Int)), (9, .io .i64 (IntKind.i64.wrap (bit + (↑i : Int)))), (20, .io IntKind.u32 mask), (22, .io IntKind.u64 (IntKind.u64.wrap (↑i : Int)))], []⟩ (by kernel_rfl) (by kernel_rfl) ?_
  have hi : i < 32 := by have := of_decide_eq_true b0; omega
  clear b0
  rw [u64_nat i (by omega)]
  refine At.shr .u32 mask (i : Int) (by kernel_rfl) (by omega) RowF.stable ?_
  refine At.toJ (RowF.stable) RowF.fewer 0 300 [1, 2, 7, 8, 9, 27] 0 ⟨pops B18 [1, 1, 0, 1, 4, 4, 1, 0, 4, 1, 1, 0] 2, [.seq (sub B18 pAN7), .block 1, .seq (sub B18 pAN10), .next (Sx.Next w.heap.size w Tryz.f18.ntmps (frZ A' n c' bit mask) locY (GY w A' n c' bit mask R) (fun x => 32 - x.fst) (i, ys)), .block 0, .seq (sub B18 pAN11)], [(1, .io .i64 bit), (2, .io IntKind.u32 mask), (7, .sl A' n c'), (8, .io .i64 (↑i : Int)), (9, .io .i64 (IntKind.i64.wrap (bit + (↑i : Int)))), (27, .bo (IntKind.u32.wrap (↑(BitVec.ofInt IntKind.u32.bits (mask.fdiv (2 ^ min (↑i : Int).toNat IntKind.u32.bits)) &&& BitVec.ofInt IntKind.u32.bits 1).toNat : Int) == 1))], []⟩ (by kernel_rfl) (by kernel_rfl) ?_
  rcases Bool.eq_false_or_eq_true (IntKind.u32.wrap (↑(BitVec.ofInt IntKind.u32.bits (mask.fdiv (2 ^ min (↑i : Int).toNat IntKind.u32.bits)) &&& BitVec.ofInt IntKind.u32.bits 1).toNat : Int) == 1) with b0 | b0
  ·refine At.res 27 (IntKind.u32.wrap (↑(BitVec.ofInt IntKind.u32.bits (mask.fdiv (2 ^ min (↑i : Int).toNat IntKind.u32.bits)) &&& BitVec.ofInt IntKind.u32.bits 1).toNat : Int) == 1) true (by kernel_rfl) b0 ?_
   refine At.toJ (RowF.stable) RowF.fewer 0 300 [1, 2, 7, 8, 9, 31] 0 ⟨pops B18 [1, 1, 0, 1, 4, 4, 1, 0, 4, 1, 1, 0] 6, [.seq (sub B18 pAN7), .block 1, .seq (sub B18 pAN10), .next (Sx.Next w.heap.size w Tryz.f18.ntmps (frZ A' n c' bit mask) locY (GY w A' n c' bit mask R) (fun x => 32 - x.fst) (i, ys)), .block 0, .seq (sub B18 pAN11)], [(1, .io .i64 bit), (2, .io IntKind.u32 mask), (7, .sl A' n c'), (8, .io .i64 (↑i : Int)), (9, .io .i64 (IntKind.i64.wrap (bit + (↑i : Int)))), (31, .bo (decide (IntKind.i64.wrap (bit + (↑i : Int)) ≥ 0)))], []⟩ (by kernel_rfl) (by kernel_rfl) ?_
   rcases Bool.eq_false_or_eq_true (decide (IntKind.i64.wrap (bit + (↑i : Int)) ≥ 0)) with b1 | b1
   ·refine At.res 31 (decide (IntKind.i64.wrap (bit + (↑i : Int)) ≥ 0)) true (by kernel_rfl) b1 ?_
    refine At.toJ (RowF.stable) RowF.fewer 0 300 [1, 2, 7, 8, 9, 37] 0 ⟨.code (sub B18 pAN7), [.block 1, .seq (sub B18 pAN10), .next (Sx.Next w.heap.size w Tryz.f18.ntmps (frZ A' n c' bit mask) locY (GY w A' n c' bit mask R) (fun x => 32 - x.fst) (i, ys)), .block 0, .seq (sub B18 pAN11)], [(1, .io .i64 bit), (2, .io IntKind.u32 mask), (7, .sl A' n c'), (8, .io .i64 (↑i : Int)), (9, .io .i64 (IntKind.i64.wrap (bit + (↑i : Int)))), (37, .bo (decide (IntKind.i64.wrap ((IntKind.i64.wrap (bit + (↑i : Int))).tdiv 8) < (↑n : Int))))], []⟩ (by kernel_rfl) (by kernel_rfl) ?_
    rcases Bool.eq_false_or_eq_true (decide (IntKind.i64.wrap ((IntKind.i64.wrap (bit + (↑i : Int))).tdiv 8) < (↑n : Int))) with b2 | b2
    ·refine At.res 37 (decide (IntKind.i64.wrap ((IntKind.i64.wrap (bit + (↑i : Int))).tdiv 8) < (↑n : Int))) true (by kernel_rfl) b2 ?_
     refine At.toJ (RowF.stable) RowF.fewer 0 300 [1, 2, 7, 8, 9, 38, 40, 41, 43] 0 ⟨pops B18 pAN5 6, [.block 1, .seq (sub B18 pAN10), .next (Sx.Next w.heap.size w Tryz.f18.ntmps (frZ A' n c' bit mask) locY (GY w A' n c' bit mask R) (fun x => 32 - x.fst) (i, ys)), .block 0, .seq (sub B18 pAN11)], [(1, .io .i64 bit), (2, .io IntKind.u32 mask), (7, .sl A' n c'), (8, .io .i64 (↑i : Int)), (9, .io .i64 (IntKind.i64.wrap (bit + (↑i : Int)))), (38, .sl A' n c'), (40, .io .i64 (IntKind.i64.wrap ((IntKind.i64.wrap (bit + (↑i : Int))).tdiv 8))), (41, .sl A' n c'), (43, .io .i64 (IntKind.i64.wrap ((IntKind.i64.wrap (bit + (↑i : Int))).tdiv 8)))], []⟩ (by kernel_rfl) (by kernel_rfl) ?_
     have hbi : IntKind.i64.wrap (bit + (i : Int)) = bit + i := wrap_id ⟨by omega, by omega⟩
     rw [hbi] at b1 b2
     have hp := of_decide_eq_true b1
     obtain ⟨q, hq⟩ := Int.eq_ofNat_of_zero_le hp
     have hdv : IntKind.i64.wrap ((bit + (i : Int)).tdiv 8) = ((q / 8 : Nat) : Int) := by
      rw [Int.tdiv_eq_ediv_of_nonneg hp, wrap63 (by omega) (by omega)]
      omega
     have hlt := of_decide_eq_true b2
     rw [hbi, hdv]
     rw [hdv] at hlt
     rw [on_eq1 hmk hi] at b0
     have hstep : (bif onM mask i then flipB ys (bit + i) else ys) = flipB ys (q : Int) := by rw [b0, hq]; rfl
     refine At.mono (F' := fun ρ w1 => RowF w (fun _ => False) [] w.heap.size 5 1 A' n c' (bw ys) ρ w1 ∧ ∃ a, A' = some a) (fun ρ w1 h => ⟨h, (row_is h.1.1 (by omega)).1⟩) (At.pure ?_)
     rintro ⟨a, rfl⟩
     refine At.idx a n 1 ((q / 8 : Nat) : Int) (by kernel_rfl) (by omega) (by omega) RowF.stable ?_
     refine At.toJ (RowF.stable) RowF.fewer 0 300 [1, 2, 7, 8, 9, 38, 40, 44] 0 ⟨pops B18 pAN5 7, [.block 1, .seq (sub B18 pAN10), .next (Sx.Next w.heap.size w Tryz.f18.ntmps (frZ (some a) n c' bit mask) locY (GY w (some a) n c' bit mask R) (fun x => 32 - x.fst) (i, ys)), .block 0, .seq (sub B18 pAN11)], [(1, .io .i64 bit), (2, .io IntKind.u32 mask), (7, .sl (some a) n c'), (8, .io .i64 (↑i : Int)), (9, .io .i64 (bit + (↑i : Int))), (38, .sl (some a) n c'), (40, .io .i64 (↑(q / 8) : Int)), (44, .v (.pointer (some (a.add ((↑(q / 8) : Int).toNat * 1)))))], []⟩ (by kernel_rfl) (by kernel_rfl) ?_
     have hql : q / 8 < ys.length := by omega
     obtain ⟨y, hy⟩ : ∃ y, ys[q / 8]? = some y := ⟨_, List.getElem?_eq_getElem hql⟩
     have hyv : (bw ys)[q / 8]? = some (.int .u8 (y.toNat : Int)) := by rw [bw, List.getElem?_map, hy]; rfl
     refine At.ldx (a.add (((q / 8 : Nat) : Int).toNat * 1)) (.io .u8 (y.toNat : Int)) (by kernel_rfl) RowF.stable (fun ρ w1 hm' hf => by rw [Int.toNat_natCast, Nat.mul_one]; exact row_src hf.1.1.1 _ _ hyv) ?_
     refine At.toJ (RowF.stable) RowF.fewer 0 300 [1, 2, 7, 8, 38, 40, 45, 48] 0 ⟨pops B18 pAN5 11, [.block 1, .seq (sub B18 pAN10), .next (Sx.Next w.heap.size w Tryz.f18.ntmps (frZ (some a) n c' bit mask) locY (GY w (some a) n c' bit mask R) (fun x => 32 - x.fst) (i, ys)), .block 0, .seq (sub B18 pAN11)], [(1, .io .i64 bit), (2, .io IntKind.u32 mask), (7, .sl (some a) n c'), (8, .io .i64 (↑i : Int)), (38, .sl (some a) n c'), (40, .io .i64 (↑(q / 8) : Int)), (45, .io IntKind.u8 (↑y.toNat : Int)), (48, .io IntKind.u64 (IntKind.u64.wrap ((bit + (↑i : Int)).tmod 8)))], []⟩ (by kernel_rfl) (by kernel_rfl) ?_
     have hmd : IntKind.u64.wrap ((bit + (i : Int)).tmod 8) = ((q % 8 : Nat) : Int) := by
      rw [Int.tmod_eq_emod_of_nonneg hp, show (bit + (i : Int)) % 8 = ((q % 8 : Nat) : Int) by omega]
      exact u64_nat _ (by omega)
     rw [hmd]
     refine At.shl .u8 1 ((q % 8 : Nat) : Int) (by kernel_rfl) (by omega) RowF.stable ?_
     refine At.toJ (RowF.stable) RowF.fewer 0 300 [1, 2, 7, 8, 38, 40, 50] 0 ⟨pops B18 pAN5 13, [.block 1, .seq (sub B18 pAN10), .next (Sx.Next w.heap.size w Tryz.f18.ntmps (frZ (some a) n c' bit mask) locY (GY w (some a) n c' bit mask R) (fun x => 32 - x.fst) (i, ys)), .block 0, .seq (sub B18 pAN11)], [(1, .io .i64 bit), (2, .io IntKind.u32 mask), (7, .sl (some a) n c'), (8, .io .i64 (↑i : Int)), (38, .sl (some a) n c'), (40, .io .i64 (↑(q / 8) : Int)), (50, .io IntKind.u8 (IntKind.u8.wrap (↑(BitVec.ofInt IntKind.u8.bits (↑y.toNat : Int) ^^^ BitVec.ofInt IntKind.u8.bits (IntKind.u8.wrap (1 * 2 ^ min (↑(q % 8) : Int).toNat IntKind.u8.bits))).toNat : Int)))], []⟩ (by kernel_rfl) (by kernel_rfl) ?_
     refine At.idx a n 1 ((q / 8 : Nat) : Int) (by kernel_rfl) (by omega) (by omega) RowF.stable ?_
     refine At.toJ (RowF.stable) RowF.fewer 0 300 [1, 2, 7, 8, 50, 51] 0 ⟨pops B18 pAN5 14, [.block 1, .seq (sub B18 pAN10), .next (Sx.Next w.heap.size w Tryz.f18.ntmps (frZ (some a) n c' bit mask) locY (GY w (some a) n c' bit mask R) (fun x => 32 - x.fst) (i, ys)), .block 0, .seq (sub B18 pAN11)], [(1, .io .i64 bit), (2, .io IntKind.u32 mask), (7, .sl (some a) n c'), (8, .io .i64 (↑i : Int)), (50, .io IntKind.u8 (IntKind.u8.wrap (↑(BitVec.ofInt IntKind.u8.bits (↑y.toNat : Int) ^^^ BitVec.ofInt IntKind.u8.bits (IntKind.u8.wrap (1 * 2 ^ min (↑(q % 8) : Int).toNat IntKind.u8.bits))).toNat : Int))), (51, .v (.pointer (some (a.add ((↑(q / 8) : Int).toNat * 1)))))], []⟩ (by kernel_rfl) (by kernel_rfl) ?_
     rw [xor_val y q]
     refine At.mono (F' := RowE w (fun _ => False) [] w.heap.size 5 1 (some a) n c' (bw ys) []) (fun ρ w1 hf => ⟨hf, fun p hp => (by cases hp)⟩) ?_
     refine At.stRow (q / 8) (a.add (((q / 8 : Nat) : Int).toNat * 1)) (.io .u8 ((y ^^^ bitB (q : Int)).toNat : Int)) (.int .u8 ((y ^^^ bitB (q : Int)).toNat : Int)) (by kernel_rfl) (by rw [Int.toNat_natCast, Nat.mul_one]) (by omega) (fun _ => rfl) (Nat.le_refl _) ?_
     refine At.mono (F' := RowF w (fun _ => False) [] w.heap.size 5 1 (some a) n c' (bw (flipB ys (q : Int)))) (fun ρ w1 hf => by have := hf.1; rw [flip_set hy] at this; exact this) ?_
     refine At.toJ (RowF.stable) RowF.fewer 0 300 [1, 2, 7, 8] 0 ⟨.exit .normal, [.next (Sx.Next w.heap.size w Tryz.f18.ntmps (frZ (some a) n c' bit mask) locY (GY w (some a) n c' bit mask R) (fun x => 32 - x.fst) (i, ys)), .block 0, .seq (sub B18 pAN11)], [(1, .io .i64 bit), (2, .io IntKind.u32 mask), (7, .sl (some a) n c'), (8, .io .i64 (IntKind.i64.wrap ((↑i : Int) + 1)))], []⟩ (by kernel_rfl) (by kernel_rfl) ?_
     have hw3 : IntKind.i64.wrap ((i : Int) + 1) = ((i + 1 : Nat) : Int) := by
      rw [wrap63 (by omega) (by omega)]
      omega
     rw [hw3]
     refine At.next (σ := Nat × List UInt8) (i + 1, flipB ys (q : Int)) rfl rfl (by unfold subFr; kernel_rfl) (by kernel_rfl) ?_ ?_
     ·intro ρ a' w' hi' hf
      refine ⟨hf, by simp only; omega, ?_, by rw [flipB_len]; exact h3⟩
      rw [turn_step hi, hstep] at h2
      exact h2
     ·show 32 - (i + 1) < 32 - i
      omega
    ·refine At.res 37 (decide (IntKind.i64.wrap ((IntKind.i64.wrap (bit + (↑i : Int))).tdiv 8) < (↑n : Int))) false (by kernel_rfl) b2 ?_
     refine At.toJ (RowF.stable) RowF.fewer 0 300 [1, 2, 7, 8] 0 ⟨.exit .normal, [.next (Sx.Next w.heap.size w Tryz.f18.ntmps (frZ A' n c' bit mask) locY (GY w A' n c' bit mask R) (fun x => 32 - x.fst) (i, ys)), .block 0, .seq (sub B18 pAN11)], [(1, .io .i64 bit), (2, .io IntKind.u32 mask), (7, .sl A' n c'), (8, .io .i64 (IntKind.i64.wrap ((↑i : Int) + 1)))], []⟩ (by kernel_rfl) (by kernel_rfl) ?_
     have hbi : IntKind.i64.wrap (bit + (i : Int)) = bit + i := wrap_id ⟨by omega, by omega⟩
     rw [hbi] at b1 b2
     have hp := of_decide_eq_true b1
     have hstep : (bif onM mask i then flipB ys (bit + i) else ys) = ys := by
      cases onM mask i
      ·rfl
      ·refine flipB_high ?_
       have := of_decide_eq_false b2
       rw [Int.tdiv_eq_ediv_of_nonneg hp, wrap63 (by omega) (by omega)] at this
       omega
     have hw3 : IntKind.i64.wrap ((i : Int) + 1) = ((i + 1 : Nat) : Int) := by
      rw [wrap63 (by omega) (by omega)]
      omega
     rw [hw3]
     refine At.next (σ := Nat × List UInt8) (i + 1, ys) rfl rfl (by unfold subFr; kernel_rfl) (by kernel_rfl) ?_ ?_
     ·intro ρ a' w' hi' hf
      refine ⟨hf, by simp only; omega, ?_, h3⟩
      rw [turn_step hi, hstep] at h2
      exact h2
     ·show 32 - (i + 1) < 32 - i
      omega
   ·refine At.res 31 (decide (IntKind.i64.wrap (bit + (↑i : Int)) ≥ 0)) false (by kernel_rfl) b1 ?_
    refine At.toJ (RowF.stable) RowF.fewer 0 300 [1, 2, 7, 8] 0 ⟨.exit .normal, [.next (Sx.Next w.heap.size w Tryz.f18.ntmps (frZ A' n c' bit mask) locY (GY w A' n c' bit mask R) (fun x => 32 - x.fst) (i, ys)), .block 0, .seq (sub B18 pAN11)], [(1, .io .i64 bit), (2, .io IntKind.u32 mask), (7, .sl A' n c'), (8, .io .i64 (IntKind.i64.wrap ((↑i : Int) + 1)))], []⟩ (by kernel_rfl) (by kernel_rfl) ?_
    have hbi : IntKind.i64.wrap (bit + (i : Int)) = bit + i := wrap_id ⟨by omega, by omega⟩
    rw [hbi] at b1
    have hstep : (bif onM mask i then flipB ys (bit + i) else ys) = ys := by
     cases onM mask i
     ·rfl
     ·exact flipB_low (by have := of_decide_eq_false b1; omega)
    have hw3 : IntKind.i64.wrap ((i : Int) + 1) = ((i + 1 : Nat) : Int) := by
     rw [wrap63 (by omega) (by omega)]
     omega
    rw [hw3]
    refine At.next (σ := Nat × List UInt8) (i + 1, ys) rfl rfl (by unfold subFr; kernel_rfl) (by kernel_rfl) ?_ ?_
    ·intro ρ a' w' hi' hf
     refine ⟨hf, by simp only; omega, ?_, h3⟩
     rw [turn_step hi, hstep] at h2
     exact h2
    ·show 32 - (i + 1) < 32 - i
     omega
  ·refine At.res 27 (IntKind.u32.wrap (↑(BitVec.ofInt IntKind.u32.bits (mask.fdiv (2 ^ min (↑i : Int).toNat IntKind.u32.bits)) &&& BitVec.ofInt IntKind.u32.bits 1).toNat : Int) == 1) false (by kernel_rfl) b0 ?_
   refine At.toJ (RowF.stable) RowF.fewer 0 300 [1, 2, 7, 8] 0 ⟨.exit .normal, [.next (Sx.Next w.heap.size w Tryz.f18.ntmps (frZ A' n c' bit mask) locY (GY w A' n c' bit mask R) (fun x => 32 - x.fst) (i, ys)), .block 0, .seq (sub B18 pAN11)], [(1, .io .i64 bit), (2, .io IntKind.u32 mask), (7, .sl A' n c'), (8, .io .i64 (IntKind.i64.wrap ((↑i : Int) + 1)))], []⟩ (by kernel_rfl) (by kernel_rfl) ?_
   rw [on_eq1 hmk hi] at b0
   have hstep : (bif onM mask i then flipB ys (bit + i) else ys) = ys := by rw [b0]; rfl
   have hw3 : IntKind.i64.wrap ((i : Int) + 1) = ((i + 1 : Nat) : Int) := by
    rw [wrap63 (by omega) (by omega)]
    omega
   rw [hw3]
   refine At.next (σ := Nat × List UInt8) (i + 1, ys) rfl rfl (by unfold subFr; kernel_rfl) (by kernel_rfl) ?_ ?_
   ·intro ρ a' w' hi' hf
    refine ⟨hf, by simp only; omega, ?_, h3⟩
    rw [turn_step hi, hstep] at h2
    exact h2
   ·show 32 - (i + 1) < 32 - i
    omega
 ·refine At.res 14 (decide ((↑i : Int) < 32)) false (by kernel_rfl) b0 ?_
  refine At.toJ (RowF.stable) RowF.fewer 0 300 [6] 0 ⟨.exit .ret, [], [(6, .sl A' n c')], []⟩ (by kernel_rfl) (by kernel_rfl) ?_
  refine At.ret (by kernel_rfl) (.sl A' n c') (by kernel_rfl) ?_
  have hi : ¬ (i : Int) < 32 := of_decide_eq_false b0
  clear b0
  have hi32 : i = 32 := by omega
  subst hi32
  intro ρ w9 hm' hf
  have e : ys = R := h2
  subst e
  exact ⟨A', c', rfl, RowF.fewer _ _ 0 (Nat.zero_le _) hf⟩
end Go.Proofs.YthfpekhpeiebjaaGreatDoor
end
section
/- Several rows of one's own, each in memory of its own. -/
namespace Go.Sx
open Go.RowKit
structure Rw where
 e : Nat
 size : Nat
 A : Option Addr
 n : Nat
 c : Nat
 xs : List Value
def Rw.own (x : Rw) : Option Nat := (Value.slice x.A x.n x.c).ownBlock
def Apart (x y : Rw) : Prop := ∀ g, x.own = some g → y.own ≠ some g
theorem Apart.symm {x y : Rw} (h : Apart x y) : Apart y x := fun g hg he => h g he hg
/-- Rows, each in memory of its own. -/
def Rws (b : Nat) (L : List Rw) (ρ : List Nat) (w : World) : Prop := (∀ x ∈ L, Row b x.e x.size x.A x.n x.c x.xs ρ w) ∧ L.Pairwise Apart
theorem Rws.none (b : Nat) (ρ : List Nat) (w : World) : Rws b [] ρ w := ⟨fun x h => (by cases h), List.Pairwise.nil⟩
theorem Rws.stable {b : Nat} {L : List Rw} : Stable (Rws b L) := fun ρ w ρ' w' hg hk h => ⟨fun x hx => (h.1 x hx).keep hg hk, h.2⟩
theorem Rws.fewer {b : Nat} {L : List Rw} : FewerK 0 (Rws b L) := fun ρ w k _ h => ⟨fun x hx => Row.fewer _ _ _ _ _ _ _ ρ w k (h.1 x hx), h.2⟩
theorem Rws.perm {b : Nat} {L L' : List Rw} {ρ : List Nat} {w : World} (h : Rws b L ρ w) (hp : L'.Perm L) : Rws b L' ρ w :=
 ⟨fun x hx => h.1 x (hp.subset hx), (hp.pairwise_iff (fun h => Apart.symm h)).2 h.2⟩
theorem Rws.sub {b : Nat} {L L' : List Rw} {ρ : List Nat} {w : World} (h : Rws b L ρ w) (hs : L'.Sublist L) : Rws b L' ρ w := ⟨fun x hx => h.1 x (hs.subset hx), h.2.sublist hs⟩
theorem Rws.nil {b : Nat} {L : List Rw} {ρ : List Nat} {w : World} (h : Rws b L ρ w) (e size : Nat) : Rws b (⟨e, size, .none, 0, 0, []⟩ :: L) ρ w :=
 ⟨fun x hx => by
  rcases List.mem_cons.1 hx with rfl | hx
  ·exact Row.nil b e size ρ w
  ·exact h.1 x hx, List.pairwise_cons.2 ⟨fun y _ g hg => by simp [Rw.own, Value.ownBlock] at hg, h.2⟩⟩
theorem Rws.len {b : Nat} {L : List Rw} {x : Rw} {ρ : List Nat} {w : World} (h : Rws b L ρ w) (hx : x ∈ L) : x.xs.length = x.n * x.size := (h.1 x hx).1.1
theorem Rws.cap {b : Nat} {L : List Rw} {x : Rw} {ρ : List Nat} {w : World} (h : Rws b L ρ w) (hx : x ∈ L) : x.n ≤ x.c := by
 rcases (h.1 x hx).1.2 with ⟨h2, h3⟩ | ⟨g, cap, cur, hv, _, _, hnc, _⟩
 ·omega
 ·injection hv with _ _ hcc
  omega
theorem Rws.some {b : Nat} {L : List Rw} {x : Rw} {ρ : List Nat} {w : World} (h : Rws b L ρ w) (hx : x ∈ L) (hn : 0 < x.n) : ∃ a, x.A = Option.some a := by
 rcases (h.1 x hx).1.2 with ⟨h2, h3⟩ | ⟨g, cap, cur, hv, _⟩
 ·omega
 ·injection hv with hv _ _
  exact ⟨_, hv⟩
theorem Rws.isNil {b : Nat} {L : List Rw} {x : Rw} {ρ : List Nat} {w : World} (h : Rws b L ρ w) (hx : x ∈ L) (hA : x.A = Option.none) : x.n = 0 ∧ x.xs = [] := by
 rcases (h.1 x hx).1.2 with ⟨h2, h3⟩ | ⟨g, cap, cur, hv, _⟩
 ·exact ⟨h3, List.eq_nil_of_length_eq_zero (by rw [(h.1 x hx).1.1, h3, Nat.zero_mul])⟩
 ·injection hv with hv _ _
  rw [hA] at hv
  cases hv
theorem Rws.src {b : Nat} {L : List Rw} {x : Rw} {ρ : List Nat} {w : World} (h : Rws b L ρ w) (hx : x ∈ L) {a : Addr} (ha : x.A = Option.some a) : Src w a x.xs := by
 intro j u hj
 have hj' := (List.getElem?_eq_some_iff.1 hj).1
 obtain ⟨g, hg, hc⟩ := (h.1 x hx).cell (j := j) (by have := (h.1 x hx).1.1; omega)
 rw [ha] at hg
 injection hg with hg
 subst hg
 rw [add_ok, Nat.zero_add, hc]
 exact hj
theorem own_base' {w : World} {b b' e size n : Nat} {v : Value} {xs : List Value} (h : w.ownsRow b e size v n xs) (hb : b' ≤ b) : w.ownsRow b' e size v n xs := by
 refine ⟨h.1, ?_⟩
 rcases h.2 with h2 | ⟨g, cap, cur, hv, hg, h3⟩
 ·exact .inl h2
 ·exact .inr ⟨g, cap, cur, hv, Nat.le_trans hb hg, h3⟩
/-- What a change of other blocks leaves of a row. -/
theorem Row.chg' {b e size : Nat} {A : Option Addr} {n c : Nat} {xs : List Value} {ρ : List Nat} {w w' : World} (h : Row b e size A n c xs ρ w) (hc : ∀ g, (Value.slice A n c).ownBlock = some g → w'.heap[g]? = w.heap[g]?) : Row b e size A n c xs ρ w' := by
 have hlt := h.1.lt
 refine ⟨⟨h.1.1, ?_⟩, h.2⟩
 rcases h.1.2 with h2 | ⟨g, cap, cur, hv, hb, hcur, hr⟩
 ·exact .inl h2
 ·have hg : (Value.slice A n c).ownBlock = some g := by rw [hv]; rfl
  exact .inr ⟨g, cap, cur, hv, hb, by rw [hc g hg]; exact hcur, hr⟩
/-- The first row grows or is written; the others stay. -/
theorem Rws.grown {b : Nat} {L : List Rw} {x y : Rw} {ρ : List Nat} {w w' : World} (h : Rws b (x :: L) ρ w) (hy : Row b y.e y.size y.A y.n y.c y.xs ρ w') (hg : w.grownBy w' x.own) (ho : y.own = x.own ∨ y.own = Option.some w.heap.size ∨ y.own = Option.none) : Rws b (y :: L) ρ w' := by
 obtain ⟨h1, h2⟩ := h
 have h2 := List.pairwise_cons.1 h2
 refine ⟨fun z hz => ?_, List.pairwise_cons.2 ⟨fun z hz g hg' he => ?_, h2.2⟩⟩
 ·rcases List.mem_cons.1 hz with rfl | hz
  ·exact hy
  ·have hz' := h1 z (List.mem_cons_of_mem _ hz)
   exact hz'.chg' fun g hg' => hg.block g (hz'.1.lt g hg').2 fun e => h2.1 z hz g e.symm hg'
 ·rcases ho with ho | ho | ho
  ·exact h2.1 z hz g (ho ▸ hg') he
  ·rw [ho] at hg'
   injection hg' with hg'
   have := ((h1 z (List.mem_cons_of_mem _ hz)).1.lt g he).2
   omega
  ·rw [ho] at hg'
   cases hg'
section
variable {P : Program} {Q : Exit → Act → World → Prop} {N : Nat} {w0 : World} {ntm : Nat} {F : List Nat → World → Prop}
variable [Md]
/-- A call that makes one more row. -/
theorem At.rowCall {s : S} {L : List Rw} {e size : Nat} (g : FuncId) (vs : List SV) (xs : List Value) (rv : Option Addr → Nat → Nat → SV) (hc : s.call? = some (g, vs)) (hb : bodied P g = true) (hd : s.dstOk ntm = true) (hq : (match s.pc with | .ops .. => true | _ => false) = true)
  (hr : ∀ ρ w, WInv N w0 ρ s.loc w → Rws N L ρ w → Calls P g (SV.denL ρ vs).toArray w fun e' w' => ∃ A n c, e' = .returned ((rv A n c).den ρ) ∧ RowF w (fun _ => False) [] w.heap.size e size A n c xs [] w')
  (h : ∀ A n c, xs.length = n * size → At P Q N w0 ntm (Rws N (⟨e, size, A, n, c, xs⟩ :: L)) (s.tail ntm (rv A n c))) : At P Q N w0 ntm (Rws N L) s := by
 refine At.callx (X := Option Addr × Nat × Nat) Rws.stable g vs (fun x => rv x.1 x.2.1 x.2.2) (fun x ρ w => Rws N (⟨e, size, x.1, x.2.1, x.2.2, xs⟩ :: L) ρ w) (fun x => Rws.stable) hc hb hd hq (fun ρ a w hi hf => (hr ρ w hi.mem hf).mono ?_) (fun x => At.mono (F' := fun ρ w => Rws N (⟨e, size, x.1, x.2.1, x.2.2, xs⟩ :: L) ρ w ∧ xs.length = x.2.1 * size) (fun ρ w h => ⟨h.2, h.2.len (x := ⟨e, size, x.1, x.2.1, x.2.2, xs⟩) (List.mem_cons_self ..)⟩) (At.pure fun hl => h x.1 x.2.1 x.2.2 hl))
 rintro e' w' ⟨A, n, c, rfl, ⟨⟨h1, h2⟩, h3, h4⟩⟩
 have hbel : Below w.heap.size w w' := ⟨h3.1.os, h3.1.tape, h3.1.output, h3.1.size, fun k hk => h3.1.block k hk (fun h => h)⟩
 have hnew : ∀ g, (Value.slice A n c).ownBlock = some g → w.heap.size ≤ g := fun g hg => (h4 g hg).resolve_left fun h => h
 refine ⟨(A, n, c), rfl, hbel, fun x hx => ?_, List.pairwise_cons.2 ⟨fun y hy g hg => ?_, hf.2⟩⟩
 ·rcases List.mem_cons.1 hx with rfl | hx
  ·refine ⟨own_base' h1.1 hi.mem.hN, fun g hg hm => ?_⟩
   have h5 := hnew g hg
   have h6 := (hi.mem.ge g hm).2
   omega
  ·exact (hf.1 x hx).keep (Grow.refl _ _) (Keep.of_below hbel)
 ·intro he
  have h5 := hnew g hg
  have h6 := ((hf.1 y hy).1.lt g he).2
  omega
/-- 'append' of a slice, wherever it lies, to the first row. -/
theorem At.appR {s : S} (e size bytes : Nat) (A : Option Addr) (n c : Nat) (B : Option Addr) (m k : Nat) (xs news : List Value) (L : List Rw) (hq : outI P ntm s = some (e, size, bytes, A, n, c, B, m, k)) (hl : news.length = m * size) (h1 : ∀ u ∈ news, u.oneCell' = true)
  (hn : B = none → m = 0) (hsrc : ∀ b, B = some b → ∀ ρ w, WInv N w0 ρ s.loc w → Rws N (⟨e, size, A, n, c, xs⟩ :: L) ρ w → Src w b news)
  (hbytes : (n + m) * bytes ≤ 140737488355328) (h63 : n + m ≤ maxLen)
  (h : ∀ (A' : Option Addr) (c' : Nat), n + m ≤ c' → At P Q N w0 ntm (Rws N (⟨e, size, A', n + m, c', xs ++ news⟩ :: L)) (s.tail ntm (.sl A' (n + m) c'))) : At P Q N w0 ntm (Rws N (⟨e, size, A, n, c, xs⟩ :: L)) s := by
 unfold outI at hq
 obtain ⟨⟨o, t, e', size', bytes', A', n', c', B', m', k'⟩, hq1, hq2⟩ := Option.map_eq_some_iff.1 hq
 simp only [Prod.mk.injEq] at hq2
 obtain ⟨rfl, rfl, rfl, rfl, rfl, rfl, rfl, rfl, rfl⟩ := hq2
 unfold outQ at hq1
 split at hq1
 ·rename_i o' ho
  split at hq1
  ·rename_i t' A1 n1 c1 sy ha
   split at hq1
   ·rename_i e1 size1 bytes1 B1 m1 k1 ht hsy hpd
    simp only [Option.some.injEq, Prod.mk.injEq] at hq1
    obtain ⟨rfl, rfl, rfl, rfl, rfl, rfl, rfl, rfl, rfl, rfl, rfl⟩ := hq1
    simp only [Bool.and_eq_true] at hpd
    refine At.opx o' (fun x : Option Addr × Nat => .sl x.1 (n1 + m1) x.2) (fun x ρ w => Rws N (⟨e1, size1, x.1, n1 + m1, x.2, xs ++ news⟩ :: L) ρ w) ho hpd.2 hpd.1 ?_ (fun x => At.mono (F' := fun ρ w => Rws N (⟨e1, size1, x.1, n1 + m1, x.2, xs ++ news⟩ :: L) ρ w ∧ n1 + m1 ≤ x.2) (fun ρ w h => ⟨h, h.cap (x := ⟨e1, size1, x.1, n1 + m1, x.2, xs ++ news⟩) (List.mem_cons_self ..)⟩) (At.pure fun hl => h x.1 x.2 hl))
    intro ρ a w hi hf
    have hrow := hf.1 _ (List.mem_cons_self ..)
    have hden : sy.den ρ = .slice B1 m1 k1 := by rw [← SV.asSl_den, hsy]; rfl
    cases B1 with
    | some b =>
     obtain ⟨A', c', w', r1, r2, r3, r4⟩ := run_append_row (P := P) (ty := o'.type) ht hrow hi.mem.hN (fun b hb => (hi.mem.ge b hb).2) b m1 k1 news hl (hsrc b rfl ρ w hi.mem hf) h1 hbytes h63
     exact ⟨(A', c'), w', run_appS hi.act ha (by rw [hden]; exact r1), hi.mem.grown r3 (fun g hg => ⟨(hrow.1.lt g hg).1, hrow.2 g hg⟩), hf.grown r2 r3 (r4.imp id .inl)⟩
    | none =>
     obtain rfl := hn rfl
     have hnil : news = [] := List.eq_nil_of_length_eq_zero (by rw [hl, Nat.zero_mul])
     subst hnil
     have hr := run_append_none (P := P) t' o'.type e1 size1 bytes1 ht N A1 n1 c1 xs w hrow.1 k1
     refine ⟨(A1, c1), w, run_appS hi.act ha (by rw [hden]; exact hr), hi.mem, ?_⟩
     rw [List.append_nil]
     exact hf
   ·cases hq1
  ·cases hq1
 ·cases hq1
/-- 'append' of values to the first row. -/
theorem At.appV {s : S} (t e size bytes : Nat) (A : Option Addr) (n c m : Nat) (nl : List SV) (xs news : List Value) (L : List Rw) (hq : appI P ntm s = some ⟨t, e, size, bytes, A, n, c, m, nl⟩) (hnews : ∀ ρ, SV.denL ρ nl = news)
  (hbytes : (n + m) * bytes ≤ 140737488355328) (h63 : n + m ≤ maxLen)
  (h : ∀ (A' : Option Addr) (c' : Nat), n + m ≤ c' → At P Q N w0 ntm (Rws N (⟨e, size, A', n + m, c', xs ++ news⟩ :: L)) (s.tail ntm (.sl A' (n + m) c'))) : At P Q N w0 ntm (Rws N (⟨e, size, A, n, c, xs⟩ :: L)) s := by
 unfold appI at hq
 obtain ⟨⟨o, q', i, off, k, cells, ct⟩, h1, h2⟩ := Option.map_eq_some_iff.1 hq
 simp only at h2
 subst h2
 unfold appQ at h1
 split at h1
 ·rename_i o' ho
  split at h1
  ·rename_i t' A1 n1 c1 i' off' m' k' ha
   split at h1
   ·rename_i e1 size1 bytes1 cells' ct' ht hl
    split at h1
    ·rename_i hb
     simp only [Option.some.injEq, Prod.mk.injEq, AppQ.mk.injEq] at h1
     obtain ⟨rfl, ⟨rfl, rfl, rfl, rfl, rfl, rfl, rfl, rfl, rfl⟩, rfl, rfl, rfl, rfl, rfl⟩ := h1
     simp only [Bool.and_eq_true] at hb
     refine At.opx o' (fun x : Option Addr × Nat => .sl x.1 (n1 + m') x.2) (fun x ρ w => Rws N (⟨e1, size1, x.1, n1 + m', x.2, xs ++ news⟩ :: L) ρ w) ho hb.2 hb.1.1 ?_ (fun x => At.mono (F' := fun ρ w => Rws N (⟨e1, size1, x.1, n1 + m', x.2, xs ++ news⟩ :: L) ρ w ∧ n1 + m' ≤ x.2) (fun ρ w h => ⟨h, h.cap (x := ⟨e1, size1, x.1, n1 + m', x.2, xs ++ news⟩) (List.mem_cons_self ..)⟩) (At.pure fun hl => h x.1 x.2 hl))
     intro ρ a w hi hf
     have hrow := hf.1 _ (List.mem_cons_self ..)
     have hle := hb.1.2.1
     have hlen : news.length = m' * size1 := by
      rw [← hnews ρ]
      have := Nat.le_of_ble_eq_true hle
      simp [SV.denL_eq]; omega
     obtain ⟨A', c', w', r1, r2, r3, r4⟩ := run_append_row (P := P) (ty := o'.type) ht hrow hi.mem.hN (fun b hb => (hi.mem.ge b hb).2) ⟨nth ρ i', off', none⟩ m' k' news hlen (fun j u hj => by
       rw [add_ok, cell_of_loc hi.mem hl]
       rw [← hnews ρ] at hj
       have hjn : j < m' * size1 := by
        have := (List.getElem?_eq_some_iff.1 hj).1
        simp [SV.denL_eq] at this
        omega
       simpa [SV.denL_eq, List.getElem?_take, hjn, List.getElem?_drop] using hj) (by rw [← hnews ρ]; exact oneL_den hb.1.2.2) hbytes h63
     exact ⟨(A', c'), w', run_appS hi.act ha r1, hi.mem.grown r3 (fun g hg => ⟨(hrow.1.lt g hg).1, hrow.2 g hg⟩), hf.grown r2 r3 (r4.imp id .inl)⟩
    ·cases h1
   ·cases h1
  ·cases h1
 ·cases h1
/-- A cell stored into the first row. -/
theorem At.stR {s : S} {e n c : Nat} {a : Addr} {xs : List Value} {L : List Rw} (j : Nat) (p : Addr) (cv : SV) (u : Value) (hq : stI P s = some (p, cv)) (hp : p = a.add j) (hj : j < n) (hu : ∀ ρ, cv.den ρ = u)
  (h : At P Q N w0 ntm (Rws N (⟨e, 1, some a, n, c, xs.set j u⟩ :: L)) s.past) : At P Q N w0 ntm (Rws N (⟨e, 1, some a, n, c, xs⟩ :: L)) s := by
 unfold stI at hq
 split at hq
 ·rename_i o ho hpl
  obtain ⟨all, rest, h1, h2, h3⟩ := S.past_at ho hpl
  intro ρ act w hi hf
  have hrow := hf.1 _ (List.mem_cons_self ..)
  simp only at hrow
  have ha : a = ⟨a.block, 0, none⟩ := by
   rcases hrow.1.2 with ⟨h', _⟩ | ⟨g, cap, cur, hv, _⟩
   ·cases h'
   ·injection hv with hv _ _
    injection hv with hv
    rw [hv]
  generalize hg : a.block = g at ha
  subst ha
  have hlen : xs.length = n := by have := hrow.1.1; omega
  have hst := hrow.1.stored j u
  obtain ⟨g', hg', hcell⟩ := hrow.cell (j := j) (by omega)
  injection hg' with hg'
  injection hg' with hg' _ _
  subst hg'
  have hp' : p.add 0 = ⟨g, j, none⟩ := by rw [hp, add_ok, add_ok, Nat.zero_add, Nat.add_zero]
  rw [List.getElem?_eq_getElem (by omega)] at hcell
  obtain ⟨hd, hrun⟩ := run_stQ hi.act hq (w := w) (v0 := xs[j]) (by rw [hp']; exact hcell) (by rw [hp']; exact hrow.1.frozenAt j)
  rw [hp', hu] at hrun
  have hown : ∀ k, some g = some k → N ≤ k ∧ k ∉ ρ := fun k hk => by
   injection hk with hk
   subst hk
   exact ⟨(hrow.1.lt g rfl).1, hrow.2 g rfl⟩
  have hk := h ρ act (w.setCell ⟨g, j, none⟩ u) (by rw [h2]; exact ⟨hi.act, hi.mem.grown hst.2 hown⟩) (hf.grown (y := ⟨e, 1, some ⟨g, 0, none⟩, n, c, xs.set j u⟩) ⟨hst.1, hrow.2⟩ hst.2 (.inl rfl))
  rw [h2] at hk
  rw [h1]
  show wpList P all _ (o :: rest) act w
  unfold wpList
  rw [if_pos (guardS_ok hi.act h3)]
  refine .inl ?_
  unfold Oper.wp
  rw [hrun, Oper.upon_skip, hd]
  exact hk
 ·cases hq
/-- A new row that a call has made, among rows of one's own. -/
theorem rws_new {w0 w w' : World} {N : Nat} {ρ : List Nat} {loc : Loc} {e size n c : Nat} {A : Option Addr} {xs : List Value} (hm : WInv N w0 ρ loc w) (h : RowF w (fun _ => False) [] w.heap.size e size A n c xs [] w') : Rws N [⟨e, size, A, n, c, xs⟩] ρ w' ∧ Below w.heap.size w w' := by
 obtain ⟨⟨h1, h2⟩, h3, h4⟩ := h
 refine ⟨⟨fun x hx => ?_, List.pairwise_singleton _ _⟩, ⟨h3.1.os, h3.1.tape, h3.1.output, h3.1.size, fun k hk => h3.1.block k hk (fun h => h)⟩⟩
 rw [List.mem_singleton] at hx
 subst hx
 refine ⟨own_base' h1.1 hm.hN, fun g hg hmm => ?_⟩
 have h5 : w.heap.size ≤ g := (h4 g hg).resolve_left fun h => h
 have h6 := (hm.ge g hmm).2
 omega
/-- Several ways that meet in one of a family of states. -/
theorem At.join {σ : Type} {s : S} (G : σ → List Nat → World → Prop) (s' : σ → S) (h1 : (∀ x, At P Q N w0 ntm (G x) (s' x)) → At P Q N w0 ntm F s) (h2 : ∀ x, At P Q N w0 ntm (G x) (s' x)) : At P Q N w0 ntm F s := h1 h2
theorem src_pre {w : World} {a : Addr} {xs ys : List Value} (h : Src w a (xs ++ ys)) : Src w a xs := fun j u hj => h j u (by rw [List.getElem?_append_left (List.getElem?_eq_some_iff.1 hj).1]; exact hj)
/-- An operator on two open integers of one kind. -/
def bixQ (P : Program) (ntm : Nat) (s : S) : Option (BinOp × IntKind × Int × IntKind × Int) :=
 match s.head?, s.dstOk ntm with
 | some o, true => match o.op with
  | .binOp op t x y _ => match evalS s.fr x, evalS s.fr y with
   | some sx, some sy => match litOf sx, litOf sy, sx.calm with
    | some (.int k a, _), some (.int k2 b, _), true => some (op, k, a, k2, b)
    | _, _, _ => none
   | _, _ => none
  | _ => none
 | _, _ => none
/-- .. its value named. -/
theorem At.bix {s : S} (op : BinOp) (k : IntKind) (a b m : Int) (hq : bixQ P ntm s = some (op, k, a, k, b)) (hm : binInt op k a b = some (.int k m)) (hF : Stable F)
  (h : At P Q N w0 ntm F (s.tail ntm (.io k m))) : At P Q N w0 ntm F s := by
 unfold bixQ at hq
 split at hq
 ·rename_i o ho hd
  split at hq
  ·rename_i op' t x y t2 hop
   split at hq
   ·rename_i sx sy hx hy
    split at hq
    ·rename_i k' a' l1 k2 b' l2 h1 h2 hcalm
     simp only [Option.some.injEq, Prod.mk.injEq] at hq
     obtain ⟨rfl, rfl, rfl, rfl, rfl⟩ := hq
     refine At.op hF o (.io k2 m) ho hd (fun ρ act w hi _ => ?_) h
     obtain ⟨dst, opp, ty, pos, after, guard⟩ := o
     simp only at hop
     subst hop
     have hr := run_binInt (P := P) hm t w
     have hg := run_eqGuard_calm (P := P) (ρ := ρ) hcalm op' t x y (sy.den ρ) w
     rw [litOf_den h1, litOf_den h2] at hg
     simp [execOp, evalS_sound hi.act hx, evalS_sound hi.act hy, litOf_den h1, litOf_den h2, SV.den, hg, hr]
    ·cases hq
   ·cases hq
  ·cases hq
 ·cases hq
end
end Go.Sx
end
