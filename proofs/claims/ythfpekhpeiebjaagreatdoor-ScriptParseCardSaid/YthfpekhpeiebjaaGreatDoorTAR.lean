/- Joined texts: XF. -/
import Derived.Test.YthfpekhpeiebjaaGreatDoorTAQ
set_option linter.unusedSimpArgs false
set_option linter.unusedVariables false
namespace Go.Sx
open Go
def zAR0 : List SV := [.agg [.v (.int .i64 0), .v (.int .i64 0), .v (.int .i64 0), .v (.int .i64 0), .v (.int .i64 0), .v (.int .i64 0), .v (.int .i64 0), .v (.int .i64 0), .v (.int .i64 0), .v (.bool false)], .v (.bool false)]
def zAR1 : List SV := [.v (.int .i64 0), .v (.int .i64 0), .v (.int .i64 0), .v (.int .i64 0), .v (.int .i64 0), .v (.int .i64 0), .v (.int .i64 0), .v (.int .i64 0), .v (.int .i64 0), .v (.bool false)]
def zAR2 : List SV := [.io .i64 0, .io .i64 0, .io .i64 0, .io .i64 0, .io .i64 0, .io .i64 0, .io .i64 0, .io .i64 0, .io .i64 0, .bo false]
def pAR3 : List Nat := [1, 1, 1, 1, 0, 1, 4, 4, 1, 0, 4, 1, 1, 0, 1, 2, 0, 1, 4, 4, 1, 0, 4, 0]
def pAR4 : List Nat := [1, 1, 1, 1, 0, 1, 4, 4, 1, 0, 4, 1, 1, 0, 1, 2, 0, 1, 4, 4, 1, 0, 4, 1]
def pAR5 : List Nat := [1, 1, 1, 1, 0, 1, 4, 4, 1, 0, 4, 1, 1, 0, 1, 2, 0, 1, 4, 4, 1, 1]
def pAR6 : List Nat := [1, 1, 1, 1, 0, 1, 4, 4, 1, 0, 4, 1, 1, 0, 1, 2, 0, 1, 4, 4]
def pAR7 : List Nat := [1, 1, 1, 1, 0, 1, 4, 4, 1, 0, 4, 1, 1, 0, 1, 2, 1]
def pAR8 : List Nat := [1, 1, 1, 1, 0, 1, 4, 4, 1, 0, 4, 1, 1, 1, 1]
def pAR9 : List Nat := [1, 1, 1, 1, 0, 1, 4, 4, 1, 0, 4, 1, 1, 1]
def pAR10 : List Nat := [1, 1, 1, 1, 0, 1, 4, 4, 1, 1]
def pAR11 : List Nat := [1, 1, 1, 1, 1, 1, 1, 0, 1]
def pAR12 : List Nat := [1, 1, 1, 1, 1, 1, 1, 1]
def pAR13 : List Nat := [1, 1, 1, 1, 1]
end Go.Sx
section
namespace Go.Proofs.YthfpekhpeiebjaaGreatDoor
open Go.RowKit Go.Sx
def rkN (v : List UInt8) : Int := bif decide ([115, 101, 115, 115, 105, 111, 110] = v) then 3 else bif decide ([115, 108, 105, 100, 105, 110, 103] = v) then 2 else bif decide ([116, 117, 109, 98, 108, 105, 110, 103] = v) then 1 else 0
def rdx (i : Nat) (v : List UInt8) : Option Int := if i = 2 then some (rkN v) else if i = 9 then some (if v = [121, 101, 115] then 1 else 0) else numK v
def fldC (c : Cf) (i : Nat) : Int := [c.g, c.s, c.k, c.sz, c.sl, c.of, c.gp, c.lt, c.ea, bif c.d then 1 else 0].getD i 0
theorem rj_fix {s : List UInt8} {c : Cf} (h : cfgP s = some c) : ∀ i < 10, (pcs [] s).getD (2 * i) [] = wordsW.getD i [] ∧ rdx i ((pcs [] s).getD (2 * i + 1) []) = some (fldC c i) := by
 obtain ⟨hw, ht⟩ := (cfgP_iff s c).1 h
 obtain ⟨g, s1, k, sz, sl, of, gp, lt, ea, d⟩ := c
 simp only [Cf.wr, Cf.text] at hw ht
 have hp := pcs_text hw d
 rw [ht] at hp
 obtain ⟨⟨g1, g2⟩, ⟨s1, s2⟩, hk, ⟨z1, z2⟩, ⟨l1, l2⟩, ⟨o1, o2⟩, ⟨p1, p2⟩, ⟨t1, t2⟩, e1, e2⟩ := valid_of hw
 intro i hi
 rw [hp]
 have : i = 0 ∨ i = 1 ∨ i = 2 ∨ i = 3 ∨ i = 4 ∨ i = 5 ∨ i = 6 ∨ i = 7 ∨ i = 8 ∨ i = 9 := by omega
 rcases this with rfl | rfl | rfl | rfl | rfl | rfl | rfl | rfl | rfl | rfl
 ·exact ⟨rfl, num_itoa ⟨by omega, by omega⟩⟩
 ·exact ⟨rfl, num_itoa ⟨by omega, by omega⟩⟩
 ·refine ⟨rfl, ?_⟩
  rcases hk with rfl | rfl | rfl <;> rfl
 ·exact ⟨rfl, num_itoa ⟨by omega, by omega⟩⟩
 ·exact ⟨rfl, num_itoa ⟨by omega, by omega⟩⟩
 ·exact ⟨rfl, num_itoa ⟨by omega, by omega⟩⟩
 ·exact ⟨rfl, num_itoa ⟨by omega, by omega⟩⟩
 ·exact ⟨rfl, num_itoa ⟨by omega, by omega⟩⟩
 ·exact ⟨rfl, num_itoa ⟨by omega, by omega⟩⟩
 refine ⟨rfl, ?_⟩
 cases d <;> rfl
structure RJS where
 i : Nat
 f : Nat → Int
def RJI (s : List UInt8) (x : RJS) : Prop := (∀ j < x.i, (pcs [] s).getD (2 * j) [] = wordsW.getD j [] ∧ rdx j ((pcs [] s).getD (2 * j + 1) []) = some (x.f j)) ∧ (∀ j, x.i ≤ j → x.f j = 0) ∧ x.i ≤ 10
theorem rji_step {s : List UInt8} {i : Nat} {f : Nat → Int} {x : Int} (h : RJI s ⟨i, f⟩) (hi : i < 10) (hp : (pcs [] s).getD (2 * i) [] = wordsW.getD i []) (hx : rdx i ((pcs [] s).getD (2 * i + 1) []) = some x) : RJI s ⟨i + 1, fun j => if j = i then x else f j⟩ := by
 obtain ⟨h1, h2, h3⟩ := h
 refine ⟨fun j hj => ?_, fun j hj => ?_, hi⟩
 ·simp only at hj ⊢
  by_cases e : j = i
  ·subst e
   rw [if_pos rfl]
   exact ⟨hp, hx⟩
  rw [if_neg e]
  exact h1 j (by simp only; omega)
 simp only at hj ⊢
 rw [if_neg (by omega)]
 exact h2 j (by simp only; omega)
theorem rj_same {s : List UInt8} {f : Nat → Int} {c : Cf} (h : RJI s ⟨10, f⟩) (hc : cfgP s = some c) : c = ⟨f 0, f 1, f 2, f 3, f 4, f 5, f 6, f 7, f 8, f 9 == 1⟩ := by
 have h0 : ∀ j < 10, f j = fldC c j := fun j hj => by
  have h3 := (h.1 j hj).2
  have h4 := (rj_fix hc j hj).2
  rw [h4] at h3
  injection h3 with h3
  exact h3.symm
 obtain ⟨g, s1, k, sz, sl, of, gp, lt, ea, d⟩ := c
 rw [h0 0 (by decide), h0 1 (by decide), h0 2 (by decide), h0 3 (by decide), h0 4 (by decide), h0 5 (by decide), h0 6 (by decide), h0 7 (by decide), h0 8 (by decide), h0 9 (by decide)]
 cases d <;> rfl
theorem cfg_no {s : List UInt8} (h : ∀ c, ¬ cfgP s = some c) : cfgP s = none := by
 cases hc : cfgP s with
 | none => rfl
 | some c => exact absurd hc (h c)
theorem cfg_len {s : List UInt8} (h : ¬ (pcs [] s).length = 20) : cfgP s = none := cfg_no fun c hc => h (by
 obtain ⟨hw, ht⟩ := (cfgP_iff s c).1 hc
 obtain ⟨g, s1, k, sz, sl, of, gp, lt, ea, d⟩ := c
 simp only [Cf.wr, Cf.text] at hw ht
 have hp := pcs_text hw d
 rw [ht] at hp
 rw [hp]
 rfl)
theorem pcs_at {l : List (List UInt8)} {j : Nat} (h : j < l.length) : (l.map sv)[(j : Int).toNat * 1]? = some (Value.string (mkB (l.getD j []))) := by
 rw [Int.toNat_natCast, Nat.mul_one, List.getElem?_map, List.getElem?_eq_getElem h, List.getD_eq_getElem?_getD, List.getElem?_eq_getElem h]
 rfl
theorem pcs_lenD {s : List UInt8} {j n : Nat} (h : s.length ≤ n) : ((pcs [] s).getD j []).length ≤ n := by
 rw [List.getD_eq_getElem?_getD]
 cases hp : (pcs [] s)[j]? with
 | none => exact Nat.zero_le _
 | some p =>
  have := pcs_len s [] p (List.mem_of_getElem? hp)
  simp only [List.length_nil, Nat.zero_add] at this
  exact Nat.le_trans this h
def cfV : Option Cf → Value
 | some c => .tuple #[.agg c.w.toArray, .bool true]
 | none => .tuple #[.agg cf0.w.toArray, .bool false]
noncomputable def B33 : Code := (Tryz.f33.body).getD .skip
noncomputable def sq33 (p : List Nat) : Go.Sx.K := .seq (sub B33 p)
set_option maxHeartbeats 20000000 in
set_option maxRecDepth 100000 in
theorem rreadj_any (s : List UInt8) (hs : s.length ≤ 1048576) (w : World) :
  Calls Tryz.prog 33 #[.string (mkB s)] w fun e w' => e = .returned (cfV (cfgP s)) ∧ Below w.heap.size w w' := by
 refine enterF (N := w.heap.size) (F := Rws w.heap.size []) (fn := Tryz.f33) (c := B33) [.so (mkB s)] Tryz.func33 rfl rfl (Nat.le_refl _) (Rws.none _ _ _) ?_
 refine zT Rws.stable Rws.fewer [0, 2, 13] 1 ⟨pops B33 [1, 0] 1, [(sq33 [1, 1])], [(0, .so (mkB s)), (2, .lp 0 0), (13, .so (mkB s))], [(zAR1, 25)]⟩ ?_
 refine At.rowCall (e := 9) (size := 1) 62 [.so (mkB s)] ((pcs [] s).map sv) (fun A' n' c' => .sl A' n' c') (by kernel_rfl) (by kernel_rfl) (by kernel_rfl) rfl (fun ρ w1 hm hf => rsplit_any s hs w1) (fun B m cB hlB => ?_)
 rw [List.length_map, Nat.mul_one] at hlB
 refine zTq Rws.stable Rws.fewer [0, 2, 4, 17] 1 ?_
 rcases zB ((↑m : Int) != 20) with b0 | b0
 ·refine zR 17 b0 ?_
  refine zT Rws.stable Rws.fewer [2, 3] 1 ⟨.exit .ret, [], [(2, .lp 0 0), (3, .v (.bool false))], [(zAR1, 25)]⟩ ?_
  refine zE (.tup zAR0) ?_
  intro ρ w9 hm hf
  rw [cfg_len (by rw [hlB]; intro h; rw [h] at b0; simp at b0)]
  exact ⟨rfl, hm.below⟩
 refine zR 17 b0 ?_
 refine zT Rws.stable Rws.fewer [0, 2, 4, 5, 6] 2 ⟨.code (sub B33 [1, 1, 1, 1, 0, 1, 4]), [.block 0, (sq33 pAR13)], [(0, .so (mkB s)), (2, .lp 0 0), (4, .sl B m cB), (5, .lp 1 0), (6, .v (.int .i64 0))], [(zAR1, 25), ([.v (.int .i64 0), .v (.int .i64 0), .v (.int .i64 0), .v (.int .i64 0), .v (.int .i64 0), .v (.int .i64 0), .v (.int .i64 0), .v (.int .i64 0), .v (.int .i64 0), .v (.int .i64 0)], 105)]⟩ ?_
 have hm20 : m = 20 := by
  have : (m : Int) = 20 := by simpa using b0
  omega
 clear b0
 subst hm20
 refine At.know (p := ∃ b, B = some b) (fun ρ w1 h => h.some (.head _) (show 0 < 20 by decide)) fun ⟨b, hb⟩ => ?_
 subst hb
 refine At.canonT [6] _ rfl ?_
 refine At.canL _ rfl ?_
 refine At.loop (σ := RJS) (sub B33 [1, 1, 1, 1, 0, 1, 4, 4]) (fun x => [(0, .so (mkB s)), (2, .lp 0 0), (4, .sl (some b) 20 cB), (5, .lp 1 0), (6, .io .i64 (x.i : Int))]) (fun x => [(zAR2, 25), ([.io .i64 (x.f 0), .io .i64 (x.f 1), .io .i64 (x.f 2), .io .i64 (x.f 3), .io .i64 (x.f 4), .io .i64 (x.f 5), .io .i64 (x.f 6), .io .i64 (x.f 7), .io .i64 (x.f 8), .io .i64 (x.f 9)], 105)]) (fun x ρ w1 => Rws w.heap.size [⟨9, 1, some b, 20, cB, (pcs [] s).map sv⟩] ρ w1 ∧ RJI s x) (fun x => 10 - x.i) ⟨0, fun _ => 0⟩ (by kernel_rfl) (by unfold subFr; kernel_rfl) (by kernel_rfl) (fun _ _ _ _ h => ⟨h, fun j hj => absurd hj (Nat.not_lt_zero _), fun j _ => rfl, Nat.zero_le _⟩) ?_
 rintro ⟨i, f⟩
 refine At.pure fun ⟨h1, h2, h3⟩ => ?_
 simp only at h1 h2 h3
 dsimp only
 refine zTq Rws.stable Rws.fewer [0, 2, 4, 5, 6, 20] 2 ?_
 rcases zB (decide ((↑i : Int) < 10)) with b0 | b0
 ·refine zR 20 b0 ?_
  refine zT Rws.stable Rws.fewer [0, 2, 4, 5, 6] 2 ⟨.any (opsOf (sub B33 [1, 1, 1, 1, 0, 1, 4, 4, 1, 0, 4, 0, 0])) 10 [], [(sq33 [1, 1, 1, 1, 0, 1, 4, 4, 1, 0, 4, 0, 1]), (sq33 [1, 1, 1, 1, 0, 1, 4, 4, 1, 0, 4, 1]), .block 1, (sq33 pAR10), .next (Sx.Next w.heap.size w Tryz.f33.ntmps (fun x => [(0, .so (mkB s)), (2, .lp 0 0), (4, .sl (some b) 20 cB), (5, .lp 1 0), (6, .io .i64 (↑x.i : Int))]) (fun x => [(zAR2, 25), ([.io .i64 (x.f 0), .io .i64 (x.f 1), .io .i64 (x.f 2), .io .i64 (x.f 3), .io .i64 (x.f 4), .io .i64 (x.f 5), .io .i64 (x.f 6), .io .i64 (x.f 7), .io .i64 (x.f 8), .io .i64 (x.f 9)], 105)]) (fun x ρ w1 => Rws w.heap.size [Rw.mk 9 1 (some b) 20 cB (List.map sv (pcs [] s))] ρ w1 ∧ RJI s x) (fun x => 10 - x.i) (RJS.mk i f)), .block 0, (sq33 pAR13)], [(0, .so (mkB s)), (2, .lp 0 0), (4, .sl (some b) 20 cB), (5, .lp 1 0), (6, .io .i64 (↑i : Int))], [(zAR2, 25), ([.io .i64 (f 0), .io .i64 (f 1), .io .i64 (f 2), .io .i64 (f 3), .io .i64 (f 4), .io .i64 (f 5), .io .i64 (f 6), .io .i64 (f 7), .io .i64 (f 8), .io .i64 (f 9)], 105)]⟩ ?_
  have hi : i < 10 := by have := of_decide_eq_true b0; omega
  clear b0
  have hw2 : IntKind.i64.wrap (2 * (i : Int)) = ((2 * i : Nat) : Int) := by
   rw [wrap63 (by omega) (by omega)]
   omega
  refine At.drawn0 [(0, .eq (.sl (some b) 20 cB)), (1, .eq (.io .i64 (i : Int))), (2, .eq (.io .i64 (IntKind.i64.wrap (2 * (i : Int))))), (3, .eq (.v (.pointer (some (b.add ((IntKind.i64.wrap (2 * (i : Int))).toNat * 1)))))), (4, .eq (.so (mkB ((pcs [] s).getD (2 * i) [])))), (5, .ex Nat (fun b => .sl (some ⟨b, 0, none⟩) 10 10) (fun b => Cel ⟨b, 0, none⟩ (strsW wordsW))), (6, .eq (.io .i64 (i : Int))), (7, .ex Nat (fun b => .v (.pointer (some ((⟨b, 0, none⟩ : Addr).add ((i : Int).toNat * 1))))) (fun b => Cel ⟨b, 0, none⟩ (strsW wordsW))), (8, .eq (.so (mkB (wordsW.getD i [])))), (9, .eq (.bo (!((mkB ((pcs [] s).getD (2 * i) [])).toList == (mkB (wordsW.getD i [])).toList))))] [0, 1, 2, 3, 4, 5, 6, 7, 8, 9] [(0, .so (mkB s)), (2, .lp 0 0), (4, .sl (some b) 20 cB), (5, .lp 1 0), (6, .io .i64 (i : Int)), (32, .bo (!((mkB ((pcs [] s).getD (2 * i) [])).toList == (mkB (wordsW.getD i [])).toList)))] rfl (by kernel_rfl) (by kernel_rfl) Rws.stable (by exact ⟨trivial, trivial, trivial, trivial, trivial, fun b => Cel.stable, trivial, fun b => Cel.stable, trivial, trivial, trivial⟩) (by exact ⟨StepK.pure (by kernel_rfl) rfl,
   StepK.pure (by kernel_rfl) rfl,
   StepK.pure (by kernel_rfl) rfl,
   StepK.idx b 20 1 (IntKind.i64.wrap (2 * (i : Int))) (by kernel_rfl) rfl (by omega) (by omega) (fun ρ => rfl),
   StepK.ldx (b.add ((IntKind.i64.wrap (2 * (i : Int))).toNat * 1)) (by kernel_rfl) rfl (fun ρ w1 hm hf => hf.src (.head _) rfl _ _ (by rw [hw2]; exact pcs_at (by omega))),
   StepK.call 63 [] (by kernel_rfl) rfl (by kernel_rfl) (fun ρ w1 hm hf => (rwords_any w1).mono fun e w2 h => by
    obtain ⟨ρc, h1, h2⟩ := h
    obtain ⟨h3, h4⟩ := cel_new hm h2 (ys := strsW wordsW) (fun ρ => rfl)
    exact ⟨_, h1, ⟨nth ρc 0, rfl, h3⟩, h4⟩),
   StepK.pure (by kernel_rfl) rfl,
   StepK.idxX 5 28 10 10 1 (i : Int) (strsW wordsW) rfl (by kernel_rfl) (by kernel_rfl) rfl (fun b => by kernel_rfl) (by omega) (by omega),
   StepK.ldX 7 30 ((i : Int).toNat * 1) (strsW wordsW) (by kernel_rfl) rfl (by kernel_rfl) rfl (fun b => by kernel_rfl) (fun ρ => strs_at (by show i < 10; omega)),
   StepK.pure (by kernel_rfl) rfl, trivial⟩) (by unfold subFr; kernel_rfl) ?_
  refine zTq Rws.stable Rws.fewer [0, 2, 4, 5, 6, 32] 2 ?_
  rcases zB (!(mkB ((pcs [] s).getD (2 * i) [])).toList == (mkB (wordsW.getD i [])).toList) with b0 | b0
  ·refine zR 32 b0 ?_
   refine zT Rws.stable Rws.fewer [2, 3] 1 ⟨.exit .ret, [], [(2, .lp 0 0), (3, .v (.bool false))], [(zAR1, 25)]⟩ ?_
   refine zE (.tup zAR0) ?_
   have hne : ¬ ((pcs [] s).getD (2 * i) []) = wordsW.getD i [] := by rw [strB] at b0; simpa using b0
   intro ρ w9 hm hf
   rw [cfg_no fun c hc => hne (rj_fix hc i hi).1]
   exact ⟨rfl, hm.below⟩
  refine zR 32 b0 ?_
  refine zT Rws.stable Rws.fewer [0, 2, 4, 5, 6, 34, 37] 2 ⟨pops B33 [1, 1, 1, 1, 0, 1, 4, 4, 1, 0, 4, 1, 0] 4, [(sq33 [1, 1, 1, 1, 0, 1, 4, 4, 1, 0, 4, 1, 1]), .block 1, (sq33 pAR10), .next (Sx.Next w.heap.size w Tryz.f33.ntmps (fun x => [(0, .so (mkB s)), (2, .lp 0 0), (4, .sl (some b) 20 cB), (5, .lp 1 0), (6, .io .i64 (↑x.i : Int))]) (fun x => [(zAR2, 25), ([.io .i64 (x.f 0), .io .i64 (x.f 1), .io .i64 (x.f 2), .io .i64 (x.f 3), .io .i64 (x.f 4), .io .i64 (x.f 5), .io .i64 (x.f 6), .io .i64 (x.f 7), .io .i64 (x.f 8), .io .i64 (x.f 9)], 105)]) (fun x ρ w1 => Rws w.heap.size [Rw.mk 9 1 (some b) 20 cB (List.map sv (pcs [] s))] ρ w1 ∧ RJI s x) (fun x => 10 - x.i) (RJS.mk i f)), .block 0, (sq33 pAR13)], [(0, .so (mkB s)), (2, .lp 0 0), (4, .sl (some b) 20 cB), (5, .lp 1 0), (6, .io .i64 (↑i : Int)), (34, .sl (some b) 20 cB), (37, .io .i64 (IntKind.i64.wrap (IntKind.i64.wrap (2 * (↑i : Int)) + 1)))], [(zAR2, 25), ([.io .i64 (f 0), .io .i64 (f 1), .io .i64 (f 2), .io .i64 (f 3), .io .i64 (f 4), .io .i64 (f 5), .io .i64 (f 6), .io .i64 (f 7), .io .i64 (f 8), .io .i64 (f 9)], 105)]⟩ ?_
  have hpw : ((pcs [] s).getD (2 * i) []) = wordsW.getD i [] := by rw [strB] at b0; simpa using b0
  clear b0
  have hw21 : IntKind.i64.wrap (((2 * i : Nat) : Int) + 1) = ((2 * i + 1 : Nat) : Int) := by
   rw [wrap63 (by omega) (by omega)]
   omega
  rw [hw2, hw21]
  refine At.idx b 20 1 ((2 * i + 1 : Nat) : Int) (by kernel_rfl) (by omega) (by omega) Rws.stable ?_
  refine At.ldx (b.add (((2 * i + 1 : Nat) : Int).toNat * 1)) (.so (mkB ((pcs [] s).getD (2 * i + 1) []))) (by kernel_rfl) Rws.stable (fun ρ w1 hm' hf => hf.src (.head _) rfl _ _ (pcs_at (by omega))) ?_
  have hpl : ((pcs [] s).getD (2 * i + 1) []).length ≤ 1048576 := pcs_lenD hs
  generalize hv : ((pcs [] s).getD (2 * i + 1) []) = v
  rw [hv] at hpl
  refine zTq Rws.stable Rws.fewer [0, 2, 4, 5, 6, 7, 41] 2 ?_
  rcases zB ((↑i : Int) == 2) with b0 | b0
  ·refine zR 41 b0 ?_
   refine zT Rws.stable Rws.fewer [0, 2, 4, 5, 6, 7, 8] 2 ⟨.code (sub B33 [1, 1, 1, 1, 0, 1, 4, 4, 1, 0, 4, 1, 1, 0, 1, 2, 0, 1, 4]), [.block 2, (sq33 pAR7), (sq33 pAR9), .block 1, (sq33 pAR10), .next (Sx.Next w.heap.size w Tryz.f33.ntmps (fun x => [(0, .so (mkB s)), (2, .lp 0 0), (4, .sl (some b) 20 cB), (5, .lp 1 0), (6, .io .i64 (↑x.i : Int))]) (fun x => [(zAR2, 25), ([.io .i64 (x.f 0), .io .i64 (x.f 1), .io .i64 (x.f 2), .io .i64 (x.f 3), .io .i64 (x.f 4), .io .i64 (x.f 5), .io .i64 (x.f 6), .io .i64 (x.f 7), .io .i64 (x.f 8), .io .i64 (x.f 9)], 105)]) (fun x ρ w1 => Rws w.heap.size [Rw.mk 9 1 (some b) 20 cB (List.map sv (pcs [] s))] ρ w1 ∧ RJI s x) (fun x => 10 - x.i) (RJS.mk i f)), .block 0, (sq33 pAR13)], [(0, .so (mkB s)), (2, .lp 0 0), (4, .sl (some b) 20 cB), (5, .lp 1 0), (6, .io .i64 (↑i : Int)), (7, .so (mkB v)), (8, .v (.int .i64 1))], [(zAR2, 25), ([.io .i64 (f 0), .io .i64 (f 1), .io .i64 (f 2), .io .i64 (f 3), .io .i64 (f 4), .io .i64 (f 5), .io .i64 (f 6), .io .i64 (f 7), .io .i64 (f 8), .io .i64 (f 9)], 105)]⟩ ?_
   have hi2 : i = 2 := by have := b0; simp at this; omega
   subst hi2
   clear b0
   refine At.hard 6 .i64 2 (by kernel_rfl) ?_
   let kn0 : K := .next (Sx.Next w.heap.size w Tryz.f33.ntmps (fun x => [(0, .so (mkB s)), (2, .lp 0 0), (4, .sl (some b) 20 cB), (5, .lp 1 0), (6, .io .i64 (↑x.i : Int))]) (fun x => [(zAR2, 25), ([.io .i64 (x.f 0), .io .i64 (x.f 1), .io .i64 (x.f 2), .io .i64 (x.f 3), .io .i64 (x.f 4), .io .i64 (x.f 5), .io .i64 (x.f 6), .io .i64 (x.f 7), .io .i64 (x.f 8), .io .i64 (x.f 9)], 105)]) (fun x ρ w1 => Rws w.heap.size [Rw.mk 9 1 (some b) 20 cB (List.map sv (pcs [] s))] ρ w1 ∧ RJI s x) (fun x => 10 - x.i) (RJS.mk 2 f))
   refine zU Rws.stable Rws.fewer [0, 2, 4, 5, 6, 7, 8] 2 ⟨pops B33 pAR3 0, [(sq33 pAR4), .block 3, (sq33 pAR5), .rounds (sub B33 pAR6) 19, .block 2, (sq33 pAR7), (sq33 pAR9), .block 1, (sq33 pAR10), kn0, .block 0, (sq33 pAR13)], [(0, .so (mkB s)), (2, .lp 0 0), (4, .sl (some b) 20 cB), (5, .lp 1 0), (6, .v (.int .i64 2)), (7, .so (mkB v)), (8, .v (.int .i64 1))], [(zAR2, 25), ([.io .i64 (f 0), .io .i64 (f 1), .io .i64 (f 2), .io .i64 (f 3), .io .i64 (f 4), .io .i64 (f 5), .io .i64 (f 6), .io .i64 (f 7), .io .i64 (f 8), .io .i64 (f 9)], 105)]⟩ ?_
   refine At.newcall 64 [] (.ls 0 0 4 4) [([.v (.string ⟨#[]⟩), .v (.string ⟨#[116, 117, 109, 98, 108, 105, 110, 103]⟩), .v (.string ⟨#[115, 108, 105, 100, 105, 110, 103]⟩), .v (.string ⟨#[115, 101, 115, 115, 105, 111, 110]⟩)], 9)] Rws.stable (by kernel_rfl) (by kernel_rfl) (by kernel_rfl) (by kernel_rfl) (by kernel_rfl) (by kernel_rfl) (by kernel_rfl) (by kernel_rfl) (fun ρ w1 hm' hf => rkinds_any w1) ?_
   refine zU Rws.stable Rws.fewer [0, 2, 4, 5, 6, 7, 8, 51] 2 ⟨.code (sub B33 pAR4), [.block 3, (sq33 pAR5), .rounds (sub B33 pAR6) 19, .block 2, (sq33 pAR7), (sq33 pAR9), .block 1, (sq33 pAR10), kn0, .block 0, (sq33 pAR13)], [(0, .so (mkB s)), (2, .lp 0 0), (4, .sl (some b) 20 cB), (5, .lp 1 0), (6, .v (.int .i64 2)), (7, .so (mkB v)), (8, .v (.int .i64 1)), (51, .bo ((ByteArray.mk #[116, 117, 109, 98, 108, 105, 110, 103]).toList == (mkB v).toList))], [(zAR2, 25), ([.io .i64 (f 0), .io .i64 (f 1), .io .i64 (f 2), .io .i64 (f 3), .io .i64 (f 4), .io .i64 (f 5), .io .i64 (f 6), .io .i64 (f 7), .io .i64 (f 8), .io .i64 (f 9)], 105)]⟩ ?_
   rcases zB ((ByteArray.mk #[116, 117, 109, 98, 108, 105, 110, 103]).toList == (mkB v).toList) with b0 | b0
   ·refine zR 51 b0 ?_
    refine zU Rws.stable Rws.fewer [0, 2, 4, 5, 6, 7, 8] 2 ⟨pops B33 pAR3 0, [(sq33 pAR4), .block 3, (sq33 pAR5), .rounds (sub B33 pAR6) 18, .block 2, (sq33 pAR7), (sq33 pAR9), .block 1, (sq33 pAR10), kn0, .block 0, (sq33 pAR13)], [(0, .so (mkB s)), (2, .lp 0 0), (4, .sl (some b) 20 cB), (5, .lp 1 0), (6, .v (.int .i64 2)), (7, .so (mkB v)), (8, .v (.int .i64 2))], [(zAR2, 25), ([.io .i64 (f 0), .io .i64 (f 1), .v (.int .i64 1), .io .i64 (f 3), .io .i64 (f 4), .io .i64 (f 5), .io .i64 (f 6), .io .i64 (f 7), .io .i64 (f 8), .io .i64 (f 9)], 105)]⟩ ?_
    have hk1 := b0
    clear b0
    refine At.newcall 64 [] (.ls 0 0 4 4) [([.v (.string ⟨#[]⟩), .v (.string ⟨#[116, 117, 109, 98, 108, 105, 110, 103]⟩), .v (.string ⟨#[115, 108, 105, 100, 105, 110, 103]⟩), .v (.string ⟨#[115, 101, 115, 115, 105, 111, 110]⟩)], 9)] Rws.stable (by kernel_rfl) (by kernel_rfl) (by kernel_rfl) (by kernel_rfl) (by kernel_rfl) (by kernel_rfl) (by kernel_rfl) (by kernel_rfl) (fun ρ w1 hm' hf => rkinds_any w1) ?_
    refine zU Rws.stable Rws.fewer [0, 2, 4, 5, 6, 7, 8, 51] 2 ⟨.code (sub B33 pAR4), [.block 3, (sq33 pAR5), .rounds (sub B33 pAR6) 18, .block 2, (sq33 pAR7), (sq33 pAR9), .block 1, (sq33 pAR10), kn0, .block 0, (sq33 pAR13)], [(0, .so (mkB s)), (2, .lp 0 0), (4, .sl (some b) 20 cB), (5, .lp 1 0), (6, .v (.int .i64 2)), (7, .so (mkB v)), (8, .v (.int .i64 2)), (51, .bo ((ByteArray.mk #[115, 108, 105, 100, 105, 110, 103]).toList == (mkB v).toList))], [(zAR2, 25), ([.io .i64 (f 0), .io .i64 (f 1), .v (.int .i64 1), .io .i64 (f 3), .io .i64 (f 4), .io .i64 (f 5), .io .i64 (f 6), .io .i64 (f 7), .io .i64 (f 8), .io .i64 (f 9)], 105)]⟩ ?_
    rcases zB ((ByteArray.mk #[115, 108, 105, 100, 105, 110, 103]).toList == (mkB v).toList) with b0 | b0
    ·refine zR 51 b0 ?_
     refine zU Rws.stable Rws.fewer [0, 2, 4, 5, 6, 7, 8] 2 ⟨pops B33 pAR3 0, [(sq33 pAR4), .block 3, (sq33 pAR5), .rounds (sub B33 pAR6) 17, .block 2, (sq33 pAR7), (sq33 pAR9), .block 1, (sq33 pAR10), kn0, .block 0, (sq33 pAR13)], [(0, .so (mkB s)), (2, .lp 0 0), (4, .sl (some b) 20 cB), (5, .lp 1 0), (6, .v (.int .i64 2)), (7, .so (mkB v)), (8, .v (.int .i64 3))], [(zAR2, 25), ([.io .i64 (f 0), .io .i64 (f 1), .v (.int .i64 2), .io .i64 (f 3), .io .i64 (f 4), .io .i64 (f 5), .io .i64 (f 6), .io .i64 (f 7), .io .i64 (f 8), .io .i64 (f 9)], 105)]⟩ ?_
     have hk2 := b0
     clear b0
     refine At.newcall 64 [] (.ls 0 0 4 4) [([.v (.string ⟨#[]⟩), .v (.string ⟨#[116, 117, 109, 98, 108, 105, 110, 103]⟩), .v (.string ⟨#[115, 108, 105, 100, 105, 110, 103]⟩), .v (.string ⟨#[115, 101, 115, 115, 105, 111, 110]⟩)], 9)] Rws.stable (by kernel_rfl) (by kernel_rfl) (by kernel_rfl) (by kernel_rfl) (by kernel_rfl) (by kernel_rfl) (by kernel_rfl) (by kernel_rfl) (fun ρ w1 hm' hf => rkinds_any w1) ?_
     refine zU Rws.stable Rws.fewer [0, 2, 4, 5, 6, 7, 8, 51] 2 ⟨.code (sub B33 pAR4), [.block 3, (sq33 pAR5), .rounds (sub B33 pAR6) 17, .block 2, (sq33 pAR7), (sq33 pAR9), .block 1, (sq33 pAR10), kn0, .block 0, (sq33 pAR13)], [(0, .so (mkB s)), (2, .lp 0 0), (4, .sl (some b) 20 cB), (5, .lp 1 0), (6, .v (.int .i64 2)), (7, .so (mkB v)), (8, .v (.int .i64 3)), (51, .bo ((ByteArray.mk #[115, 101, 115, 115, 105, 111, 110]).toList == (mkB v).toList))], [(zAR2, 25), ([.io .i64 (f 0), .io .i64 (f 1), .v (.int .i64 2), .io .i64 (f 3), .io .i64 (f 4), .io .i64 (f 5), .io .i64 (f 6), .io .i64 (f 7), .io .i64 (f 8), .io .i64 (f 9)], 105)]⟩ ?_
     rcases zB ((ByteArray.mk #[115, 101, 115, 115, 105, 111, 110]).toList == (mkB v).toList) with b0 | b0
     ·refine zR 51 b0 ?_
      refine zU Rws.stable Rws.fewer [0, 2, 4, 5, 6, 7, 8] 2 ⟨.exit .normal, [kn0, .block 0, (sq33 pAR13)], [(0, .so (mkB s)), (2, .lp 0 0), (4, .sl (some b) 20 cB), (5, .lp 1 0), (6, .v (.int .i64 3)), (7, .so (mkB v)), (8, .v (.int .i64 4))], [(zAR2, 25), ([.io .i64 (f 0), .io .i64 (f 1), .v (.int .i64 3), .io .i64 (f 3), .io .i64 (f 4), .io .i64 (f 5), .io .i64 (f 6), .io .i64 (f 7), .io .i64 (f 8), .io .i64 (f 9)], 105)]⟩ ?_
      have k1 : decide ([116, 117, 109, 98, 108, 105, 110, 103] = v) = _ := (strB [116, 117, 109, 98, 108, 105, 110, 103] v).symm.trans hk1
      have k2 : decide ([115, 108, 105, 100, 105, 110, 103] = v) = _ := (strB [115, 108, 105, 100, 105, 110, 103] v).symm.trans hk2
      have k3 : decide ([115, 101, 115, 115, 105, 111, 110] = v) = _ := (strB [115, 101, 115, 115, 105, 111, 110] v).symm.trans b0
      have hkn : rkN v = 3 := by
       rw [rkN, k3, k2, k1]
       rfl
      refine At.canonT [6] _ rfl ?_
      refine At.canL _ rfl ?_
      refine At.next (σ := RJS) ⟨2 + 1, fun j => if j = 2 then 3 else f j⟩ rfl rfl (by unfold subFr; kernel_rfl) (by kernel_rfl) (fun ρ a' w' hi' hf => ⟨hf, rji_step ⟨h1, h2, h3⟩ (by decide) hpw (by rw [hv, show rdx 2 v = some (rkN v) from rfl, hkn])⟩) ?_
      show 10 - (2 + 1) < 10 - 2
      decide
     refine zR 51 b0 ?_
     refine zU Rws.stable Rws.fewer [0, 2, 4, 5, 6, 7, 8] 2 ⟨.exit .normal, [kn0, .block 0, (sq33 pAR13)], [(0, .so (mkB s)), (2, .lp 0 0), (4, .sl (some b) 20 cB), (5, .lp 1 0), (6, .v (.int .i64 3)), (7, .so (mkB v)), (8, .v (.int .i64 4))], [(zAR2, 25), ([.io .i64 (f 0), .io .i64 (f 1), .v (.int .i64 2), .io .i64 (f 3), .io .i64 (f 4), .io .i64 (f 5), .io .i64 (f 6), .io .i64 (f 7), .io .i64 (f 8), .io .i64 (f 9)], 105)]⟩ ?_
     have k1 : decide ([116, 117, 109, 98, 108, 105, 110, 103] = v) = _ := (strB [116, 117, 109, 98, 108, 105, 110, 103] v).symm.trans hk1
     have k2 : decide ([115, 108, 105, 100, 105, 110, 103] = v) = _ := (strB [115, 108, 105, 100, 105, 110, 103] v).symm.trans hk2
     have k3 : decide ([115, 101, 115, 115, 105, 111, 110] = v) = _ := (strB [115, 101, 115, 115, 105, 111, 110] v).symm.trans b0
     have hkn : rkN v = 2 := by
      rw [rkN, k3, k2, k1]
      rfl
     refine At.canonT [6] _ rfl ?_
     refine At.canL _ rfl ?_
     refine At.next (σ := RJS) ⟨2 + 1, fun j => if j = 2 then 2 else f j⟩ rfl rfl (by unfold subFr; kernel_rfl) (by kernel_rfl) (fun ρ a' w' hi' hf => ⟨hf, rji_step ⟨h1, h2, h3⟩ (by decide) hpw (by rw [hv, show rdx 2 v = some (rkN v) from rfl, hkn])⟩) ?_
     show 10 - (2 + 1) < 10 - 2
     decide
    refine zR 51 b0 ?_
    refine zU Rws.stable Rws.fewer [0, 2, 4, 5, 6, 7, 8] 2 ⟨pops B33 pAR3 0, [(sq33 pAR4), .block 3, (sq33 pAR5), .rounds (sub B33 pAR6) 17, .block 2, (sq33 pAR7), (sq33 pAR9), .block 1, (sq33 pAR10), kn0, .block 0, (sq33 pAR13)], [(0, .so (mkB s)), (2, .lp 0 0), (4, .sl (some b) 20 cB), (5, .lp 1 0), (6, .v (.int .i64 2)), (7, .so (mkB v)), (8, .v (.int .i64 3))], [(zAR2, 25), ([.io .i64 (f 0), .io .i64 (f 1), .v (.int .i64 1), .io .i64 (f 3), .io .i64 (f 4), .io .i64 (f 5), .io .i64 (f 6), .io .i64 (f 7), .io .i64 (f 8), .io .i64 (f 9)], 105)]⟩ ?_
    have hk2 := b0
    clear b0
    refine At.newcall 64 [] (.ls 0 0 4 4) [([.v (.string ⟨#[]⟩), .v (.string ⟨#[116, 117, 109, 98, 108, 105, 110, 103]⟩), .v (.string ⟨#[115, 108, 105, 100, 105, 110, 103]⟩), .v (.string ⟨#[115, 101, 115, 115, 105, 111, 110]⟩)], 9)] Rws.stable (by kernel_rfl) (by kernel_rfl) (by kernel_rfl) (by kernel_rfl) (by kernel_rfl) (by kernel_rfl) (by kernel_rfl) (by kernel_rfl) (fun ρ w1 hm' hf => rkinds_any w1) ?_
    refine zU Rws.stable Rws.fewer [0, 2, 4, 5, 6, 7, 8, 51] 2 ⟨.code (sub B33 pAR4), [.block 3, (sq33 pAR5), .rounds (sub B33 pAR6) 17, .block 2, (sq33 pAR7), (sq33 pAR9), .block 1, (sq33 pAR10), kn0, .block 0, (sq33 pAR13)], [(0, .so (mkB s)), (2, .lp 0 0), (4, .sl (some b) 20 cB), (5, .lp 1 0), (6, .v (.int .i64 2)), (7, .so (mkB v)), (8, .v (.int .i64 3)), (51, .bo ((ByteArray.mk #[115, 101, 115, 115, 105, 111, 110]).toList == (mkB v).toList))], [(zAR2, 25), ([.io .i64 (f 0), .io .i64 (f 1), .v (.int .i64 1), .io .i64 (f 3), .io .i64 (f 4), .io .i64 (f 5), .io .i64 (f 6), .io .i64 (f 7), .io .i64 (f 8), .io .i64 (f 9)], 105)]⟩ ?_
    rcases zB ((ByteArray.mk #[115, 101, 115, 115, 105, 111, 110]).toList == (mkB v).toList) with b0 | b0
    ·refine zR 51 b0 ?_
     refine zU Rws.stable Rws.fewer [0, 2, 4, 5, 6, 7, 8] 2 ⟨.exit .normal, [kn0, .block 0, (sq33 pAR13)], [(0, .so (mkB s)), (2, .lp 0 0), (4, .sl (some b) 20 cB), (5, .lp 1 0), (6, .v (.int .i64 3)), (7, .so (mkB v)), (8, .v (.int .i64 4))], [(zAR2, 25), ([.io .i64 (f 0), .io .i64 (f 1), .v (.int .i64 3), .io .i64 (f 3), .io .i64 (f 4), .io .i64 (f 5), .io .i64 (f 6), .io .i64 (f 7), .io .i64 (f 8), .io .i64 (f 9)], 105)]⟩ ?_
     have k1 : decide ([116, 117, 109, 98, 108, 105, 110, 103] = v) = _ := (strB [116, 117, 109, 98, 108, 105, 110, 103] v).symm.trans hk1
     have k2 : decide ([115, 108, 105, 100, 105, 110, 103] = v) = _ := (strB [115, 108, 105, 100, 105, 110, 103] v).symm.trans hk2
     have k3 : decide ([115, 101, 115, 115, 105, 111, 110] = v) = _ := (strB [115, 101, 115, 115, 105, 111, 110] v).symm.trans b0
     have hkn : rkN v = 3 := by
      rw [rkN, k3, k2, k1]
      rfl
     refine At.canonT [6] _ rfl ?_
     refine At.canL _ rfl ?_
     refine At.next (σ := RJS) ⟨2 + 1, fun j => if j = 2 then 3 else f j⟩ rfl rfl (by unfold subFr; kernel_rfl) (by kernel_rfl) (fun ρ a' w' hi' hf => ⟨hf, rji_step ⟨h1, h2, h3⟩ (by decide) hpw (by rw [hv, show rdx 2 v = some (rkN v) from rfl, hkn])⟩) ?_
     show 10 - (2 + 1) < 10 - 2
     decide
    refine zR 51 b0 ?_
    refine zU Rws.stable Rws.fewer [0, 2, 4, 5, 6, 7, 8] 2 ⟨.exit .normal, [kn0, .block 0, (sq33 pAR13)], [(0, .so (mkB s)), (2, .lp 0 0), (4, .sl (some b) 20 cB), (5, .lp 1 0), (6, .v (.int .i64 3)), (7, .so (mkB v)), (8, .v (.int .i64 4))], [(zAR2, 25), ([.io .i64 (f 0), .io .i64 (f 1), .v (.int .i64 1), .io .i64 (f 3), .io .i64 (f 4), .io .i64 (f 5), .io .i64 (f 6), .io .i64 (f 7), .io .i64 (f 8), .io .i64 (f 9)], 105)]⟩ ?_
    have k1 : decide ([116, 117, 109, 98, 108, 105, 110, 103] = v) = _ := (strB [116, 117, 109, 98, 108, 105, 110, 103] v).symm.trans hk1
    have k2 : decide ([115, 108, 105, 100, 105, 110, 103] = v) = _ := (strB [115, 108, 105, 100, 105, 110, 103] v).symm.trans hk2
    have k3 : decide ([115, 101, 115, 115, 105, 111, 110] = v) = _ := (strB [115, 101, 115, 115, 105, 111, 110] v).symm.trans b0
    have hkn : rkN v = 1 := by
     rw [rkN, k3, k2, k1]
     rfl
    refine At.canonT [6] _ rfl ?_
    refine At.canL _ rfl ?_
    refine At.next (σ := RJS) ⟨2 + 1, fun j => if j = 2 then 1 else f j⟩ rfl rfl (by unfold subFr; kernel_rfl) (by kernel_rfl) (fun ρ a' w' hi' hf => ⟨hf, rji_step ⟨h1, h2, h3⟩ (by decide) hpw (by rw [hv, show rdx 2 v = some (rkN v) from rfl, hkn])⟩) ?_
    show 10 - (2 + 1) < 10 - 2
    decide
   refine zR 51 b0 ?_
   refine zU Rws.stable Rws.fewer [0, 2, 4, 5, 6, 7, 8] 2 ⟨pops B33 pAR3 0, [(sq33 pAR4), .block 3, (sq33 pAR5), .rounds (sub B33 pAR6) 18, .block 2, (sq33 pAR7), (sq33 pAR9), .block 1, (sq33 pAR10), kn0, .block 0, (sq33 pAR13)], [(0, .so (mkB s)), (2, .lp 0 0), (4, .sl (some b) 20 cB), (5, .lp 1 0), (6, .v (.int .i64 2)), (7, .so (mkB v)), (8, .v (.int .i64 2))], [(zAR2, 25), ([.io .i64 (f 0), .io .i64 (f 1), .io .i64 (f 2), .io .i64 (f 3), .io .i64 (f 4), .io .i64 (f 5), .io .i64 (f 6), .io .i64 (f 7), .io .i64 (f 8), .io .i64 (f 9)], 105)]⟩ ?_
   have hk1 := b0
   clear b0
   refine At.newcall 64 [] (.ls 0 0 4 4) [([.v (.string ⟨#[]⟩), .v (.string ⟨#[116, 117, 109, 98, 108, 105, 110, 103]⟩), .v (.string ⟨#[115, 108, 105, 100, 105, 110, 103]⟩), .v (.string ⟨#[115, 101, 115, 115, 105, 111, 110]⟩)], 9)] Rws.stable (by kernel_rfl) (by kernel_rfl) (by kernel_rfl) (by kernel_rfl) (by kernel_rfl) (by kernel_rfl) (by kernel_rfl) (by kernel_rfl) (fun ρ w1 hm' hf => rkinds_any w1) ?_
   refine zU Rws.stable Rws.fewer [0, 2, 4, 5, 6, 7, 8, 51] 2 ⟨.code (sub B33 pAR4), [.block 3, (sq33 pAR5), .rounds (sub B33 pAR6) 18, .block 2, (sq33 pAR7), (sq33 pAR9), .block 1, (sq33 pAR10), kn0, .block 0, (sq33 pAR13)], [(0, .so (mkB s)), (2, .lp 0 0), (4, .sl (some b) 20 cB), (5, .lp 1 0), (6, .v (.int .i64 2)), (7, .so (mkB v)), (8, .v (.int .i64 2)), (51, .bo ((ByteArray.mk #[115, 108, 105, 100, 105, 110, 103]).toList == (mkB v).toList))], [(zAR2, 25), ([.io .i64 (f 0), .io .i64 (f 1), .io .i64 (f 2), .io .i64 (f 3), .io .i64 (f 4), .io .i64 (f 5), .io .i64 (f 6), .io .i64 (f 7), .io .i64 (f 8), .io .i64 (f 9)], 105)]⟩ ?_
   rcases zB ((ByteArray.mk #[115, 108, 105, 100, 105, 110, 103]).toList == (mkB v).toList) with b0 | b0
   ·refine zR 51 b0 ?_
    refine zU Rws.stable Rws.fewer [0, 2, 4, 5, 6, 7, 8] 2 ⟨pops B33 pAR3 0, [(sq33 pAR4), .block 3, (sq33 pAR5), .rounds (sub B33 pAR6) 17, .block 2, (sq33 pAR7), (sq33 pAR9), .block 1, (sq33 pAR10), kn0, .block 0, (sq33 pAR13)], [(0, .so (mkB s)), (2, .lp 0 0), (4, .sl (some b) 20 cB), (5, .lp 1 0), (6, .v (.int .i64 2)), (7, .so (mkB v)), (8, .v (.int .i64 3))], [(zAR2, 25), ([.io .i64 (f 0), .io .i64 (f 1), .v (.int .i64 2), .io .i64 (f 3), .io .i64 (f 4), .io .i64 (f 5), .io .i64 (f 6), .io .i64 (f 7), .io .i64 (f 8), .io .i64 (f 9)], 105)]⟩ ?_
    have hk2 := b0
    clear b0
    refine At.newcall 64 [] (.ls 0 0 4 4) [([.v (.string ⟨#[]⟩), .v (.string ⟨#[116, 117, 109, 98, 108, 105, 110, 103]⟩), .v (.string ⟨#[115, 108, 105, 100, 105, 110, 103]⟩), .v (.string ⟨#[115, 101, 115, 115, 105, 111, 110]⟩)], 9)] Rws.stable (by kernel_rfl) (by kernel_rfl) (by kernel_rfl) (by kernel_rfl) (by kernel_rfl) (by kernel_rfl) (by kernel_rfl) (by kernel_rfl) (fun ρ w1 hm' hf => rkinds_any w1) ?_
    refine zU Rws.stable Rws.fewer [0, 2, 4, 5, 6, 7, 8, 51] 2 ⟨.code (sub B33 pAR4), [.block 3, (sq33 pAR5), .rounds (sub B33 pAR6) 17, .block 2, (sq33 pAR7), (sq33 pAR9), .block 1, (sq33 pAR10), kn0, .block 0, (sq33 pAR13)], [(0, .so (mkB s)), (2, .lp 0 0), (4, .sl (some b) 20 cB), (5, .lp 1 0), (6, .v (.int .i64 2)), (7, .so (mkB v)), (8, .v (.int .i64 3)), (51, .bo ((ByteArray.mk #[115, 101, 115, 115, 105, 111, 110]).toList == (mkB v).toList))], [(zAR2, 25), ([.io .i64 (f 0), .io .i64 (f 1), .v (.int .i64 2), .io .i64 (f 3), .io .i64 (f 4), .io .i64 (f 5), .io .i64 (f 6), .io .i64 (f 7), .io .i64 (f 8), .io .i64 (f 9)], 105)]⟩ ?_
    rcases zB ((ByteArray.mk #[115, 101, 115, 115, 105, 111, 110]).toList == (mkB v).toList) with b0 | b0
    ·refine zR 51 b0 ?_
     refine zU Rws.stable Rws.fewer [0, 2, 4, 5, 6, 7, 8] 2 ⟨.exit .normal, [kn0, .block 0, (sq33 pAR13)], [(0, .so (mkB s)), (2, .lp 0 0), (4, .sl (some b) 20 cB), (5, .lp 1 0), (6, .v (.int .i64 3)), (7, .so (mkB v)), (8, .v (.int .i64 4))], [(zAR2, 25), ([.io .i64 (f 0), .io .i64 (f 1), .v (.int .i64 3), .io .i64 (f 3), .io .i64 (f 4), .io .i64 (f 5), .io .i64 (f 6), .io .i64 (f 7), .io .i64 (f 8), .io .i64 (f 9)], 105)]⟩ ?_
     have k1 : decide ([116, 117, 109, 98, 108, 105, 110, 103] = v) = _ := (strB [116, 117, 109, 98, 108, 105, 110, 103] v).symm.trans hk1
     have k2 : decide ([115, 108, 105, 100, 105, 110, 103] = v) = _ := (strB [115, 108, 105, 100, 105, 110, 103] v).symm.trans hk2
     have k3 : decide ([115, 101, 115, 115, 105, 111, 110] = v) = _ := (strB [115, 101, 115, 115, 105, 111, 110] v).symm.trans b0
     have hkn : rkN v = 3 := by
      rw [rkN, k3, k2, k1]
      rfl
     refine At.canonT [6] _ rfl ?_
     refine At.canL _ rfl ?_
     refine At.next (σ := RJS) ⟨2 + 1, fun j => if j = 2 then 3 else f j⟩ rfl rfl (by unfold subFr; kernel_rfl) (by kernel_rfl) (fun ρ a' w' hi' hf => ⟨hf, rji_step ⟨h1, h2, h3⟩ (by decide) hpw (by rw [hv, show rdx 2 v = some (rkN v) from rfl, hkn])⟩) ?_
     show 10 - (2 + 1) < 10 - 2
     decide
    refine zR 51 b0 ?_
    refine zU Rws.stable Rws.fewer [0, 2, 4, 5, 6, 7, 8] 2 ⟨.exit .normal, [kn0, .block 0, (sq33 pAR13)], [(0, .so (mkB s)), (2, .lp 0 0), (4, .sl (some b) 20 cB), (5, .lp 1 0), (6, .v (.int .i64 3)), (7, .so (mkB v)), (8, .v (.int .i64 4))], [(zAR2, 25), ([.io .i64 (f 0), .io .i64 (f 1), .v (.int .i64 2), .io .i64 (f 3), .io .i64 (f 4), .io .i64 (f 5), .io .i64 (f 6), .io .i64 (f 7), .io .i64 (f 8), .io .i64 (f 9)], 105)]⟩ ?_
    have k1 : decide ([116, 117, 109, 98, 108, 105, 110, 103] = v) = _ := (strB [116, 117, 109, 98, 108, 105, 110, 103] v).symm.trans hk1
    have k2 : decide ([115, 108, 105, 100, 105, 110, 103] = v) = _ := (strB [115, 108, 105, 100, 105, 110, 103] v).symm.trans hk2
    have k3 : decide ([115, 101, 115, 115, 105, 111, 110] = v) = _ := (strB [115, 101, 115, 115, 105, 111, 110] v).symm.trans b0
    have hkn : rkN v = 2 := by
     rw [rkN, k3, k2, k1]
     rfl
    refine At.canonT [6] _ rfl ?_
    refine At.canL _ rfl ?_
    refine At.next (σ := RJS) ⟨2 + 1, fun j => if j = 2 then 2 else f j⟩ rfl rfl (by unfold subFr; kernel_rfl) (by kernel_rfl) (fun ρ a' w' hi' hf => ⟨hf, rji_step ⟨h1, h2, h3⟩ (by decide) hpw (by rw [hv, show rdx 2 v = some (rkN v) from rfl, hkn])⟩) ?_
    show 10 - (2 + 1) < 10 - 2
    decide
   refine zR 51 b0 ?_
   refine zU Rws.stable Rws.fewer [0, 2, 4, 5, 6, 7, 8] 2 ⟨pops B33 pAR3 0, [(sq33 pAR4), .block 3, (sq33 pAR5), .rounds (sub B33 pAR6) 17, .block 2, (sq33 pAR7), (sq33 pAR9), .block 1, (sq33 pAR10), kn0, .block 0, (sq33 pAR13)], [(0, .so (mkB s)), (2, .lp 0 0), (4, .sl (some b) 20 cB), (5, .lp 1 0), (6, .v (.int .i64 2)), (7, .so (mkB v)), (8, .v (.int .i64 3))], [(zAR2, 25), ([.io .i64 (f 0), .io .i64 (f 1), .io .i64 (f 2), .io .i64 (f 3), .io .i64 (f 4), .io .i64 (f 5), .io .i64 (f 6), .io .i64 (f 7), .io .i64 (f 8), .io .i64 (f 9)], 105)]⟩ ?_
   have hk2 := b0
   clear b0
   refine At.newcall 64 [] (.ls 0 0 4 4) [([.v (.string ⟨#[]⟩), .v (.string ⟨#[116, 117, 109, 98, 108, 105, 110, 103]⟩), .v (.string ⟨#[115, 108, 105, 100, 105, 110, 103]⟩), .v (.string ⟨#[115, 101, 115, 115, 105, 111, 110]⟩)], 9)] Rws.stable (by kernel_rfl) (by kernel_rfl) (by kernel_rfl) (by kernel_rfl) (by kernel_rfl) (by kernel_rfl) (by kernel_rfl) (by kernel_rfl) (fun ρ w1 hm' hf => rkinds_any w1) ?_
   refine zU Rws.stable Rws.fewer [0, 2, 4, 5, 6, 7, 8, 51] 2 ⟨.code (sub B33 pAR4), [.block 3, (sq33 pAR5), .rounds (sub B33 pAR6) 17, .block 2, (sq33 pAR7), (sq33 pAR9), .block 1, (sq33 pAR10), kn0, .block 0, (sq33 pAR13)], [(0, .so (mkB s)), (2, .lp 0 0), (4, .sl (some b) 20 cB), (5, .lp 1 0), (6, .v (.int .i64 2)), (7, .so (mkB v)), (8, .v (.int .i64 3)), (51, .bo ((ByteArray.mk #[115, 101, 115, 115, 105, 111, 110]).toList == (mkB v).toList))], [(zAR2, 25), ([.io .i64 (f 0), .io .i64 (f 1), .io .i64 (f 2), .io .i64 (f 3), .io .i64 (f 4), .io .i64 (f 5), .io .i64 (f 6), .io .i64 (f 7), .io .i64 (f 8), .io .i64 (f 9)], 105)]⟩ ?_
   rcases zB ((ByteArray.mk #[115, 101, 115, 115, 105, 111, 110]).toList == (mkB v).toList) with b0 | b0
   ·refine zR 51 b0 ?_
    refine zU Rws.stable Rws.fewer [0, 2, 4, 5, 6, 7, 8] 2 ⟨.exit .normal, [kn0, .block 0, (sq33 pAR13)], [(0, .so (mkB s)), (2, .lp 0 0), (4, .sl (some b) 20 cB), (5, .lp 1 0), (6, .v (.int .i64 3)), (7, .so (mkB v)), (8, .v (.int .i64 4))], [(zAR2, 25), ([.io .i64 (f 0), .io .i64 (f 1), .v (.int .i64 3), .io .i64 (f 3), .io .i64 (f 4), .io .i64 (f 5), .io .i64 (f 6), .io .i64 (f 7), .io .i64 (f 8), .io .i64 (f 9)], 105)]⟩ ?_
    have k1 : decide ([116, 117, 109, 98, 108, 105, 110, 103] = v) = _ := (strB [116, 117, 109, 98, 108, 105, 110, 103] v).symm.trans hk1
    have k2 : decide ([115, 108, 105, 100, 105, 110, 103] = v) = _ := (strB [115, 108, 105, 100, 105, 110, 103] v).symm.trans hk2
    have k3 : decide ([115, 101, 115, 115, 105, 111, 110] = v) = _ := (strB [115, 101, 115, 115, 105, 111, 110] v).symm.trans b0
    have hkn : rkN v = 3 := by
     rw [rkN, k3, k2, k1]
     rfl
    refine At.canonT [6] _ rfl ?_
    refine At.canL _ rfl ?_
    refine At.next (σ := RJS) ⟨2 + 1, fun j => if j = 2 then 3 else f j⟩ rfl rfl (by unfold subFr; kernel_rfl) (by kernel_rfl) (fun ρ a' w' hi' hf => ⟨hf, rji_step ⟨h1, h2, h3⟩ (by decide) hpw (by rw [hv, show rdx 2 v = some (rkN v) from rfl, hkn])⟩) ?_
    show 10 - (2 + 1) < 10 - 2
    decide
   refine zR 51 b0 ?_
   refine zU Rws.stable Rws.fewer [0, 2, 4, 5, 6, 7, 8] 2 ⟨.exit .normal, [kn0, .block 0, (sq33 pAR13)], [(0, .so (mkB s)), (2, .lp 0 0), (4, .sl (some b) 20 cB), (5, .lp 1 0), (6, .v (.int .i64 3)), (7, .so (mkB v)), (8, .v (.int .i64 4))], [(zAR2, 25), ([.io .i64 (f 0), .io .i64 (f 1), .io .i64 (f 2), .io .i64 (f 3), .io .i64 (f 4), .io .i64 (f 5), .io .i64 (f 6), .io .i64 (f 7), .io .i64 (f 8), .io .i64 (f 9)], 105)]⟩ ?_
   have k1 : decide ([116, 117, 109, 98, 108, 105, 110, 103] = v) = _ := (strB [116, 117, 109, 98, 108, 105, 110, 103] v).symm.trans hk1
   have k2 : decide ([115, 108, 105, 100, 105, 110, 103] = v) = _ := (strB [115, 108, 105, 100, 105, 110, 103] v).symm.trans hk2
   have k3 : decide ([115, 101, 115, 115, 105, 111, 110] = v) = _ := (strB [115, 101, 115, 115, 105, 111, 110] v).symm.trans b0
   have hkn : rkN v = 0 := by
    rw [rkN, k3, k2, k1]
    rfl
   have hf2 : f 2 = 0 := h2 2 (Nat.le_refl _)
   refine At.canonT [6] _ rfl ?_
   refine At.canL _ rfl ?_
   refine At.next (σ := RJS) ⟨2 + 1, fun j => if j = 2 then f 2 else f j⟩ rfl rfl (by unfold subFr; kernel_rfl) (by kernel_rfl) (fun ρ a' w' hi' hf => ⟨hf, rji_step ⟨h1, h2, h3⟩ (by decide) hpw (by rw [hv, show rdx 2 v = some (rkN v) from rfl, hkn, hf2])⟩) ?_
   show 10 - (2 + 1) < 10 - 2
   decide
  refine zR 41 b0 ?_
  refine zT Rws.stable Rws.fewer [0, 2, 4, 5, 6, 7, 56] 2 ⟨.code (sub B33 [1, 1, 1, 1, 0, 1, 4, 4, 1, 0, 4, 1, 1, 1, 0, 1]), [(sq33 pAR8), .block 1, (sq33 pAR10), .next (Sx.Next w.heap.size w Tryz.f33.ntmps (fun x => [(0, .so (mkB s)), (2, .lp 0 0), (4, .sl (some b) 20 cB), (5, .lp 1 0), (6, .io .i64 (↑x.i : Int))]) (fun x => [(zAR2, 25), ([.io .i64 (x.f 0), .io .i64 (x.f 1), .io .i64 (x.f 2), .io .i64 (x.f 3), .io .i64 (x.f 4), .io .i64 (x.f 5), .io .i64 (x.f 6), .io .i64 (x.f 7), .io .i64 (x.f 8), .io .i64 (x.f 9)], 105)]) (fun x ρ w1 => Rws w.heap.size [Rw.mk 9 1 (some b) 20 cB (List.map sv (pcs [] s))] ρ w1 ∧ RJI s x) (fun x => 10 - x.i) (RJS.mk i f)), .block 0, (sq33 pAR13)], [(0, .so (mkB s)), (2, .lp 0 0), (4, .sl (some b) 20 cB), (5, .lp 1 0), (6, .io .i64 (↑i : Int)), (7, .so (mkB v)), (56, .bo ((↑i : Int) == 9))], [(zAR2, 25), ([.io .i64 (f 0), .io .i64 (f 1), .io .i64 (f 2), .io .i64 (f 3), .io .i64 (f 4), .io .i64 (f 5), .io .i64 (f 6), .io .i64 (f 7), .io .i64 (f 8), .io .i64 (f 9)], 105)]⟩ ?_
  rcases zB ((↑i : Int) == 9) with b1 | b1
  ·refine zR 56 b1 ?_
   refine zTq Rws.stable Rws.fewer [0, 2, 4, 5, 6, 7, 58] 2 ?_
   rcases zB ((mkB v).toList == (ByteArray.mk #[121, 101, 115]).toList) with b2 | b2
   ·refine zR 58 b2 ?_
    refine zT Rws.stable Rws.fewer [0, 2, 4, 5, 6, 7, 59] 2 ⟨pops B33 [1, 1, 1, 1, 0, 1, 4, 4, 1, 0, 4, 1, 1, 1, 0, 1, 2, 0, 1, 2] 1, [(sq33 pAR7), (sq33 pAR8), .block 1, (sq33 pAR10), .next (Sx.Next w.heap.size w Tryz.f33.ntmps (fun x => [(0, .so (mkB s)), (2, .lp 0 0), (4, .sl (some b) 20 cB), (5, .lp 1 0), (6, .io .i64 (↑x.i : Int))]) (fun x => [(zAR2, 25), ([.io .i64 (x.f 0), .io .i64 (x.f 1), .io .i64 (x.f 2), .io .i64 (x.f 3), .io .i64 (x.f 4), .io .i64 (x.f 5), .io .i64 (x.f 6), .io .i64 (x.f 7), .io .i64 (x.f 8), .io .i64 (x.f 9)], 105)]) (fun x ρ w1 => Rws w.heap.size [Rw.mk 9 1 (some b) 20 cB (List.map sv (pcs [] s))] ρ w1 ∧ RJI s x) (fun x => 10 - x.i) (RJS.mk i f)), .block 0, (sq33 pAR13)], [(0, .so (mkB s)), (2, .lp 0 0), (4, .sl (some b) 20 cB), (5, .lp 1 0), (6, .io .i64 (↑i : Int)), (7, .so (mkB v)), (59, .io .i64 (↑i : Int))], [(zAR2, 25), ([.io .i64 (f 0), .io .i64 (f 1), .io .i64 (f 2), .io .i64 (f 3), .io .i64 (f 4), .io .i64 (f 5), .io .i64 (f 6), .io .i64 (f 7), .io .i64 (f 8), .io .i64 (f 9)], 105)]⟩ ?_
    have hi9 : i = 9 := by have := b1; simp at this; omega
    subst hi9
    have hvy : v = [121, 101, 115] := w_yes (y := [121, 101, 115]) b2
    refine At.hard 59 .i64 9 (by kernel_rfl) ?_
    refine zT Rws.stable Rws.fewer [0, 2, 4, 5, 6] 2 ⟨.exit .normal, [.next (Sx.Next w.heap.size w Tryz.f33.ntmps (fun x => [(0, .so (mkB s)), (2, .lp 0 0), (4, .sl (some b) 20 cB), (5, .lp 1 0), (6, .io .i64 (↑x.i : Int))]) (fun x => [(zAR2, 25), ([.io .i64 (x.f 0), .io .i64 (x.f 1), .io .i64 (x.f 2), .io .i64 (x.f 3), .io .i64 (x.f 4), .io .i64 (x.f 5), .io .i64 (x.f 6), .io .i64 (x.f 7), .io .i64 (x.f 8), .io .i64 (x.f 9)], 105)]) (fun x ρ w1 => Rws w.heap.size [Rw.mk 9 1 (some b) 20 cB (List.map sv (pcs [] s))] ρ w1 ∧ RJI s x) (fun x => 10 - x.i) (RJS.mk 9 f)), .block 0, (sq33 pAR13)], [(0, .so (mkB s)), (2, .lp 0 0), (4, .sl (some b) 20 cB), (5, .lp 1 0), (6, .io .i64 10)], [(zAR2, 25), ([.io .i64 (f 0), .io .i64 (f 1), .io .i64 (f 2), .io .i64 (f 3), .io .i64 (f 4), .io .i64 (f 5), .io .i64 (f 6), .io .i64 (f 7), .io .i64 (f 8), .v (.int .i64 1)], 105)]⟩ ?_
    have hw9 : IntKind.i64.wrap (((9 : Nat) : Int) + 1) = 10 := by decide
    try rw [hw9]
    refine At.canonT [6] _ rfl ?_
    refine At.canL _ rfl ?_
    refine At.next (σ := RJS) ⟨9 + 1, fun j => if j = 9 then 1 else f j⟩ rfl rfl (by unfold subFr; kernel_rfl) (by kernel_rfl) (fun ρ a' w' hi' hf => ⟨hf, rji_step ⟨h1, h2, h3⟩ (by decide) hpw (by rw [hv]; simp [rdx, hvy])⟩) ?_
    show 10 - (9 + 1) < 10 - 9
    decide
   refine zR 58 b2 ?_
   refine zT Rws.stable Rws.fewer [0, 2, 4, 5, 6, 7] 2 ⟨.exit .normal, [.next (Sx.Next w.heap.size w Tryz.f33.ntmps (fun x => [(0, .so (mkB s)), (2, .lp 0 0), (4, .sl (some b) 20 cB), (5, .lp 1 0), (6, .io .i64 (↑x.i : Int))]) (fun x => [(zAR2, 25), ([.io .i64 (x.f 0), .io .i64 (x.f 1), .io .i64 (x.f 2), .io .i64 (x.f 3), .io .i64 (x.f 4), .io .i64 (x.f 5), .io .i64 (x.f 6), .io .i64 (x.f 7), .io .i64 (x.f 8), .io .i64 (x.f 9)], 105)]) (fun x ρ w1 => Rws w.heap.size [Rw.mk 9 1 (some b) 20 cB (List.map sv (pcs [] s))] ρ w1 ∧ RJI s x) (fun x => 10 - x.i) (RJS.mk i f)), .block 0, (sq33 pAR13)], [(0, .so (mkB s)), (2, .lp 0 0), (4, .sl (some b) 20 cB), (5, .lp 1 0), (6, .io .i64 (IntKind.i64.wrap ((↑i : Int) + 1))), (7, .so (mkB v))], [(zAR2, 25), ([.io .i64 (f 0), .io .i64 (f 1), .io .i64 (f 2), .io .i64 (f 3), .io .i64 (f 4), .io .i64 (f 5), .io .i64 (f 6), .io .i64 (f 7), .io .i64 (f 8), .io .i64 (f 9)], 105)]⟩ ?_
   have hi9 : i = 9 := by have := b1; simp at this; omega
   subst hi9
   have hvn : v ≠ [121, 101, 115] := w_no (y := [121, 101, 115]) b2
   have hw9 : IntKind.i64.wrap (((9 : Nat) : Int) + 1) = 10 := by decide
   rw [hw9]
   refine At.canonT [6] _ rfl ?_
   refine At.canL _ rfl ?_
   refine At.next (σ := RJS) ⟨9 + 1, fun j => if j = 9 then f 9 else f j⟩ rfl rfl (by unfold subFr; kernel_rfl) (by kernel_rfl) (fun ρ a' w' hi' hf => ⟨hf, rji_step ⟨h1, h2, h3⟩ (by decide) hpw (by rw [hv, h2 9 (Nat.le_refl _)]; simp [rdx, hvn])⟩) ?_
   show 10 - (9 + 1) < 10 - 9
   decide
  refine zR 56 b1 ?_
  refine zT Rws.stable Rws.fewer [0, 2, 4, 5, 6, 7, 62] 2 ⟨pops B33 [1, 1, 1, 1, 0, 1, 4, 4, 1, 0, 4, 1, 1, 1, 1, 0] 1, [(sq33 [1, 1, 1, 1, 0, 1, 4, 4, 1, 0, 4, 1, 1, 1, 1, 1]), .block 1, (sq33 pAR10), .next (Sx.Next w.heap.size w Tryz.f33.ntmps (fun x => [(0, .so (mkB s)), (2, .lp 0 0), (4, .sl (some b) 20 cB), (5, .lp 1 0), (6, .io .i64 (↑x.i : Int))]) (fun x => [(zAR2, 25), ([.io .i64 (x.f 0), .io .i64 (x.f 1), .io .i64 (x.f 2), .io .i64 (x.f 3), .io .i64 (x.f 4), .io .i64 (x.f 5), .io .i64 (x.f 6), .io .i64 (x.f 7), .io .i64 (x.f 8), .io .i64 (x.f 9)], 105)]) (fun x ρ w1 => Rws w.heap.size [Rw.mk 9 1 (some b) 20 cB (List.map sv (pcs [] s))] ρ w1 ∧ RJI s x) (fun x => 10 - x.i) (RJS.mk i f)), .block 0, (sq33 pAR13)], [(0, .so (mkB s)), (2, .lp 0 0), (4, .sl (some b) 20 cB), (5, .lp 1 0), (6, .io .i64 (↑i : Int)), (7, .so (mkB v)), (62, .so (mkB v))], [(zAR2, 25), ([.io .i64 (f 0), .io .i64 (f 1), .io .i64 (f 2), .io .i64 (f 3), .io .i64 (f 4), .io .i64 (f 5), .io .i64 (f 6), .io .i64 (f 7), .io .i64 (f 8), .io .i64 (f 9)], 105)]⟩ ?_
  have hi2 : ¬ i = 2 := by intro e; subst e; simp at b0
  have hi9 : ¬ i = 9 := by intro e; subst e; simp at b1
  have hrd : rdx i v = numK v := by simp [rdx, hi2, hi9]
  clear b0 b1
  rcases hn : numK v with _ | x
  ·refine zC Rws.stable 65 [.so (mkB v)] (.tup [.v (.int .i64 0), .v (.bool false)]) (fun _ _ w1 _ _ => (rnumber_any v hpl w1).mono fun e w2 h => by rw [nums_alike, hn] at h; exact h) ?_
   refine zT Rws.stable Rws.fewer [2, 3] 1 ⟨.exit .ret, [], [(2, .lp 0 0), (3, .v (.bool false))], [(zAR1, 25)]⟩ ?_
   refine zE (.tup zAR0) ?_
   intro ρ w9 hm hf
   rw [cfg_no fun c hc => by have h9 := (rj_fix hc i hi).2; rw [hv, hrd, hn] at h9; cases h9]
   exact ⟨rfl, hm.below⟩
  refine zC Rws.stable 65 [.so (mkB v)] (.tup [.io .i64 x, .v (.bool true)]) (fun _ _ w1 _ _ => (rnumber_any v hpl w1).mono fun e w2 h => by rw [nums_alike, hn] at h; exact h) ?_
  have hst : rdx i ((pcs [] s).getD (2 * i + 1) []) = some x := by rw [hv, hrd, hn]
  have hcs : i = 0 ∨ i = 1 ∨ i = 3 ∨ i = 4 ∨ i = 5 ∨ i = 6 ∨ i = 7 ∨ i = 8 := by omega
  clear hrd hn hi2 hi9 hpl
  rcases hcs with rfl | rfl | rfl | rfl | rfl | rfl | rfl | rfl
  ·refine At.hard 6 .i64 0 (by kernel_rfl) ?_
   refine zT Rws.stable Rws.fewer [0, 2, 4, 5, 6] 2 ⟨.exit .normal, [.next (Sx.Next w.heap.size w Tryz.f33.ntmps (fun x => [(0, .so (mkB s)), (2, .lp 0 0), (4, .sl (some b) 20 cB), (5, .lp 1 0), (6, .io .i64 (↑x.i : Int))]) (fun x => [(zAR2, 25), ([.io .i64 (x.f 0), .io .i64 (x.f 1), .io .i64 (x.f 2), .io .i64 (x.f 3), .io .i64 (x.f 4), .io .i64 (x.f 5), .io .i64 (x.f 6), .io .i64 (x.f 7), .io .i64 (x.f 8), .io .i64 (x.f 9)], 105)]) (fun x ρ w1 => Rws w.heap.size [Rw.mk 9 1 (some b) 20 cB (List.map sv (pcs [] s))] ρ w1 ∧ RJI s x) (fun x => 10 - x.i) (RJS.mk 0 f)), .block 0, (sq33 pAR13)], [(0, .so (mkB s)), (2, .lp 0 0), (4, .sl (some b) 20 cB), (5, .lp 1 0), (6, .v (.int .i64 1))], [(zAR2, 25), ([.io .i64 x, .io .i64 (f 1), .io .i64 (f 2), .io .i64 (f 3), .io .i64 (f 4), .io .i64 (f 5), .io .i64 (f 6), .io .i64 (f 7), .io .i64 (f 8), .io .i64 (f 9)], 105)]⟩ ?_
   refine At.canonT [6] _ rfl ?_
   refine At.canL _ rfl ?_
   refine At.next (σ := RJS) ⟨0 + 1, fun j => if j = 0 then x else f j⟩ rfl rfl (by unfold subFr; kernel_rfl) (by kernel_rfl) (fun ρ a' w' hi' hf => ⟨hf, rji_step ⟨h1, h2, h3⟩ (by decide) hpw (hst)⟩) ?_
   show 10 - (0 + 1) < 10 - 0
   decide
  ·refine At.hard 6 .i64 1 (by kernel_rfl) ?_
   refine zT Rws.stable Rws.fewer [0, 2, 4, 5, 6] 2 ⟨.exit .normal, [.next (Sx.Next w.heap.size w Tryz.f33.ntmps (fun x => [(0, .so (mkB s)), (2, .lp 0 0), (4, .sl (some b) 20 cB), (5, .lp 1 0), (6, .io .i64 (↑x.i : Int))]) (fun x => [(zAR2, 25), ([.io .i64 (x.f 0), .io .i64 (x.f 1), .io .i64 (x.f 2), .io .i64 (x.f 3), .io .i64 (x.f 4), .io .i64 (x.f 5), .io .i64 (x.f 6), .io .i64 (x.f 7), .io .i64 (x.f 8), .io .i64 (x.f 9)], 105)]) (fun x ρ w1 => Rws w.heap.size [Rw.mk 9 1 (some b) 20 cB (List.map sv (pcs [] s))] ρ w1 ∧ RJI s x) (fun x => 10 - x.i) (RJS.mk 1 f)), .block 0, (sq33 pAR13)], [(0, .so (mkB s)), (2, .lp 0 0), (4, .sl (some b) 20 cB), (5, .lp 1 0), (6, .v (.int .i64 2))], [(zAR2, 25), ([.io .i64 (f 0), .io .i64 x, .io .i64 (f 2), .io .i64 (f 3), .io .i64 (f 4), .io .i64 (f 5), .io .i64 (f 6), .io .i64 (f 7), .io .i64 (f 8), .io .i64 (f 9)], 105)]⟩ ?_
   refine At.canonT [6] _ rfl ?_
   refine At.canL _ rfl ?_
   refine At.next (σ := RJS) ⟨1 + 1, fun j => if j = 1 then x else f j⟩ rfl rfl (by unfold subFr; kernel_rfl) (by kernel_rfl) (fun ρ a' w' hi' hf => ⟨hf, rji_step ⟨h1, h2, h3⟩ (by decide) hpw (hst)⟩) ?_
   show 10 - (1 + 1) < 10 - 1
   decide
  ·refine At.hard 6 .i64 3 (by kernel_rfl) ?_
   refine zT Rws.stable Rws.fewer [0, 2, 4, 5, 6] 2 ⟨.exit .normal, [.next (Sx.Next w.heap.size w Tryz.f33.ntmps (fun x => [(0, .so (mkB s)), (2, .lp 0 0), (4, .sl (some b) 20 cB), (5, .lp 1 0), (6, .io .i64 (↑x.i : Int))]) (fun x => [(zAR2, 25), ([.io .i64 (x.f 0), .io .i64 (x.f 1), .io .i64 (x.f 2), .io .i64 (x.f 3), .io .i64 (x.f 4), .io .i64 (x.f 5), .io .i64 (x.f 6), .io .i64 (x.f 7), .io .i64 (x.f 8), .io .i64 (x.f 9)], 105)]) (fun x ρ w1 => Rws w.heap.size [Rw.mk 9 1 (some b) 20 cB (List.map sv (pcs [] s))] ρ w1 ∧ RJI s x) (fun x => 10 - x.i) (RJS.mk 3 f)), .block 0, (sq33 pAR13)], [(0, .so (mkB s)), (2, .lp 0 0), (4, .sl (some b) 20 cB), (5, .lp 1 0), (6, .v (.int .i64 4))], [(zAR2, 25), ([.io .i64 (f 0), .io .i64 (f 1), .io .i64 (f 2), .io .i64 x, .io .i64 (f 4), .io .i64 (f 5), .io .i64 (f 6), .io .i64 (f 7), .io .i64 (f 8), .io .i64 (f 9)], 105)]⟩ ?_
   refine At.canonT [6] _ rfl ?_
   refine At.canL _ rfl ?_
   refine At.next (σ := RJS) ⟨3 + 1, fun j => if j = 3 then x else f j⟩ rfl rfl (by unfold subFr; kernel_rfl) (by kernel_rfl) (fun ρ a' w' hi' hf => ⟨hf, rji_step ⟨h1, h2, h3⟩ (by decide) hpw (hst)⟩) ?_
   show 10 - (3 + 1) < 10 - 3
   decide
  ·refine At.hard 6 .i64 4 (by kernel_rfl) ?_
   refine zT Rws.stable Rws.fewer [0, 2, 4, 5, 6] 2 ⟨.exit .normal, [.next (Sx.Next w.heap.size w Tryz.f33.ntmps (fun x => [(0, .so (mkB s)), (2, .lp 0 0), (4, .sl (some b) 20 cB), (5, .lp 1 0), (6, .io .i64 (↑x.i : Int))]) (fun x => [(zAR2, 25), ([.io .i64 (x.f 0), .io .i64 (x.f 1), .io .i64 (x.f 2), .io .i64 (x.f 3), .io .i64 (x.f 4), .io .i64 (x.f 5), .io .i64 (x.f 6), .io .i64 (x.f 7), .io .i64 (x.f 8), .io .i64 (x.f 9)], 105)]) (fun x ρ w1 => Rws w.heap.size [Rw.mk 9 1 (some b) 20 cB (List.map sv (pcs [] s))] ρ w1 ∧ RJI s x) (fun x => 10 - x.i) (RJS.mk 4 f)), .block 0, (sq33 pAR13)], [(0, .so (mkB s)), (2, .lp 0 0), (4, .sl (some b) 20 cB), (5, .lp 1 0), (6, .v (.int .i64 5))], [(zAR2, 25), ([.io .i64 (f 0), .io .i64 (f 1), .io .i64 (f 2), .io .i64 (f 3), .io .i64 x, .io .i64 (f 5), .io .i64 (f 6), .io .i64 (f 7), .io .i64 (f 8), .io .i64 (f 9)], 105)]⟩ ?_
   refine At.canonT [6] _ rfl ?_
   refine At.canL _ rfl ?_
   refine At.next (σ := RJS) ⟨4 + 1, fun j => if j = 4 then x else f j⟩ rfl rfl (by unfold subFr; kernel_rfl) (by kernel_rfl) (fun ρ a' w' hi' hf => ⟨hf, rji_step ⟨h1, h2, h3⟩ (by decide) hpw (hst)⟩) ?_
   show 10 - (4 + 1) < 10 - 4
   decide
  ·refine At.hard 6 .i64 5 (by kernel_rfl) ?_
   refine zT Rws.stable Rws.fewer [0, 2, 4, 5, 6] 2 ⟨.exit .normal, [.next (Sx.Next w.heap.size w Tryz.f33.ntmps (fun x => [(0, .so (mkB s)), (2, .lp 0 0), (4, .sl (some b) 20 cB), (5, .lp 1 0), (6, .io .i64 (↑x.i : Int))]) (fun x => [(zAR2, 25), ([.io .i64 (x.f 0), .io .i64 (x.f 1), .io .i64 (x.f 2), .io .i64 (x.f 3), .io .i64 (x.f 4), .io .i64 (x.f 5), .io .i64 (x.f 6), .io .i64 (x.f 7), .io .i64 (x.f 8), .io .i64 (x.f 9)], 105)]) (fun x ρ w1 => Rws w.heap.size [Rw.mk 9 1 (some b) 20 cB (List.map sv (pcs [] s))] ρ w1 ∧ RJI s x) (fun x => 10 - x.i) (RJS.mk 5 f)), .block 0, (sq33 pAR13)], [(0, .so (mkB s)), (2, .lp 0 0), (4, .sl (some b) 20 cB), (5, .lp 1 0), (6, .v (.int .i64 6))], [(zAR2, 25), ([.io .i64 (f 0), .io .i64 (f 1), .io .i64 (f 2), .io .i64 (f 3), .io .i64 (f 4), .io .i64 x, .io .i64 (f 6), .io .i64 (f 7), .io .i64 (f 8), .io .i64 (f 9)], 105)]⟩ ?_
   refine At.canonT [6] _ rfl ?_
   refine At.canL _ rfl ?_
   refine At.next (σ := RJS) ⟨5 + 1, fun j => if j = 5 then x else f j⟩ rfl rfl (by unfold subFr; kernel_rfl) (by kernel_rfl) (fun ρ a' w' hi' hf => ⟨hf, rji_step ⟨h1, h2, h3⟩ (by decide) hpw (hst)⟩) ?_
   show 10 - (5 + 1) < 10 - 5
   decide
  ·refine At.hard 6 .i64 6 (by kernel_rfl) ?_
   refine zT Rws.stable Rws.fewer [0, 2, 4, 5, 6] 2 ⟨.exit .normal, [.next (Sx.Next w.heap.size w Tryz.f33.ntmps (fun x => [(0, .so (mkB s)), (2, .lp 0 0), (4, .sl (some b) 20 cB), (5, .lp 1 0), (6, .io .i64 (↑x.i : Int))]) (fun x => [(zAR2, 25), ([.io .i64 (x.f 0), .io .i64 (x.f 1), .io .i64 (x.f 2), .io .i64 (x.f 3), .io .i64 (x.f 4), .io .i64 (x.f 5), .io .i64 (x.f 6), .io .i64 (x.f 7), .io .i64 (x.f 8), .io .i64 (x.f 9)], 105)]) (fun x ρ w1 => Rws w.heap.size [Rw.mk 9 1 (some b) 20 cB (List.map sv (pcs [] s))] ρ w1 ∧ RJI s x) (fun x => 10 - x.i) (RJS.mk 6 f)), .block 0, (sq33 pAR13)], [(0, .so (mkB s)), (2, .lp 0 0), (4, .sl (some b) 20 cB), (5, .lp 1 0), (6, .v (.int .i64 7))], [(zAR2, 25), ([.io .i64 (f 0), .io .i64 (f 1), .io .i64 (f 2), .io .i64 (f 3), .io .i64 (f 4), .io .i64 (f 5), .io .i64 x, .io .i64 (f 7), .io .i64 (f 8), .io .i64 (f 9)], 105)]⟩ ?_
   refine At.canonT [6] _ rfl ?_
   refine At.canL _ rfl ?_
   refine At.next (σ := RJS) ⟨6 + 1, fun j => if j = 6 then x else f j⟩ rfl rfl (by unfold subFr; kernel_rfl) (by kernel_rfl) (fun ρ a' w' hi' hf => ⟨hf, rji_step ⟨h1, h2, h3⟩ (by decide) hpw (hst)⟩) ?_
   show 10 - (6 + 1) < 10 - 6
   decide
  ·refine At.hard 6 .i64 7 (by kernel_rfl) ?_
   refine zT Rws.stable Rws.fewer [0, 2, 4, 5, 6] 2 ⟨.exit .normal, [.next (Sx.Next w.heap.size w Tryz.f33.ntmps (fun x => [(0, .so (mkB s)), (2, .lp 0 0), (4, .sl (some b) 20 cB), (5, .lp 1 0), (6, .io .i64 (↑x.i : Int))]) (fun x => [(zAR2, 25), ([.io .i64 (x.f 0), .io .i64 (x.f 1), .io .i64 (x.f 2), .io .i64 (x.f 3), .io .i64 (x.f 4), .io .i64 (x.f 5), .io .i64 (x.f 6), .io .i64 (x.f 7), .io .i64 (x.f 8), .io .i64 (x.f 9)], 105)]) (fun x ρ w1 => Rws w.heap.size [Rw.mk 9 1 (some b) 20 cB (List.map sv (pcs [] s))] ρ w1 ∧ RJI s x) (fun x => 10 - x.i) (RJS.mk 7 f)), .block 0, (sq33 pAR13)], [(0, .so (mkB s)), (2, .lp 0 0), (4, .sl (some b) 20 cB), (5, .lp 1 0), (6, .v (.int .i64 8))], [(zAR2, 25), ([.io .i64 (f 0), .io .i64 (f 1), .io .i64 (f 2), .io .i64 (f 3), .io .i64 (f 4), .io .i64 (f 5), .io .i64 (f 6), .io .i64 x, .io .i64 (f 8), .io .i64 (f 9)], 105)]⟩ ?_
   refine At.canonT [6] _ rfl ?_
   refine At.canL _ rfl ?_
   refine At.next (σ := RJS) ⟨7 + 1, fun j => if j = 7 then x else f j⟩ rfl rfl (by unfold subFr; kernel_rfl) (by kernel_rfl) (fun ρ a' w' hi' hf => ⟨hf, rji_step ⟨h1, h2, h3⟩ (by decide) hpw (hst)⟩) ?_
   show 10 - (7 + 1) < 10 - 7
   decide
  refine At.hard 6 .i64 8 (by kernel_rfl) ?_
  refine zT Rws.stable Rws.fewer [0, 2, 4, 5, 6] 2 ⟨.exit .normal, [.next (Sx.Next w.heap.size w Tryz.f33.ntmps (fun x => [(0, .so (mkB s)), (2, .lp 0 0), (4, .sl (some b) 20 cB), (5, .lp 1 0), (6, .io .i64 (↑x.i : Int))]) (fun x => [(zAR2, 25), ([.io .i64 (x.f 0), .io .i64 (x.f 1), .io .i64 (x.f 2), .io .i64 (x.f 3), .io .i64 (x.f 4), .io .i64 (x.f 5), .io .i64 (x.f 6), .io .i64 (x.f 7), .io .i64 (x.f 8), .io .i64 (x.f 9)], 105)]) (fun x ρ w1 => Rws w.heap.size [Rw.mk 9 1 (some b) 20 cB (List.map sv (pcs [] s))] ρ w1 ∧ RJI s x) (fun x => 10 - x.i) (RJS.mk 8 f)), .block 0, (sq33 pAR13)], [(0, .so (mkB s)), (2, .lp 0 0), (4, .sl (some b) 20 cB), (5, .lp 1 0), (6, .v (.int .i64 9))], [(zAR2, 25), ([.io .i64 (f 0), .io .i64 (f 1), .io .i64 (f 2), .io .i64 (f 3), .io .i64 (f 4), .io .i64 (f 5), .io .i64 (f 6), .io .i64 (f 7), .io .i64 x, .io .i64 (f 9)], 105)]⟩ ?_
  refine At.canonT [6] _ rfl ?_
  refine At.canL _ rfl ?_
  refine At.next (σ := RJS) ⟨8 + 1, fun j => if j = 8 then x else f j⟩ rfl rfl (by unfold subFr; kernel_rfl) (by kernel_rfl) (fun ρ a' w' hi' hf => ⟨hf, rji_step ⟨h1, h2, h3⟩ (by decide) hpw (hst)⟩) ?_
  show 10 - (8 + 1) < 10 - 8
  decide
 refine zR 20 b0 ?_
 refine zT Rws.stable Rws.fewer [0, 2, 11, 94] 3 ⟨pops B33 [1, 1, 1, 1, 1, 1, 0] 1, [(sq33 [1, 1, 1, 1, 1, 1, 1])], [(0, .so (mkB s)), (2, .lp 0 0), (11, .lp 2 0), (94, .agg [.io .i64 (f 0), .io .i64 (f 1), .io .i64 (f 2), .io .i64 (f 3), .io .i64 (f 4), .io .i64 (f 5), .io .i64 (f 6), .io .i64 (f 7), .io .i64 (f 8), .bo (f 9 == 1)])], [(zAR2, 25), ([.io .i64 (f 0), .io .i64 (f 1), .io .i64 (f 2), .io .i64 (f 3), .io .i64 (f 4), .io .i64 (f 5), .io .i64 (f 6), .io .i64 (f 7), .io .i64 (f 8), .io .i64 (f 9)], 105), ([.io .i64 (f 0), .io .i64 (f 1), .io .i64 (f 2), .io .i64 (f 3), .io .i64 (f 4), .io .i64 (f 5), .io .i64 (f 6), .io .i64 (f 7), .io .i64 (f 8), .bo (f 9 == 1)], 25)]⟩ ?_
 have hi : i = 10 := by have := of_decide_eq_false b0; omega
 subst hi
 clear b0
 refine zC Rws.stable 44 [.agg [.io .i64 (f 0), .io .i64 (f 1), .io .i64 (f 2), .io .i64 (f 3), .io .i64 (f 4), .io .i64 (f 5), .io .i64 (f 6), .io .i64 (f 7), .io .i64 (f 8), .bo (f 9 == 1)]] (.bo (decide (jobK (f 0) (f 1) (f 2) (f 3) (f 4) (f 5) (f 6) (f 7) (f 8)))) (fun _ _ w1 _ _ => rjob_any (f 0) (f 1) (f 2) (f 3) (f 4) (f 5) (f 6) (f 7) (f 8) (f 9 == 1) w1) ?_
 refine zTq Rws.stable Rws.fewer [0, 2, 11, 98] 3 ?_
 rcases zB (!decide (jobK (f 0) (f 1) (f 2) (f 3) (f 4) (f 5) (f 6) (f 7) (f 8))) with b0 | b0
 ·refine zR 98 b0 ?_
  refine zT Rws.stable Rws.fewer [2, 3] 1 ⟨.exit .ret, [], [(2, .lp 0 0), (3, .v (.bool false))], [(zAR1, 25)]⟩ ?_
  refine zE (.tup zAR0) ?_
  have hj : ¬ jobK (f 0) (f 1) (f 2) (f 3) (f 4) (f 5) (f 6) (f 7) (f 8) := by simpa using b0
  intro ρ w9 hm hf
  rw [cfg_no fun c hc => by have h9 := rj_same ⟨h1, h2, h3⟩ hc; subst h9; exact hj ((job_iff _ _ _ _ _ _ _ _ _).2 ((cfgP_iff _ _).1 hc).1)]
  exact ⟨rfl, hm.below⟩
 refine zR 98 b0 ?_
 refine zT Rws.stable Rws.fewer [0, 2, 11, 98, 99] 3 ⟨pops B33 [1, 1, 1, 1, 1, 1, 1, 0, 0] 4, [(sq33 pAR11), (sq33 pAR12)], [(0, .so (mkB s)), (2, .lp 0 0), (11, .lp 2 0), (98, .v (.bool false)), (99, .agg [.io .i64 (f 0), .io .i64 (f 1), .io .i64 (f 2), .io .i64 (f 3), .io .i64 (f 4), .io .i64 (f 5), .io .i64 (f 6), .io .i64 (f 7), .io .i64 (f 8), .bo (f 9 == 1)])], [(zAR2, 25), ([.io .i64 (f 0), .io .i64 (f 1), .io .i64 (f 2), .io .i64 (f 3), .io .i64 (f 4), .io .i64 (f 5), .io .i64 (f 6), .io .i64 (f 7), .io .i64 (f 8), .io .i64 (f 9)], 105), ([.io .i64 (f 0), .io .i64 (f 1), .io .i64 (f 2), .io .i64 (f 3), .io .i64 (f 4), .io .i64 (f 5), .io .i64 (f 6), .io .i64 (f 7), .io .i64 (f 8), .bo (f 9 == 1)], 25)]⟩ ?_
 have hj : jobK (f 0) (f 1) (f 2) (f 3) (f 4) (f 5) (f 6) (f 7) (f 8) := by simpa using b0
 clear b0
 have hwr := (job_iff _ _ _ _ _ _ _ _ _).1 hj
 refine zC Rws.stable 46 [.agg [.io .i64 (f 0), .io .i64 (f 1), .io .i64 (f 2), .io .i64 (f 3), .io .i64 (f 4), .io .i64 (f 5), .io .i64 (f 6), .io .i64 (f 7), .io .i64 (f 8), .bo (f 9 == 1)]] (.so (mkB (textW (f 0) (f 1) (f 2) (f 3) (f 4) (f 5) (f 6) (f 7) (f 8) (f 9 == 1)))) (fun _ _ w1 _ _ => rjobt_go (f 0) (f 1) (f 2) (f 3) (f 4) (f 5) (f 6) (f 7) (f 8) (f 9 == 1) hwr w1) ?_
 refine zTq Rws.stable Rws.fewer [2, 11, 103] 3 ?_
 rcases zB (!(mkB (textW (f 0) (f 1) (f 2) (f 3) (f 4) (f 5) (f 6) (f 7) (f 8) (f 9 == 1))).toList == (mkB s).toList) with b0 | b0
 ·refine zR 103 b0 ?_
  refine zT Rws.stable Rws.fewer [2, 3] 1 ⟨.exit .ret, [], [(2, .lp 0 0), (3, .v (.bool false))], [(zAR1, 25)]⟩ ?_
  refine zE (.tup zAR0) ?_
  have ht : ¬ textW (f 0) (f 1) (f 2) (f 3) (f 4) (f 5) (f 6) (f 7) (f 8) (f 9 == 1) = s := by rw [strB] at b0; simpa using b0
  intro ρ w9 hm hf
  rw [cfg_no fun c hc => by have h9 := rj_same ⟨h1, h2, h3⟩ hc; subst h9; exact ht ((cfgP_iff _ _).1 hc).2]
  exact ⟨rfl, hm.below⟩
 refine zR 103 b0 ?_
 refine zT Rws.stable Rws.fewer [2, 3] 1 ⟨.exit .ret, [], [(2, .lp 0 0), (3, .v (.bool true))], [([.io .i64 (f 0), .io .i64 (f 1), .io .i64 (f 2), .io .i64 (f 3), .io .i64 (f 4), .io .i64 (f 5), .io .i64 (f 6), .io .i64 (f 7), .io .i64 (f 8), .bo (f 9 == 1)], 25)]⟩ ?_
 refine zE (.tup [.agg [.io .i64 (f 0), .io .i64 (f 1), .io .i64 (f 2), .io .i64 (f 3), .io .i64 (f 4), .io .i64 (f 5), .io .i64 (f 6), .io .i64 (f 7), .io .i64 (f 8), .bo (f 9 == 1)], .v (.bool true)]) ?_
 have ht : textW (f 0) (f 1) (f 2) (f 3) (f 4) (f 5) (f 6) (f 7) (f 8) (f 9 == 1) = s := by rw [strB] at b0; simpa using b0
 intro ρ w9 hm hf
 rw [(cfgP_iff s ⟨f 0, f 1, f 2, f 3, f 4, f 5, f 6, f 7, f 8, f 9 == 1⟩).2 ⟨hwr, ht⟩]
 exact ⟨rfl, hm.below⟩
end Go.Proofs.YthfpekhpeiebjaaGreatDoor
end
