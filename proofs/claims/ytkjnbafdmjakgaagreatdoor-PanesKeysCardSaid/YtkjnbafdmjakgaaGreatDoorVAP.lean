/- Joined texts: YD, YE. -/
import Derived.Test.YtkjnbafdmjakgaaGreatDoorVAO
set_option linter.unusedSimpArgs false
set_option linter.unusedVariables false
namespace Go.Sx
open Go
def pAP0 : List Nat := [1, 1, 0, 1, 4, 4, 1, 0, 4, 1, 0, 4, 4, 0, 1]
def pAP1 : List Nat := [1, 1, 0, 1, 4, 4, 1, 0, 4, 1, 1, 1, 1, 1, 0]
def pAP2 : List Nat := [1, 1, 0, 1, 4, 4, 1, 0, 4, 1, 1, 1, 1, 1, 1]
def pAP3 : List Nat := [1, 1, 0, 1, 4, 4, 1, 0, 4, 1, 0, 4, 4, 1]
def pAP4 : List Nat := [1, 1, 0, 1, 4, 4, 1, 0, 4, 1, 1, 1, 1, 0]
def pAP5 : List Nat := [1, 1, 0, 1, 4, 4, 1, 0, 4, 1, 1, 1, 1, 1]
def pAP6 : List Nat := [1, 1, 0, 1, 4, 4, 1, 0, 4, 1, 1, 0, 1]
def pAP7 : List Nat := [1, 1, 0, 1, 4, 4, 1, 0, 4, 1, 1, 1]
def pAP8 : List Nat := [1, 1, 0, 1, 4, 4, 1, 0, 4, 1, 1]
def pAP9 : List Nat := [1, 1, 0, 1, 4, 4, 1, 1]
def pAP10 : List Nat := [1, 1, 1]
end Go.Sx
section
namespace Go.Proofs.YtkjnbafdmjakgaaGreatDoor
open Go.RowKit Go.Sx
theorem subA_none {A : Option Addr} {n c k : Nat} (hA : 0 < n → ∃ a, A = some a) (hnc : n ≤ c) (h : subA A c k 1 = none) : n - k = 0 := by
 unfold subA at h
 split at h
 ·omega
 rcases Nat.eq_zero_or_pos n with h0 | h0
 ·omega
 obtain ⟨a, rfl⟩ := hA h0
 cases h
theorem subA_src {A : Option Addr} {n c k : Nat} {ks : List (List UInt8)} {b : Addr} {w : World} (hA : A = none ∨ ∃ g, A = some ⟨g, 0, none⟩) (hb : subA A c k 1 = some b) (hs : ∀ a, A = some a → Src w a (svK ks)) (hn : n = ks.length) (hnc : n ≤ c) : Src w b (svK (ks.drop k)) := by
 unfold subA at hb
 split at hb
 ·rename_i h
  rw [List.drop_eq_nil_of_le (by omega)]
  intro j u hj
  cases hj
 rcases hA with rfl | ⟨g, rfl⟩
 ·cases hb
 injection hb with hb
 subst hb
 intro j u hj
 rw [add_add, Nat.mul_one]
 refine hs _ rfl _ _ ?_
 unfold svK at *
 rw [List.map_drop] at hj
 rwa [← List.getElem?_drop]
structure QKY where
 i : Nat
 A : Option Addr
 n : Nat
 c : Nat
def frQKY (Al : Option Addr) (nl cl : Nat) : QKY → Fr
 | ⟨i, A, n, c⟩ => [(0, .sl Al nl cl), (3, .sl A n c), (4, .io .i64 (i : Int))]
def locQKY (_ : QKY) : Sx.Loc := []
def GQKY (w0 : World) (ls : List Pn) : QKY → List Nat → World → Prop
 | ⟨i, A, n, c⟩, ρ, w => Rws w0.heap.size [⟨9, 1, A, n, c, svK (rkeyL (ls.take i))⟩] ρ w ∧ (i ≤ ls.length ∧ n = (rkeyL (ls.take i)).length)
def frQKI (al : Addr) (nl cl : Nat) (A : Option Addr) (n c i : Nat) (k : Nat) : Fr := [(0, .sl (some al) nl cl), (3, .sl A n c), (4, .io .i64 (i : Int)), (5, .io .i64 (k : Int))]
def locQKI (_ : Nat) : Sx.Loc := []
def GQKI (w0 : World) (A : Option Addr) (n c : Nat) (ks : List (List UInt8)) (key : List UInt8) (k : Nat) (ρ : List Nat) (w : World) : Prop :=
 Rws w0.heap.size [⟨9, 1, A, n, c, svK ks⟩] ρ w ∧ (k ≤ n ∧ ∀ j x, j < k → ks[j]? = some x → cmp1 x key < 0)
noncomputable def B33 : Code := (Tryz.f33.body).getD .skip
set_option maxHeartbeats 20000000 in
set_option maxRecDepth 100000 in
theorem rkeys_any {Al : Option Addr} {nl cl : Nat} {ls : List Pn} (w : World) (hl : SlP w Al nl ls) (hbig : nl ≤ 200) :
  Calls Tryz.prog 33 #[.slice Al nl cl] w fun e w' => ∃ A c, e = .returned (.slice A (rkeyL ls).length c) ∧ RowF w (fun _ => False) [] w.heap.size 9 1 A (rkeyL ls).length c (svK (rkeyL ls)) [] w' := by
 have hnl := hl.1
 refine enter (fn := Tryz.f33) (c := B33) [.sl Al nl cl] Tryz.func33 rfl rfl ?_
 refine zN [0, 3, 4] 0 ⟨.code (sub B33 [1, 1, 0, 1, 4]), [.block 0, .seq (sub B33 pAP10)], [(0, .sl Al nl cl), (3, .v (.slice none 0 0)), (4, .v (.int .i64 0))], []⟩ ?_
 refine At.canon _ rfl ?_
 refine At.slFr _ rfl ?_
 refine At.loop (σ := QKY) (sub B33 [1, 1, 0, 1, 4, 4]) (frQKY Al nl cl) locQKY (GQKY w ls) (fun x => nl - x.i) ⟨0, none, 0, 0⟩ (by kernel_rfl) (by unfold subFr; kernel_rfl) (by kernel_rfl) (fun _ _ _ _ h => ⟨Rws.nil (Rws.none _ _ _) 9 1, Nat.zero_le _, rfl⟩) ?_
 rintro ⟨i, A, n, c⟩
 refine At.pure fun ⟨h1, h2⟩ => ?_
 refine zTq Rws.stable Rws.fewer [0, 3, 4, 10] 0 ?_
 rcases Bool.eq_false_or_eq_true (decide ((↑i : Int) < (↑nl : Int))) with b0 | b0
 ·refine zR 10 b0 ?_
  refine zT Rws.stable Rws.fewer [0, 3, 4, 5] 0 ⟨.code (sub B33 [1, 1, 0, 1, 4, 4, 1, 0, 4, 1, 0, 4]), [.block 2, .seq (sub B33 pAP8), .block 1, .seq (sub B33 pAP9), .next (Sx.Next w.heap.size w Tryz.f33.ntmps (frQKY Al nl cl) locQKY (GQKY w ls) (fun x => nl - x.i) (QKY.mk i A n c)), .block 0, .seq (sub B33 pAP10)], [(0, .sl Al nl cl), (3, .sl A n c), (4, .io .i64 (↑i : Int)), (5, .v (.int .i64 0))], []⟩ ?_
  have hi : i < nl := by have := of_decide_eq_true b0; omega
  clear b0
  obtain ⟨q, hq⟩ : ∃ q, ls[i]? = some q := ⟨_, List.getElem?_eq_getElem (by rw [hl.1]; exact hi)⟩
  obtain ⟨al, rfl⟩ := hl.some (by omega)
  have hsn := fun j h1 h2 h3 => rkeyL_snoc (ls.take i) q j h1 h2 h3
  have hkl := rkeyL_len (ls.take i)
  rw [List.length_take] at hkl
  rw [take_snoc hq] at hsn
  obtain ⟨ks, hks⟩ : ∃ ks, rkeyL (ls.take i) = ks := ⟨_, rfl⟩
  simp only [hks] at hsn hkl h2 ⊢
  refine At.know (p := A = none ∨ ∃ g, A = some ⟨g, 0, none⟩) (fun ρ w1 hf => hf.shape (List.mem_singleton.2 rfl)) fun hA => ?_
  refine At.know (p := 0 < n → ∃ a, A = some a) (fun ρ w1 hf hn => hf.some (List.mem_singleton.2 rfl) hn) fun hA2 => ?_
  refine At.know (p := n ≤ c) (fun ρ w1 hf => hf.cap (x := ⟨9, 1, A, n, c, svK ks⟩) (List.mem_singleton.2 rfl)) fun hnc => ?_
  refine At.canon _ rfl ?_
  refine At.slFr _ rfl ?_
  refine At.loop (σ := Nat) (sub B33 [1, 1, 0, 1, 4, 4, 1, 0, 4, 1, 0, 4, 4]) (frQKI al nl cl A n c i) locQKI (GQKI w A n c ks q.key) (fun k => n - k) 0 (by kernel_rfl) (by unfold subFr; kernel_rfl) (by kernel_rfl) (fun _ _ _ _ h => ⟨h, Nat.zero_le _, fun j x hj => absurd hj (Nat.not_lt_zero _)⟩) ?_
  intro k
  refine At.pure fun ⟨hk, hlow⟩ => ?_
  refine zTq Rws.stable Rws.fewer [0, 3, 4, 5, 17] 0 ?_
  rcases Bool.eq_false_or_eq_true (decide ((↑k : Int) < (↑n : Int))) with b0 | b0
  ·refine zR 17 b0 ?_
   refine zT Rws.stable Rws.fewer [0, 3, 4, 5, 17, 18, 19] 0 ⟨pqops B33 [1, 1, 0, 1, 4, 4, 1, 0, 4, 1, 0, 4, 4, 0, 0] 7, [.seq (sub B33 pAP0), .seq (sub B33 pAP3), .next (Sx.Next w.heap.size w Tryz.f33.ntmps (frQKI al nl cl A n c i) locQKI (GQKI w A n c ks q.key) (fun k => n - k) k), .block 2, .seq (sub B33 pAP8), .block 1, .seq (sub B33 pAP9), .next (Sx.Next w.heap.size w Tryz.f33.ntmps (frQKY (some al) nl cl) locQKY (GQKY w ls) (fun x => nl - x.i) (QKY.mk i A n c)), .block 0, .seq (sub B33 pAP10)], [(0, .sl (some al) nl cl), (3, .sl A n c), (4, .io .i64 (↑i : Int)), (5, .io .i64 (↑k : Int)), (17, .v (.bool true)), (18, .sl A n c), (19, .io .i64 (↑k : Int))], []⟩ ?_
   have hkn : k < n := by have := of_decide_eq_true b0; omega
   clear b0
   obtain ⟨y, hy⟩ : ∃ y, ks[k]? = some y := ⟨_, List.getElem?_eq_getElem (by omega)⟩
   obtain ⟨ka, rfl⟩ := hA2 (by omega)
   have hY : ∀ {ρ : List Nat} {w1 : World}, Rws w.heap.size [⟨9, 1, some ka, n, c, svK ks⟩] ρ w1 → w1.cell? (ka.add ((k : Int).toNat * 1)) = some (.string (mkB y)) := fun hf => hf.src (List.mem_singleton.2 rfl) rfl _ _ (by rw [Int.toNat_natCast, Nat.mul_one]; simp [svK, hy])
   refine At.idx ka n 1 (k : Int) (by kernel_rfl) (by omega) (by omega) Rws.stable ?_
   let kn0 : Go.Sx.K := .next (Sx.Next w.heap.size w Tryz.f33.ntmps (frQKI al nl cl (some ka) n c i) locQKI (GQKI w (some ka) n c ks q.key) (fun k => n - k) k)
   let kn1 : Go.Sx.K := .next (Sx.Next w.heap.size w Tryz.f33.ntmps (frQKY (some al) nl cl) locQKY (GQKY w ls) (fun x => nl - x.i) (QKY.mk i (some ka) n c))
   refine zT Rws.stable Rws.fewer [0, 3, 4, 5, 17, 20] 0 ⟨pqops B33 [1, 1, 0, 1, 4, 4, 1, 0, 4, 1, 0, 4, 4, 0, 0] 8, [.seq (sub B33 pAP0), .seq (sub B33 pAP3), kn0, .block 2, .seq (sub B33 pAP8), .block 1, .seq (sub B33 pAP9), kn1, .block 0, .seq (sub B33 pAP10)], [(0, .sl (some al) nl cl), (3, .sl (some ka) n c), (4, .io .i64 (↑i : Int)), (5, .io .i64 (↑k : Int)), (17, .v (.bool true)), (20, .v (.pointer (some (ka.add ((↑k : Int).toNat * 1)))))], []⟩ ?_
   refine At.ldx (ka.add ((k : Int).toNat * 1)) (.so (mkB y)) (by kernel_rfl) Rws.stable (fun ρ w1 hm' hf => hY hf) ?_
   refine zT Rws.stable Rws.fewer [0, 3, 4, 5, 17, 21, 22, 23] 0 ⟨pqops B33 [1, 1, 0, 1, 4, 4, 1, 0, 4, 1, 0, 4, 4, 0, 0] 11, [.seq (sub B33 pAP0), .seq (sub B33 pAP3), kn0, .block 2, .seq (sub B33 pAP8), .block 1, .seq (sub B33 pAP9), kn1, .block 0, .seq (sub B33 pAP10)], [(0, .sl (some al) nl cl), (3, .sl (some ka) n c), (4, .io .i64 (↑i : Int)), (5, .io .i64 (↑k : Int)), (17, .v (.bool true)), (21, .so (mkB y)), (22, .sl (some al) nl cl), (23, .io .i64 (↑i : Int))], []⟩ ?_
   refine At.idx al nl 9 (i : Int) (by kernel_rfl) (by omega) (by omega) Rws.stable ?_
   refine zT Rws.stable Rws.fewer [0, 3, 4, 5, 17, 21, 24] 0 ⟨pqops B33 [1, 1, 0, 1, 4, 4, 1, 0, 4, 1, 0, 4, 4, 0, 0] 12, [.seq (sub B33 pAP0), .seq (sub B33 pAP3), kn0, .block 2, .seq (sub B33 pAP8), .block 1, .seq (sub B33 pAP9), kn1, .block 0, .seq (sub B33 pAP10)], [(0, .sl (some al) nl cl), (3, .sl (some ka) n c), (4, .io .i64 (↑i : Int)), (5, .io .i64 (↑k : Int)), (17, .v (.bool true)), (21, .so (mkB y)), (24, .v (.pointer (some (al.add ((↑i : Int).toNat * 9)))))], []⟩ ?_
   refine At.fax (al.add ((i : Int).toNat * 9)) 0 (by kernel_rfl) Rws.stable ?_
   refine zT Rws.stable Rws.fewer [0, 3, 4, 5, 17, 21, 25] 0 ⟨pqops B33 [1, 1, 0, 1, 4, 4, 1, 0, 4, 1, 0, 4, 4, 0, 0] 13, [.seq (sub B33 pAP0), .seq (sub B33 pAP3), kn0, .block 2, .seq (sub B33 pAP8), .block 1, .seq (sub B33 pAP9), kn1, .block 0, .seq (sub B33 pAP10)], [(0, .sl (some al) nl cl), (3, .sl (some ka) n c), (4, .io .i64 (↑i : Int)), (5, .io .i64 (↑k : Int)), (17, .v (.bool true)), (21, .so (mkB y)), (25, .v (.pointer (some ((al.add ((↑i : Int).toNat * 9)).add 0))))], []⟩ ?_
   refine At.ldx ((al.add ((i : Int).toNat * 9)).add 0) (.so (mkB q.key)) (by kernel_rfl) Rws.stable (fun ρ w1 hm' hf => hl.cell hm'.below hq (j := 0) rfl) ?_
   refine zTq Rws.stable Rws.fewer [0, 3, 4, 5, 28] 0 ?_
   rcases Bool.eq_false_or_eq_true (Op.bytesLess (mkB y).toList (mkB q.key).toList) with b0 | b0
   ·refine zR 28 b0 ?_
    refine zT Rws.stable Rws.fewer [0, 3, 4, 5] 0 ⟨.exit .normal, [.next (Sx.Next w.heap.size w Tryz.f33.ntmps (frQKI al nl cl (some ka) n c i) locQKI (GQKI w (some ka) n c ks q.key) (fun k => n - k) k), .block 2, .seq (sub B33 pAP8), .block 1, .seq (sub B33 pAP9), kn1, .block 0, .seq (sub B33 pAP10)], [(0, .sl (some al) nl cl), (3, .sl (some ka) n c), (4, .io .i64 (↑i : Int)), (5, .io .i64 (IntKind.i64.wrap ((↑k : Int) + 1)))], []⟩ ?_
    have hw3 : IntKind.i64.wrap ((k : Int) + 1) = ((k + 1 : Nat) : Int) := by
     rw [wrap63 (by omega) (by omega)]
     omega
    rw [hw3]
    refine At.next (σ := Nat) (k + 1) rfl rfl (by unfold subFr; kernel_rfl) (by kernel_rfl) (fun ρ a' w' hi' hf => ⟨hf, by omega, fun j x hj hx => ?_⟩) ?_
    ·rcases Nat.lt_or_ge j k with h | h
     ·exact hlow j x h hx
     have : j = k := by omega
     subst this
     rw [hy] at hx
     injection hx with hx
     subst hx
     rw [cmp1_lt]
     rw [mkB_list, mkB_list] at b0
     exact b0
    show n - (k + 1) < n - k
    omega
   refine zR 28 b0 ?_
   refine zT Rws.stable Rws.fewer [0, 3, 4, 5, 35] 0 ⟨pqops B33 [1, 1, 0, 1, 4, 4, 1, 0, 4, 1, 1, 0, 0] 5, [.seq (sub B33 pAP6), .seq (sub B33 pAP7), .block 1, .seq (sub B33 pAP9), kn1, .block 0, .seq (sub B33 pAP10)], [(0, .sl (some al) nl cl), (3, .sl (some ka) n c), (4, .io .i64 (↑i : Int)), (5, .io .i64 (↑k : Int)), (35, .bo (decide ((↑k : Int) < (↑n : Int))))], []⟩ ?_
   rcases Bool.eq_false_or_eq_true (decide ((↑k : Int) < (↑n : Int))) with b1 | b1
   ·refine zR 35 b1 ?_
    refine zT Rws.stable Rws.fewer [0, 3, 4, 5, 35, 36, 37] 0 ⟨pqops B33 [1, 1, 0, 1, 4, 4, 1, 0, 4, 1, 1, 0, 0] 7, [.seq (sub B33 pAP6), .seq (sub B33 pAP7), .block 1, .seq (sub B33 pAP9), kn1, .block 0, .seq (sub B33 pAP10)], [(0, .sl (some al) nl cl), (3, .sl (some ka) n c), (4, .io .i64 (↑i : Int)), (5, .io .i64 (↑k : Int)), (35, .v (.bool true)), (36, .sl (some ka) n c), (37, .io .i64 (↑k : Int))], []⟩ ?_
    have hno : ∀ x, ks[k]? = some x → ¬ cmp1 x q.key < 0 := fun x hx => by
     rw [hy] at hx
     injection hx with hx
     subst hx
     rw [cmp1_lt]
     rw [mkB_list, mkB_list] at b0
     rw [b0]
     decide
    clear b0 b1
    refine At.idx ka n 1 (k : Int) (by kernel_rfl) (by omega) (by omega) Rws.stable ?_
    refine zT Rws.stable Rws.fewer [0, 3, 4, 5, 35, 38] 0 ⟨pqops B33 [1, 1, 0, 1, 4, 4, 1, 0, 4, 1, 1, 0, 0] 8, [.seq (sub B33 pAP6), .seq (sub B33 pAP7), .block 1, .seq (sub B33 pAP9), kn1, .block 0, .seq (sub B33 pAP10)], [(0, .sl (some al) nl cl), (3, .sl (some ka) n c), (4, .io .i64 (↑i : Int)), (5, .io .i64 (↑k : Int)), (35, .v (.bool true)), (38, .v (.pointer (some (ka.add ((↑k : Int).toNat * 1)))))], []⟩ ?_
    refine At.ldx (ka.add ((k : Int).toNat * 1)) (.so (mkB y)) (by kernel_rfl) Rws.stable (fun ρ w1 hm' hf => hY hf) ?_
    refine zT Rws.stable Rws.fewer [0, 3, 4, 5, 35, 39, 40, 41] 0 ⟨pqops B33 [1, 1, 0, 1, 4, 4, 1, 0, 4, 1, 1, 0, 0] 11, [.seq (sub B33 pAP6), .seq (sub B33 pAP7), .block 1, .seq (sub B33 pAP9), kn1, .block 0, .seq (sub B33 pAP10)], [(0, .sl (some al) nl cl), (3, .sl (some ka) n c), (4, .io .i64 (↑i : Int)), (5, .io .i64 (↑k : Int)), (35, .v (.bool true)), (39, .so (mkB y)), (40, .sl (some al) nl cl), (41, .io .i64 (↑i : Int))], []⟩ ?_
    refine At.idx al nl 9 (i : Int) (by kernel_rfl) (by omega) (by omega) Rws.stable ?_
    refine zT Rws.stable Rws.fewer [0, 3, 4, 5, 35, 39, 42] 0 ⟨pqops B33 [1, 1, 0, 1, 4, 4, 1, 0, 4, 1, 1, 0, 0] 12, [.seq (sub B33 pAP6), .seq (sub B33 pAP7), .block 1, .seq (sub B33 pAP9), kn1, .block 0, .seq (sub B33 pAP10)], [(0, .sl (some al) nl cl), (3, .sl (some ka) n c), (4, .io .i64 (↑i : Int)), (5, .io .i64 (↑k : Int)), (35, .v (.bool true)), (39, .so (mkB y)), (42, .v (.pointer (some (al.add ((↑i : Int).toNat * 9)))))], []⟩ ?_
    refine At.fax (al.add ((i : Int).toNat * 9)) 0 (by kernel_rfl) Rws.stable ?_
    refine zT Rws.stable Rws.fewer [0, 3, 4, 5, 35, 39, 43] 0 ⟨pqops B33 [1, 1, 0, 1, 4, 4, 1, 0, 4, 1, 1, 0, 0] 13, [.seq (sub B33 pAP6), .seq (sub B33 pAP7), .block 1, .seq (sub B33 pAP9), kn1, .block 0, .seq (sub B33 pAP10)], [(0, .sl (some al) nl cl), (3, .sl (some ka) n c), (4, .io .i64 (↑i : Int)), (5, .io .i64 (↑k : Int)), (35, .v (.bool true)), (39, .so (mkB y)), (43, .v (.pointer (some ((al.add ((↑i : Int).toNat * 9)).add 0))))], []⟩ ?_
    refine At.ldx ((al.add ((i : Int).toNat * 9)).add 0) (.so (mkB q.key)) (by kernel_rfl) Rws.stable (fun ρ w1 hm' hf => hl.cell hm'.below hq (j := 0) rfl) ?_
    refine zTq Rws.stable Rws.fewer [0, 3, 4, 5, 46] 0 ?_
    rcases Bool.eq_false_or_eq_true ((mkB y).toList == (mkB q.key).toList) with b0 | b0
    ·refine zR 46 b0 ?_
     refine zT Rws.stable Rws.fewer [0, 3, 4, 5] 0 ⟨.exit .normal, [kn1, .block 0, .seq (sub B33 pAP10)], [(0, .sl (some al) nl cl), (3, .sl (some ka) n c), (4, .io .i64 (IntKind.i64.wrap ((↑i : Int) + 1))), (5, .io .i64 (↑k : Int))], []⟩ ?_
     rw [str_beq] at b0
     have hyk : y = q.key := of_decide_eq_true b0
     subst hyk
     have hs9 := hsn k (by omega) hlow hno
     rw [if_pos hy] at hs9
     have hw3 : IntKind.i64.wrap ((i : Int) + 1) = ((i + 1 : Nat) : Int) := by
      rw [wrap63 (by omega) (by omega)]
      omega
     rw [hw3]
     refine At.next (σ := QKY) ⟨i + 1, (some ka), n, c⟩ rfl rfl (by unfold subFr; kernel_rfl) (by kernel_rfl) (fun ρ a' w' hi' hf => ⟨?_, by omega, ?_⟩) ?_
     ·rw [hs9]
      exact hf
     ·rw [hs9]
      exact h2
     show nl - (i + 1) < nl - i
     omega
    refine zR 46 b0 ?_
    refine zT Rws.stable Rws.fewer [0, 3, 4, 5, 47, 48, 49] 0 ⟨pops B33 pAP4 3, [.seq (sub B33 pAP5), .block 1, .seq (sub B33 pAP9), kn1, .block 0, .seq (sub B33 pAP10)], [(0, .sl (some al) nl cl), (3, .sl (some ka) n c), (4, .io .i64 (↑i : Int)), (5, .io .i64 (↑k : Int)), (47, .v (.slice none 0 0)), (48, .sl (some ka) n c), (49, .io .i64 (↑k : Int))], []⟩ ?_
    rw [str_beq] at b0
    have hyk : ¬ y = q.key := of_decide_eq_false b0
    clear b0
    refine At.mono (F' := Rws w.heap.size [⟨9, 1, none, 0, 0, []⟩, ⟨9, 1, (some ka), n, c, svK ks⟩]) (fun ρ w1 h => h.nil 9 1) ?_
    refine At.slx (some ka) n c none (k : Int) 1 (.sl (some ka) k c) (by kernel_rfl) Rws.stable (by decide) (by simp) (fun ρ w1 hm hf => ⟨by omega, ?_⟩) ?_
    ·show Value.slice (some ka) k c = .slice (if c = 0 then (some ka) else ((some ka)).map (·.add (0 * 1))) ((k : Int).toNat - 0) (c - 0)
     rw [addZ (some ka) c 1 hA, Int.toNat_natCast]
     rfl
    refine zT Rws.stable Rws.fewer [0, 3, 4, 5, 47, 50] 0 ⟨pops B33 pAP4 4, [.seq (sub B33 pAP5), .block 1, .seq (sub B33 pAP9), kn1, .block 0, .seq (sub B33 pAP10)], [(0, .sl (some al) nl cl), (3, .sl (some ka) n c), (4, .io .i64 (↑i : Int)), (5, .io .i64 (↑k : Int)), (47, .v (.slice none 0 0)), (50, .sl (some ka) k c)], []⟩ ?_
    refine At.appR 9 1 16 none 0 0 (some ka) k c [] (svK (ks.take k)) [⟨9, 1, (some ka), n, c, svK ks⟩] (by kernel_rfl) (by simp [svK]; omega) (svK_one _) (fun h => ?_) (fun b hb ρ w1 hm hf => ?_) (by omega) (by simp only [maxLen]; omega) (fun A1 c1 hc1 => ?_)
    ·rcases Nat.eq_zero_or_pos n with h0 | h0
     ·omega
     obtain ⟨a9, ha9⟩ := hA2 h0
     rw [ha9] at h
     cases h
    ·refine src_pre (ys := svK (ks.drop k)) ?_
     rw [show svK (ks.take k) ++ svK (ks.drop k) = svK ks by unfold svK; rw [← List.map_append, List.take_append_drop]]
     exact hf.src (List.mem_cons_of_mem _ (List.mem_singleton.2 rfl)) hb
    rw [Nat.zero_add, List.nil_append]
    let kn2 : Go.Sx.K := .next (Sx.Next w.heap.size w Tryz.f33.ntmps (frQKY (some al) nl cl) locQKY (GQKY w ls) (fun x => nl - x.i) (QKY.mk i (some ka) n c))
    refine zT Rws.stable Rws.fewer [0, 3, 4, 5, 52, 53, 54] 0 ⟨pops B33 pAP1 3, [.seq (sub B33 pAP2), .block 1, .seq (sub B33 pAP9), kn2, .block 0, .seq (sub B33 pAP10)], [(0, .sl (some al) nl cl), (3, .sl (some ka) n c), (4, .io .i64 (↑i : Int)), (5, .io .i64 (↑k : Int)), (52, .sl A1 k c1), (53, .sl (some al) nl cl), (54, .io .i64 (↑i : Int))], []⟩ ?_
    refine At.idx al nl 9 (i : Int) (by kernel_rfl) (by omega) (by omega) Rws.stable ?_
    refine zT Rws.stable Rws.fewer [0, 3, 4, 5, 52, 55] 0 ⟨pops B33 pAP1 4, [.seq (sub B33 pAP2), .block 1, .seq (sub B33 pAP9), kn2, .block 0, .seq (sub B33 pAP10)], [(0, .sl (some al) nl cl), (3, .sl (some ka) n c), (4, .io .i64 (↑i : Int)), (5, .io .i64 (↑k : Int)), (52, .sl A1 k c1), (55, .v (.pointer (some (al.add ((↑i : Int).toNat * 9)))))], []⟩ ?_
    refine At.fax (al.add ((i : Int).toNat * 9)) 0 (by kernel_rfl) Rws.stable ?_
    refine zT Rws.stable Rws.fewer [0, 3, 4, 5, 52, 56] 0 ⟨pops B33 pAP1 5, [.seq (sub B33 pAP2), .block 1, .seq (sub B33 pAP9), kn2, .block 0, .seq (sub B33 pAP10)], [(0, .sl (some al) nl cl), (3, .sl (some ka) n c), (4, .io .i64 (↑i : Int)), (5, .io .i64 (↑k : Int)), (52, .sl A1 k c1), (56, .v (.pointer (some ((al.add ((↑i : Int).toNat * 9)).add 0))))], []⟩ ?_
    refine At.ldx ((al.add ((i : Int).toNat * 9)).add 0) (.so (mkB q.key)) (by kernel_rfl) Rws.stable (fun ρ w1 hm' hf => hl.cell hm'.below hq (j := 0) rfl) ?_
    refine zT Rws.stable Rws.fewer [0, 3, 4, 5, 52, 58] 1 ⟨pops B33 pAP1 7, [.seq (sub B33 pAP2), .block 1, .seq (sub B33 pAP9), kn2, .block 0, .seq (sub B33 pAP10)], [(0, .sl (some al) nl cl), (3, .sl (some ka) n c), (4, .io .i64 (↑i : Int)), (5, .io .i64 (↑k : Int)), (52, .sl A1 k c1), (58, .ls 0 0 1 1)], [([.so (mkB q.key)], 9)]⟩ ?_
    refine At.appV 69 9 1 16 A1 k c1 1 [.so (mkB q.key)] (svK (ks.take k)) [.string (mkB q.key)] [⟨9, 1, (some ka), n, c, svK ks⟩] (by kernel_rfl) (fun _ => rfl) (by omega) (by simp only [maxLen]; omega) (fun A2 c2 hc2 => ?_)
    refine zT Rws.stable Rws.fewer [0, 4, 5, 6, 60, 61, 62] 0 ⟨pops B33 pAP2 3, [.block 1, .seq (sub B33 pAP9), kn2, .block 0, .seq (sub B33 pAP10)], [(0, .sl (some al) nl cl), (4, .io .i64 (↑i : Int)), (5, .io .i64 (↑k : Int)), (6, .sl A2 (k + 1) c2), (60, .sl A2 (k + 1) c2), (61, .sl (some ka) n c), (62, .io .i64 (↑k : Int))], []⟩ ?_
    refine At.slG (some ka) n c (k : Int) 1 (.sl (subA (some ka) c k 1) (n - k) (c - k)) (by kernel_rfl) Rws.stable (by omega) (by omega) (fun ρ => by rw [Int.toNat_natCast]; rfl) ?_
    refine zT Rws.stable Rws.fewer [0, 4, 5, 6, 60, 63] 0 ⟨pops B33 pAP2 4, [.block 1, .seq (sub B33 pAP9), kn2, .block 0, .seq (sub B33 pAP10)], [(0, .sl (some al) nl cl), (4, .io .i64 (↑i : Int)), (5, .io .i64 (↑k : Int)), (6, .sl A2 (k + 1) c2), (60, .sl A2 (k + 1) c2), (63, .sl (subA (some ka) c k 1) (n - k) (c - k))], []⟩ ?_
    refine At.appR 9 1 16 A2 (k + 1) c2 (subA (some ka) c k 1) (n - k) (c - k) (svK (ks.take k) ++ [.string (mkB q.key)]) (svK (ks.drop k)) [⟨9, 1, (some ka), n, c, svK ks⟩] (by kernel_rfl) (by simp [svK]; omega) (svK_one _) (fun h => ?_) (fun b hb ρ w1 hm hf => ?_) (by omega) (by simp only [maxLen]; omega) (fun A3 c3 hc3 => ?_)
    ·exact subA_none (n := n) hA2 hnc h
    ·exact subA_src hA hb (fun a ha => hf.src (x := ⟨9, 1, (some ka), n, c, svK ks⟩) (List.mem_cons_of_mem _ (List.mem_singleton.2 rfl)) ha) (by omega) hnc
    refine zT Rws.stable Rws.fewer [0, 3, 4, 5, 6] 0 ⟨.exit .normal, [kn2, .block 0, .seq (sub B33 pAP10)], [(0, .sl (some al) nl cl), (3, .sl A3 (k + 1 + (n - k)) c3), (4, .io .i64 (IntKind.i64.wrap ((↑i : Int) + 1))), (5, .io .i64 (↑k : Int)), (6, .sl A2 (k + 1) c2)], []⟩ ?_
    have hnk : ¬ ks[k]? = some q.key := fun e => by
     rw [hy] at e
     injection e with e
     exact hyk e
    have hs9 := hsn k (by omega) hlow hno
    rw [if_neg hnk] at hs9
    have hw3 : IntKind.i64.wrap ((i : Int) + 1) = ((i + 1 : Nat) : Int) := by
     rw [wrap63 (by omega) (by omega)]
     omega
    rw [hw3]
    refine At.next (σ := QKY) ⟨i + 1, A3, (k + 1 + (n - k)), c3⟩ rfl rfl (by unfold subFr; kernel_rfl) (by kernel_rfl) (fun ρ a' w' hi' hf => ⟨?_, by omega, ?_⟩) ?_
    ·rw [hs9]
     have h7 : Rws _ [_] _ _ := hf.sub (List.Sublist.cons_cons _ (List.nil_sublist _))
     rw [show svK (ks.take k ++ q.key :: ks.drop k) = svK (ks.take k) ++ [.string (mkB q.key)] ++ svK (ks.drop k) by simp [svK]]
     exact h7
    ·rw [hs9]
     simp
     omega
    show nl - (i + 1) < nl - i
    omega
   refine zR 35 b1 ?_
   refine zT Rws.stable Rws.fewer [0, 3, 4, 5, 47, 48, 49] 0 ⟨pops B33 pAP4 3, [.seq (sub B33 pAP5), .block 1, .seq (sub B33 pAP9), .next (Sx.Next w.heap.size w Tryz.f33.ntmps (frQKY (some al) nl cl) locQKY (GQKY w ls) (fun x => nl - x.i) (QKY.mk i (some ka) n c)), .block 0, .seq (sub B33 pAP10)], [(0, .sl (some al) nl cl), (3, .sl (some ka) n c), (4, .io .i64 (↑i : Int)), (5, .io .i64 (↑k : Int)), (47, .v (.slice none 0 0)), (48, .sl (some ka) n c), (49, .io .i64 (↑k : Int))], []⟩ ?_
   exact absurd (show (k : Int) < (n : Int) by omega) (of_decide_eq_false b1)
  refine zR 17 b0 ?_
  let kn3 : Go.Sx.K := .next (Sx.Next w.heap.size w Tryz.f33.ntmps (frQKY (some al) nl cl) locQKY (GQKY w ls) (fun x => nl - x.i) (QKY.mk i A n c))
  refine zT Rws.stable Rws.fewer [0, 3, 4, 5, 35] 0 ⟨pqops B33 [1, 1, 0, 1, 4, 4, 1, 0, 4, 1, 1, 0, 0] 5, [.seq (sub B33 pAP6), .seq (sub B33 pAP7), .block 1, .seq (sub B33 pAP9), kn3, .block 0, .seq (sub B33 pAP10)], [(0, .sl (some al) nl cl), (3, .sl A n c), (4, .io .i64 (↑i : Int)), (5, .io .i64 (↑k : Int)), (35, .bo (decide ((↑k : Int) < (↑n : Int))))], []⟩ ?_
  refine zR 35 b0 ?_
  refine zT Rws.stable Rws.fewer [0, 3, 4, 5, 47, 48, 49] 0 ⟨pops B33 pAP4 3, [.seq (sub B33 pAP5), .block 1, .seq (sub B33 pAP9), kn3, .block 0, .seq (sub B33 pAP10)], [(0, .sl (some al) nl cl), (3, .sl A n c), (4, .io .i64 (↑i : Int)), (5, .io .i64 (↑k : Int)), (47, .v (.slice none 0 0)), (48, .sl A n c), (49, .io .i64 (↑k : Int))], []⟩ ?_
  have hkn : ¬ k < n := by have := of_decide_eq_false b0; omega
  clear b0
  have hno : ∀ x, ks[k]? = some x → ¬ cmp1 x q.key < 0 := fun x hx => by
   rw [List.getElem?_eq_none (by omega)] at hx
   cases hx
  refine At.mono (F' := Rws w.heap.size [⟨9, 1, none, 0, 0, []⟩, ⟨9, 1, A, n, c, svK ks⟩]) (fun ρ w1 h => h.nil 9 1) ?_
  refine At.slx A n c none (k : Int) 1 (.sl A k c) (by kernel_rfl) Rws.stable (by decide) (by simp) (fun ρ w1 hm hf => ⟨by omega, ?_⟩) ?_
  ·show Value.slice A k c = .slice (if c = 0 then A else (A).map (·.add (0 * 1))) ((k : Int).toNat - 0) (c - 0)
   rw [addZ A c 1 hA, Int.toNat_natCast]
   rfl
  refine zT Rws.stable Rws.fewer [0, 3, 4, 5, 47, 50] 0 ⟨pops B33 pAP4 4, [.seq (sub B33 pAP5), .block 1, .seq (sub B33 pAP9), kn3, .block 0, .seq (sub B33 pAP10)], [(0, .sl (some al) nl cl), (3, .sl A n c), (4, .io .i64 (↑i : Int)), (5, .io .i64 (↑k : Int)), (47, .v (.slice none 0 0)), (50, .sl A k c)], []⟩ ?_
  refine At.appR 9 1 16 none 0 0 A k c [] (svK (ks.take k)) [⟨9, 1, A, n, c, svK ks⟩] (by kernel_rfl) (by simp [svK]; omega) (svK_one _) (fun h => ?_) (fun b hb ρ w1 hm hf => ?_) (by omega) (by simp only [maxLen]; omega) (fun A1 c1 hc1 => ?_)
  ·rcases Nat.eq_zero_or_pos n with h0 | h0
   ·omega
   obtain ⟨a9, ha9⟩ := hA2 h0
   rw [ha9] at h
   cases h
  ·refine src_pre (ys := svK (ks.drop k)) ?_
   rw [show svK (ks.take k) ++ svK (ks.drop k) = svK ks by unfold svK; rw [← List.map_append, List.take_append_drop]]
   exact hf.src (List.mem_cons_of_mem _ (List.mem_singleton.2 rfl)) hb
  rw [Nat.zero_add, List.nil_append]
  let kn4 : Go.Sx.K := .next (Sx.Next w.heap.size w Tryz.f33.ntmps (frQKY (some al) nl cl) locQKY (GQKY w ls) (fun x => nl - x.i) (QKY.mk i A n c))
  refine zT Rws.stable Rws.fewer [0, 3, 4, 5, 52, 53, 54] 0 ⟨pops B33 pAP1 3, [.seq (sub B33 pAP2), .block 1, .seq (sub B33 pAP9), kn4, .block 0, .seq (sub B33 pAP10)], [(0, .sl (some al) nl cl), (3, .sl A n c), (4, .io .i64 (↑i : Int)), (5, .io .i64 (↑k : Int)), (52, .sl A1 k c1), (53, .sl (some al) nl cl), (54, .io .i64 (↑i : Int))], []⟩ ?_
  refine At.idx al nl 9 (i : Int) (by kernel_rfl) (by omega) (by omega) Rws.stable ?_
  refine zT Rws.stable Rws.fewer [0, 3, 4, 5, 52, 55] 0 ⟨pops B33 pAP1 4, [.seq (sub B33 pAP2), .block 1, .seq (sub B33 pAP9), kn4, .block 0, .seq (sub B33 pAP10)], [(0, .sl (some al) nl cl), (3, .sl A n c), (4, .io .i64 (↑i : Int)), (5, .io .i64 (↑k : Int)), (52, .sl A1 k c1), (55, .v (.pointer (some (al.add ((↑i : Int).toNat * 9)))))], []⟩ ?_
  refine At.fax (al.add ((i : Int).toNat * 9)) 0 (by kernel_rfl) Rws.stable ?_
  refine zT Rws.stable Rws.fewer [0, 3, 4, 5, 52, 56] 0 ⟨pops B33 pAP1 5, [.seq (sub B33 pAP2), .block 1, .seq (sub B33 pAP9), kn4, .block 0, .seq (sub B33 pAP10)], [(0, .sl (some al) nl cl), (3, .sl A n c), (4, .io .i64 (↑i : Int)), (5, .io .i64 (↑k : Int)), (52, .sl A1 k c1), (56, .v (.pointer (some ((al.add ((↑i : Int).toNat * 9)).add 0))))], []⟩ ?_
  refine At.ldx ((al.add ((i : Int).toNat * 9)).add 0) (.so (mkB q.key)) (by kernel_rfl) Rws.stable (fun ρ w1 hm' hf => hl.cell hm'.below hq (j := 0) rfl) ?_
  refine zT Rws.stable Rws.fewer [0, 3, 4, 5, 52, 58] 1 ⟨pops B33 pAP1 7, [.seq (sub B33 pAP2), .block 1, .seq (sub B33 pAP9), kn4, .block 0, .seq (sub B33 pAP10)], [(0, .sl (some al) nl cl), (3, .sl A n c), (4, .io .i64 (↑i : Int)), (5, .io .i64 (↑k : Int)), (52, .sl A1 k c1), (58, .ls 0 0 1 1)], [([.so (mkB q.key)], 9)]⟩ ?_
  refine At.appV 69 9 1 16 A1 k c1 1 [.so (mkB q.key)] (svK (ks.take k)) [.string (mkB q.key)] [⟨9, 1, A, n, c, svK ks⟩] (by kernel_rfl) (fun _ => rfl) (by omega) (by simp only [maxLen]; omega) (fun A2 c2 hc2 => ?_)
  refine zT Rws.stable Rws.fewer [0, 4, 5, 6, 60, 61, 62] 0 ⟨pops B33 pAP2 3, [.block 1, .seq (sub B33 pAP9), kn4, .block 0, .seq (sub B33 pAP10)], [(0, .sl (some al) nl cl), (4, .io .i64 (↑i : Int)), (5, .io .i64 (↑k : Int)), (6, .sl A2 (k + 1) c2), (60, .sl A2 (k + 1) c2), (61, .sl A n c), (62, .io .i64 (↑k : Int))], []⟩ ?_
  refine At.slG A n c (k : Int) 1 (.sl (subA A c k 1) (n - k) (c - k)) (by kernel_rfl) Rws.stable (by omega) (by omega) (fun ρ => by rw [Int.toNat_natCast]; rfl) ?_
  refine zT Rws.stable Rws.fewer [0, 4, 5, 6, 60, 63] 0 ⟨pops B33 pAP2 4, [.block 1, .seq (sub B33 pAP9), kn4, .block 0, .seq (sub B33 pAP10)], [(0, .sl (some al) nl cl), (4, .io .i64 (↑i : Int)), (5, .io .i64 (↑k : Int)), (6, .sl A2 (k + 1) c2), (60, .sl A2 (k + 1) c2), (63, .sl (subA A c k 1) (n - k) (c - k))], []⟩ ?_
  refine At.appR 9 1 16 A2 (k + 1) c2 (subA A c k 1) (n - k) (c - k) (svK (ks.take k) ++ [.string (mkB q.key)]) (svK (ks.drop k)) [⟨9, 1, A, n, c, svK ks⟩] (by kernel_rfl) (by simp [svK]; omega) (svK_one _) (fun h => ?_) (fun b hb ρ w1 hm hf => ?_) (by omega) (by simp only [maxLen]; omega) (fun A3 c3 hc3 => ?_)
  ·exact subA_none (n := n) hA2 hnc h
  ·exact subA_src hA hb (fun a ha => hf.src (x := ⟨9, 1, A, n, c, svK ks⟩) (List.mem_cons_of_mem _ (List.mem_singleton.2 rfl)) ha) (by omega) hnc
  refine zT Rws.stable Rws.fewer [0, 3, 4, 5, 6] 0 ⟨.exit .normal, [kn4, .block 0, .seq (sub B33 pAP10)], [(0, .sl (some al) nl cl), (3, .sl A3 (k + 1 + (n - k)) c3), (4, .io .i64 (IntKind.i64.wrap ((↑i : Int) + 1))), (5, .io .i64 (↑k : Int)), (6, .sl A2 (k + 1) c2)], []⟩ ?_
  have hnk : ¬ ks[k]? = some q.key := fun e => by
   rw [List.getElem?_eq_none (by omega)] at e
   cases e
  have hs9 := hsn k (by omega) hlow hno
  rw [if_neg hnk] at hs9
  have hw3 : IntKind.i64.wrap ((i : Int) + 1) = ((i + 1 : Nat) : Int) := by
   rw [wrap63 (by omega) (by omega)]
   omega
  rw [hw3]
  refine At.next (σ := QKY) ⟨i + 1, A3, (k + 1 + (n - k)), c3⟩ rfl rfl (by unfold subFr; kernel_rfl) (by kernel_rfl) (fun ρ a' w' hi' hf => ⟨?_, by omega, ?_⟩) ?_
  ·rw [hs9]
   have h7 : Rws _ [_] _ _ := hf.sub (List.Sublist.cons_cons _ (List.nil_sublist _))
   rw [show svK (ks.take k ++ q.key :: ks.drop k) = svK (ks.take k) ++ [.string (mkB q.key)] ++ svK (ks.drop k) by simp [svK]]
   exact h7
  ·rw [hs9]
   simp
   omega
  show nl - (i + 1) < nl - i
  omega
 refine zR 10 b0 ?_
 refine zT Rws.stable Rws.fewer [2] 0 ⟨.exit .ret, [], [(2, .sl A n c)], []⟩ ?_
 refine zE (.sl A n c) ?_
 have hi : i = nl := by have := of_decide_eq_false b0; omega
 subst hi
 rw [List.take_of_length_le (by omega)] at h2
 subst h2
 intro ρ w9 hm hf
 refine ⟨A, c, rfl, ?_⟩
 rw [List.take_of_length_le (by omega)] at hf
 have h8 := Rws.fewer ρ _ 0 (Nat.zero_le _) hf
 rw [List.take_zero] at h8
 exact rowF_of h8 hm.below
end Go.Proofs.YtkjnbafdmjakgaaGreatDoor
end
section
namespace Go.Proofs.YtkjnbafdmjakgaaGreatDoor
open Go.RowKit Go.Sx
theorem rws_lift {N : Nat} {w0 w w' : World} {ρ : List Nat} {loc : Sx.Loc} {L : List Sx.Rw} (hm : WInv N w0 ρ loc w) (h : Rws w.heap.size L [] w') (hb : Below w.heap.size w w') : Rws N L ρ w' := by
 refine ⟨fun x hx => ?_, h.2⟩
 have hr := h.1 x hx
 refine ⟨own_base' hr.1 hm.hN, fun g hg hmm => ?_⟩
 have h5 := (hr.1.lt g hg).1
 have h6 := (hm.ge g hmm).2
 omega
theorem rowF_below {w w' : World} {e size : Nat} {A : Option Addr} {n c : Nat} {xs : List Value} (h : RowF w (fun _ => False) [] w.heap.size e size A n c xs [] w') : Below w.heap.size w w' := ⟨h.2.1.1.os, h.2.1.1.tape, h.2.1.1.output, h.2.1.1.size, fun k hk => h.2.1.1.block k hk (fun h => h)⟩
theorem rowF_rws {w w' : World} {e size : Nat} {A : Option Addr} {n c : Nat} {xs : List Value} (h : RowF w (fun _ => False) [] w.heap.size e size A n c xs [] w') : Rws w.heap.size [⟨e, size, A, n, c, xs⟩] [] w' :=
 ⟨fun x hx => by
  rw [List.mem_singleton] at hx
  subst hx
  exact h.1.1, List.pairwise_singleton _ _⟩
theorem rws_slp {b : Nat} {L : List Sx.Rw} {ρ : List Nat} {w : World} (h : Rws b L ρ w) {A : Option Addr} {n c : Nat} {ps : List Pn} (hx : (⟨40, 9, A, n, c, pv ps⟩ : Sx.Rw) ∈ L) (hn : n = ps.length) : SlP w A n ps :=
 ⟨hn.symm, fun hA => by
  have := (h.isNil hx hA).1
  exact List.eq_nil_of_length_eq_zero (by simp only at this; omega), fun a ha => h.src hx ha⟩
theorem outL1_at : ∀ {E : List En} {i : Nat} {k : List UInt8} {g : List Pn} {B : Option Addr} {d : Nat}, E[i]? = some (k, g, B, d) → (outL1 E)[(i : Int).toNat * 2 + 0]? = some (.string (mkB k)) ∧ (outL1 E)[(i : Int).toNat * 2 + 1]? = some (.slice B g.length d)
 | [], i, _, _, _, _, h => by simp at h
 | e :: E, 0, k, g, B, d, h => by
  simp only [List.getElem?_cons_zero, Option.some.injEq] at h
  subst h
  exact ⟨rfl, rfl⟩
 | e :: E, i + 1, k, g, B, d, h => by
  have ih := outL1_at (E := E) (i := i) (by simpa using h)
  have h2 : outL1 (e :: E) = .string (mkB e.1) :: .slice e.2.2.1 e.2.1.length e.2.2.2 :: outL1 E := by simp [outL1]
  rw [h2]
  simp only [Int.toNat_natCast, Nat.add_zero] at ih ⊢
  rw [show (i + 1) * 2 = i * 2 + 1 + 1 by omega, show i * 2 + 1 + 1 + 1 = (i * 2 + 1) + 1 + 1 by omega]
  simp only [List.getElem?_cons_succ]
  exact ih
theorem perm_ky (o x k : Sx.Rw) (C : List Sx.Rw) : (o :: k :: (C ++ [x])).Perm (o :: x :: k :: C) := List.Perm.cons _ (List.perm_append_singleton x (k :: C))
theorem cl1_app (E : List En) (k : List UInt8) (ps : List Pn) (B : Option Addr) (d : Nat) : cl1 (E ++ [(k, ps, B, d)]) = cl1 E ++ [⟨40, 9, B, ps.length, d, pv ps⟩] := by simp [cl1]
end Go.Proofs.YtkjnbafdmjakgaaGreatDoor
namespace Go.Sx
open Go.RowKit
section
variable {P : Program} {Q : Exit → Act → World → Prop} {N : Nat} {w0 : World} {ntm : Nat} {F : List Nat → World → Prop}
theorem At.idxFirst {s : S} (hQ : ∀ e a w, Q e a w → e = .normal) (j : Nat) (a : Addr) (n size : Nat) (i : Int) (hq : (anyAt s j).bind (idxQ P s.fr) = some (a, n, i, size)) (hp : (anyPut ntm s j (.v (.pointer (some (a.add (i.toNat * size)))))).isSome = true) (h0 : 0 ≤ i) (hn : i < n)
  (hk : At P Q N w0 ntm F (s.anyNext ntm j (.v (.pointer (some (a.add (i.toNat * size))))))) : At P Q N w0 ntm F s := by
 obtain ⟨o, ho, hq'⟩ := Option.bind_eq_some_iff.1 hq
 exact At.first hQ j o _ ho hp (fun ρ act w hi => run_idxQ hi hq' h0 hn w) hk
end
end Go.Sx
namespace Go.Proofs.YtkjnbafdmjakgaaGreatDoor
open Go.RowKit Go.Sx
structure RKY where
 i : Nat
 A : Option Addr
 c : Nat
 E : List En
def frRKY (Al : Option Addr) (nl cl : Nat) (kA : Option Addr) (kn kc : Nat) : RKY → Fr
 | ⟨i, A, c, E⟩ => [(0, .sl Al nl cl), (3, .sl A i c), (4, .sl kA kn kc), (5, .io .i64 (i : Int))]
def locRKY (_ : RKY) : Sx.Loc := []
def GRKY (w0 : World) (ls : List Pn) (ks : List (List UInt8)) (kA : Option Addr) (kc : Nat) : RKY → List Nat → World → Prop
 | ⟨i, A, c, E⟩, ρ, w => Rws w0.heap.size (⟨32, 2, A, i, c, outL1 E⟩ :: ⟨9, 1, kA, ks.length, kc, svK ks⟩ :: cl1 E) ρ w ∧ (i ≤ ks.length ∧ E.map (fun e => (e.1, e.2.1)) = withG ls (ks.take i))
noncomputable def B9z : Code := (Tryz.f9.body).getD .skip
set_option maxHeartbeats 20000000 in
set_option maxRecDepth 100000 in
theorem rKeys_any {Al : Option Addr} {nl cl : Nat} {ls : List Pn} (w : World) (hl : SlP w Al nl ls) (hbig : nl ≤ 200) :
  Calls Tryz.prog 9 #[.slice Al nl cl] w fun e w' => ∃ A n c, ∃ E : List En, e = .returned (.slice A n c) ∧ n = E.length ∧ E.map (fun e => (e.1, e.2.1)) = keysM ls ∧ Rws w.heap.size (⟨32, 2, A, n, c, outL1 E⟩ :: cl1 E) [] w' ∧ Below w.heap.size w w' := by
 have hnl := hl.1
 refine enter (fn := Tryz.f9) (c := B9z) [.sl Al nl cl] Tryz.func9 rfl rfl ?_
 refine zN [0, 3, 6] 0 ⟨pops B9z [1, 1, 0] 1, [.seq (sub B9z [1, 1, 1])], [(0, .sl Al nl cl), (3, .v (.slice none 0 0)), (6, .sl Al nl cl)], []⟩ ?_
 refine At.callx noF_stable (X := Option Addr × Nat) 33 [.sl Al nl cl] (fun x => .sl x.1 (rkeyL ls).length x.2) (fun x ρ w1 => Rws w.heap.size [⟨9, 1, x.1, (rkeyL ls).length, x.2, svK (rkeyL ls)⟩] ρ w1) (fun x => Rws.stable) (by kernel_rfl) (by kernel_rfl) (by kernel_rfl) (by kernel_rfl) (fun ρ a w1 hi hf => (rkeys_any w1 (hl.below hi.mem.below) hbig).mono fun e w2 h => ?_) (fun x => ?_)
 ·obtain ⟨A, c, h1, h2⟩ := h
  exact ⟨(A, c), h1, rowF_below h2, rws_lift hi.mem (rowF_rws h2) (rowF_below h2)⟩
 obtain ⟨kA, kc⟩ := x
 dsimp only
 refine At.mono (F' := Rws w.heap.size [⟨9, 1, kA, (rkeyL ls).length, kc, svK (rkeyL ls)⟩]) (fun ρ w1 h => h.2) ?_
 have hkl := rkeyL_len ls
 obtain ⟨ks, hks⟩ : ∃ ks, rkeyL ls = ks := ⟨_, rfl⟩
 have hE0 : withG ls ks = keysM ls := by rw [← hks]; exact rkeys_alike ls
 simp only [hks] at hkl ⊢
 refine zT Rws.stable Rws.fewer [0, 3, 4, 5] 0 ⟨.code (sub B9z [1, 1, 1, 0, 1, 4]), [.block 0, .seq (sub B9z [1, 1, 1, 1])], [(0, .sl Al nl cl), (3, .v (.slice none 0 0)), (4, .sl kA ks.length kc), (5, .v (.int .i64 0))], []⟩ ?_
 refine At.canon _ rfl ?_
 refine At.slFr _ rfl ?_
 refine At.loop (σ := RKY) (sub B9z [1, 1, 1, 0, 1, 4, 4]) (frRKY Al nl cl kA ks.length kc) locRKY (GRKY w ls ks kA kc) (fun x => ks.length - x.i) ⟨0, none, 0, []⟩ (by kernel_rfl) (by unfold subFr; kernel_rfl) (by kernel_rfl) (fun _ _ _ _ h => ⟨?_, Nat.zero_le _, ?_⟩) ?_
 ·exact Rws.nil h 32 2
 ·rfl
 rintro ⟨i, A, c, E⟩
 refine At.pure fun ⟨h1, h2⟩ => ?_
 refine zTq Rws.stable Rws.fewer [0, 3, 4, 5, 11] 0 ?_
 rcases Bool.eq_false_or_eq_true (decide ((↑i : Int) < (↑ks.length : Int))) with b0 | b0
 ·refine zR 11 b0 ?_
  refine zT Rws.stable Rws.fewer [0, 3, 4, 5] 0 ⟨.any (opsOf (sub B9z [1, 1, 1, 0, 1, 4, 4, 1, 0, 4])) 15 [], [.block 1, .seq (sub B9z [1, 1, 1, 0, 1, 4, 4, 1, 1]), .next (Sx.Next w.heap.size w Tryz.f9.ntmps (frRKY Al nl cl kA ks.length kc) locRKY (GRKY w ls ks kA kc) (fun x => ks.length - x.i) (RKY.mk i A c E)), .block 0, .seq (sub B9z [1, 1, 1, 1])], [(0, .sl Al nl cl), (3, .sl A i c), (4, .sl kA ks.length kc), (5, .io .i64 (↑i : Int))], []⟩ ?_
  have hi : i < ks.length := by have := of_decide_eq_true b0; omega
  clear b0
  obtain ⟨key, hkey⟩ : ∃ k, ks[i]? = some k := ⟨_, List.getElem?_eq_getElem hi⟩
  refine At.know (p := ∃ a, kA = some a) (fun ρ w1 hf => hf.some (List.mem_cons_of_mem _ (List.mem_cons_self ..)) (show 0 < ks.length by omega)) fun ⟨ka, hka⟩ => ?_
  subst hka
  have hnx : E.map (fun e => (e.1, e.2.1)) ++ [(key, grp key ls)] = withG ls (ks.take (i + 1)) := by
   rw [h2, List.take_add_one, hkey]
   simp [withG]
  have hK : ∀ {L : List Sx.Rw} {ρ : List Nat} {w1 : World}, Rws w.heap.size L ρ w1 → (⟨9, 1, some ka, ks.length, kc, svK ks⟩ : Sx.Rw) ∈ L → w1.cell? (ka.add ((i : Int).toNat * 1)) = some (.string (mkB key)) := fun hf hx => hf.src hx rfl _ _ (by rw [Int.toNat_natCast, Nat.mul_one]; simp [svK, hkey])
  refine At.cutN (σ := Option Addr × Nat × Option Addr × Nat) (fun x => [(0, .sl Al nl cl), (3, .sl x.1 (i + 1) x.2.1), (4, .sl (some ka) ks.length kc), (5, .io .i64 (i : Int))]) (fun x => []) (fun x => Rws w.heap.size (⟨32, 2, x.1, i + 1, x.2.1, outL1 (E ++ [(key, grp key ls, x.2.2.1, x.2.2.2)])⟩ :: ⟨9, 1, some ka, ks.length, kc, svK ks⟩ :: cl1 (E ++ [(key, grp key ls, x.2.2.1, x.2.2.2)]))) rfl ?_ (fun x => ?_)
  ·refine At.purify0 (fun e a w h => h.1) 20 ?_
   refine At.idxFirst (fun e a w h => h.1) 3 ka ks.length 1 (i : Int) (by kernel_rfl) (by kernel_rfl) (by omega) (by omega) ?_
   refine At.idxFirst (fun e a w h => h.1) 8 ka ks.length 1 (i : Int) (by kernel_rfl) (by kernel_rfl) (by omega) (by omega) ?_
   refine zT Rws.stable Rws.fewer [0, 3, 4, 5, 14, 17, 19, 22] 0 ⟨.any (opsOf (sub B9z [1, 1, 1, 0, 1, 4, 4, 1, 0, 4])) 7 [8, 3, 7, 6, 5, 2, 1, 0], [], [(0, .sl Al nl cl), (3, .sl A i c), (4, .sl (some ka) ks.length kc), (5, .io .i64 (↑i : Int)), (14, .sl A i c), (17, .v (.pointer (some (ka.add ((↑i : Int).toNat * 1))))), (19, .sl Al nl cl), (22, .v (.pointer (some (ka.add ((↑i : Int).toNat * 1)))))], []⟩ ?_
   refine At.fork [4, 9] rfl (by kernel_rfl) rfl (allOf.cons ?_ (allOf.cons ?_ allOf.nil))
   ·refine zT Rws.stable Rws.fewer [0, 3, 4, 5, 14, 17, 19, 22] 0 ⟨.ops (opsOf (sub B9z [1, 1, 1, 0, 1, 4, 4, 1, 0, 4])) (((opsOf (sub B9z [1, 1, 1, 0, 1, 4, 4, 1, 0, 4])).toList.drop 4).take 1), [.any (opsOf (sub B9z [1, 1, 1, 0, 1, 4, 4, 1, 0, 4])) 6 [4, 8, 3, 7, 6, 5, 2, 1, 0]], [(0, .sl Al nl cl), (3, .sl A i c), (4, .sl (some ka) ks.length kc), (5, .io .i64 (↑i : Int)), (14, .sl A i c), (17, .v (.pointer (some (ka.add ((↑i : Int).toNat * 1))))), (19, .sl Al nl cl), (22, .v (.pointer (some (ka.add ((↑i : Int).toNat * 1)))))], []⟩ ?_
    refine At.ldx (ka.add ((i : Int).toNat * 1)) (.so (mkB key)) (by kernel_rfl) Rws.stable (fun ρ w1 hm' hf => hK hf (by simp)) ?_
    refine zT Rws.stable Rws.fewer [0, 3, 4, 5, 14, 18, 19, 22] 0 ⟨.ops (opsOf (sub B9z [1, 1, 1, 0, 1, 4, 4, 1, 0, 4])) (((opsOf (sub B9z [1, 1, 1, 0, 1, 4, 4, 1, 0, 4])).toList.drop 9).take 1), [.any (opsOf (sub B9z [1, 1, 1, 0, 1, 4, 4, 1, 0, 4])) 5 [9, 4, 8, 3, 7, 6, 5, 2, 1, 0]], [(0, .sl Al nl cl), (3, .sl A i c), (4, .sl (some ka) ks.length kc), (5, .io .i64 (↑i : Int)), (14, .sl A i c), (18, .so (mkB key)), (19, .sl Al nl cl), (22, .v (.pointer (some (ka.add ((↑i : Int).toNat * 1)))))], []⟩ ?_
    refine At.ldx (ka.add ((i : Int).toNat * 1)) (.so (mkB key)) (by kernel_rfl) Rws.stable (fun ρ w1 hm' hf => hK hf (by simp)) ?_
    refine zT Rws.stable Rws.fewer [0, 3, 4, 5, 14, 18, 19, 23] 0 ⟨.ops (opsOf (sub B9z [1, 1, 1, 0, 1, 4, 4, 1, 0, 4])) (((opsOf (sub B9z [1, 1, 1, 0, 1, 4, 4, 1, 0, 4])).toList.drop 10).take 1), [.any (opsOf (sub B9z [1, 1, 1, 0, 1, 4, 4, 1, 0, 4])) 4 [10, 9, 4, 8, 3, 7, 6, 5, 2, 1, 0]], [(0, .sl Al nl cl), (3, .sl A i c), (4, .sl (some ka) ks.length kc), (5, .io .i64 (↑i : Int)), (14, .sl A i c), (18, .so (mkB key)), (19, .sl Al nl cl), (23, .so (mkB key))], []⟩ ?_
    refine Go.Sx.At.rowCall (e := 40) (size := 9) 14 [.sl Al nl cl, .so (mkB key)] (pv (grp key ls)) (fun A n c => .sl A n c) (by kernel_rfl) (by kernel_rfl) (by kernel_rfl) (by kernel_rfl) (fun ρ w1 hm hf => (rof_any key w1 (hl.below hm.below) hbig).mono fun e w2 h => ?_) (fun oA on oc hon => ?_)
    ·obtain ⟨A', c', h1, h2⟩ := h
     exact ⟨A', _, c', h1, h2⟩
    obtain rfl : on = (grp key ls).length := by rw [pv_len] at hon; omega
    refine zT Rws.stable Rws.fewer [0, 3, 4, 5, 14, 26] 1 ⟨.ops (opsOf (sub B9z [1, 1, 1, 0, 1, 4, 4, 1, 0, 4])) (((opsOf (sub B9z [1, 1, 1, 0, 1, 4, 4, 1, 0, 4])).toList.drop 13).take 1), [.any (opsOf (sub B9z [1, 1, 1, 0, 1, 4, 4, 1, 0, 4])) 1 [13, 12, 11, 10, 9, 4, 8, 3, 7, 6, 5, 2, 1, 0]], [(0, .sl Al nl cl), (3, .sl A i c), (4, .sl (some ka) ks.length kc), (5, .io .i64 (↑i : Int)), (14, .sl A i c), (26, .ls 0 0 1 1)], [([.so (mkB key), .sl oA (grp key ls).length oc], 32)]⟩ ?_
    refine At.mono (F' := Rws w.heap.size (⟨32, 2, A, i, c, outL1 E⟩ :: ⟨40, 9, oA, (grp key ls).length, oc, pv (grp key ls)⟩ :: ⟨9, 1, some ka, ks.length, kc, svK ks⟩ :: cl1 E)) (fun ρ w1 hf => hf.perm (List.Perm.swap _ _ _)) ?_
    refine At.appV 25 32 2 40 A i c 1 [.so (mkB key), .sl oA (grp key ls).length oc] (outL1 E) [.string (mkB key), .slice oA (grp key ls).length oc] (⟨40, 9, oA, (grp key ls).length, oc, pv (grp key ls)⟩ :: ⟨9, 1, some ka, ks.length, kc, svK ks⟩ :: cl1 E) (by kernel_rfl) (fun _ => rfl) (by omega) (by simp only [maxLen]; omega) (fun A2 c2 hc2 => ?_)
    refine zT Rws.stable Rws.fewer [0, 3, 4, 5] 0 ⟨.exit .normal, [], [(0, .sl Al nl cl), (3, .sl A2 (i + 1) c2), (4, .sl (some ka) ks.length kc), (5, .io .i64 (↑i : Int))], []⟩ ?_
    exact At.fin (A2, c2, oA, oc) rfl rfl (by unfold subFr; kernel_rfl) rfl (fun ρ a w1 hi hf => by
     rw [outL1_app, cl1_app]
     exact hf.perm (perm_ky _ _ _ _))
   refine zT Rws.stable Rws.fewer [0, 3, 4, 5, 14, 17, 19, 22] 0 ⟨.ops (opsOf (sub B9z [1, 1, 1, 0, 1, 4, 4, 1, 0, 4])) (((opsOf (sub B9z [1, 1, 1, 0, 1, 4, 4, 1, 0, 4])).toList.drop 9).take 1), [.any (opsOf (sub B9z [1, 1, 1, 0, 1, 4, 4, 1, 0, 4])) 6 [9, 8, 3, 7, 6, 5, 2, 1, 0]], [(0, .sl Al nl cl), (3, .sl A i c), (4, .sl (some ka) ks.length kc), (5, .io .i64 (↑i : Int)), (14, .sl A i c), (17, .v (.pointer (some (ka.add ((↑i : Int).toNat * 1))))), (19, .sl Al nl cl), (22, .v (.pointer (some (ka.add ((↑i : Int).toNat * 1)))))], []⟩ ?_
   refine At.ldx (ka.add ((i : Int).toNat * 1)) (.so (mkB key)) (by kernel_rfl) Rws.stable (fun ρ w1 hm' hf => hK hf (by simp)) ?_
   refine zT Rws.stable Rws.fewer [0, 3, 4, 5, 14, 17, 19, 23] 0 ⟨.any (opsOf (sub B9z [1, 1, 1, 0, 1, 4, 4, 1, 0, 4])) 6 [9, 8, 3, 7, 6, 5, 2, 1, 0], [], [(0, .sl Al nl cl), (3, .sl A i c), (4, .sl (some ka) ks.length kc), (5, .io .i64 (↑i : Int)), (14, .sl A i c), (17, .v (.pointer (some (ka.add ((↑i : Int).toNat * 1))))), (19, .sl Al nl cl), (23, .so (mkB key))], []⟩ ?_
   refine At.fork [4, 10] rfl (by kernel_rfl) rfl (allOf.cons ?_ (allOf.cons ?_ allOf.nil))
   ·refine zT Rws.stable Rws.fewer [0, 3, 4, 5, 14, 17, 19, 23] 0 ⟨.ops (opsOf (sub B9z [1, 1, 1, 0, 1, 4, 4, 1, 0, 4])) (((opsOf (sub B9z [1, 1, 1, 0, 1, 4, 4, 1, 0, 4])).toList.drop 4).take 1), [.any (opsOf (sub B9z [1, 1, 1, 0, 1, 4, 4, 1, 0, 4])) 5 [4, 9, 8, 3, 7, 6, 5, 2, 1, 0]], [(0, .sl Al nl cl), (3, .sl A i c), (4, .sl (some ka) ks.length kc), (5, .io .i64 (↑i : Int)), (14, .sl A i c), (17, .v (.pointer (some (ka.add ((↑i : Int).toNat * 1))))), (19, .sl Al nl cl), (23, .so (mkB key))], []⟩ ?_
    refine At.ldx (ka.add ((i : Int).toNat * 1)) (.so (mkB key)) (by kernel_rfl) Rws.stable (fun ρ w1 hm' hf => hK hf (by simp)) ?_
    refine zT Rws.stable Rws.fewer [0, 3, 4, 5, 14, 18, 19, 23] 0 ⟨.ops (opsOf (sub B9z [1, 1, 1, 0, 1, 4, 4, 1, 0, 4])) (((opsOf (sub B9z [1, 1, 1, 0, 1, 4, 4, 1, 0, 4])).toList.drop 10).take 1), [.any (opsOf (sub B9z [1, 1, 1, 0, 1, 4, 4, 1, 0, 4])) 4 [10, 4, 9, 8, 3, 7, 6, 5, 2, 1, 0]], [(0, .sl Al nl cl), (3, .sl A i c), (4, .sl (some ka) ks.length kc), (5, .io .i64 (↑i : Int)), (14, .sl A i c), (18, .so (mkB key)), (19, .sl Al nl cl), (23, .so (mkB key))], []⟩ ?_
    refine Go.Sx.At.rowCall (e := 40) (size := 9) 14 [.sl Al nl cl, .so (mkB key)] (pv (grp key ls)) (fun A n c => .sl A n c) (by kernel_rfl) (by kernel_rfl) (by kernel_rfl) (by kernel_rfl) (fun ρ w1 hm hf => (rof_any key w1 (hl.below hm.below) hbig).mono fun e w2 h => ?_) (fun oA on oc hon => ?_)
    ·obtain ⟨A', c', h1, h2⟩ := h
     exact ⟨A', _, c', h1, h2⟩
    obtain rfl : on = (grp key ls).length := by rw [pv_len] at hon; omega
    refine zT Rws.stable Rws.fewer [0, 3, 4, 5, 14, 26] 1 ⟨.ops (opsOf (sub B9z [1, 1, 1, 0, 1, 4, 4, 1, 0, 4])) (((opsOf (sub B9z [1, 1, 1, 0, 1, 4, 4, 1, 0, 4])).toList.drop 13).take 1), [.any (opsOf (sub B9z [1, 1, 1, 0, 1, 4, 4, 1, 0, 4])) 1 [13, 12, 11, 10, 4, 9, 8, 3, 7, 6, 5, 2, 1, 0]], [(0, .sl Al nl cl), (3, .sl A i c), (4, .sl (some ka) ks.length kc), (5, .io .i64 (↑i : Int)), (14, .sl A i c), (26, .ls 0 0 1 1)], [([.so (mkB key), .sl oA (grp key ls).length oc], 32)]⟩ ?_
    refine At.mono (F' := Rws w.heap.size (⟨32, 2, A, i, c, outL1 E⟩ :: ⟨40, 9, oA, (grp key ls).length, oc, pv (grp key ls)⟩ :: ⟨9, 1, some ka, ks.length, kc, svK ks⟩ :: cl1 E)) (fun ρ w1 hf => hf.perm (List.Perm.swap _ _ _)) ?_
    refine At.appV 25 32 2 40 A i c 1 [.so (mkB key), .sl oA (grp key ls).length oc] (outL1 E) [.string (mkB key), .slice oA (grp key ls).length oc] (⟨40, 9, oA, (grp key ls).length, oc, pv (grp key ls)⟩ :: ⟨9, 1, some ka, ks.length, kc, svK ks⟩ :: cl1 E) (by kernel_rfl) (fun _ => rfl) (by omega) (by simp only [maxLen]; omega) (fun A2 c2 hc2 => ?_)
    refine zT Rws.stable Rws.fewer [0, 3, 4, 5] 0 ⟨.exit .normal, [], [(0, .sl Al nl cl), (3, .sl A2 (i + 1) c2), (4, .sl (some ka) ks.length kc), (5, .io .i64 (↑i : Int))], []⟩ ?_
    exact At.fin (A2, c2, oA, oc) rfl rfl (by unfold subFr; kernel_rfl) rfl (fun ρ a w1 hi hf => by
     rw [outL1_app, cl1_app]
     exact hf.perm (perm_ky _ _ _ _))
   refine zT Rws.stable Rws.fewer [0, 3, 4, 5, 14, 17, 19, 23] 0 ⟨.ops (opsOf (sub B9z [1, 1, 1, 0, 1, 4, 4, 1, 0, 4])) (((opsOf (sub B9z [1, 1, 1, 0, 1, 4, 4, 1, 0, 4])).toList.drop 10).take 1), [.any (opsOf (sub B9z [1, 1, 1, 0, 1, 4, 4, 1, 0, 4])) 5 [10, 9, 8, 3, 7, 6, 5, 2, 1, 0]], [(0, .sl Al nl cl), (3, .sl A i c), (4, .sl (some ka) ks.length kc), (5, .io .i64 (↑i : Int)), (14, .sl A i c), (17, .v (.pointer (some (ka.add ((↑i : Int).toNat * 1))))), (19, .sl Al nl cl), (23, .so (mkB key))], []⟩ ?_
   refine Go.Sx.At.rowCall (e := 40) (size := 9) 14 [.sl Al nl cl, .so (mkB key)] (pv (grp key ls)) (fun A n c => .sl A n c) (by kernel_rfl) (by kernel_rfl) (by kernel_rfl) (by kernel_rfl) (fun ρ w1 hm hf => (rof_any key w1 (hl.below hm.below) hbig).mono fun e w2 h => ?_) (fun oA on oc hon => ?_)
   ·obtain ⟨A', c', h1, h2⟩ := h
    exact ⟨A', _, c', h1, h2⟩
   obtain rfl : on = (grp key ls).length := by rw [pv_len] at hon; omega
   refine zT Rws.stable Rws.fewer [0, 3, 4, 5, 14, 17, 24] 0 ⟨.ops (opsOf (sub B9z [1, 1, 1, 0, 1, 4, 4, 1, 0, 4])) (((opsOf (sub B9z [1, 1, 1, 0, 1, 4, 4, 1, 0, 4])).toList.drop 4).take 1), [.any (opsOf (sub B9z [1, 1, 1, 0, 1, 4, 4, 1, 0, 4])) 4 [4, 10, 9, 8, 3, 7, 6, 5, 2, 1, 0]], [(0, .sl Al nl cl), (3, .sl A i c), (4, .sl (some ka) ks.length kc), (5, .io .i64 (↑i : Int)), (14, .sl A i c), (17, .v (.pointer (some (ka.add ((↑i : Int).toNat * 1))))), (24, .sl oA (grp key ls).length oc)], []⟩ ?_
   refine At.ldx (ka.add ((i : Int).toNat * 1)) (.so (mkB key)) (by kernel_rfl) Rws.stable (fun ρ w1 hm' hf => hK hf (by simp)) ?_
   refine zT Rws.stable Rws.fewer [0, 3, 4, 5, 14, 26] 1 ⟨.ops (opsOf (sub B9z [1, 1, 1, 0, 1, 4, 4, 1, 0, 4])) (((opsOf (sub B9z [1, 1, 1, 0, 1, 4, 4, 1, 0, 4])).toList.drop 13).take 1), [.any (opsOf (sub B9z [1, 1, 1, 0, 1, 4, 4, 1, 0, 4])) 1 [13, 12, 11, 4, 10, 9, 8, 3, 7, 6, 5, 2, 1, 0]], [(0, .sl Al nl cl), (3, .sl A i c), (4, .sl (some ka) ks.length kc), (5, .io .i64 (↑i : Int)), (14, .sl A i c), (26, .ls 0 0 1 1)], [([.so (mkB key), .sl oA (grp key ls).length oc], 32)]⟩ ?_
   refine At.mono (F' := Rws w.heap.size (⟨32, 2, A, i, c, outL1 E⟩ :: ⟨40, 9, oA, (grp key ls).length, oc, pv (grp key ls)⟩ :: ⟨9, 1, some ka, ks.length, kc, svK ks⟩ :: cl1 E)) (fun ρ w1 hf => hf.perm (List.Perm.swap _ _ _)) ?_
   refine At.appV 25 32 2 40 A i c 1 [.so (mkB key), .sl oA (grp key ls).length oc] (outL1 E) [.string (mkB key), .slice oA (grp key ls).length oc] (⟨40, 9, oA, (grp key ls).length, oc, pv (grp key ls)⟩ :: ⟨9, 1, some ka, ks.length, kc, svK ks⟩ :: cl1 E) (by kernel_rfl) (fun _ => rfl) (by omega) (by simp only [maxLen]; omega) (fun A2 c2 hc2 => ?_)
   refine zT Rws.stable Rws.fewer [0, 3, 4, 5] 0 ⟨.exit .normal, [], [(0, .sl Al nl cl), (3, .sl A2 (i + 1) c2), (4, .sl (some ka) ks.length kc), (5, .io .i64 (↑i : Int))], []⟩ ?_
   exact At.fin (A2, c2, oA, oc) rfl rfl (by unfold subFr; kernel_rfl) rfl (fun ρ a w1 hi hf => by
    rw [outL1_app, cl1_app]
    exact hf.perm (perm_ky _ _ _ _))
  obtain ⟨A', c', oA, oc⟩ := x
  dsimp only
  refine zT Rws.stable Rws.fewer [0, 3, 4, 5] 0 ⟨.exit .normal, [.next (Sx.Next w.heap.size w Tryz.f9.ntmps (frRKY Al nl cl (some ka) ks.length kc) locRKY (GRKY w ls ks (some ka) kc) (fun x => ks.length - x.i) (RKY.mk i A c E)), .block 0, .seq (sub B9z [1, 1, 1, 1])], [(0, .sl Al nl cl), (3, .sl A' (i + 1) c'), (4, .sl (some ka) ks.length kc), (5, .io .i64 (IntKind.i64.wrap ((↑i : Int) + 1)))], []⟩ ?_
  have hw3 : IntKind.i64.wrap ((i : Int) + 1) = ((i + 1 : Nat) : Int) := by
   rw [wrap63 (by omega) (by omega)]
   omega
  rw [hw3]
  refine At.next (σ := RKY) ⟨i + 1, A', c', E ++ [(key, grp key ls, oA, oc)]⟩ rfl rfl (by unfold subFr; kernel_rfl) (by kernel_rfl) (fun ρ a' w' hi' hf => ⟨hf, by omega, by rw [List.map_append]; exact hnx⟩) ?_
  show ks.length - (i + 1) < ks.length - i
  omega
 refine zR 11 b0 ?_
 refine zT Rws.stable Rws.fewer [2] 0 ⟨.exit .ret, [], [(2, .sl A i c)], []⟩ ?_
 refine zE (.sl A i c) ?_
 have hi : i = ks.length := by have := of_decide_eq_false b0; omega
 subst hi
 rw [List.take_of_length_le (Nat.le_refl _)] at h2
 have hlen : E.length = ks.length := by
  have h8 := congrArg List.length h2
  rw [List.length_map] at h8
  rw [h8]
  simp [withG]
 rw [hE0] at h2
 intro ρ w9 hm hf
 refine ⟨A, ks.length, c, E, rfl, hlen.symm, h2, ?_, hm.below⟩
 have h8 := Rws.fewer ρ _ 0 (Nat.zero_le _) (hf.sub (List.Sublist.cons_cons _ (List.sublist_cons_self ..)))
 rw [List.take_zero] at h8
 exact h8
end Go.Proofs.YtkjnbafdmjakgaaGreatDoor
end
