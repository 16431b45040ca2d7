/- Joined texts: SD, SI, SW, SA. -/
import Derived.Test.YthfpekhpeiebjaaGreatDoorMAG
set_option linter.unusedSimpArgs false
set_option linter.unusedVariables false
namespace Go.Sx
open Go
def pAH0 : List Nat := [1, 1, 1, 1, 0, 1, 4, 4, 1, 1, 0, 4, 1, 1, 0, 0]
def pAH1 : List Nat := [1, 1, 1, 1, 0, 1, 4, 4, 1, 1, 0, 4, 1, 1, 0, 1]
def pAH2 : List Nat := [1, 1, 1, 1, 0, 1, 4, 4, 1, 1, 0, 4, 1, 1, 1]
def pAH3 : List Nat := [1, 1, 1, 1, 0, 1, 4, 4, 1, 1, 0, 4, 1, 0]
def pAH4 : List Nat := [1, 1, 1, 1, 0, 1, 4, 4, 1, 1, 0, 4, 1, 1]
def pAH5 : List Nat := [1, 1, 1, 1, 0, 1, 4, 4, 1, 1, 1]
def pAH6 : List Nat := [1, 1, 1, 1, 0, 1, 4, 4]
def pAH7 : List Nat := [1, 1, 1, 1, 0, 0]
def pAH8 : List Nat := [1, 1, 1, 1, 0, 1]
def pAH9 : List Nat := [1, 1, 1, 1, 1]
end Go.Sx
section
namespace Go.Proofs.YthfpekhpeiebjaaGreatDoor
open Go.RowKit Go.Sx
open Go.Lib
structure Cf where
 g : Int
 s : Int
 k : Int
 sz : Int
 sl : Int
 of : Int
 gp : Int
 lt : Int
 ea : Int
 d : Bool
 deriving DecidableEq
def Cf.w : Cf → List Value
 | ⟨g, s, k, sz, sl, of, gp, lt, ea, d⟩ => [.int .i64 g, .int .i64 s, .int .i64 k, .int .i64 sz, .int .i64 sl, .int .i64 of, .int .i64 gp, .int .i64 lt, .int .i64 ea, .bool d]
def Cf.wr : Cf → Int
 | ⟨g, s, k, sz, sl, of, gp, lt, ea, _⟩ => wrongR g s k sz sl of gp lt ea
def Cf.text : Cf → List UInt8
 | ⟨g, s, k, sz, sl, of, gp, lt, ea, d⟩ => textW g s k sz sl of gp lt ea d
def cf0 : Cf := ⟨0, 0, 0, 0, 0, 0, 0, 0, 0, false⟩
structure St where
 kd : Int
 ik : Int
 key : List UInt8
 t : Int
 v : Int
 src : Int
 wk : Int
 wks : Int
 bit : Int
 mask : Int
 deriving DecidableEq
def St.w : St → List Value
 | ⟨kd, ik, key, t, v, src, wk, wks, bit, mask⟩ => [.int .i64 kd, .int .i64 ik, .string (mkB key), .int .i64 t, .int .i64 v, .int .i64 src, .int .i64 wk, .int .i64 wks, .int .i64 bit, .int .u32 mask]
def stW (l : List St) : List Value := l.flatMap St.w
theorem St.w_len (x : St) : x.w.length = 10 := by cases x; rfl
theorem stW_app (l : List St) (x : St) : stW (l ++ [x]) = stW l ++ x.w := by simp [stW]
theorem stW_len : ∀ l : List St, (stW l).length = l.length * 10
 | [] => rfl
 | x :: l => by
  simp only [stW, List.flatMap_cons, List.length_append, St.w_len]
  have := stW_len l
  unfold stW at this
  rw [this, List.length_cons]
  omega
def cfgP (t : List UInt8) : Option Cf :=
 match pcs [] t with
 | [_, p1, _, p3, _, p5, _, p7, _, p9, _, p11, _, p13, _, p15, _, p17, _, p19] =>
  if wrongR (kitN p1) (kitN p3) (kitK p5) (kitN p7) (kitN p9) (kitN p11) (kitN p13) (kitN p15) (kitN p17) = 0 ∧ textW (kitN p1) (kitN p3) (kitK p5) (kitN p7) (kitN p9) (kitN p11) (kitN p13) (kitN p15) (kitN p17) (kitS p19 == 1) = t then
   some ⟨kitN p1, kitN p3, kitK p5, kitN p7, kitN p9, kitN p11, kitN p13, kitN p15, kitN p17, kitS p19 == 1⟩ else none
 | _ => none
theorem cfgP_iff (t : List UInt8) (c : Cf) : cfgP t = some c ↔ c.wr = 0 ∧ c.text = t := by
 obtain ⟨g, s, k, sz, sl, of, gp, lt, ea, d⟩ := c
 simp only [Cf.wr, Cf.text]
 constructor
 ·intro h
  unfold cfgP at h
  split at h
  ·split at h
   ·rename_i h0
    simp only [Option.some.injEq, Cf.mk.injEq] at h
    obtain ⟨rfl, rfl, rfl, rfl, rfl, rfl, rfl, rfl, rfl, rfl⟩ := h
    exact h0
   cases h
  cases h
 rintro ⟨hw, ht⟩
 have hp := pcs_text hw d
 rw [ht] at hp
 have hlen : (pcs [] t).length = 20 := by rw [hp]; rfl
 obtain ⟨p0, p1, p2, p3, p4, p5, p6, p7, p8, p9, p10, p11, p12, p13, p14, p15, p16, p17, p18, p19, hq⟩ := len20 hlen
 obtain ⟨rfl, rfl, rfl, rfl, rfl, rfl, rfl, rfl, rfl, rfl⟩ := kit_fix hq hw ht
 unfold cfgP
 rw [hq]
 simp only
 rw [if_pos ⟨hw, ht⟩]
theorem kitP_some {t : List UInt8} {c : Cf} (h : cfgP t = some c) : kitP (mkB t) (pcs [] t) = .tuple #[.agg c.w.toArray, .int .i64 0] := by
 obtain ⟨hw, ht⟩ := (cfgP_iff t c).1 h
 obtain ⟨g, s, k, sz, sl, of, gp, lt, ea, d⟩ := c
 simp only [Cf.wr, Cf.text] at hw ht
 have hp := pcs_text hw d
 rw [ht] at hp
 have hlen : (pcs [] t).length = 20 := by rw [hp]; rfl
 obtain ⟨p0, p1, p2, p3, p4, p5, p6, p7, p8, p9, p10, p11, p12, p13, p14, p15, p16, p17, p18, p19, hq⟩ := len20 hlen
 obtain ⟨rfl, rfl, rfl, rfl, rfl, rfl, rfl, rfl, rfl, rfl⟩ := kit_fix hq hw ht
 rw [hq]
 unfold kitP
 simp only
 exact kitA_ok (t := mkB t) hw ht
theorem kitA_no {t : ByteArray} {g s k sz sl of gp lt ea d : Int} (h : ¬ (wrongR g s k sz sl of gp lt ea = 0 ∧ textW g s k sz sl of gp lt ea (d == 1) = t.data.toList)) : kitA t g s k sz sl of gp lt ea d = badP := by
 unfold kitA
 rw [jobE_zero, wrong_eq, bytes_beq]
 by_cases hw : wrongR g s k sz sl of gp lt ea = 0
 ·rw [hw, decide_eq_false (fun e => h ⟨hw, e⟩)]
  rfl
 rw [show (wrongR g s k sz sl of gp lt ea != 0) = true from by simpa using hw]
 rfl
theorem kitP_none {t : List UInt8} (h : cfgP t = none) : kitP (mkB t) (pcs [] t) = badP := by
 unfold kitP
 split
 ·rename_i hp
  refine kitA_no fun h0 => ?_
  unfold cfgP at h
  rw [hp] at h
  simp only at h
  split at h
  ·cases h
  rename_i hn
  exact hn h0
 rfl
def numsP (s : List UInt8) (n : Nat) : Option (List Int) := if (pcs [] s).length = n then (pcs [] s).mapM numK else none
def cutB : List UInt8 → List UInt8 × List UInt8 × Bool
 | [] => ([], [], false)
 | c :: r => if c = 32 then ([], r, true) else (c :: (cutB r).1, (cutB r).2.1, (cutB r).2.2)
def ev (key : List UInt8) (t v : Int) : St := ⟨1, 1, key, t, v, 0, 0, 0, 0, 0⟩
def mk (src t : Int) : St := ⟨1, 2, [], t, 0, src, 0, 0, 0, 0⟩
def sv1 : St := ⟨1, 3, [], 0, 0, 0, 0, 0, 0, 0⟩
def pk (n : Int) : St := ⟨2, 0, [], 0, 0, 0, n, 0, 0, 0⟩
def dr : St := ⟨3, 0, [], 0, 0, 0, 0, 0, 0, 0⟩
def rs (n : Int) : St := ⟨4, 0, [], 0, 0, 0, 0, n, 0, 0⟩
def sp (n m : Int) : St := ⟨5, 0, [], 0, 0, 0, 0, 0, n, m⟩
def stepP (l : List UInt8) : Option St :=
 match cutB l with
 | (w, r, more) =>
  if more = false then (if w = [115, 97, 118, 101] then some sv1 else if w = [100, 114, 97, 105, 110] then some dr else none)
  else if w = [101, 118, 101, 110, 116] then (match keyK r with
   | some (k, q) => (match q with
    | c :: q' => if c = 32 then (match numsP q' 2 with
     | some [a, b] => some (ev k a b)
     | _ => none) else none
    | [] => none)
   | none => none)
  else if w = [109, 97, 114, 107] then (match numsP r 2 with
   | some [a, b] => some (mk a b)
   | _ => none)
  else if w = [112, 105, 99, 107] then (match numsP r 1 with
   | some [a] => some (pk a)
   | _ => none)
  else if w = [114, 101, 115, 116, 111, 114, 101] then (match numsP r 1 with
   | some [a] => some (rs a)
   | _ => none)
  else if w = [115, 112, 111, 105, 108] then (match numsP r 2 with
   | some [a, b] => if 0 ≤ b ∧ b < 4294967296 then some (sp a b) else none
   | _ => none)
  else none
def timeB (t : Int) : Bool := decide (-4611686018427387904 ≤ t) && decide (t ≤ 4611686018427387904)
def mayB (c : Cf) (x : St) : Bool :=
  if x.kd = 1 then (x.wk == 0 && (x.wks == 0 && (x.bit == 0 && (x.mask == 0 &&
    (if x.ik = 1 then decide (x.key.length ≤ 256) && (timeB x.t && x.src == 0)
     else if x.ik = 2 then decide (0 ≤ x.src) && (decide (x.src < c.s) && (timeB x.t && (decide (x.key = []) && x.v == 0)))
     else if x.ik = 3 then decide (x.key = []) && (x.t == 0 && (x.v == 0 && x.src == 0))
     else false)))))
  else if x.ik = 0 ∧ x.key = [] ∧ x.t = 0 ∧ x.v = 0 ∧ x.src = 0 then
    (if x.kd = 2 then x.wks == 0 && (x.bit == 0 && (x.mask == 0 && decide (0 ≤ x.wk)))
     else if x.kd = 3 then x.wk == 0 && (x.wks == 0 && (x.bit == 0 && x.mask == 0))
     else if x.kd = 4 then x.wk == 0 && (x.bit == 0 && (x.mask == 0 && (decide (1 ≤ x.wks) && decide (x.wks ≤ c.g))))
     else if x.kd = 5 then x.wk == 0 && (x.wks == 0 && decide (0 ≤ x.bit))
     else false)
  else false
def jobT : List UInt8 := [106, 111, 98, 32]
def worT : List UInt8 := [119, 111, 114, 107, 101, 114, 115, 32]
inductive RS where
 | go (n : Nat) (c : Cf) (wk : Int) (xs : List St)
 | ret
 | brk
def stepR (ln : List UInt8) (en : Bool) (n : Nat) (c : Cf) (wk : Int) (xs : List St) : RS :=
 if en = false then .ret else
 match n with
 | 0 => if hasPrefix ln jobT then (match cfgP (trimPrefix ln jobT) with
  | some c' => .go 1 c' wk xs
  | none => .brk) else .brk
 | 1 => if hasPrefix ln worT then (match numsP (trimPrefix ln worT) 1 with
  | some [x] => if x < 1 ∨ c.g < x then .brk else .go 2 c x xs
  | _ => .brk) else .brk
 | n + 2 => match stepP ln with
  | some x => if mayB c x then .go (n + 3) c wk (xs ++ [x]) else .ret
  | none => .ret
def cutsF : Nat → List UInt8 → List (List UInt8 × Bool)
 | 0, _ => []
 | f + 1, t => match t with
  | [] => []
  | c :: r => ((cutN (c :: r)).1, (cutN (c :: r)).2.2) :: cutsF f (cutN (c :: r)).2.1
def cutsP (t : List UInt8) : List (List UInt8 × Bool) := cutsF t.length t
theorem cutN_no : ∀ t : List UInt8, (cutN t).2.2 = false → (cutN t).2.1 = []
 | [], _ => rfl
 | c :: r, h => by
  unfold cutN at h ⊢
  split
  ·rename_i hc
   rw [if_pos hc] at h
   cases h
  rename_i hc
  rw [if_neg hc] at h
  exact cutN_no r h
theorem cutN_less (c : UInt8) (r : List UInt8) : (cutN (c :: r)).2.1.length < (c :: r).length := by
 cases h : (cutN (c :: r)).2.2 with
 | true => exact (cutN_len (c :: r)).2.2 h
 | false => rw [cutN_no _ h]; simp
theorem cutsF_fuel : ∀ (f g : Nat) (t : List UInt8), t.length ≤ f → t.length ≤ g → cutsF f t = cutsF g t
 | 0, 0, _, _, _ => rfl
 | 0, g + 1, t, h, _ => by
  have : t = [] := List.eq_nil_of_length_eq_zero (by omega)
  subst this; rfl
 | f + 1, 0, t, _, h => by
  have : t = [] := List.eq_nil_of_length_eq_zero (by omega)
  subst this; rfl
 | f + 1, g + 1, t, h1, h2 => by
  cases t with
  | nil => rfl
  | cons c r =>
   have := cutN_less c r
   simp only [cutsF]
   rw [cutsF_fuel f g _ (by omega) (by omega)]
theorem cutsP_nil : cutsP [] = [] := rfl
theorem cutsP_cons {c : UInt8} {r ln rs : List UInt8} {en : Bool} (h : cutN (c :: r) = (ln, rs, en)) : cutsP (c :: r) = (ln, en) :: cutsP rs := by
 have hl := cutN_less c r
 unfold cutsP
 rw [List.length_cons]
 simp only [cutsF, h]
 rw [h] at hl
 rw [cutsF_fuel r.length rs.length rs (by simp only [List.length_cons] at hl; omega) (Nat.le_refl _)]
structure FO where
 n : Nat
 c : Cf
 wk : Int
 xs : List St
 stop : Option Bool
def runL : List (List UInt8 × Bool) → Nat → Cf → Int → List St → FO
 | [], n, c, wk, xs => ⟨n, c, wk, xs, none⟩
 | (ln, en) :: ls, n, c, wk, xs => match stepR ln en n c wk xs with
  | .go n' c' wk' xs' => runL ls n' c' wk' xs'
  | .ret => ⟨n, c, wk, xs, some true⟩
  | .brk => ⟨n, c, wk, xs, some false⟩
def FO.ok (f : FO) : Bool := f.stop != some true && decide (2 ≤ f.n)
def parseS (t : List UInt8) : FO := runL (cutsP t) 0 cf0 0 []
end Go.Proofs.YthfpekhpeiebjaaGreatDoor
end
section
namespace Go.Proofs.YthfpekhpeiebjaaGreatDoor
open Go.RowKit Go.Sx
def it1 (key : ByteArray) (t src : Int) : Bool := decide ((key.size : Int) ≤ 256) && (timeB t && (src == 0))
def it2 (s : Int) (key : ByteArray) (t v src : Int) : Bool := decide (src ≥ 0) && (decide (src < s) && (timeB t && ((key.toList == (ByteArray.mk #[]).toList) && (v == 0))))
def it3 (key : ByteArray) (t v src : Int) : Bool := (key.toList == (ByteArray.mk #[]).toList) && ((t == 0) && ((v == 0) && (src == 0)))
def itN : Bool := false
theorem size0 (key : ByteArray) (h : (key.toList == (ByteArray.mk #[]).toList) = true) : key.size = 0 := by
 have h' := eq_of_beq h
 rw [ByteArray.toList_eq, ByteArray.toList_eq] at h'
 have := congrArg List.length h'
 simpa using this
theorem wrong_s {g s k sz sl of gp lt ea : Int} (h : wrongF g s k sz sl of gp lt ea = 0) : 1 ≤ s ∧ s ≤ 64 := by
 unfold wrongF at h
 cases h1 : (decide (1 ≤ g) && decide (g ≤ 32768)) with
 | false => rw [h1] at h; simp at h
 | true =>
  rw [h1] at h
  cases h2 : (decide (1 ≤ s) && decide (s ≤ 64)) with
  | false => rw [h2] at h; simp at h
  | true => simpa using h2
noncomputable def B84 : Code := (Tryz.f84.body).getD .skip
set_option maxHeartbeats 4000000 in
set_option maxRecDepth 100000 in
theorem istime_any (t : Int) (w : World) : Calls Tryz.prog 84 #[.int .i64 t] w fun e w' => e = .returned (.bool (timeB t)) ∧ Below w.heap.size w w' := by
 refine enter (fn := Tryz.f84) (c := B84) [.io .i64 t] Tryz.func84 rfl rfl ?_
 refine At.to noF_stable noF_fewer 20 400 [3] 0 ⟨pops B84 [1, 0] 1, [.seq (sub B84 [1, 1])], [(3, .io .i64 t)], []⟩ (by kernel_rfl) (by kernel_rfl) ?_
 refine zC noF_stable 85 [.io .i64 t, .v (.int .i64 (-4611686018427387904)), .v (.int .i64 4611686018427387904)] (.bo (decide (-4611686018427387904 ≤ t) && decide (t ≤ 4611686018427387904))) (fun _ _ w _ _ => within_any (t) (-4611686018427387904) (4611686018427387904) w) ?_
 refine At.to noF_stable noF_fewer 20 400 [2] 0 ⟨.exit .ret, [], [(2, .bo (decide (-4611686018427387904 ≤ t) && decide (t ≤ 4611686018427387904)))], []⟩ (by kernel_rfl) (by kernel_rfl) ?_
 refine zE (.bo (decide (-4611686018427387904 ≤ t) && decide (t ≤ 4611686018427387904))) ?_
 intro ρ w9 hw9 _
 exact ⟨rfl, hw9.below⟩
noncomputable def B61 : Code := (Tryz.f61.body).getD .skip
set_option maxHeartbeats 4000000 in
set_option maxRecDepth 100000 in
theorem item_1 (g s k sz sl of gp lt ea : Int) (d : Bool) (key : ByteArray) (t v src : Int) (w : World) (h0 : wrongF g s k sz sl of gp lt ea = 0) : Calls Tryz.prog 61 #[.agg #[.int .i64 g, .int .i64 s, .int .i64 k, .int .i64 sz, .int .i64 sl, .int .i64 of, .int .i64 gp, .int .i64 lt, .int .i64 ea, .bool d], .agg #[.int .i64 1, .string key, .int .i64 t, .int .i64 v, .int .i64 src]] w fun e w' => e = .returned (.int .i64 (bif it1 key t src then 0 else 5)) ∧ Below w.heap.size w w' := by
 have hs := wrong_s h0
 refine enter (fn := Tryz.f61) (c := B61) [.agg (cfgL g s k sz sl of gp lt ea d), .agg [.v (.int .i64 1), .so key, .io .i64 t, .io .i64 v, .io .i64 src]] Tryz.func61 rfl rfl ?_
 refine zM [2, 3, 7] 2 ⟨pops B61 [1, 0, 0] 1, [.seq (sub B61 [1, 0, 1]), .seq (sub B61 [1, 1])], [(2, .lp 0 0), (3, .lp 1 0), (7, .agg (cfgL g s k sz sl of gp lt ea d))], [((cfgL g s k sz sl of gp lt ea d), 25), ([.v (.int .i64 1), .so key, .io .i64 t, .io .i64 v, .io .i64 src], 38)]⟩ ?_
 refine zC noF_stable 41 [.agg (cfgL g s k sz sl of gp lt ea d)] (.v (.int .i64 0)) (fun _ _ w1 hi _ => (check_any g s k sz sl of gp lt ea d w1).mono fun e w' h => ⟨h.1.trans (by rw [h0]; rfl), h.2⟩) ?_
 refine zM [2, 3, 6] 3 ⟨.any (opsOf (sub B61 [1, 1, 1, 0, 1, 4, 1, 2])) 12 [], [.block 0, .seq (sub B61 [1, 1, 1, 1])], [(2, .lp 0 0), (3, .lp 1 0), (6, .lp 2 0)], [((cfgL g s k sz sl of gp lt ea d), 25), ([.v (.int .i64 1), .so key, .io .i64 t, .io .i64 v, .io .i64 src], 38), ([.v (.int .i64 1), .v (.string (ByteArray.mk #[])), .v (.int .i64 0), .v (.int .i64 0), .v (.int .i64 0)], 38)]⟩ ?_
 refine At.anyOrder noF_stable (j := 0) (fun _ _ _ _ _ => trivial) rfl 20 15 [2, 3, 6] 3 [(2, .lp 0 0), (3, .lp 1 0), (6, .lp 2 0)] ([((cfgL g s k sz sl of gp lt ea d), 25), ([.v (.int .i64 1), .so key, .io .i64 t, .io .i64 v, .io .i64 src], 38), ([.v (.int .i64 1), .so key, .io .i64 t, .io .i64 v, .v (.int .i64 0)], 38)]) (by kernel_rfl) (by kernel_rfl) ?_
 refine zM [2, 3, 41] 2 ⟨pops B61 pAH7 4, [.seq (sub B61 pAH8), .seq (sub B61 pAH9)], [(2, .lp 0 0), (3, .lp 1 0), (41, .bo !(1 == 1 && (key.toList == key.toList && (t == t && (v == v && (src == 0 && true))))))], [((cfgL g s k sz sl of gp lt ea d), 25), ([.v (.int .i64 1), .so key, .io .i64 t, .io .i64 v, .io .i64 src], 38)]⟩ ?_
 rcases Bool.eq_false_or_eq_true (!(1 == 1 && (key.toList == key.toList && (t == t && (v == v && (src == 0 && true)))))) with b0 | b0
 ·refine zR 41 b0 ?_
  refine zM [4] 0 ⟨.exit .ret, [], [(4, .v (.int .i64 5))], []⟩ ?_
  refine zE (.v (.int .i64 5)) ?_
  have hq : it1 key t src = false := by
   have hsrc : (src == 0) = false := by simpa only [BEq.rfl, Bool.true_and, Bool.and_true, Bool.not_eq_true'] using b0
   unfold it1
   rw [hsrc]
   simp
  intro ρ w9 hw9 _
  exact ⟨by rw [hq]; rfl, hw9.below⟩
 refine zR 41 b0 ?_
 refine zM [2, 3, 47] 2 ⟨pops B61 pAH7 10, [.seq (sub B61 pAH8), .seq (sub B61 pAH9)], [(2, .lp 0 0), (3, .lp 1 0), (47, .bo (decide ((↑key.size : Int) > 256)))], [((cfgL g s k sz sl of gp lt ea d), 25), ([.v (.int .i64 1), .so key, .io .i64 t, .io .i64 v, .io .i64 src], 38)]⟩ ?_
 rcases Bool.eq_false_or_eq_true (decide ((↑key.size : Int) > 256)) with b1 | b1
 ·refine zR 47 b1 ?_
  refine zM [4] 0 ⟨.exit .ret, [], [(4, .v (.int .i64 5))], []⟩ ?_
  refine zE (.v (.int .i64 5)) ?_
  have hq : it1 key t src = false := by
   have hbig : decide ((key.size : Int) ≤ 256) = false := decide_eq_false (by have := of_decide_eq_true b1; omega)
   unfold it1
   rw [hbig]
   rfl
  intro ρ w9 hw9 _
  exact ⟨by rw [hq]; rfl, hw9.below⟩
 refine zR 47 b1 ?_
 refine zM [2, 3, 47, 49] 2 ⟨pops B61 pAH7 12, [.seq (sub B61 pAH8), .seq (sub B61 pAH9)], [(2, .lp 0 0), (3, .lp 1 0), (47, .v (.bool false)), (49, .io .i64 t)], [((cfgL g s k sz sl of gp lt ea d), 25), ([.v (.int .i64 1), .so key, .io .i64 t, .io .i64 v, .io .i64 src], 38)]⟩ ?_
 refine zC (noF_stable) 84 [.io .i64 t] (.bo (timeB t)) (fun _ _ w _ _ => istime_any (t) w) ?_
 refine zM [2, 3, 53] 2 ⟨pops B61 pAH7 16, [.seq (sub B61 pAH8), .seq (sub B61 pAH9)], [(2, .lp 0 0), (3, .lp 1 0), (53, .bo !timeB t)], [((cfgL g s k sz sl of gp lt ea d), 25), ([.v (.int .i64 1), .so key, .io .i64 t, .io .i64 v, .io .i64 src], 38)]⟩ ?_
 rcases Bool.eq_false_or_eq_true (!timeB t) with b2 | b2
 ·refine zR 53 b2 ?_
  refine zM [4] 0 ⟨.exit .ret, [], [(4, .v (.int .i64 5))], []⟩ ?_
  refine zE (.v (.int .i64 5)) ?_
  have hq : it1 key t src = false := by
   have ht : timeB t = false := by simpa using b2
   unfold it1
   rw [ht]
   simp
  intro ρ w9 hw9 _
  exact ⟨by rw [hq]; rfl, hw9.below⟩
 refine zR 53 b2 ?_
 refine zM [53, 55, 58] 0 ⟨pops B61 pAH7 21, [.seq (sub B61 pAH8), .seq (sub B61 pAH9)], [(53, .v (.bool false)), (55, .io .i64 src), (58, .io .i64 (IntKind.i64.wrap (s - 1)))], []⟩ ?_
 refine zC (noF_stable) 85 [.io .i64 src, .v (.int .i64 0), .io .i64 (IntKind.i64.wrap (s - 1))] (.bo (decide (0 ≤ src) && decide (src ≤ IntKind.i64.wrap (s - 1)))) (fun _ _ w _ _ => within_any (src) (0) (IntKind.i64.wrap (s - 1)) w) ?_
 refine zM [61] 0 ⟨.code (sub B61 pAH8), [.seq (sub B61 pAH9)], [(61, .bo !(decide (0 ≤ src) && decide (src ≤ IntKind.i64.wrap (s - 1))))], []⟩ ?_
 rcases Bool.eq_false_or_eq_true (!(decide (0 ≤ src) && decide (src ≤ IntKind.i64.wrap (s - 1)))) with b3 | b3
 ·refine zR 61 b3 ?_
  refine zM [4] 0 ⟨.exit .ret, [], [(4, .v (.int .i64 5))], []⟩ ?_
  refine zE (.v (.int .i64 5)) ?_
  have hq : it1 key t src = false := by
   have hsrc : (src == 0) = true := by simpa only [BEq.rfl, Bool.true_and, Bool.and_true, Bool.not_eq_false'] using b0
   have h1 : src = 0 := by simpa using hsrc
   subst h1
   rw [wrap63 (by omega) (by omega)] at b3
   have h2 : decide ((0 : Int) ≤ 0) = true := rfl
   have h3 : decide (0 ≤ s - 1) = true := decide_eq_true (by omega)
   rw [h2, h3] at b3
   cases b3
  intro ρ w9 hw9 _
  exact ⟨by rw [hq]; rfl, hw9.below⟩
 refine zR 61 b3 ?_
 refine zM [4] 0 ⟨.exit .ret, [], [(4, .v (.int .i64 0))], []⟩ ?_
 refine zE (.v (.int .i64 0)) ?_
 have hq : it1 key t src = true := by
  have hsrc : (src == 0) = true := by simpa only [BEq.rfl, Bool.true_and, Bool.and_true, Bool.not_eq_false'] using b0
  have hsml : decide ((key.size : Int) ≤ 256) = true := decide_eq_true (by have := of_decide_eq_false b1; omega)
  have ht : timeB t = true := by simpa using b2
  unfold it1
  rw [hsrc, hsml, ht]
  rfl
 intro ρ w9 hw9 _
 exact ⟨by rw [hq]; rfl, hw9.below⟩
set_option maxHeartbeats 4000000 in
set_option maxRecDepth 100000 in
theorem item_2 (g s k sz sl of gp lt ea : Int) (d : Bool) (key : ByteArray) (t v src : Int) (w : World) (h0 : wrongF g s k sz sl of gp lt ea = 0) : Calls Tryz.prog 61 #[.agg #[.int .i64 g, .int .i64 s, .int .i64 k, .int .i64 sz, .int .i64 sl, .int .i64 of, .int .i64 gp, .int .i64 lt, .int .i64 ea, .bool d], .agg #[.int .i64 2, .string key, .int .i64 t, .int .i64 v, .int .i64 src]] w fun e w' => e = .returned (.int .i64 (bif it2 s key t v src then 0 else 5)) ∧ Below w.heap.size w w' := by
 have hs := wrong_s h0
 refine enter (fn := Tryz.f61) (c := B61) [.agg (cfgL g s k sz sl of gp lt ea d), .agg [.v (.int .i64 2), .so key, .io .i64 t, .io .i64 v, .io .i64 src]] Tryz.func61 rfl rfl ?_
 refine zM [2, 3, 7] 2 ⟨pops B61 [1, 0, 0] 1, [.seq (sub B61 [1, 0, 1]), .seq (sub B61 [1, 1])], [(2, .lp 0 0), (3, .lp 1 0), (7, .agg (cfgL g s k sz sl of gp lt ea d))], [((cfgL g s k sz sl of gp lt ea d), 25), ([.v (.int .i64 2), .so key, .io .i64 t, .io .i64 v, .io .i64 src], 38)]⟩ ?_
 refine zC noF_stable 41 [.agg (cfgL g s k sz sl of gp lt ea d)] (.v (.int .i64 0)) (fun _ _ w1 hi _ => (check_any g s k sz sl of gp lt ea d w1).mono fun e w' h => ⟨h.1.trans (by rw [h0]; rfl), h.2⟩) ?_
 refine zM [2, 3, 6] 3 ⟨.any (opsOf (sub B61 [1, 1, 1, 0, 1, 4, 1, 3, 1, 2])) 8 [], [.block 0, .seq (sub B61 [1, 1, 1, 1])], [(2, .lp 0 0), (3, .lp 1 0), (6, .lp 2 0)], [((cfgL g s k sz sl of gp lt ea d), 25), ([.v (.int .i64 2), .so key, .io .i64 t, .io .i64 v, .io .i64 src], 38), ([.v (.int .i64 2), .v (.string (ByteArray.mk #[])), .v (.int .i64 0), .v (.int .i64 0), .v (.int .i64 0)], 38)]⟩ ?_
 refine At.anyOrder noF_stable (j := 0) (fun _ _ _ _ _ => trivial) rfl 20 3 [2, 3, 6] 3 [(2, .lp 0 0), (3, .lp 1 0), (6, .lp 2 0)] ([((cfgL g s k sz sl of gp lt ea d), 25), ([.v (.int .i64 2), .so key, .io .i64 t, .io .i64 v, .io .i64 src], 38), ([.v (.int .i64 2), .v (.string (ByteArray.mk #[])), .io .i64 t, .v (.int .i64 0), .io .i64 src], 38)]) (by kernel_rfl) (by kernel_rfl) ?_
 refine zM [2, 3, 41] 2 ⟨pops B61 pAH7 4, [.seq (sub B61 pAH8), .seq (sub B61 pAH9)], [(2, .lp 0 0), (3, .lp 1 0), (41, .bo !(2 == 2 && (key.toList == (ByteArray.mk #[]).toList && (t == t && (v == 0 && (src == src && true))))))], [((cfgL g s k sz sl of gp lt ea d), 25), ([.v (.int .i64 2), .so key, .io .i64 t, .io .i64 v, .io .i64 src], 38)]⟩ ?_
 rcases Bool.eq_false_or_eq_true (!(2 == 2 && (key.toList == (ByteArray.mk #[]).toList && (t == t && (v == 0 && (src == src && true)))))) with b0 | b0
 ·refine zR 41 b0 ?_
  refine zM [4] 0 ⟨.exit .ret, [], [(4, .v (.int .i64 5))], []⟩ ?_
  refine zE (.v (.int .i64 5)) ?_
  have hq : it2 s key t v src = false := by
   have hev : ((key.toList == (ByteArray.mk #[]).toList) && (v == 0)) = false := by simpa only [BEq.rfl, Bool.true_and, Bool.and_true, Bool.not_eq_true'] using b0
   unfold it2
   rw [hev]
   simp
  intro ρ w9 hw9 _
  exact ⟨by rw [hq]; rfl, hw9.below⟩
 refine zR 41 b0 ?_
 refine zM [2, 3, 47] 2 ⟨pops B61 pAH7 10, [.seq (sub B61 pAH8), .seq (sub B61 pAH9)], [(2, .lp 0 0), (3, .lp 1 0), (47, .bo (decide ((↑key.size : Int) > 256)))], [((cfgL g s k sz sl of gp lt ea d), 25), ([.v (.int .i64 2), .so key, .io .i64 t, .io .i64 v, .io .i64 src], 38)]⟩ ?_
 rcases Bool.eq_false_or_eq_true (decide ((↑key.size : Int) > 256)) with b1 | b1
 ·refine zR 47 b1 ?_
  refine zM [4] 0 ⟨.exit .ret, [], [(4, .v (.int .i64 5))], []⟩ ?_
  refine zE (.v (.int .i64 5)) ?_
  have hq : it2 s key t v src = false := by
   have hev : ((key.toList == (ByteArray.mk #[]).toList) && (v == 0)) = true := by simpa only [BEq.rfl, Bool.true_and, Bool.and_true, Bool.not_eq_false'] using b0
   simp only [Bool.and_eq_true] at hev
   have hz := size0 key hev.1
   rw [hz] at b1
   cases b1
  intro ρ w9 hw9 _
  exact ⟨by rw [hq]; rfl, hw9.below⟩
 refine zR 47 b1 ?_
 refine zM [2, 3, 47, 49] 2 ⟨pops B61 pAH7 12, [.seq (sub B61 pAH8), .seq (sub B61 pAH9)], [(2, .lp 0 0), (3, .lp 1 0), (47, .v (.bool false)), (49, .io .i64 t)], [((cfgL g s k sz sl of gp lt ea d), 25), ([.v (.int .i64 2), .so key, .io .i64 t, .io .i64 v, .io .i64 src], 38)]⟩ ?_
 refine zC (noF_stable) 84 [.io .i64 t] (.bo (timeB t)) (fun _ _ w _ _ => istime_any (t) w) ?_
 refine zM [2, 3, 53] 2 ⟨pops B61 pAH7 16, [.seq (sub B61 pAH8), .seq (sub B61 pAH9)], [(2, .lp 0 0), (3, .lp 1 0), (53, .bo !timeB t)], [((cfgL g s k sz sl of gp lt ea d), 25), ([.v (.int .i64 2), .so key, .io .i64 t, .io .i64 v, .io .i64 src], 38)]⟩ ?_
 rcases Bool.eq_false_or_eq_true (!timeB t) with b2 | b2
 ·refine zR 53 b2 ?_
  refine zM [4] 0 ⟨.exit .ret, [], [(4, .v (.int .i64 5))], []⟩ ?_
  refine zE (.v (.int .i64 5)) ?_
  have hq : it2 s key t v src = false := by
   have ht : timeB t = false := by simpa using b2
   unfold it2
   rw [ht]
   simp
  intro ρ w9 hw9 _
  exact ⟨by rw [hq]; rfl, hw9.below⟩
 refine zR 53 b2 ?_
 refine zM [53, 55, 58] 0 ⟨pops B61 pAH7 21, [.seq (sub B61 pAH8), .seq (sub B61 pAH9)], [(53, .v (.bool false)), (55, .io .i64 src), (58, .io .i64 (IntKind.i64.wrap (s - 1)))], []⟩ ?_
 refine zC (noF_stable) 85 [.io .i64 src, .v (.int .i64 0), .io .i64 (IntKind.i64.wrap (s - 1))] (.bo (decide (0 ≤ src) && decide (src ≤ IntKind.i64.wrap (s - 1)))) (fun _ _ w _ _ => within_any (src) (0) (IntKind.i64.wrap (s - 1)) w) ?_
 refine zM [61] 0 ⟨.code (sub B61 pAH8), [.seq (sub B61 pAH9)], [(61, .bo !(decide (0 ≤ src) && decide (src ≤ IntKind.i64.wrap (s - 1))))], []⟩ ?_
 rcases Bool.eq_false_or_eq_true (!(decide (0 ≤ src) && decide (src ≤ IntKind.i64.wrap (s - 1)))) with b3 | b3
 ·refine zR 61 b3 ?_
  refine zM [4] 0 ⟨.exit .ret, [], [(4, .v (.int .i64 5))], []⟩ ?_
  refine zE (.v (.int .i64 5)) ?_
  have hq : it2 s key t v src = false := by
   rw [wrap63 (by omega) (by omega)] at b3
   unfold it2
   by_cases h1 : 0 ≤ src
   ·have h2 : ¬ src < s := by
     intro h2
     rw [decide_eq_true h1, decide_eq_true (show src ≤ s - 1 by omega)] at b3
     cases b3
    rw [decide_eq_false h2]
    simp
   rw [decide_eq_false (show ¬ src ≥ 0 from h1)]
   rfl
  intro ρ w9 hw9 _
  exact ⟨by rw [hq]; rfl, hw9.below⟩
 refine zR 61 b3 ?_
 refine zM [4] 0 ⟨.exit .ret, [], [(4, .v (.int .i64 0))], []⟩ ?_
 refine zE (.v (.int .i64 0)) ?_
 have hq : it2 s key t v src = true := by
  have hev : ((key.toList == (ByteArray.mk #[]).toList) && (v == 0)) = true := by simpa only [BEq.rfl, Bool.true_and, Bool.and_true, Bool.not_eq_false'] using b0
  simp only [Bool.and_eq_true] at hev
  have ht : timeB t = true := by simpa using b2
  rw [wrap63 (by omega) (by omega)] at b3
  have h1 : 0 ≤ src ∧ src ≤ s - 1 := by simpa using b3
  unfold it2
  rw [hev.1, hev.2, ht, decide_eq_true (show src ≥ 0 by omega), decide_eq_true (show src < s by omega)]
  rfl
 intro ρ w9 hw9 _
 exact ⟨by rw [hq]; rfl, hw9.below⟩
set_option maxHeartbeats 4000000 in
set_option maxRecDepth 100000 in
theorem item_3 (g s k sz sl of gp lt ea : Int) (d : Bool) (key : ByteArray) (t v src : Int) (w : World) (h0 : wrongF g s k sz sl of gp lt ea = 0) : Calls Tryz.prog 61 #[.agg #[.int .i64 g, .int .i64 s, .int .i64 k, .int .i64 sz, .int .i64 sl, .int .i64 of, .int .i64 gp, .int .i64 lt, .int .i64 ea, .bool d], .agg #[.int .i64 3, .string key, .int .i64 t, .int .i64 v, .int .i64 src]] w fun e w' => e = .returned (.int .i64 (bif it3 key t v src then 0 else 5)) ∧ Below w.heap.size w w' := by
 have hs := wrong_s h0
 refine enter (fn := Tryz.f61) (c := B61) [.agg (cfgL g s k sz sl of gp lt ea d), .agg [.v (.int .i64 3), .so key, .io .i64 t, .io .i64 v, .io .i64 src]] Tryz.func61 rfl rfl ?_
 refine zM [2, 3, 7] 2 ⟨pops B61 [1, 0, 0] 1, [.seq (sub B61 [1, 0, 1]), .seq (sub B61 [1, 1])], [(2, .lp 0 0), (3, .lp 1 0), (7, .agg (cfgL g s k sz sl of gp lt ea d))], [((cfgL g s k sz sl of gp lt ea d), 25), ([.v (.int .i64 3), .so key, .io .i64 t, .io .i64 v, .io .i64 src], 38)]⟩ ?_
 refine zC noF_stable 41 [.agg (cfgL g s k sz sl of gp lt ea d)] (.v (.int .i64 0)) (fun _ _ w1 hi _ => (check_any g s k sz sl of gp lt ea d w1).mono fun e w' h => ⟨h.1.trans (by rw [h0]; rfl), h.2⟩) ?_
 refine zM [2, 3, 41] 2 ⟨pops B61 pAH7 4, [.seq (sub B61 pAH8), .seq (sub B61 pAH9)], [(2, .lp 0 0), (3, .lp 1 0), (41, .bo !(3 == 3 && (key.toList == (ByteArray.mk #[]).toList && (t == 0 && (v == 0 && (src == 0 && true))))))], [((cfgL g s k sz sl of gp lt ea d), 25), ([.v (.int .i64 3), .so key, .io .i64 t, .io .i64 v, .io .i64 src], 38)]⟩ ?_
 rcases Bool.eq_false_or_eq_true (!(3 == 3 && (key.toList == (ByteArray.mk #[]).toList && (t == 0 && (v == 0 && (src == 0 && true)))))) with b0 | b0
 ·refine zR 41 b0 ?_
  refine zM [4] 0 ⟨.exit .ret, [], [(4, .v (.int .i64 5))], []⟩ ?_
  refine zE (.v (.int .i64 5)) ?_
  have hq : it3 key t v src = false := by
   simpa only [it3, BEq.rfl, Bool.true_and, Bool.and_true, Bool.not_eq_true'] using b0
  intro ρ w9 hw9 _
  exact ⟨by rw [hq]; rfl, hw9.below⟩
 refine zR 41 b0 ?_
 refine zM [2, 3, 47] 2 ⟨pops B61 pAH7 10, [.seq (sub B61 pAH8), .seq (sub B61 pAH9)], [(2, .lp 0 0), (3, .lp 1 0), (47, .bo (decide ((↑key.size : Int) > 256)))], [((cfgL g s k sz sl of gp lt ea d), 25), ([.v (.int .i64 3), .so key, .io .i64 t, .io .i64 v, .io .i64 src], 38)]⟩ ?_
 rcases Bool.eq_false_or_eq_true (decide ((↑key.size : Int) > 256)) with b1 | b1
 ·refine zR 47 b1 ?_
  refine zM [4] 0 ⟨.exit .ret, [], [(4, .v (.int .i64 5))], []⟩ ?_
  refine zE (.v (.int .i64 5)) ?_
  have hq : it3 key t v src = false := by
   have h3 : it3 key t v src = true := by simpa only [it3, BEq.rfl, Bool.true_and, Bool.and_true, Bool.not_eq_false'] using b0
   have h4 := h3
   simp only [it3, Bool.and_eq_true] at h4
   have hz := size0 key h4.1
   rw [hz] at b1
   cases b1
  intro ρ w9 hw9 _
  exact ⟨by rw [hq]; rfl, hw9.below⟩
 refine zR 47 b1 ?_
 refine zM [2, 3, 47, 49] 2 ⟨pops B61 pAH7 12, [.seq (sub B61 pAH8), .seq (sub B61 pAH9)], [(2, .lp 0 0), (3, .lp 1 0), (47, .v (.bool false)), (49, .io .i64 t)], [((cfgL g s k sz sl of gp lt ea d), 25), ([.v (.int .i64 3), .so key, .io .i64 t, .io .i64 v, .io .i64 src], 38)]⟩ ?_
 refine zC (noF_stable) 84 [.io .i64 t] (.bo (timeB t)) (fun _ _ w _ _ => istime_any (t) w) ?_
 refine zM [2, 3, 53] 2 ⟨pops B61 pAH7 16, [.seq (sub B61 pAH8), .seq (sub B61 pAH9)], [(2, .lp 0 0), (3, .lp 1 0), (53, .bo !timeB t)], [((cfgL g s k sz sl of gp lt ea d), 25), ([.v (.int .i64 3), .so key, .io .i64 t, .io .i64 v, .io .i64 src], 38)]⟩ ?_
 rcases Bool.eq_false_or_eq_true (!timeB t) with b2 | b2
 ·refine zR 53 b2 ?_
  refine zM [4] 0 ⟨.exit .ret, [], [(4, .v (.int .i64 5))], []⟩ ?_
  refine zE (.v (.int .i64 5)) ?_
  have hq : it3 key t v src = false := by
   have h3 : it3 key t v src = true := by simpa only [it3, BEq.rfl, Bool.true_and, Bool.and_true, Bool.not_eq_false'] using b0
   have h4 := h3
   simp only [it3, Bool.and_eq_true] at h4
   have ht : t = 0 := by simpa using h4.2.1
   subst ht
   exact absurd b2 (by decide)
  intro ρ w9 hw9 _
  exact ⟨by rw [hq]; rfl, hw9.below⟩
 refine zR 53 b2 ?_
 refine zM [53, 55, 58] 0 ⟨pops B61 pAH7 21, [.seq (sub B61 pAH8), .seq (sub B61 pAH9)], [(53, .v (.bool false)), (55, .io .i64 src), (58, .io .i64 (IntKind.i64.wrap (s - 1)))], []⟩ ?_
 refine zC (noF_stable) 85 [.io .i64 src, .v (.int .i64 0), .io .i64 (IntKind.i64.wrap (s - 1))] (.bo (decide (0 ≤ src) && decide (src ≤ IntKind.i64.wrap (s - 1)))) (fun _ _ w _ _ => within_any (src) (0) (IntKind.i64.wrap (s - 1)) w) ?_
 refine zM [61] 0 ⟨.code (sub B61 pAH8), [.seq (sub B61 pAH9)], [(61, .bo !(decide (0 ≤ src) && decide (src ≤ IntKind.i64.wrap (s - 1))))], []⟩ ?_
 rcases Bool.eq_false_or_eq_true (!(decide (0 ≤ src) && decide (src ≤ IntKind.i64.wrap (s - 1)))) with b3 | b3
 ·refine zR 61 b3 ?_
  refine zM [4] 0 ⟨.exit .ret, [], [(4, .v (.int .i64 5))], []⟩ ?_
  refine zE (.v (.int .i64 5)) ?_
  have hq : it3 key t v src = false := by
   have h3 : it3 key t v src = true := by simpa only [it3, BEq.rfl, Bool.true_and, Bool.and_true, Bool.not_eq_false'] using b0
   have h4 := h3
   simp only [it3, Bool.and_eq_true] at h4
   have hsrc := h4.2.2.2
   have h1 : src = 0 := by simpa using hsrc
   subst h1
   rw [wrap63 (by omega) (by omega)] at b3
   have h2 : decide ((0 : Int) ≤ 0) = true := rfl
   have h3 : decide (0 ≤ s - 1) = true := decide_eq_true (by omega)
   rw [h2, h3] at b3
   cases b3
  intro ρ w9 hw9 _
  exact ⟨by rw [hq]; rfl, hw9.below⟩
 refine zR 61 b3 ?_
 refine zM [4] 0 ⟨.exit .ret, [], [(4, .v (.int .i64 0))], []⟩ ?_
 refine zE (.v (.int .i64 0)) ?_
 have hq : it3 key t v src = true := by
  have h3 : it3 key t v src = true := by simpa only [it3, BEq.rfl, Bool.true_and, Bool.and_true, Bool.not_eq_false'] using b0
  have h4 := h3
  simp only [it3, Bool.and_eq_true] at h4
  exact h3
 intro ρ w9 hw9 _
 exact ⟨by rw [hq]; rfl, hw9.below⟩
set_option maxHeartbeats 4000000 in
set_option maxRecDepth 100000 in
theorem item_n (g s k sz sl of gp lt ea : Int) (d : Bool) (kd : Int) (key : ByteArray) (t v src : Int) (w : World) (h0 : wrongF g s k sz sl of gp lt ea = 0) (k1 : (kd == 1) = false) (k2 : (kd == 2) = false) (k3 : (kd == 3) = false) : Calls Tryz.prog 61 #[.agg #[.int .i64 g, .int .i64 s, .int .i64 k, .int .i64 sz, .int .i64 sl, .int .i64 of, .int .i64 gp, .int .i64 lt, .int .i64 ea, .bool d], .agg #[.int .i64 kd, .string key, .int .i64 t, .int .i64 v, .int .i64 src]] w fun e w' => e = .returned (.int .i64 (bif itN then 0 else 5)) ∧ Below w.heap.size w w' := by
 have hs := wrong_s h0
 refine enter (fn := Tryz.f61) (c := B61) [.agg (cfgL g s k sz sl of gp lt ea d), .agg [.io .i64 kd, .so key, .io .i64 t, .io .i64 v, .io .i64 src]] Tryz.func61 rfl rfl ?_
 refine zM [2, 3, 7] 2 ⟨pops B61 [1, 0, 0] 1, [.seq (sub B61 [1, 0, 1]), .seq (sub B61 [1, 1])], [(2, .lp 0 0), (3, .lp 1 0), (7, .agg (cfgL g s k sz sl of gp lt ea d))], [((cfgL g s k sz sl of gp lt ea d), 25), ([.io .i64 kd, .so key, .io .i64 t, .io .i64 v, .io .i64 src], 38)]⟩ ?_
 refine zC noF_stable 41 [.agg (cfgL g s k sz sl of gp lt ea d)] (.v (.int .i64 0)) (fun _ _ w1 hi _ => (check_any g s k sz sl of gp lt ea d w1).mono fun e w' h => ⟨h.1.trans (by rw [h0]; rfl), h.2⟩) ?_
 refine zM [2, 3, 6, 16, 17] 3 ⟨.code (sub B61 [1, 1, 1, 0, 1, 4, 1]), [.block 0, .seq (sub B61 [1, 1, 1, 1])], [(2, .lp 0 0), (3, .lp 1 0), (6, .lp 2 0), (16, .io .i64 kd), (17, .bo (kd == 1))], [((cfgL g s k sz sl of gp lt ea d), 25), ([.io .i64 kd, .so key, .io .i64 t, .io .i64 v, .io .i64 src], 38), ([.io .i64 kd, .v (.string (ByteArray.mk #[])), .v (.int .i64 0), .v (.int .i64 0), .v (.int .i64 0)], 38)]⟩ ?_
 refine zR 17 k1 ?_
 refine zM [2, 3, 6, 16, 28] 3 ⟨.code (sub B61 [1, 1, 1, 0, 1, 4, 1, 3, 1]), [.block 0, .seq (sub B61 [1, 1, 1, 1])], [(2, .lp 0 0), (3, .lp 1 0), (6, .lp 2 0), (16, .io .i64 kd), (28, .bo (kd == 2))], [((cfgL g s k sz sl of gp lt ea d), 25), ([.io .i64 kd, .so key, .io .i64 t, .io .i64 v, .io .i64 src], 38), ([.io .i64 kd, .v (.string (ByteArray.mk #[])), .v (.int .i64 0), .v (.int .i64 0), .v (.int .i64 0)], 38)]⟩ ?_
 refine zR 28 k2 ?_
 refine zM [2, 3, 6, 36] 3 ⟨.code (sub B61 [1, 1, 1, 0, 1, 4, 1, 3, 1, 3, 1]), [.block 0, .seq (sub B61 [1, 1, 1, 1])], [(2, .lp 0 0), (3, .lp 1 0), (6, .lp 2 0), (36, .bo (kd == 3))], [((cfgL g s k sz sl of gp lt ea d), 25), ([.io .i64 kd, .so key, .io .i64 t, .io .i64 v, .io .i64 src], 38), ([.io .i64 kd, .v (.string (ByteArray.mk #[])), .v (.int .i64 0), .v (.int .i64 0), .v (.int .i64 0)], 38)]⟩ ?_
 refine zR 36 k3 ?_
 refine zM [4] 0 ⟨.exit .ret, [], [(4, .v (.int .i64 5))], []⟩ ?_
 refine zE (.v (.int .i64 5)) ?_
 have hq : itN = false := by
  rfl
 intro ρ w9 hw9 _
 exact ⟨by rw [hq]; rfl, hw9.below⟩
end Go.Proofs.YthfpekhpeiebjaaGreatDoor
end
section
namespace Go.Proofs.YthfpekhpeiebjaaGreatDoor
open Go.RowKit Go.Sx
structure Wd (w : World) : Prop where
 tab : Lib.TabIs Tryz.prog w "strings.asciiSpace" .u8 Lib.asciiSpaceTab
 tp : Lib.TabIs Tryz.prog w "internal/strconv.uint64pow10" .u64 Lib.pow10Tab
 v1 : ∃ tp q, w.var? Tryz.prog "strconv.ErrSyntax" = some #[.iface tp q]
 v2 : ∃ tp q, w.var? Tryz.prog "strconv.ErrRange" = some #[.iface tp q]
 c1 : ∃ m, w.cell? ⟨1, 0, none⟩ = some (.int .i64 m)
theorem Wd.below {w w' : World} (h : Wd w) (hb : Below w.heap.size w w') : Wd w' := by
 obtain ⟨h1, h2, ⟨t3, q3, h3⟩, ⟨t4, q4, h4⟩, ⟨m, h5⟩⟩ := h
 exact ⟨tab_below h1 hb rfl, tab_below h2 hb rfl, ⟨t3, q3, var_below h3 hb⟩, ⟨t4, q4, var_below h4 hb⟩, ⟨m, cell_below h5 hb⟩⟩
end Go.Proofs.YthfpekhpeiebjaaGreatDoor
end
section
namespace Go.Proofs.YthfpekhpeiebjaaGreatDoor
open Go.RowKit Go.Sx
noncomputable def B29 : Code := (Tryz.f29.body).getD .skip
def numsE (w : World) (o : Option (List Int)) (e : Ending) (w' : World) : Prop := match o with
 | none => e = .returned (.tuple #[.slice none 0 0, .bool false]) ∧ Below w.heap.size w w'
 | some l => ∃ A' c', e = .returned (.tuple #[.slice A' l.length c', .bool true]) ∧ RowE w (fun _ => False) [] w.heap.size 2 1 A' l.length c' (l.map (Value.int .i64)) [] [] w'
set_option maxHeartbeats 4000000 in
set_option maxRecDepth 100000 in
theorem nums_len (s : List UInt8) (n : Nat) (hs : s.length ≤ 1048576) (hn : n ≤ 2) (hps : (pcs [] s).length ≠ n) (w : World) (hw : Wd w) :
  Calls Tryz.prog 29 #[.string (mkB s), .int .i64 (n : Int)] w fun e w' => e = .returned (.tuple #[.slice none 0 0, .bool false]) ∧ Below w.heap.size w w' := by
 refine enterF (N := w.heap.size) (F := RowE w (fun _ => False) [] w.heap.size 2 1 none 0 0 [] []) (fn := Tryz.f29) (c := B29) [.so (mkB s), .io .i64 (n : Int)] Tryz.func29 rfl rfl (Nat.le_refl _) ⟨⟨⟨⟨World.ownsRow_nil _ _ _ _, by simp [Value.ownBlock]⟩, Nat.le_refl _⟩, FrameR.start _ [] (by simp), by simp [Value.ownBlock]⟩, by simp⟩ ?_
 refine zU RowE.stable RowE.fewer [1, 12] 0 ⟨pops B29 [1, 0] 1, [.seq (sub B29 [1, 1])], [(1, .io .i64 (↑n : Int)), (12, .so (mkB s))], []⟩ ?_
 refine At.callx RowE.stable (X := Nat × Nat) 52 [.so (mkB s), .v (.string ⟨#[32]⟩)] (fun x => .sl (some ⟨x.1, 0, none⟩) x.2 x.2) (fun x _ _ => x.2 = (pcs [] s).length) (fun _ => fun _ _ _ _ _ _ h => h) (by kernel_rfl) (by kernel_rfl) (by kernel_rfl) (by kernel_rfl) (fun ρ a w1 hi hf => ?_) fun x => ?_
 ·have hw1 := hw.below hi.mem.below
  obtain ⟨mm, h3⟩ := hw1.c1
  refine (Tryz.strings_Split (mkB s) ⟨#[32]⟩ mm w1 (by rw [mkB_size]; omega) h3 (by decide)).mono ?_
  rintro e w' ⟨rfl, rfl⟩
  exact ⟨(_, _), rfl, (Below.refl _ _).alloc (Nat.le_refl _) _, split_len (mkB s)⟩
 refine At.mono (F' := fun ρ w1 => RowE w (fun _ => False) [] w.heap.size 2 1 none 0 0 [] [] ρ w1 ∧ x.2 = (pcs [] s).length) (fun ρ w1 h => h) (At.pure ?_)
 obtain ⟨x1, x2⟩ := x
 rintro rfl
 refine zU RowE.stable RowE.fewer [6, 17] 0 ⟨.code (sub B29 [1, 1, 0, 1]), [.seq (sub B29 [1, 1, 1])], [(6, .sl (some (Addr.mk x1 0 none)) (pcs [] s).length (pcs [] s).length), (17, .bo ((↑(x1, (pcs [] s).length).snd : Int) != (↑n : Int)))], []⟩ ?_
 rcases Bool.eq_false_or_eq_true ((↑(x1, (pcs [] s).length).snd : Int) != (↑n : Int)) with b0 | b0
 ·refine zR 17 b0 ?_
  refine zU RowE.stable RowE.fewer [4, 5] 0 ⟨.exit .ret, [], [(4, .v (.slice none 0 0)), (5, .v (.bool false))], []⟩ ?_
  refine zE (.tup [.v (.slice none 0 0), .v (.bool false)]) ?_
  intro ρ w9 hm' hf
  exact ⟨rfl, hm'.below⟩
 refine zR 17 b0 ?_
 refine zU RowE.stable RowE.fewer [7, 18, 19, 20, 21] 0 ⟨.code (sub B29 [1, 1, 1, 1, 0, 1, 4, 4, 1, 0]), [.seq (sub B29 [1, 1, 1, 1, 0, 1, 4, 4, 1, 1]), .rounds (sub B29 pAH6) 19, .block 0, .seq (sub B29 pAH9)], [(7, .v (.slice none 0 0)), (18, .sl (some (Addr.mk x1 0 none)) (pcs [] s).length (pcs [] s).length), (19, .io .i64 (↑(pcs [] s).length : Int)), (20, .v (.int .i64 0)), (21, .bo (decide (0 < (↑(pcs [] s).length : Int))))], []⟩ ?_
 rcases Bool.eq_false_or_eq_true (decide (0 < (↑(pcs [] s).length : Int))) with b1 | b1
 ·refine zR 21 b1 ?_
  refine zU RowE.stable RowE.fewer [7, 18, 19, 20] 0 ⟨pops B29 [1, 1, 1, 1, 0, 1, 4, 4, 1, 1, 0, 4, 0] 0, [.seq (sub B29 [1, 1, 1, 1, 0, 1, 4, 4, 1, 1, 0, 4, 1]), .block 1, .seq (sub B29 pAH5), .rounds (sub B29 pAH6) 19, .block 0, .seq (sub B29 pAH9)], [(7, .v (.slice none 0 0)), (18, .sl (some (Addr.mk x1 0 none)) (pcs [] s).length (pcs [] s).length), (19, .io .i64 (↑(pcs [] s).length : Int)), (20, .v (.int .i64 0))], []⟩ ?_
  exfalso
  simp at b0
  omega
 refine zR 21 b1 ?_
 refine zU RowE.stable RowE.fewer [4, 5] 0 ⟨.exit .ret, [], [(4, .v (.slice none 0 0)), (5, .v (.bool true))], []⟩ ?_
 refine zE (.tup [.v (.slice none 0 0), .v (.bool true)]) ?_
 exfalso
 simp at b0
 omega
set_option maxHeartbeats 8000000 in
set_option maxRecDepth 100000 in
theorem nums1 (s : List UInt8) {p0 : List UInt8} (hs : s.length ≤ 1048576) (hps : pcs [] s = [p0]) (w : World) (hw : Wd w) :
  Calls Tryz.prog 29 #[.string (mkB s), .int .i64 1] w (numsE w ([p0].mapM numK)) := by
 have hsh : ∀ p ∈ [p0], p.length ≤ 1048576 := fun p hp => pcs_short (s := mkB s) (by rw [mkB_size]; omega) (show p ∈ pcs [] (mkB s).data.toList by rw [show (mkB s).data.toList = s from rfl, hps]; exact hp)
 refine enterF (N := w.heap.size) (F := RowE w (fun _ => False) [] w.heap.size 2 1 none 0 0 [] []) (fn := Tryz.f29) (c := B29) [.so (mkB s), .v (.int .i64 1)] Tryz.func29 rfl rfl (Nat.le_refl _) ⟨⟨⟨⟨World.ownsRow_nil _ _ _ _, by simp [Value.ownBlock]⟩, Nat.le_refl _⟩, FrameR.start _ [] (by simp), by simp [Value.ownBlock]⟩, by simp⟩ ?_
 refine zU RowE.stable RowE.fewer [1, 12] 0 ⟨pops B29 [1, 0] 1, [.seq (sub B29 [1, 1])], [(1, .v (.int .i64 1)), (12, .so (mkB s))], []⟩ ?_
 refine At.newcall 52 [.so (mkB s), .v (.string ⟨#[32]⟩)] (.ls 0 0 1 1) [([.so (mkB p0)], 9)] RowE.stable (by kernel_rfl) (by kernel_rfl) (by kernel_rfl) (by kernel_rfl) (by kernel_rfl) (by kernel_rfl) (by kernel_rfl) (by kernel_rfl) (fun ρ w1 hm' hf => ?_) ?_
 ·have hw1 := hw.below hm'.below
  obtain ⟨mm, h3⟩ := hw1.c1
  have hk := split_row (mkB s) (by rw [mkB_size]; omega) w1 h3 (n := 1) (by rw [show (mkB s).data.toList = s from rfl, hps]; rfl)
  rw [show (mkB s).data.toList = s from rfl, hps] at hk
  exact hk
 refine zU RowE.stable RowE.fewer [7, 9, 18, 19, 20, 25] 1 ⟨pops B29 pAH3 1, [.seq (sub B29 pAH4), .block 1, .seq (sub B29 pAH5), .rounds (sub B29 pAH6) 19, .block 0, .seq (sub B29 pAH9)], [(7, .v (.slice none 0 0)), (9, .so (mkB p0)), (18, .ls 0 0 1 1), (19, .v (.int .i64 1)), (20, .v (.int .i64 0)), (25, .so (mkB p0))], [([.so (mkB p0)], 9)]⟩ ?_
 rcases pint_cases p0 with ⟨n0, hn0⟩ | hn0
 ·refine zC RowE.stable 57 [.so (mkB p0), .v (.int .i64 10), .v (.int .i64 64)] (.tup [.io .i64 n0, .v .nilIface]) (fun _ _ w1 hi _ => pint_ok (hsh p0 (by simp)) hn0 w1) ?_
  refine zU RowE.stable RowE.fewer [7, 9, 10, 18, 19, 20, 29] 1 ⟨pops B29 pAH0 1, [.seq (sub B29 pAH1), .seq (sub B29 pAH2), .block 1, .seq (sub B29 pAH5), .rounds (sub B29 pAH6) 19, .block 0, .seq (sub B29 pAH9)], [(7, .v (.slice none 0 0)), (9, .so (mkB p0)), (10, .io .i64 n0), (18, .ls 0 0 1 1), (19, .v (.int .i64 1)), (20, .v (.int .i64 0)), (29, .v .nilIface)], [([.so (mkB p0)], 9)]⟩ ?_
  refine At.nilne false (by kernel_rfl) RowE.stable ?_
  refine zU RowE.stable RowE.fewer [7, 9, 10, 18, 19, 20, 31, 32] 1 ⟨pops B29 pAH0 4, [.seq (sub B29 pAH1), .seq (sub B29 pAH2), .block 1, .seq (sub B29 pAH5), .rounds (sub B29 pAH6) 19, .block 0, .seq (sub B29 pAH9)], [(7, .v (.slice none 0 0)), (9, .so (mkB p0)), (10, .io .i64 n0), (18, .ls 0 0 1 1), (19, .v (.int .i64 1)), (20, .v (.int .i64 0)), (31, .v (.bool false)), (32, .io .i64 n0)], [([.so (mkB p0)], 9)]⟩ ?_
  refine zC RowE.stable 59 [.io .i64 n0, .v (.int .i64 10)] (.so (mkB (Lib.itoa n0))) (fun _ _ w1 hi _ => fmt_any n0 (parse_in hn0) w1 (hw.below hi.mem.below).tp) ?_
  refine zU RowE.stable RowE.fewer [7, 10, 18, 19, 20, 36] 1 ⟨.code (sub B29 pAH1), [.seq (sub B29 pAH2), .block 1, .seq (sub B29 pAH5), .rounds (sub B29 pAH6) 19, .block 0, .seq (sub B29 pAH9)], [(7, .v (.slice none 0 0)), (10, .io .i64 n0), (18, .ls 0 0 1 1), (19, .v (.int .i64 1)), (20, .v (.int .i64 0)), (36, .bo !(mkB (Lib.itoa n0)).toList == (mkB p0).toList)], [([.so (mkB p0)], 9)]⟩ ?_
  rcases Bool.eq_false_or_eq_true (!(mkB (Lib.itoa n0)).toList == (mkB p0).toList) with b0 | b0
  ·refine zR 36 b0 ?_
   refine zU RowE.stable RowE.fewer [4, 5] 0 ⟨.exit .ret, [], [(4, .v (.slice none 0 0)), (5, .v (.bool false))], []⟩ ?_
   refine zE (.tup [.v (.slice none 0 0), .v (.bool false)]) ?_
   have hq0 : numK p0 = none := numK_ne hn0 b0
   rw [mapM_none (p := p0) (l := [p0]) (by simp) hq0]
   intro ρ w9 hm' hf
   exact ⟨rfl, hm'.below⟩
  refine zR 36 b0 ?_
  refine zU RowE.stable RowE.fewer [18, 19, 20, 37, 39] 2 ⟨pops B29 pAH2 3, [.block 1, .seq (sub B29 pAH5), .rounds (sub B29 pAH6) 19, .block 0, .seq (sub B29 pAH9)], [(18, .ls 0 0 1 1), (19, .v (.int .i64 1)), (20, .v (.int .i64 0)), (37, .v (.slice none 0 0)), (39, .ls 1 0 1 1)], [([.so (mkB p0)], 9), ([.io .i64 n0], 2)]⟩ ?_
  refine At.appE (73) (2) (1) (8) (none) (0) (0) (1) ([.io .i64 n0]) _ _ _ _ ([.int .i64 n0]) _ (by kernel_rfl) (fun ρ => by kernel_rfl) (by first | omega | (simp only [Go.maxLen]; omega)) (by first | omega | (simp only [Go.maxLen]; omega)) (by first | omega | (simp only [Go.maxLen]; omega)) fun A1 c1 => ?_
  refine zU RowE.stable RowE.fewer [4, 5] 0 ⟨.exit .ret, [], [(4, .sl A1 1 c1), (5, .v (.bool true))], []⟩ ?_
  refine zE (.tup [.sl A1 1 c1, .v (.bool true)]) ?_
  have hq0 : numK p0 = some n0 := numK_eq hn0 b0
  clear b0
  have hmm : [p0].mapM numK = some [n0] := by simp only [List.mapM_cons, List.mapM_nil, hq0]; rfl
  rw [hmm]
  intro ρ w9 hm' hf
  exact ⟨_, _, rfl, RowE.fewer _ _ 0 (Nat.zero_le _) hf⟩
 have hq0 : numK p0 = none := numK_no hn0
 refine At.callx RowE.stable (X := Int × Nat) 57 [.so (mkB p0), .v (.int .i64 10), .v (.int .i64 64)] (fun x => .tup [.io .i64 x.1, .v (.iface 146 (.pointer (some ⟨x.2, 0, none⟩)))]) (fun _ _ _ => True) (fun _ => fun _ _ _ _ _ _ h => h) (by kernel_rfl) (by kernel_rfl) (by kernel_rfl) (by kernel_rfl) (fun ρ a w1 hi hf => ?_) fun x => ?_
 ·have hw1 := hw.below hi.mem.below
  obtain ⟨tp, q, h1⟩ := hw1.v1
  obtain ⟨tp2, q2, h2⟩ := hw1.v2
  exact (pint_bad (hsh p0 (by simp)) hn0 w1 h1 h2).mono fun e' w' ⟨x, N, he, hb⟩ => ⟨(x, N), he, hb, trivial⟩
 refine At.mono (F' := RowE w (fun _ => False) [] w.heap.size 2 1 none 0 0 [] []) (fun ρ w1 h => h.1) ?_
 refine zU RowE.stable RowE.fewer [7, 9, 10, 18, 19, 20, 29] 1 ⟨pops B29 pAH0 1, [.seq (sub B29 pAH1), .seq (sub B29 pAH2), .block 1, .seq (sub B29 pAH5), .rounds (sub B29 pAH6) 19, .block 0, .seq (sub B29 pAH9)], [(7, .v (.slice none 0 0)), (9, .so (mkB p0)), (10, .io .i64 x.fst), (18, .ls 0 0 1 1), (19, .v (.int .i64 1)), (20, .v (.int .i64 0)), (29, .v (.iface 146 (.pointer (some (Addr.mk x.snd 0 none)))))], [([.so (mkB p0)], 9)]⟩ ?_
 refine At.nilne true (by kernel_rfl) RowE.stable ?_
 refine zU RowE.stable RowE.fewer [4, 5] 0 ⟨.exit .ret, [], [(4, .v (.slice none 0 0)), (5, .v (.bool false))], []⟩ ?_
 refine zE (.tup [.v (.slice none 0 0), .v (.bool false)]) ?_
 rw [mapM_none (p := p0) (l := [p0]) (by simp) hq0]
 intro ρ w9 hm' hf
 exact ⟨rfl, hm'.below⟩
set_option maxHeartbeats 8000000 in
set_option maxRecDepth 100000 in
theorem nums2 (s : List UInt8) {p0 p1 : List UInt8} (hs : s.length ≤ 1048576) (hps : pcs [] s = [p0, p1]) (w : World) (hw : Wd w) :
  Calls Tryz.prog 29 #[.string (mkB s), .int .i64 2] w (numsE w ([p0, p1].mapM numK)) := by
 have hsh : ∀ p ∈ [p0, p1], p.length ≤ 1048576 := fun p hp => pcs_short (s := mkB s) (by rw [mkB_size]; omega) (show p ∈ pcs [] (mkB s).data.toList by rw [show (mkB s).data.toList = s from rfl, hps]; exact hp)
 refine enterF (N := w.heap.size) (F := RowE w (fun _ => False) [] w.heap.size 2 1 none 0 0 [] []) (fn := Tryz.f29) (c := B29) [.so (mkB s), .v (.int .i64 2)] Tryz.func29 rfl rfl (Nat.le_refl _) ⟨⟨⟨⟨World.ownsRow_nil _ _ _ _, by simp [Value.ownBlock]⟩, Nat.le_refl _⟩, FrameR.start _ [] (by simp), by simp [Value.ownBlock]⟩, by simp⟩ ?_
 refine zU RowE.stable RowE.fewer [1, 12] 0 ⟨pops B29 [1, 0] 1, [.seq (sub B29 [1, 1])], [(1, .v (.int .i64 2)), (12, .so (mkB s))], []⟩ ?_
 refine At.newcall 52 [.so (mkB s), .v (.string ⟨#[32]⟩)] (.ls 0 0 2 2) [([.so (mkB p0), .so (mkB p1)], 9)] RowE.stable (by kernel_rfl) (by kernel_rfl) (by kernel_rfl) (by kernel_rfl) (by kernel_rfl) (by kernel_rfl) (by kernel_rfl) (by kernel_rfl) (fun ρ w1 hm' hf => ?_) ?_
 ·have hw1 := hw.below hm'.below
  obtain ⟨mm, h3⟩ := hw1.c1
  have hk := split_row (mkB s) (by rw [mkB_size]; omega) w1 h3 (n := 2) (by rw [show (mkB s).data.toList = s from rfl, hps]; rfl)
  rw [show (mkB s).data.toList = s from rfl, hps] at hk
  exact hk
 refine zU RowE.stable RowE.fewer [7, 9, 18, 19, 20, 25] 1 ⟨pops B29 pAH3 1, [.seq (sub B29 pAH4), .block 1, .seq (sub B29 pAH5), .rounds (sub B29 pAH6) 19, .block 0, .seq (sub B29 pAH9)], [(7, .v (.slice none 0 0)), (9, .so (mkB p0)), (18, .ls 0 0 2 2), (19, .v (.int .i64 2)), (20, .v (.int .i64 0)), (25, .so (mkB p0))], [([.so (mkB p0), .so (mkB p1)], 9)]⟩ ?_
 rcases pint_cases p0 with ⟨n0, hn0⟩ | hn0
 ·refine zC RowE.stable 57 [.so (mkB p0), .v (.int .i64 10), .v (.int .i64 64)] (.tup [.io .i64 n0, .v .nilIface]) (fun _ _ w1 hi _ => pint_ok (hsh p0 (by simp)) hn0 w1) ?_
  refine zU RowE.stable RowE.fewer [7, 9, 10, 18, 19, 20, 29] 1 ⟨pops B29 pAH0 1, [.seq (sub B29 pAH1), .seq (sub B29 pAH2), .block 1, .seq (sub B29 pAH5), .rounds (sub B29 pAH6) 19, .block 0, .seq (sub B29 pAH9)], [(7, .v (.slice none 0 0)), (9, .so (mkB p0)), (10, .io .i64 n0), (18, .ls 0 0 2 2), (19, .v (.int .i64 2)), (20, .v (.int .i64 0)), (29, .v .nilIface)], [([.so (mkB p0), .so (mkB p1)], 9)]⟩ ?_
  refine At.nilne false (by kernel_rfl) RowE.stable ?_
  refine zU RowE.stable RowE.fewer [7, 9, 10, 18, 19, 20, 31, 32] 1 ⟨pops B29 pAH0 4, [.seq (sub B29 pAH1), .seq (sub B29 pAH2), .block 1, .seq (sub B29 pAH5), .rounds (sub B29 pAH6) 19, .block 0, .seq (sub B29 pAH9)], [(7, .v (.slice none 0 0)), (9, .so (mkB p0)), (10, .io .i64 n0), (18, .ls 0 0 2 2), (19, .v (.int .i64 2)), (20, .v (.int .i64 0)), (31, .v (.bool false)), (32, .io .i64 n0)], [([.so (mkB p0), .so (mkB p1)], 9)]⟩ ?_
  refine zC RowE.stable 59 [.io .i64 n0, .v (.int .i64 10)] (.so (mkB (Lib.itoa n0))) (fun _ _ w1 hi _ => fmt_any n0 (parse_in hn0) w1 (hw.below hi.mem.below).tp) ?_
  refine zU RowE.stable RowE.fewer [7, 10, 18, 19, 20, 36] 1 ⟨.code (sub B29 pAH1), [.seq (sub B29 pAH2), .block 1, .seq (sub B29 pAH5), .rounds (sub B29 pAH6) 19, .block 0, .seq (sub B29 pAH9)], [(7, .v (.slice none 0 0)), (10, .io .i64 n0), (18, .ls 0 0 2 2), (19, .v (.int .i64 2)), (20, .v (.int .i64 0)), (36, .bo !(mkB (Lib.itoa n0)).toList == (mkB p0).toList)], [([.so (mkB p0), .so (mkB p1)], 9)]⟩ ?_
  rcases Bool.eq_false_or_eq_true (!(mkB (Lib.itoa n0)).toList == (mkB p0).toList) with b0 | b0
  ·refine zR 36 b0 ?_
   refine zU RowE.stable RowE.fewer [4, 5] 0 ⟨.exit .ret, [], [(4, .v (.slice none 0 0)), (5, .v (.bool false))], []⟩ ?_
   refine zE (.tup [.v (.slice none 0 0), .v (.bool false)]) ?_
   have hq0 : numK p0 = none := numK_ne hn0 b0
   rw [mapM_none (p := p0) (l := [p0, p1]) (by simp) hq0]
   intro ρ w9 hm' hf
   exact ⟨rfl, hm'.below⟩
  refine zR 36 b0 ?_
  refine zU RowE.stable RowE.fewer [18, 19, 20, 37, 39] 2 ⟨pops B29 pAH2 3, [.block 1, .seq (sub B29 pAH5), .rounds (sub B29 pAH6) 19, .block 0, .seq (sub B29 pAH9)], [(18, .ls 0 0 2 2), (19, .v (.int .i64 2)), (20, .v (.int .i64 0)), (37, .v (.slice none 0 0)), (39, .ls 1 0 1 1)], [([.so (mkB p0), .so (mkB p1)], 9), ([.io .i64 n0], 2)]⟩ ?_
  refine At.appE (73) (2) (1) (8) (none) (0) (0) (1) ([.io .i64 n0]) _ _ _ _ ([.int .i64 n0]) _ (by kernel_rfl) (fun ρ => by kernel_rfl) (by first | omega | (simp only [Go.maxLen]; omega)) (by first | omega | (simp only [Go.maxLen]; omega)) (by first | omega | (simp only [Go.maxLen]; omega)) fun A1 c1 => ?_
  refine zU RowE.stable RowE.fewer [7, 9, 18, 19, 20, 25] 1 ⟨pops B29 pAH3 1, [.seq (sub B29 pAH4), .block 1, .seq (sub B29 pAH5), .rounds (sub B29 pAH6) 18, .block 0, .seq (sub B29 pAH9)], [(7, .sl A1 1 c1), (9, .so (mkB p1)), (18, .ls 0 0 2 2), (19, .v (.int .i64 2)), (20, .v (.int .i64 1)), (25, .so (mkB p1))], [([.so (mkB p0), .so (mkB p1)], 9)]⟩ ?_
  have hq0 : numK p0 = some n0 := numK_eq hn0 b0
  clear b0
  rcases pint_cases p1 with ⟨n1, hn1⟩ | hn1
  ·refine zC RowE.stable 57 [.so (mkB p1), .v (.int .i64 10), .v (.int .i64 64)] (.tup [.io .i64 n1, .v .nilIface]) (fun _ _ w1 hi _ => pint_ok (hsh p1 (by simp)) hn1 w1) ?_
   refine zU RowE.stable RowE.fewer [7, 9, 10, 18, 19, 20, 29] 1 ⟨pops B29 pAH0 1, [.seq (sub B29 pAH1), .seq (sub B29 pAH2), .block 1, .seq (sub B29 pAH5), .rounds (sub B29 pAH6) 18, .block 0, .seq (sub B29 pAH9)], [(7, .sl A1 1 c1), (9, .so (mkB p1)), (10, .io .i64 n1), (18, .ls 0 0 2 2), (19, .v (.int .i64 2)), (20, .v (.int .i64 1)), (29, .v .nilIface)], [([.so (mkB p0), .so (mkB p1)], 9)]⟩ ?_
   refine At.nilne false (by kernel_rfl) RowE.stable ?_
   refine zU RowE.stable RowE.fewer [7, 9, 10, 18, 19, 20, 31, 32] 1 ⟨pops B29 pAH0 4, [.seq (sub B29 pAH1), .seq (sub B29 pAH2), .block 1, .seq (sub B29 pAH5), .rounds (sub B29 pAH6) 18, .block 0, .seq (sub B29 pAH9)], [(7, .sl A1 1 c1), (9, .so (mkB p1)), (10, .io .i64 n1), (18, .ls 0 0 2 2), (19, .v (.int .i64 2)), (20, .v (.int .i64 1)), (31, .v (.bool false)), (32, .io .i64 n1)], [([.so (mkB p0), .so (mkB p1)], 9)]⟩ ?_
   refine zC RowE.stable 59 [.io .i64 n1, .v (.int .i64 10)] (.so (mkB (Lib.itoa n1))) (fun _ _ w1 hi _ => fmt_any n1 (parse_in hn1) w1 (hw.below hi.mem.below).tp) ?_
   refine zU RowE.stable RowE.fewer [7, 10, 18, 19, 20, 36] 1 ⟨.code (sub B29 pAH1), [.seq (sub B29 pAH2), .block 1, .seq (sub B29 pAH5), .rounds (sub B29 pAH6) 18, .block 0, .seq (sub B29 pAH9)], [(7, .sl A1 1 c1), (10, .io .i64 n1), (18, .ls 0 0 2 2), (19, .v (.int .i64 2)), (20, .v (.int .i64 1)), (36, .bo !(mkB (Lib.itoa n1)).toList == (mkB p1).toList)], [([.so (mkB p0), .so (mkB p1)], 9)]⟩ ?_
   rcases Bool.eq_false_or_eq_true (!(mkB (Lib.itoa n1)).toList == (mkB p1).toList) with b0 | b0
   ·refine zR 36 b0 ?_
    refine zU RowE.stable RowE.fewer [4, 5] 0 ⟨.exit .ret, [], [(4, .v (.slice none 0 0)), (5, .v (.bool false))], []⟩ ?_
    refine zE (.tup [.v (.slice none 0 0), .v (.bool false)]) ?_
    have hq1 : numK p1 = none := numK_ne hn1 b0
    rw [mapM_none (p := p1) (l := [p0, p1]) (by simp) hq1]
    intro ρ w9 hm' hf
    exact ⟨rfl, hm'.below⟩
   refine zR 36 b0 ?_
   refine zU RowE.stable RowE.fewer [18, 19, 20, 37, 39] 2 ⟨pops B29 pAH2 3, [.block 1, .seq (sub B29 pAH5), .rounds (sub B29 pAH6) 18, .block 0, .seq (sub B29 pAH9)], [(18, .ls 0 0 2 2), (19, .v (.int .i64 2)), (20, .v (.int .i64 1)), (37, .sl A1 1 c1), (39, .ls 1 0 1 1)], [([.so (mkB p0), .so (mkB p1)], 9), ([.io .i64 n1], 2)]⟩ ?_
   refine At.appE (73) (2) (1) (8) (A1) (1) (c1) (1) ([.io .i64 n1]) _ _ _ _ ([.int .i64 n1]) _ (by kernel_rfl) (fun ρ => by kernel_rfl) (by first | omega | (simp only [Go.maxLen]; omega)) (by first | omega | (simp only [Go.maxLen]; omega)) (by first | omega | (simp only [Go.maxLen]; omega)) fun A1 c1 => ?_
   refine zU RowE.stable RowE.fewer [4, 5] 0 ⟨.exit .ret, [], [(4, .sl A1 2 c1), (5, .v (.bool true))], []⟩ ?_
   refine zE (.tup [.sl A1 2 c1, .v (.bool true)]) ?_
   have hq1 : numK p1 = some n1 := numK_eq hn1 b0
   clear b0
   have hmm : [p0, p1].mapM numK = some [n0, n1] := by simp only [List.mapM_cons, List.mapM_nil, hq0, hq1]; rfl
   rw [hmm]
   intro ρ w9 hm' hf
   exact ⟨_, _, rfl, RowE.fewer _ _ 0 (Nat.zero_le _) hf⟩
  have hq1 : numK p1 = none := numK_no hn1
  refine At.callx RowE.stable (X := Int × Nat) 57 [.so (mkB p1), .v (.int .i64 10), .v (.int .i64 64)] (fun x => .tup [.io .i64 x.1, .v (.iface 146 (.pointer (some ⟨x.2, 0, none⟩)))]) (fun _ _ _ => True) (fun _ => fun _ _ _ _ _ _ h => h) (by kernel_rfl) (by kernel_rfl) (by kernel_rfl) (by kernel_rfl) (fun ρ a w1 hi hf => ?_) fun x => ?_
  ·have hw1 := hw.below hi.mem.below
   obtain ⟨tp, q, h1⟩ := hw1.v1
   obtain ⟨tp2, q2, h2⟩ := hw1.v2
   exact (pint_bad (hsh p1 (by simp)) hn1 w1 h1 h2).mono fun e' w' ⟨x, N, he, hb⟩ => ⟨(x, N), he, hb, trivial⟩
  refine At.mono (F' := RowE w (fun _ => False) [] w.heap.size 2 1 A1 1 c1 [.int .i64 n0] []) (fun ρ w1 h => h.1) ?_
  refine zU RowE.stable RowE.fewer [7, 9, 10, 18, 19, 20, 29] 1 ⟨pops B29 pAH0 1, [.seq (sub B29 pAH1), .seq (sub B29 pAH2), .block 1, .seq (sub B29 pAH5), .rounds (sub B29 pAH6) 18, .block 0, .seq (sub B29 pAH9)], [(7, .sl A1 1 c1), (9, .so (mkB p1)), (10, .io .i64 x.fst), (18, .ls 0 0 2 2), (19, .v (.int .i64 2)), (20, .v (.int .i64 1)), (29, .v (.iface 146 (.pointer (some (Addr.mk x.snd 0 none)))))], [([.so (mkB p0), .so (mkB p1)], 9)]⟩ ?_
  refine At.nilne true (by kernel_rfl) RowE.stable ?_
  refine zU RowE.stable RowE.fewer [4, 5] 0 ⟨.exit .ret, [], [(4, .v (.slice none 0 0)), (5, .v (.bool false))], []⟩ ?_
  refine zE (.tup [.v (.slice none 0 0), .v (.bool false)]) ?_
  rw [mapM_none (p := p1) (l := [p0, p1]) (by simp) hq1]
  intro ρ w9 hm' hf
  exact ⟨rfl, hm'.below⟩
 have hq0 : numK p0 = none := numK_no hn0
 refine At.callx RowE.stable (X := Int × Nat) 57 [.so (mkB p0), .v (.int .i64 10), .v (.int .i64 64)] (fun x => .tup [.io .i64 x.1, .v (.iface 146 (.pointer (some ⟨x.2, 0, none⟩)))]) (fun _ _ _ => True) (fun _ => fun _ _ _ _ _ _ h => h) (by kernel_rfl) (by kernel_rfl) (by kernel_rfl) (by kernel_rfl) (fun ρ a w1 hi hf => ?_) fun x => ?_
 ·have hw1 := hw.below hi.mem.below
  obtain ⟨tp, q, h1⟩ := hw1.v1
  obtain ⟨tp2, q2, h2⟩ := hw1.v2
  exact (pint_bad (hsh p0 (by simp)) hn0 w1 h1 h2).mono fun e' w' ⟨x, N, he, hb⟩ => ⟨(x, N), he, hb, trivial⟩
 refine At.mono (F' := RowE w (fun _ => False) [] w.heap.size 2 1 none 0 0 [] []) (fun ρ w1 h => h.1) ?_
 refine zU RowE.stable RowE.fewer [7, 9, 10, 18, 19, 20, 29] 1 ⟨pops B29 pAH0 1, [.seq (sub B29 pAH1), .seq (sub B29 pAH2), .block 1, .seq (sub B29 pAH5), .rounds (sub B29 pAH6) 19, .block 0, .seq (sub B29 pAH9)], [(7, .v (.slice none 0 0)), (9, .so (mkB p0)), (10, .io .i64 x.fst), (18, .ls 0 0 2 2), (19, .v (.int .i64 2)), (20, .v (.int .i64 0)), (29, .v (.iface 146 (.pointer (some (Addr.mk x.snd 0 none)))))], [([.so (mkB p0), .so (mkB p1)], 9)]⟩ ?_
 refine At.nilne true (by kernel_rfl) RowE.stable ?_
 refine zU RowE.stable RowE.fewer [4, 5] 0 ⟨.exit .ret, [], [(4, .v (.slice none 0 0)), (5, .v (.bool false))], []⟩ ?_
 refine zE (.tup [.v (.slice none 0 0), .v (.bool false)]) ?_
 rw [mapM_none (p := p0) (l := [p0, p1]) (by simp) hq0]
 intro ρ w9 hm' hf
 exact ⟨rfl, hm'.below⟩
theorem len_two {α : Type} {l : List α} (h : l.length = 2) : ∃ a b, l = [a, b] := by
 match l, h with
 | [a, b], _ => exact ⟨a, b, rfl⟩
theorem numbers_none (s : List UInt8) (n : Nat) (hn : n = 1 ∨ n = 2) (hs : s.length ≤ 1048576) (h : numsP s n = none) (w : World) (hw : Wd w) :
  Calls Tryz.prog 29 #[.string (mkB s), .int .i64 (n : Int)] w fun e w' => e = .returned (.tuple #[.slice none 0 0, .bool false]) ∧ Below w.heap.size w w' := by
 by_cases hl : (pcs [] s).length = n
 ·unfold numsP at h
  rw [if_pos hl] at h
  rcases hn with rfl | rfl
  ·obtain ⟨p0, hp⟩ := List.length_eq_one_iff.1 hl
   have hk := nums1 s hs hp w hw
   rw [← hp, h] at hk
   exact hk
  obtain ⟨p0, p1, hp⟩ := len_two hl
  have hk := nums2 s hs hp w hw
  rw [← hp, h] at hk
  exact hk
 exact nums_len s n hs (by omega) hl w hw
theorem numbers_some (s : List UInt8) (n : Nat) (hn : n = 1 ∨ n = 2) (l : List Int) (hs : s.length ≤ 1048576) (h : numsP s n = some l) (w : World) (hw : Wd w) :
  Calls Tryz.prog 29 #[.string (mkB s), .int .i64 (n : Int)] w fun e w' => ∃ A' c', e = .returned (.tuple #[.slice A' l.length c', .bool true]) ∧ RowF w (fun _ => False) [] w.heap.size 2 1 A' l.length c' (l.map (Value.int .i64)) [] w' := by
 unfold numsP at h
 split at h
 ·rename_i hl
  rcases hn with rfl | rfl
  ·obtain ⟨p0, hp⟩ := List.length_eq_one_iff.1 hl
   have hk := nums1 s hs hp w hw
   rw [← hp, h] at hk
   exact hk.mono fun e w' ⟨A', c', h1, h2⟩ => ⟨A', c', h1, h2.1⟩
  obtain ⟨p0, p1, hp⟩ := len_two hl
  have hk := nums2 s hs hp w hw
  rw [← hp, h] at hk
  exact hk.mono fun e w' ⟨A', c', h1, h2⟩ => ⟨A', c', h1, h2.1⟩
 cases h
end Go.Proofs.YthfpekhpeiebjaaGreatDoor
end
