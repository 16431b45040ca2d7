/- Joined texts: KD, KE, RA, RB, RC, RD, FL. -/
import Derived.Test.YtkjnbafdmjakgaaGreatDoorVAE
set_option linter.unusedSimpArgs false
set_option linter.unusedVariables false
namespace Go.Sx
open Go
def zAF0 : List SV := [.agg [.v (.string (ByteArray.mk #[])), .v (.int .i64 0), .v (.int .i64 0), .v (.int .i64 0), .v (.int .i64 0), .v (.int .i64 0), .v (.int .i64 0), .v (.int .i64 0), .v (.int .i64 0)], .v (.int .i64 280)]
def zAF1 : List SV := [.v (.string (ByteArray.mk #[])), .v (.string (ByteArray.mk #[101, 97, 114, 108, 121])), .v (.string (ByteArray.mk #[111, 110, 116, 105, 109, 101])), .v (.string (ByteArray.mk #[108, 97, 116, 101]))]
def zAF2 : List SV := [.v (.string (ByteArray.mk #[])), .v (.int .i64 0), .v (.int .i64 0), .v (.int .i64 0), .v (.int .i64 0), .v (.int .i64 0), .v (.int .i64 0), .v (.int .i64 0), .v (.int .i64 0)]
def zAF3 : List SV := [.so (ByteArray.mk #[]), .io .i64 0, .io .i64 0, .io .i64 0, .io .i64 0, .io .i64 0, .io .i64 0, .io .i64 0, .io .i64 0]
def pAF4 : List Nat := [1, 1, 1, 1, 1, 1, 0, 1, 4, 4, 1, 1, 0, 4, 1, 1, 0, 1]
def pAF5 : List Nat := [1, 1, 1, 1, 1, 1, 0, 1, 4, 4, 1, 1, 0, 4, 1, 1, 1]
def pAF6 : List Nat := [1, 1, 1, 1, 1, 1, 0, 1, 4, 4, 1, 1, 0, 4, 1, 0]
def pAF7 : List Nat := [1, 1, 1, 1, 1, 1, 0, 1, 4, 4, 1, 1, 0, 4, 1, 1]
def pAF8 : List Nat := [1, 1, 1, 1, 1, 0, 1, 4, 4, 1, 1, 0, 4, 1, 1]
def pAF9 : List Nat := [1, 1, 1, 1, 1, 1, 0, 1, 4, 4, 1, 1, 1]
def pAF10 : List Nat := [1, 1, 1, 1, 1, 0, 1, 4, 4, 1, 1, 1]
def pAF11 : List Nat := [1, 1, 1, 1, 1, 1, 0, 1, 4, 4]
def pAF12 : List Nat := [1, 1, 1, 1, 1, 0, 1, 4, 4]
def pAF13 : List Nat := [1, 1, 1, 1, 1, 1, 1]
def pAF14 : List Nat := [1, 1, 1, 1, 1, 1]
end Go.Sx
section
namespace Go.Proofs.YtkjnbafdmjakgaaGreatDoor
open Go.RowKit Go.Sx
section
variable {Q : Exit → Act → World → Prop} {N : Nat} {w0 : World} {ntm : Nat} {F : List Nat → World → Prop}
theorem cutS {s : S} (st : S) (h1 : At Tryz.prog Q N w0 ntm F st) (h2 : At Tryz.prog Q N w0 ntm F st → At Tryz.prog Q N w0 ntm F s) : At Tryz.prog Q N w0 ntm F s := h2 h1
def canonL (l : Go.Sx.Loc) : Go.Sx.Loc := l.map fun p => (p.1.map SV.canon, p.2)
theorem At.canonL {s : S} (s' : S) (hs : { s with loc := canonL s.loc } = s') (h : At Tryz.prog Q N w0 ntm F s') : At Tryz.prog Q N w0 ntm F s := by
 subst hs
 intro ρ a w hi hf
 refine h ρ a w ⟨hi.act, hi.mem.below, hi.mem.hN, by rw [hi.mem.len]; simp [Go.Proofs.YtkjnbafdmjakgaaGreatDoor.canonL], hi.mem.nodup, hi.mem.ge, fun i c t hc => ?_⟩ hf
 simp only [Go.Proofs.YtkjnbafdmjakgaaGreatDoor.canonL, List.getElem?_map, Option.map_eq_some_iff] at hc
 obtain ⟨⟨c', t'⟩, h1, h2⟩ := hc
 injection h2 with h2 h3
 subst h2 h3
 rw [hi.mem.cells i c' t' h1]
 have e : SV.denL ρ (c'.map SV.canon) = SV.denL ρ c' := by
  rw [SV.denL_eq, SV.denL_eq, List.map_map]
  exact List.map_congr_left fun x _ => SV.canon_den ρ x
 rw [e]
end
theorem pint_cases (p : List UInt8) : (∃ n, Lib.parseIntB 64 p = .ok n) ∨ ∀ n, Lib.parseIntB 64 p ≠ .ok n := by
 cases h : Lib.parseIntB 64 p with
 | ok n => exact .inl ⟨n, rfl⟩
 | range => exact .inr fun n h => by cases h
 | _ => exact .inr fun n h => by cases h
theorem numK_no {p : List UInt8} (h : ∀ n, Lib.parseIntB 64 p ≠ .ok n) : numK p = none := by
 unfold numK
 split
 ·rename_i n hn
  exact absurd hn (h n)
 rfl
theorem numK_ne {p : List UInt8} {n : Int} (h : Lib.parseIntB 64 p = .ok n) (hb : (!(mkB (Lib.itoa n)).toList == (mkB p).toList) = true) : numK p = none := by
 rw [ByteArray.toList_eq, ByteArray.toList_eq] at hb
 unfold numK
 rw [h]
 simp only
 rw [if_neg fun e => by rw [e] at hb; simp at hb]
theorem numK_eq {p : List UInt8} {n : Int} (h : Lib.parseIntB 64 p = .ok n) (hb : (!(mkB (Lib.itoa n)).toList == (mkB p).toList) = false) : numK p = some n := by
 rw [ByteArray.toList_eq, ByteArray.toList_eq] at hb
 unfold numK
 rw [h]
 simp only
 rw [if_pos (by simpa [mkB] using hb)]
theorem mapM_none {l : List (List UInt8)} {p : List UInt8} (hp : p ∈ l) (h : numK p = none) : l.mapM numK = none := by
 induction l with
 | nil => cases hp
 | cons q l ih =>
  rw [List.mapM_cons]
  rcases List.mem_cons.1 hp with rfl | hp
  ·rw [h]; rfl
  rw [ih hp]
  cases numK q <;> rfl
theorem pint_ok {p : List UInt8} (hp : p.length ≤ 1048576) {n : Int} (h : Lib.parseIntB 64 p = .ok n) (w : World) :
  Calls Tryz.prog 42 #[.string (mkB p), .int .i64 10, .int .i64 64] w fun e w' => e = .returned (.tuple #[.int .i64 n, .nilIface]) ∧ Below w.heap.size w w' :=
 (Tryz.strconv_ParseInt_10_at64_ok (mkB p) (by rw [mkB_size]; omega) n h w).mono fun e w' h => ⟨h.1, by
  rcases h.2 with rfl | ⟨t, rfl⟩
  ·exact Below.refl _ _
  exact ⟨rfl, rfl, rfl, by rw [Lib.bytesWorld_size]; omega, fun j hj => Lib.bytesWorld_at_old w 5 t j hj⟩⟩
theorem pint_bad {p : List UInt8} (hp : p.length ≤ 1048576) (h : ∀ n, Lib.parseIntB 64 p ≠ .ok n) (w : World) {tp1 tp2 : TypeId} {q1 q2 : Value} (h1 : w.var? Tryz.prog "strconv.ErrSyntax" = some #[.iface tp1 q1]) (h2 : w.var? Tryz.prog "strconv.ErrRange" = some #[.iface tp2 q2]) :
  Calls Tryz.prog 42 #[.string (mkB p), .int .i64 10, .int .i64 64] w fun e w' => ∃ x N, e = .returned (.tuple #[.int .i64 x, .iface 132 (.pointer (some ⟨N, 0, none⟩))]) ∧ Below w.heap.size w w' := by
 cases hr : Lib.parseIntB 64 p with
 | ok n => exact absurd hr (h n)
 | range => exact (Tryz.strconv_ParseInt_10_at64_range_var (mkB p) (by rw [mkB_size]; omega) hr tp2 q2 w h2).mono fun e w' ⟨N, he, _, _, hb⟩ => ⟨_, N, he, hb⟩
 | _ => exact (Tryz.strconv_ParseInt_10_at64_syntax_var (mkB p) (by rw [mkB_size]; omega) (hr.trans rfl) tp1 q1 w h1).mono fun e w' ⟨N, he, _, _, hb⟩ => ⟨_, N, he, hb⟩
structure Pn where
 key : List UInt8
 st : Int
 en : Int
 kd : Int
 nt : Int
 ct : Int
 sm : Int
 mn : Int
 mx : Int
def kindOf (p : List UInt8) : Int := if p = [101, 97, 114, 108, 121] then 1 else if p = [111, 110, 116, 105, 109, 101] then 2 else if p = [108, 97, 116, 101] then 3 else 0
def paneOf (k p1 : List UInt8) : Option (List Int) → Option Pn
 | some [st, en, nt, ct, sm, mn, mx] => if mayP (mkB k) (kindOf p1) then some ⟨k, st, en, kindOf p1, nt, ct, sm, mn, mx⟩ else none
 | _ => none
def parseP (k : List UInt8) : List (List UInt8) → Option Pn
 | [p0, p1, p2, p3, p4, p5, p6, p7, p8] => if p0 ≠ [] ∨ p1 = [] then none else paneOf k p1 ([p2, p3, p4, p5, p6, p7, p8].mapM numK)
 | _ => none
def parseK (s : List UInt8) : Option Pn := match keyK s with
 | some (k, r) => parseP k (pcs [] r)
 | none => none
def Pn.val (p : Pn) : Value := .agg #[.string (mkB p.key), .int .i64 p.st, .int .i64 p.en, .int .i64 p.kd, .int .i64 p.nt, .int .i64 p.ct, .int .i64 p.sm, .int .i64 p.mn, .int .i64 p.mx]
def parseV : Option Pn → Value
 | some p => .tuple #[p.val, .int .i64 0]
 | none => .tuple #[.agg #[.string ⟨#[]⟩, .int .i64 0, .int .i64 0, .int .i64 0, .int .i64 0, .int .i64 0, .int .i64 0, .int .i64 0, .int .i64 0], .int .i64 280]
theorem ne_of {x : List UInt8} (h : (!(mkB x).toList == (ByteArray.mk #[]).toList) = true) : x ≠ [] := fun e => by subst e; exact absurd h (by decide +kernel)
theorem eq_of {x : List UInt8} (h : (!(mkB x).toList == (ByteArray.mk #[]).toList) = false) : x = [] := emp_true (by simpa using h)
theorem str_beq (x y : List UInt8) : ((mkB x).toList == (mkB y).toList) = decide (x = y) := by
 rw [ByteArray.toList_eq, ByteArray.toList_eq, Bool.eq_iff_iff, beq_iff_eq, decide_eq_true_eq]
 exact Iff.rfl
theorem kind_cases (p : List UInt8) :
  (kindOf p = 1 ∧ ((mkB p).toList == (ByteArray.mk #[101, 97, 114, 108, 121]).toList) = true ∧ ((mkB p).toList == (ByteArray.mk #[111, 110, 116, 105, 109, 101]).toList) = false ∧ ((mkB p).toList == (ByteArray.mk #[108, 97, 116, 101]).toList) = false) ∨
  (kindOf p = 2 ∧ ((mkB p).toList == (ByteArray.mk #[101, 97, 114, 108, 121]).toList) = false ∧ ((mkB p).toList == (ByteArray.mk #[111, 110, 116, 105, 109, 101]).toList) = true ∧ ((mkB p).toList == (ByteArray.mk #[108, 97, 116, 101]).toList) = false) ∨
  (kindOf p = 3 ∧ ((mkB p).toList == (ByteArray.mk #[101, 97, 114, 108, 121]).toList) = false ∧ ((mkB p).toList == (ByteArray.mk #[111, 110, 116, 105, 109, 101]).toList) = false ∧ ((mkB p).toList == (ByteArray.mk #[108, 97, 116, 101]).toList) = true) ∨
  (kindOf p = 0 ∧ ((mkB p).toList == (ByteArray.mk #[101, 97, 114, 108, 121]).toList) = false ∧ ((mkB p).toList == (ByteArray.mk #[111, 110, 116, 105, 109, 101]).toList) = false ∧ ((mkB p).toList == (ByteArray.mk #[108, 97, 116, 101]).toList) = false) := by
 have s1 : ((mkB p).toList == (ByteArray.mk #[101, 97, 114, 108, 121]).toList) = decide (p = [101, 97, 114, 108, 121]) := str_beq p _
 have s2 : ((mkB p).toList == (ByteArray.mk #[111, 110, 116, 105, 109, 101]).toList) = decide (p = [111, 110, 116, 105, 109, 101]) := str_beq p _
 have s3 : ((mkB p).toList == (ByteArray.mk #[108, 97, 116, 101]).toList) = decide (p = [108, 97, 116, 101]) := str_beq p _
 rw [s1, s2, s3]
 unfold kindOf
 by_cases h1 : p = [101, 97, 114, 108, 121]
 ·subst h1; decide
 by_cases h2 : p = [111, 110, 116, 105, 109, 101]
 ·subst h2; decide
 by_cases h3 : p = [108, 97, 116, 101]
 ·subst h3; decide
 rw [if_neg h1, if_neg h2, if_neg h3, decide_eq_false h1, decide_eq_false h2, decide_eq_false h3]
 exact .inr (.inr (.inr ⟨rfl, rfl, rfl, rfl⟩))
theorem paneOf_none {k p1 : List UInt8} {o : Option (List Int)} (h : o = none) : paneOf k p1 o = none := by
 subst h
 rfl
theorem len9 {α : Type} {l : List α} (h : l.length = 9) : ∃ p0 p1 p2 p3 p4 p5 p6 p7 p8, l = [p0, p1, p2, p3, p4, p5, p6, p7, p8] := by
 match l, h with
 | [p0, p1, p2, p3, p4, p5, p6, p7, p8], _ => exact ⟨p0, p1, p2, p3, p4, p5, p6, p7, p8, rfl⟩
theorem parseP_len {k : List UInt8} {l : List (List UInt8)} (h : ¬ l.length = 9) : parseP k l = none := by
 unfold parseP
 split
 ·exact absurd rfl h
 rfl
theorem key_rest {s k r : List UInt8} (h : keyK s = some (k, r)) : r.length ≤ s.length ∧ k.length ≤ s.length := by
 rw [(keyK_iff s k r).1 h]
 have : ∀ l : List UInt8, l.length ≤ (l.flatMap q1).length := by
  intro l
  induction l with
  | nil => simp
  | cons c l ih =>
   have : 1 ≤ (q1 c).length := by unfold q1; split <;> simp
   rw [List.flatMap_cons, List.length_append, List.length_cons]
   omega
 have := this k
 simp only [quoteB, List.length_append, List.length_cons, List.length_nil]
 omega
noncomputable def B8 : Code := (Tryz.f20.body).getD .skip
set_option maxHeartbeats 20000000 in
set_option maxRecDepth 100000 in
theorem parse_any (s : List UInt8) (hs : s.length ≤ 1048576) (w : World) (htp : Lib.TabIs Tryz.prog w "internal/strconv.uint64pow10" .u64 Lib.pow10Tab)
  {tp1 tp2 : TypeId} {q1 q2 : Value} (hs1 : w.var? Tryz.prog "strconv.ErrSyntax" = some #[.iface tp1 q1]) (hs2 : w.var? Tryz.prog "strconv.ErrRange" = some #[.iface tp2 q2]) {m : Int} (hm : w.cell? ⟨3, 0, none⟩ = some (.int .i64 m)) :
  Calls Tryz.prog 20 #[.string (mkB s)] w fun e w' => e = .returned (parseV (parseK s)) ∧ Below w.heap.size w w' := by
 cases hk : keyK s with
 | none =>
  have hv : parseK s = none := by unfold parseK; rw [hk]
  rw [hv]
  refine enter (fn := Tryz.f20) (c := B8) [.so (mkB s)] Tryz.func20 rfl rfl ?_
  refine zM [2, 16] 1 ⟨pops B8 [1, 0] 1, [.seq (sub B8 [1, 1])], [(2, .lp 0 0), (16, .so (mkB s))], [(zAF2, 40)]⟩ ?_
  refine zC noF_stable 40 [.so (mkB s)] (.tup [.v (.string ⟨#[]⟩), .v (.string ⟨#[]⟩), .v (.bool false)]) (fun _ _ w1 hi _ => (unquote_any s hs w1).mono fun e w2 h => ⟨h.1.trans (by rw [hk]; rfl), h.2⟩) ?_
  refine zM [2, 4, 6, 21] 1 ⟨pops B8 [1, 1, 0] 1, [.seq (sub B8 [1, 1, 1])], [(2, .lp 0 0), (4, .v (.string (ByteArray.mk #[]))), (6, .v (.bool false)), (21, .v (.string (ByteArray.mk #[])))], [(zAF2, 40)]⟩ ?_
  refine At.callx noF_stable (X := Nat × Nat) 41 [.v (.string ⟨#[]⟩), .v (.string ⟨#[32]⟩)] (fun x => .sl (some ⟨x.1, 0, none⟩) x.2 x.2) (fun x _ _ => True) (fun _ => fun _ _ _ _ _ _ h => h) (by kernel_rfl) (by kernel_rfl) (by kernel_rfl) (by kernel_rfl) (fun ρ a w1 hi hf => ?_) fun x => ?_
  ·refine (Tryz.strings_Split ⟨#[]⟩ ⟨#[32]⟩ m w1 (by decide) (cell_below hm hi.mem.below) (by decide)).mono ?_
   rintro e w' ⟨rfl, rfl⟩
   exact ⟨(_, _), rfl, (Below.refl _ _).alloc (Nat.le_refl _) _, trivial⟩
  refine At.mono (F' := noF) (fun ρ w1 h => trivial) ?_
  refine zM [2, 3] 1 ⟨.exit .ret, [], [(2, .lp 0 0), (3, .v (.int .i64 280))], [(zAF2, 40)]⟩ ?_
  refine zE (.tup zAF0) ?_
  intro ρ w9 hm' hf
  exact ⟨rfl, hm'.below⟩
 | some kr =>
  obtain ⟨k, r⟩ := kr
  have hl := key_rest hk
  have hv : parseK s = parseP k (pcs [] r) := by unfold parseK; rw [hk]
  rw [hv]
  by_cases h9 : (pcs [] r).length = 9
  ·obtain ⟨p0, p1, p2, p3, p4, p5, p6, p7, p8, hps⟩ := len9 h9
   have hsh : ∀ p ∈ [p0, p1, p2, p3, p4, p5, p6, p7, p8], p.length ≤ 1048576 := fun p hp => pcs_short (s := mkB r) (by rw [mkB_size]; omega) (hps ▸ hp)
   rw [hps]
   refine enter (fn := Tryz.f20) (c := B8) [.so (mkB s)] Tryz.func20 rfl rfl ?_
   refine zM [2, 16] 1 ⟨pops B8 [1, 0] 1, [.seq (sub B8 [1, 1])], [(2, .lp 0 0), (16, .so (mkB s))], [(zAF2, 40)]⟩ ?_
   refine zC noF_stable 40 [.so (mkB s)] (.tup [.so (mkB k), .so (mkB r), .v (.bool true)]) (fun _ _ w1 hi _ => (unquote_any s hs w1).mono fun e w2 h => ⟨h.1.trans (by rw [hk]; rfl), h.2⟩) ?_
   refine zM [2, 4, 6, 21] 1 ⟨pops B8 [1, 1, 0] 1, [.seq (sub B8 [1, 1, 1])], [(2, .lp 0 0), (4, .so (mkB k)), (6, .v (.bool true)), (21, .so (mkB r))], [(zAF2, 40)]⟩ ?_
   refine At.newcall 41 [.so (mkB r), .v (.string ⟨#[32]⟩)] (.ls 0 0 9 9) [([.so (mkB p0), .so (mkB p1), .so (mkB p2), .so (mkB p3), .so (mkB p4), .so (mkB p5), .so (mkB p6), .so (mkB p7), .so (mkB p8)], 9)] noF_stable (by kernel_rfl) (by kernel_rfl) (by kernel_rfl) (by kernel_rfl) (by kernel_rfl) (by kernel_rfl) (by kernel_rfl) (by kernel_rfl) (fun ρ w1 hm' hf => ?_) ?_
   ·have hk := split_row (mkB r) (by rw [mkB_size]; omega) w1 (cell_below hm hm'.below) (n := 9) (by rw [show (mkB r).data.toList = r from rfl, hps]; rfl)
    rw [show (mkB r).data.toList = r from rfl, hps] at hk
    exact hk
   refine zM [2, 4, 7, 36] 2 ⟨pops B8 [1, 1, 1, 0, 0] 14, [.seq (sub B8 [1, 1, 1, 0, 1]), .seq (sub B8 [1, 1, 1, 1])], [(2, .lp 0 0), (4, .so (mkB k)), (7, .ls 1 0 9 9), (36, .bo !(mkB p0).toList == (ByteArray.mk #[]).toList)], [(zAF2, 40), ([.so (mkB p0), .so (mkB p1), .so (mkB p2), .so (mkB p3), .so (mkB p4), .so (mkB p5), .so (mkB p6), .so (mkB p7), .so (mkB p8)], 9)]⟩ ?_
   rcases Bool.eq_false_or_eq_true (!(mkB p0).toList == (ByteArray.mk #[]).toList) with b0 | b0
   ·refine zR 36 b0 ?_
    refine zM [2, 3] 1 ⟨.exit .ret, [], [(2, .lp 0 0), (3, .v (.int .i64 280))], [(zAF2, 40)]⟩ ?_
    refine zE (.tup zAF0) ?_
    have hp0 : p0 ≠ [] := ne_of b0
    rw [show parseP k [p0, p1, p2, p3, p4, p5, p6, p7, p8] = none from if_pos (Or.inl hp0)]
    intro ρ w9 hm' hf
    exact ⟨rfl, hm'.below⟩
   refine zR 36 b0 ?_
   refine zM [2, 4, 7, 41] 2 ⟨.code (sub B8 [1, 1, 1, 0, 1]), [.seq (sub B8 [1, 1, 1, 1])], [(2, .lp 0 0), (4, .so (mkB k)), (7, .ls 1 0 9 9), (41, .bo ((mkB p1).toList == (ByteArray.mk #[]).toList))], [(zAF2, 40), ([.so (mkB p0), .so (mkB p1), .so (mkB p2), .so (mkB p3), .so (mkB p4), .so (mkB p5), .so (mkB p6), .so (mkB p7), .so (mkB p8)], 9)]⟩ ?_
   rcases Bool.eq_false_or_eq_true ((mkB p1).toList == (ByteArray.mk #[]).toList) with b1 | b1
   ·refine zR 41 b1 ?_
    refine zM [2, 3] 1 ⟨.exit .ret, [], [(2, .lp 0 0), (3, .v (.int .i64 280))], [(zAF2, 40)]⟩ ?_
    refine zE (.tup zAF0) ?_
    have hp1 : p1 = [] := emp_true b1
    rw [show parseP k [p0, p1, p2, p3, p4, p5, p6, p7, p8] = none from if_pos (Or.inr hp1)]
    intro ρ w9 hm' hf
    exact ⟨rfl, hm'.below⟩
   refine zR 41 b1 ?_
   refine zM [2, 7, 8] 3 ⟨pops B8 [1, 1, 1, 1, 1, 0, 0] 0, [.seq (sub B8 [1, 1, 1, 1, 1, 0, 1]), .seq (sub B8 pAF14)], [(2, .lp 0 0), (7, .ls 1 0 9 9), (8, .lp 2 0)], [(zAF2, 40), ([.so (mkB p0), .so (mkB p1), .so (mkB p2), .so (mkB p3), .so (mkB p4), .so (mkB p5), .so (mkB p6), .so (mkB p7), .so (mkB p8)], 9), ([.so (mkB k), .v (.int .i64 0), .v (.int .i64 0), .v (.int .i64 0), .v (.int .i64 0), .v (.int .i64 0), .v (.int .i64 0), .v (.int .i64 0), .v (.int .i64 0)], 40)]⟩ ?_
   have hp0 : p0 = [] := eq_of b0
   have hp1 : p1 ≠ [] := fun e => by subst e; exact absurd b1 (by decide +kernel)
   rw [show parseP k [p0, p1, p2, p3, p4, p5, p6, p7, p8] = paneOf k p1 ([p2, p3, p4, p5, p6, p7, p8].mapM numK) from if_neg (by rw [not_or]; exact ⟨Classical.not_not.2 hp0, hp1⟩)]
   clear b0
   refine zC noF_stable 37 [] (.agg [.v (.string ⟨#[]⟩), .v (.string ⟨#[101, 97, 114, 108, 121]⟩), .v (.string ⟨#[111, 110, 116, 105, 109, 101]⟩), .v (.string ⟨#[108, 97, 116, 101]⟩)]) (fun _ _ w1 hi _ => names_any w1) ?_
   refine cutS ⟨pops B8 pAF6 5, [.seq (sub B8 pAF7), .block 3, .seq (sub B8 pAF9), .rounds (sub B8 pAF11) 19, .block 2, .seq (sub B8 pAF13)], [(2, .lp 0 0), (7, .ls 1 0 9 9), (8, .lp 2 0), (11, .v (.int .i64 0)), (12, .lp 2 1), (71, .ls 3 0 7 7), (72, .v (.int .i64 7)), (73, .v (.int .i64 0)), (83, .so (mkB p2))], [([.so ⟨#[]⟩, .io .i64 0, .io .i64 0, .io .i64 0, .io .i64 0, .io .i64 0, .io .i64 0, .io .i64 0, .io .i64 0], 40), ([.so (mkB p0), .so (mkB p1), .so (mkB p2), .so (mkB p3), .so (mkB p4), .so (mkB p5), .so (mkB p6), .so (mkB p7), .so (mkB p8)], 9), ([.so (mkB k), .io .i64 0, .io .i64 0, .io .i64 (kindOf p1), .io .i64 0, .io .i64 0, .io .i64 0, .io .i64 0, .io .i64 0], 40), ([.lp 2 1, .lp 2 2, .lp 2 4, .lp 2 5, .lp 2 6, .lp 2 7, .lp 2 8], 83)]⟩ ?_ fun hrest => ?_
   ·rcases pint_cases p2 with ⟨n0, hn0⟩ | hn0
    ·refine zC noF_stable 42 [.so (mkB p2), .v (.int .i64 10), .v (.int .i64 64)] (.tup [.io .i64 n0, .v .nilIface]) (fun _ _ w1 hi _ => pint_ok (hsh p2 (by simp)) hn0 w1) ?_
     refine zM [2, 7, 8, 11, 12, 13, 71, 72, 73, 87] 4 ⟨pqops B8 [1, 1, 1, 1, 1, 1, 0, 1, 4, 4, 1, 1, 0, 4, 1, 1, 0, 0] 1, [.seq (sub B8 pAF4), .seq (sub B8 pAF5), .block 3, .seq (sub B8 pAF9), .rounds (sub B8 pAF11) 19, .block 2, .seq (sub B8 pAF13)], [(2, .lp 0 0), (7, .ls 1 0 9 9), (8, .lp 2 0), (11, .v (.int .i64 0)), (12, .lp 2 1), (13, .io .i64 n0), (71, .ls 3 0 7 7), (72, .v (.int .i64 7)), (73, .v (.int .i64 0)), (87, .v .nilIface)], [(zAF3, 40), ([.so (mkB p0), .so (mkB p1), .so (mkB p2), .so (mkB p3), .so (mkB p4), .so (mkB p5), .so (mkB p6), .so (mkB p7), .so (mkB p8)], 9), ([.so (mkB k), .io .i64 0, .io .i64 0, .io .i64 (kindOf p1), .io .i64 0, .io .i64 0, .io .i64 0, .io .i64 0, .io .i64 0], 40), ([.lp 2 1, .lp 2 2, .lp 2 4, .lp 2 5, .lp 2 6, .lp 2 7, .lp 2 8], 83)]⟩ ?_
     refine At.nilne false (by kernel_rfl) noF_stable ?_
     refine zM [2, 7, 8, 11, 12, 13, 71, 72, 73, 89, 90] 4 ⟨pqops B8 [1, 1, 1, 1, 1, 1, 0, 1, 4, 4, 1, 1, 0, 4, 1, 1, 0, 0] 4, [.seq (sub B8 pAF4), .seq (sub B8 pAF5), .block 3, .seq (sub B8 pAF9), .rounds (sub B8 pAF11) 19, .block 2, .seq (sub B8 pAF13)], [(2, .lp 0 0), (7, .ls 1 0 9 9), (8, .lp 2 0), (11, .v (.int .i64 0)), (12, .lp 2 1), (13, .io .i64 n0), (71, .ls 3 0 7 7), (72, .v (.int .i64 7)), (73, .v (.int .i64 0)), (89, .v (.bool false)), (90, .io .i64 n0)], [(zAF3, 40), ([.so (mkB p0), .so (mkB p1), .so (mkB p2), .so (mkB p3), .so (mkB p4), .so (mkB p5), .so (mkB p6), .so (mkB p7), .so (mkB p8)], 9), ([.so (mkB k), .io .i64 0, .io .i64 0, .io .i64 (kindOf p1), .io .i64 0, .io .i64 0, .io .i64 0, .io .i64 0, .io .i64 0], 40), ([.lp 2 1, .lp 2 2, .lp 2 4, .lp 2 5, .lp 2 6, .lp 2 7, .lp 2 8], 83)]⟩ ?_
     refine zC noF_stable 39 [.io .i64 n0, .v (.int .i64 10)] (.so (mkB (Lib.itoa n0))) (fun _ _ w1 hi _ => fmt_any n0 (parse_in hn0) w1 (tab_below htp hi.mem.below rfl)) ?_
     refine zM [2, 7, 8, 12, 13, 71, 72, 73, 98] 4 ⟨.code (sub B8 pAF4), [.seq (sub B8 pAF5), .block 3, .seq (sub B8 pAF9), .rounds (sub B8 pAF11) 19, .block 2, .seq (sub B8 pAF13)], [(2, .lp 0 0), (7, .ls 1 0 9 9), (8, .lp 2 0), (12, .lp 2 1), (13, .io .i64 n0), (71, .ls 3 0 7 7), (72, .v (.int .i64 7)), (73, .v (.int .i64 0)), (98, .bo !(mkB (Lib.itoa n0)).toList == (mkB p2).toList)], [(zAF3, 40), ([.so (mkB p0), .so (mkB p1), .so (mkB p2), .so (mkB p3), .so (mkB p4), .so (mkB p5), .so (mkB p6), .so (mkB p7), .so (mkB p8)], 9), ([.so (mkB k), .io .i64 0, .io .i64 0, .io .i64 (kindOf p1), .io .i64 0, .io .i64 0, .io .i64 0, .io .i64 0, .io .i64 0], 40), ([.lp 2 1, .lp 2 2, .lp 2 4, .lp 2 5, .lp 2 6, .lp 2 7, .lp 2 8], 83)]⟩ ?_
     rcases Bool.eq_false_or_eq_true (!(mkB (Lib.itoa n0)).toList == (mkB p2).toList) with b0 | b0
     ·refine zR 98 b0 ?_
      refine zM [2, 3] 1 ⟨.exit .ret, [], [(2, .lp 0 0), (3, .v (.int .i64 280))], [(zAF2, 40)]⟩ ?_
      refine zE (.tup zAF0) ?_
      have hq0 : numK p2 = none := numK_ne hn0 b0
      rw [paneOf_none (mapM_none (p := p2) (by simp) hq0)]
      intro ρ w9 hm' hf
      exact ⟨rfl, hm'.below⟩
     refine zR 98 b0 ?_
     refine zM [2, 7, 8, 11, 12, 71, 72, 73, 83] 4 ⟨pops B8 pAF6 5, [.seq (sub B8 pAF7), .block 3, .seq (sub B8 pAF9), .rounds (sub B8 pAF11) 18, .block 2, .seq (sub B8 pAF13)], [(2, .lp 0 0), (7, .ls 1 0 9 9), (8, .lp 2 0), (11, .v (.int .i64 1)), (12, .lp 2 2), (71, .ls 3 0 7 7), (72, .v (.int .i64 7)), (73, .v (.int .i64 1)), (83, .so (mkB p3))], [(zAF3, 40), ([.so (mkB p0), .so (mkB p1), .so (mkB p2), .so (mkB p3), .so (mkB p4), .so (mkB p5), .so (mkB p6), .so (mkB p7), .so (mkB p8)], 9), ([.so (mkB k), .io .i64 n0, .io .i64 0, .io .i64 (kindOf p1), .io .i64 0, .io .i64 0, .io .i64 0, .io .i64 0, .io .i64 0], 40), ([.lp 2 1, .lp 2 2, .lp 2 4, .lp 2 5, .lp 2 6, .lp 2 7, .lp 2 8], 83)]⟩ ?_
     have hq0 : numK p2 = some n0 := numK_eq hn0 b0
     clear b0
     rcases pint_cases p3 with ⟨n1, hn1⟩ | hn1
     ·refine zC noF_stable 42 [.so (mkB p3), .v (.int .i64 10), .v (.int .i64 64)] (.tup [.io .i64 n1, .v .nilIface]) (fun _ _ w1 hi _ => pint_ok (hsh p3 (by simp)) hn1 w1) ?_
      refine zM [2, 7, 8, 11, 12, 13, 71, 72, 73, 87] 4 ⟨pqops B8 [1, 1, 1, 1, 1, 1, 0, 1, 4, 4, 1, 1, 0, 4, 1, 1, 0, 0] 1, [.seq (sub B8 pAF4), .seq (sub B8 pAF5), .block 3, .seq (sub B8 pAF9), .rounds (sub B8 pAF11) 18, .block 2, .seq (sub B8 pAF13)], [(2, .lp 0 0), (7, .ls 1 0 9 9), (8, .lp 2 0), (11, .v (.int .i64 1)), (12, .lp 2 2), (13, .io .i64 n1), (71, .ls 3 0 7 7), (72, .v (.int .i64 7)), (73, .v (.int .i64 1)), (87, .v .nilIface)], [(zAF3, 40), ([.so (mkB p0), .so (mkB p1), .so (mkB p2), .so (mkB p3), .so (mkB p4), .so (mkB p5), .so (mkB p6), .so (mkB p7), .so (mkB p8)], 9), ([.so (mkB k), .io .i64 n0, .io .i64 0, .io .i64 (kindOf p1), .io .i64 0, .io .i64 0, .io .i64 0, .io .i64 0, .io .i64 0], 40), ([.lp 2 1, .lp 2 2, .lp 2 4, .lp 2 5, .lp 2 6, .lp 2 7, .lp 2 8], 83)]⟩ ?_
      refine At.nilne false (by kernel_rfl) noF_stable ?_
      refine zM [2, 7, 8, 11, 12, 13, 71, 72, 73, 89, 90] 4 ⟨pqops B8 [1, 1, 1, 1, 1, 1, 0, 1, 4, 4, 1, 1, 0, 4, 1, 1, 0, 0] 4, [.seq (sub B8 pAF4), .seq (sub B8 pAF5), .block 3, .seq (sub B8 pAF9), .rounds (sub B8 pAF11) 18, .block 2, .seq (sub B8 pAF13)], [(2, .lp 0 0), (7, .ls 1 0 9 9), (8, .lp 2 0), (11, .v (.int .i64 1)), (12, .lp 2 2), (13, .io .i64 n1), (71, .ls 3 0 7 7), (72, .v (.int .i64 7)), (73, .v (.int .i64 1)), (89, .v (.bool false)), (90, .io .i64 n1)], [(zAF3, 40), ([.so (mkB p0), .so (mkB p1), .so (mkB p2), .so (mkB p3), .so (mkB p4), .so (mkB p5), .so (mkB p6), .so (mkB p7), .so (mkB p8)], 9), ([.so (mkB k), .io .i64 n0, .io .i64 0, .io .i64 (kindOf p1), .io .i64 0, .io .i64 0, .io .i64 0, .io .i64 0, .io .i64 0], 40), ([.lp 2 1, .lp 2 2, .lp 2 4, .lp 2 5, .lp 2 6, .lp 2 7, .lp 2 8], 83)]⟩ ?_
      refine zC noF_stable 39 [.io .i64 n1, .v (.int .i64 10)] (.so (mkB (Lib.itoa n1))) (fun _ _ w1 hi _ => fmt_any n1 (parse_in hn1) w1 (tab_below htp hi.mem.below rfl)) ?_
      refine zM [2, 7, 8, 12, 13, 71, 72, 73, 98] 4 ⟨.code (sub B8 pAF4), [.seq (sub B8 pAF5), .block 3, .seq (sub B8 pAF9), .rounds (sub B8 pAF11) 18, .block 2, .seq (sub B8 pAF13)], [(2, .lp 0 0), (7, .ls 1 0 9 9), (8, .lp 2 0), (12, .lp 2 2), (13, .io .i64 n1), (71, .ls 3 0 7 7), (72, .v (.int .i64 7)), (73, .v (.int .i64 1)), (98, .bo !(mkB (Lib.itoa n1)).toList == (mkB p3).toList)], [(zAF3, 40), ([.so (mkB p0), .so (mkB p1), .so (mkB p2), .so (mkB p3), .so (mkB p4), .so (mkB p5), .so (mkB p6), .so (mkB p7), .so (mkB p8)], 9), ([.so (mkB k), .io .i64 n0, .io .i64 0, .io .i64 (kindOf p1), .io .i64 0, .io .i64 0, .io .i64 0, .io .i64 0, .io .i64 0], 40), ([.lp 2 1, .lp 2 2, .lp 2 4, .lp 2 5, .lp 2 6, .lp 2 7, .lp 2 8], 83)]⟩ ?_
      rcases Bool.eq_false_or_eq_true (!(mkB (Lib.itoa n1)).toList == (mkB p3).toList) with b0 | b0
      ·refine zR 98 b0 ?_
       refine zM [2, 3] 1 ⟨.exit .ret, [], [(2, .lp 0 0), (3, .v (.int .i64 280))], [(zAF2, 40)]⟩ ?_
       refine zE (.tup zAF0) ?_
       have hq1 : numK p3 = none := numK_ne hn1 b0
       rw [paneOf_none (mapM_none (p := p3) (by simp) hq1)]
       intro ρ w9 hm' hf
       exact ⟨rfl, hm'.below⟩
      refine zR 98 b0 ?_
      refine zM [2, 7, 8, 11, 12, 71, 72, 73, 83] 4 ⟨pops B8 pAF6 5, [.seq (sub B8 pAF7), .block 3, .seq (sub B8 pAF9), .rounds (sub B8 pAF11) 17, .block 2, .seq (sub B8 pAF13)], [(2, .lp 0 0), (7, .ls 1 0 9 9), (8, .lp 2 0), (11, .v (.int .i64 2)), (12, .lp 2 4), (71, .ls 3 0 7 7), (72, .v (.int .i64 7)), (73, .v (.int .i64 2)), (83, .so (mkB p4))], [(zAF3, 40), ([.so (mkB p0), .so (mkB p1), .so (mkB p2), .so (mkB p3), .so (mkB p4), .so (mkB p5), .so (mkB p6), .so (mkB p7), .so (mkB p8)], 9), ([.so (mkB k), .io .i64 n0, .io .i64 n1, .io .i64 (kindOf p1), .io .i64 0, .io .i64 0, .io .i64 0, .io .i64 0, .io .i64 0], 40), ([.lp 2 1, .lp 2 2, .lp 2 4, .lp 2 5, .lp 2 6, .lp 2 7, .lp 2 8], 83)]⟩ ?_
      have hq1 : numK p3 = some n1 := numK_eq hn1 b0
      clear b0
      rcases pint_cases p4 with ⟨n2, hn2⟩ | hn2
      ·refine zC noF_stable 42 [.so (mkB p4), .v (.int .i64 10), .v (.int .i64 64)] (.tup [.io .i64 n2, .v .nilIface]) (fun _ _ w1 hi _ => pint_ok (hsh p4 (by simp)) hn2 w1) ?_
       refine zM [2, 7, 8, 11, 12, 13, 71, 72, 73, 87] 4 ⟨pqops B8 [1, 1, 1, 1, 1, 1, 0, 1, 4, 4, 1, 1, 0, 4, 1, 1, 0, 0] 1, [.seq (sub B8 pAF4), .seq (sub B8 pAF5), .block 3, .seq (sub B8 pAF9), .rounds (sub B8 pAF11) 17, .block 2, .seq (sub B8 pAF13)], [(2, .lp 0 0), (7, .ls 1 0 9 9), (8, .lp 2 0), (11, .v (.int .i64 2)), (12, .lp 2 4), (13, .io .i64 n2), (71, .ls 3 0 7 7), (72, .v (.int .i64 7)), (73, .v (.int .i64 2)), (87, .v .nilIface)], [(zAF3, 40), ([.so (mkB p0), .so (mkB p1), .so (mkB p2), .so (mkB p3), .so (mkB p4), .so (mkB p5), .so (mkB p6), .so (mkB p7), .so (mkB p8)], 9), ([.so (mkB k), .io .i64 n0, .io .i64 n1, .io .i64 (kindOf p1), .io .i64 0, .io .i64 0, .io .i64 0, .io .i64 0, .io .i64 0], 40), ([.lp 2 1, .lp 2 2, .lp 2 4, .lp 2 5, .lp 2 6, .lp 2 7, .lp 2 8], 83)]⟩ ?_
       refine At.nilne false (by kernel_rfl) noF_stable ?_
       refine zM [2, 7, 8, 11, 12, 13, 71, 72, 73, 89, 90] 4 ⟨pqops B8 [1, 1, 1, 1, 1, 1, 0, 1, 4, 4, 1, 1, 0, 4, 1, 1, 0, 0] 4, [.seq (sub B8 pAF4), .seq (sub B8 pAF5), .block 3, .seq (sub B8 pAF9), .rounds (sub B8 pAF11) 17, .block 2, .seq (sub B8 pAF13)], [(2, .lp 0 0), (7, .ls 1 0 9 9), (8, .lp 2 0), (11, .v (.int .i64 2)), (12, .lp 2 4), (13, .io .i64 n2), (71, .ls 3 0 7 7), (72, .v (.int .i64 7)), (73, .v (.int .i64 2)), (89, .v (.bool false)), (90, .io .i64 n2)], [(zAF3, 40), ([.so (mkB p0), .so (mkB p1), .so (mkB p2), .so (mkB p3), .so (mkB p4), .so (mkB p5), .so (mkB p6), .so (mkB p7), .so (mkB p8)], 9), ([.so (mkB k), .io .i64 n0, .io .i64 n1, .io .i64 (kindOf p1), .io .i64 0, .io .i64 0, .io .i64 0, .io .i64 0, .io .i64 0], 40), ([.lp 2 1, .lp 2 2, .lp 2 4, .lp 2 5, .lp 2 6, .lp 2 7, .lp 2 8], 83)]⟩ ?_
       refine zC noF_stable 39 [.io .i64 n2, .v (.int .i64 10)] (.so (mkB (Lib.itoa n2))) (fun _ _ w1 hi _ => fmt_any n2 (parse_in hn2) w1 (tab_below htp hi.mem.below rfl)) ?_
       refine zM [2, 7, 8, 12, 13, 71, 72, 73, 98] 4 ⟨.code (sub B8 pAF4), [.seq (sub B8 pAF5), .block 3, .seq (sub B8 pAF9), .rounds (sub B8 pAF11) 17, .block 2, .seq (sub B8 pAF13)], [(2, .lp 0 0), (7, .ls 1 0 9 9), (8, .lp 2 0), (12, .lp 2 4), (13, .io .i64 n2), (71, .ls 3 0 7 7), (72, .v (.int .i64 7)), (73, .v (.int .i64 2)), (98, .bo !(mkB (Lib.itoa n2)).toList == (mkB p4).toList)], [(zAF3, 40), ([.so (mkB p0), .so (mkB p1), .so (mkB p2), .so (mkB p3), .so (mkB p4), .so (mkB p5), .so (mkB p6), .so (mkB p7), .so (mkB p8)], 9), ([.so (mkB k), .io .i64 n0, .io .i64 n1, .io .i64 (kindOf p1), .io .i64 0, .io .i64 0, .io .i64 0, .io .i64 0, .io .i64 0], 40), ([.lp 2 1, .lp 2 2, .lp 2 4, .lp 2 5, .lp 2 6, .lp 2 7, .lp 2 8], 83)]⟩ ?_
       rcases Bool.eq_false_or_eq_true (!(mkB (Lib.itoa n2)).toList == (mkB p4).toList) with b0 | b0
       ·refine zR 98 b0 ?_
        refine zM [2, 3] 1 ⟨.exit .ret, [], [(2, .lp 0 0), (3, .v (.int .i64 280))], [(zAF2, 40)]⟩ ?_
        refine zE (.tup zAF0) ?_
        have hq2 : numK p4 = none := numK_ne hn2 b0
        rw [paneOf_none (mapM_none (p := p4) (by simp) hq2)]
        intro ρ w9 hm' hf
        exact ⟨rfl, hm'.below⟩
       refine zR 98 b0 ?_
       refine zM [2, 7, 8, 11, 12, 71, 72, 73, 83] 4 ⟨pops B8 pAF6 5, [.seq (sub B8 pAF7), .block 3, .seq (sub B8 pAF9), .rounds (sub B8 pAF11) 16, .block 2, .seq (sub B8 pAF13)], [(2, .lp 0 0), (7, .ls 1 0 9 9), (8, .lp 2 0), (11, .v (.int .i64 3)), (12, .lp 2 5), (71, .ls 3 0 7 7), (72, .v (.int .i64 7)), (73, .v (.int .i64 3)), (83, .so (mkB p5))], [(zAF3, 40), ([.so (mkB p0), .so (mkB p1), .so (mkB p2), .so (mkB p3), .so (mkB p4), .so (mkB p5), .so (mkB p6), .so (mkB p7), .so (mkB p8)], 9), ([.so (mkB k), .io .i64 n0, .io .i64 n1, .io .i64 (kindOf p1), .io .i64 n2, .io .i64 0, .io .i64 0, .io .i64 0, .io .i64 0], 40), ([.lp 2 1, .lp 2 2, .lp 2 4, .lp 2 5, .lp 2 6, .lp 2 7, .lp 2 8], 83)]⟩ ?_
       have hq2 : numK p4 = some n2 := numK_eq hn2 b0
       clear b0
       rcases pint_cases p5 with ⟨n3, hn3⟩ | hn3
       ·refine zC noF_stable 42 [.so (mkB p5), .v (.int .i64 10), .v (.int .i64 64)] (.tup [.io .i64 n3, .v .nilIface]) (fun _ _ w1 hi _ => pint_ok (hsh p5 (by simp)) hn3 w1) ?_
        refine zM [2, 7, 8, 11, 12, 13, 71, 72, 73, 87] 4 ⟨pqops B8 [1, 1, 1, 1, 1, 1, 0, 1, 4, 4, 1, 1, 0, 4, 1, 1, 0, 0] 1, [.seq (sub B8 pAF4), .seq (sub B8 pAF5), .block 3, .seq (sub B8 pAF9), .rounds (sub B8 pAF11) 16, .block 2, .seq (sub B8 pAF13)], [(2, .lp 0 0), (7, .ls 1 0 9 9), (8, .lp 2 0), (11, .v (.int .i64 3)), (12, .lp 2 5), (13, .io .i64 n3), (71, .ls 3 0 7 7), (72, .v (.int .i64 7)), (73, .v (.int .i64 3)), (87, .v .nilIface)], [(zAF3, 40), ([.so (mkB p0), .so (mkB p1), .so (mkB p2), .so (mkB p3), .so (mkB p4), .so (mkB p5), .so (mkB p6), .so (mkB p7), .so (mkB p8)], 9), ([.so (mkB k), .io .i64 n0, .io .i64 n1, .io .i64 (kindOf p1), .io .i64 n2, .io .i64 0, .io .i64 0, .io .i64 0, .io .i64 0], 40), ([.lp 2 1, .lp 2 2, .lp 2 4, .lp 2 5, .lp 2 6, .lp 2 7, .lp 2 8], 83)]⟩ ?_
        refine At.nilne false (by kernel_rfl) noF_stable ?_
        refine zM [2, 7, 8, 11, 12, 13, 71, 72, 73, 89, 90] 4 ⟨pqops B8 [1, 1, 1, 1, 1, 1, 0, 1, 4, 4, 1, 1, 0, 4, 1, 1, 0, 0] 4, [.seq (sub B8 pAF4), .seq (sub B8 pAF5), .block 3, .seq (sub B8 pAF9), .rounds (sub B8 pAF11) 16, .block 2, .seq (sub B8 pAF13)], [(2, .lp 0 0), (7, .ls 1 0 9 9), (8, .lp 2 0), (11, .v (.int .i64 3)), (12, .lp 2 5), (13, .io .i64 n3), (71, .ls 3 0 7 7), (72, .v (.int .i64 7)), (73, .v (.int .i64 3)), (89, .v (.bool false)), (90, .io .i64 n3)], [(zAF3, 40), ([.so (mkB p0), .so (mkB p1), .so (mkB p2), .so (mkB p3), .so (mkB p4), .so (mkB p5), .so (mkB p6), .so (mkB p7), .so (mkB p8)], 9), ([.so (mkB k), .io .i64 n0, .io .i64 n1, .io .i64 (kindOf p1), .io .i64 n2, .io .i64 0, .io .i64 0, .io .i64 0, .io .i64 0], 40), ([.lp 2 1, .lp 2 2, .lp 2 4, .lp 2 5, .lp 2 6, .lp 2 7, .lp 2 8], 83)]⟩ ?_
        refine zC noF_stable 39 [.io .i64 n3, .v (.int .i64 10)] (.so (mkB (Lib.itoa n3))) (fun _ _ w1 hi _ => fmt_any n3 (parse_in hn3) w1 (tab_below htp hi.mem.below rfl)) ?_
        refine zM [2, 7, 8, 12, 13, 71, 72, 73, 98] 4 ⟨.code (sub B8 pAF4), [.seq (sub B8 pAF5), .block 3, .seq (sub B8 pAF9), .rounds (sub B8 pAF11) 16, .block 2, .seq (sub B8 pAF13)], [(2, .lp 0 0), (7, .ls 1 0 9 9), (8, .lp 2 0), (12, .lp 2 5), (13, .io .i64 n3), (71, .ls 3 0 7 7), (72, .v (.int .i64 7)), (73, .v (.int .i64 3)), (98, .bo !(mkB (Lib.itoa n3)).toList == (mkB p5).toList)], [(zAF3, 40), ([.so (mkB p0), .so (mkB p1), .so (mkB p2), .so (mkB p3), .so (mkB p4), .so (mkB p5), .so (mkB p6), .so (mkB p7), .so (mkB p8)], 9), ([.so (mkB k), .io .i64 n0, .io .i64 n1, .io .i64 (kindOf p1), .io .i64 n2, .io .i64 0, .io .i64 0, .io .i64 0, .io .i64 0], 40), ([.lp 2 1, .lp 2 2, .lp 2 4, .lp 2 5, .lp 2 6, .lp 2 7, .lp 2 8], 83)]⟩ ?_
        rcases Bool.eq_false_or_eq_true (!(mkB (Lib.itoa n3)).toList == (mkB p5).toList) with b0 | b0
        ·refine zR 98 b0 ?_
         refine zM [2, 3] 1 ⟨.exit .ret, [], [(2, .lp 0 0), (3, .v (.int .i64 280))], [(zAF2, 40)]⟩ ?_
         refine zE (.tup zAF0) ?_
         have hq3 : numK p5 = none := numK_ne hn3 b0
         rw [paneOf_none (mapM_none (p := p5) (by simp) hq3)]
         intro ρ w9 hm' hf
         exact ⟨rfl, hm'.below⟩
        refine zR 98 b0 ?_
        refine zM [2, 7, 8, 11, 12, 71, 72, 73, 83] 4 ⟨pops B8 pAF6 5, [.seq (sub B8 pAF7), .block 3, .seq (sub B8 pAF9), .rounds (sub B8 pAF11) 15, .block 2, .seq (sub B8 pAF13)], [(2, .lp 0 0), (7, .ls 1 0 9 9), (8, .lp 2 0), (11, .v (.int .i64 4)), (12, .lp 2 6), (71, .ls 3 0 7 7), (72, .v (.int .i64 7)), (73, .v (.int .i64 4)), (83, .so (mkB p6))], [(zAF3, 40), ([.so (mkB p0), .so (mkB p1), .so (mkB p2), .so (mkB p3), .so (mkB p4), .so (mkB p5), .so (mkB p6), .so (mkB p7), .so (mkB p8)], 9), ([.so (mkB k), .io .i64 n0, .io .i64 n1, .io .i64 (kindOf p1), .io .i64 n2, .io .i64 n3, .io .i64 0, .io .i64 0, .io .i64 0], 40), ([.lp 2 1, .lp 2 2, .lp 2 4, .lp 2 5, .lp 2 6, .lp 2 7, .lp 2 8], 83)]⟩ ?_
        have hq3 : numK p5 = some n3 := numK_eq hn3 b0
        clear b0
        rcases pint_cases p6 with ⟨n4, hn4⟩ | hn4
        ·refine zC noF_stable 42 [.so (mkB p6), .v (.int .i64 10), .v (.int .i64 64)] (.tup [.io .i64 n4, .v .nilIface]) (fun _ _ w1 hi _ => pint_ok (hsh p6 (by simp)) hn4 w1) ?_
         refine zM [2, 7, 8, 11, 12, 13, 71, 72, 73, 87] 4 ⟨pqops B8 [1, 1, 1, 1, 1, 1, 0, 1, 4, 4, 1, 1, 0, 4, 1, 1, 0, 0] 1, [.seq (sub B8 pAF4), .seq (sub B8 pAF5), .block 3, .seq (sub B8 pAF9), .rounds (sub B8 pAF11) 15, .block 2, .seq (sub B8 pAF13)], [(2, .lp 0 0), (7, .ls 1 0 9 9), (8, .lp 2 0), (11, .v (.int .i64 4)), (12, .lp 2 6), (13, .io .i64 n4), (71, .ls 3 0 7 7), (72, .v (.int .i64 7)), (73, .v (.int .i64 4)), (87, .v .nilIface)], [(zAF3, 40), ([.so (mkB p0), .so (mkB p1), .so (mkB p2), .so (mkB p3), .so (mkB p4), .so (mkB p5), .so (mkB p6), .so (mkB p7), .so (mkB p8)], 9), ([.so (mkB k), .io .i64 n0, .io .i64 n1, .io .i64 (kindOf p1), .io .i64 n2, .io .i64 n3, .io .i64 0, .io .i64 0, .io .i64 0], 40), ([.lp 2 1, .lp 2 2, .lp 2 4, .lp 2 5, .lp 2 6, .lp 2 7, .lp 2 8], 83)]⟩ ?_
         refine At.nilne false (by kernel_rfl) noF_stable ?_
         refine zM [2, 7, 8, 11, 12, 13, 71, 72, 73, 89, 90] 4 ⟨pqops B8 [1, 1, 1, 1, 1, 1, 0, 1, 4, 4, 1, 1, 0, 4, 1, 1, 0, 0] 4, [.seq (sub B8 pAF4), .seq (sub B8 pAF5), .block 3, .seq (sub B8 pAF9), .rounds (sub B8 pAF11) 15, .block 2, .seq (sub B8 pAF13)], [(2, .lp 0 0), (7, .ls 1 0 9 9), (8, .lp 2 0), (11, .v (.int .i64 4)), (12, .lp 2 6), (13, .io .i64 n4), (71, .ls 3 0 7 7), (72, .v (.int .i64 7)), (73, .v (.int .i64 4)), (89, .v (.bool false)), (90, .io .i64 n4)], [(zAF3, 40), ([.so (mkB p0), .so (mkB p1), .so (mkB p2), .so (mkB p3), .so (mkB p4), .so (mkB p5), .so (mkB p6), .so (mkB p7), .so (mkB p8)], 9), ([.so (mkB k), .io .i64 n0, .io .i64 n1, .io .i64 (kindOf p1), .io .i64 n2, .io .i64 n3, .io .i64 0, .io .i64 0, .io .i64 0], 40), ([.lp 2 1, .lp 2 2, .lp 2 4, .lp 2 5, .lp 2 6, .lp 2 7, .lp 2 8], 83)]⟩ ?_
         refine zC noF_stable 39 [.io .i64 n4, .v (.int .i64 10)] (.so (mkB (Lib.itoa n4))) (fun _ _ w1 hi _ => fmt_any n4 (parse_in hn4) w1 (tab_below htp hi.mem.below rfl)) ?_
         refine zM [2, 7, 8, 12, 13, 71, 72, 73, 98] 4 ⟨.code (sub B8 pAF4), [.seq (sub B8 pAF5), .block 3, .seq (sub B8 pAF9), .rounds (sub B8 pAF11) 15, .block 2, .seq (sub B8 pAF13)], [(2, .lp 0 0), (7, .ls 1 0 9 9), (8, .lp 2 0), (12, .lp 2 6), (13, .io .i64 n4), (71, .ls 3 0 7 7), (72, .v (.int .i64 7)), (73, .v (.int .i64 4)), (98, .bo !(mkB (Lib.itoa n4)).toList == (mkB p6).toList)], [(zAF3, 40), ([.so (mkB p0), .so (mkB p1), .so (mkB p2), .so (mkB p3), .so (mkB p4), .so (mkB p5), .so (mkB p6), .so (mkB p7), .so (mkB p8)], 9), ([.so (mkB k), .io .i64 n0, .io .i64 n1, .io .i64 (kindOf p1), .io .i64 n2, .io .i64 n3, .io .i64 0, .io .i64 0, .io .i64 0], 40), ([.lp 2 1, .lp 2 2, .lp 2 4, .lp 2 5, .lp 2 6, .lp 2 7, .lp 2 8], 83)]⟩ ?_
         rcases Bool.eq_false_or_eq_true (!(mkB (Lib.itoa n4)).toList == (mkB p6).toList) with b0 | b0
         ·refine zR 98 b0 ?_
          refine zM [2, 3] 1 ⟨.exit .ret, [], [(2, .lp 0 0), (3, .v (.int .i64 280))], [(zAF2, 40)]⟩ ?_
          refine zE (.tup zAF0) ?_
          have hq4 : numK p6 = none := numK_ne hn4 b0
          rw [paneOf_none (mapM_none (p := p6) (by simp) hq4)]
          intro ρ w9 hm' hf
          exact ⟨rfl, hm'.below⟩
         refine zR 98 b0 ?_
         refine zM [2, 7, 8, 11, 12, 71, 72, 73, 83] 4 ⟨pops B8 pAF6 5, [.seq (sub B8 pAF7), .block 3, .seq (sub B8 pAF9), .rounds (sub B8 pAF11) 14, .block 2, .seq (sub B8 pAF13)], [(2, .lp 0 0), (7, .ls 1 0 9 9), (8, .lp 2 0), (11, .v (.int .i64 5)), (12, .lp 2 7), (71, .ls 3 0 7 7), (72, .v (.int .i64 7)), (73, .v (.int .i64 5)), (83, .so (mkB p7))], [(zAF3, 40), ([.so (mkB p0), .so (mkB p1), .so (mkB p2), .so (mkB p3), .so (mkB p4), .so (mkB p5), .so (mkB p6), .so (mkB p7), .so (mkB p8)], 9), ([.so (mkB k), .io .i64 n0, .io .i64 n1, .io .i64 (kindOf p1), .io .i64 n2, .io .i64 n3, .io .i64 n4, .io .i64 0, .io .i64 0], 40), ([.lp 2 1, .lp 2 2, .lp 2 4, .lp 2 5, .lp 2 6, .lp 2 7, .lp 2 8], 83)]⟩ ?_
         have hq4 : numK p6 = some n4 := numK_eq hn4 b0
         clear b0
         rcases pint_cases p7 with ⟨n5, hn5⟩ | hn5
         ·refine zC noF_stable 42 [.so (mkB p7), .v (.int .i64 10), .v (.int .i64 64)] (.tup [.io .i64 n5, .v .nilIface]) (fun _ _ w1 hi _ => pint_ok (hsh p7 (by simp)) hn5 w1) ?_
          refine zM [2, 7, 8, 11, 12, 13, 71, 72, 73, 87] 4 ⟨pqops B8 [1, 1, 1, 1, 1, 1, 0, 1, 4, 4, 1, 1, 0, 4, 1, 1, 0, 0] 1, [.seq (sub B8 pAF4), .seq (sub B8 pAF5), .block 3, .seq (sub B8 pAF9), .rounds (sub B8 pAF11) 14, .block 2, .seq (sub B8 pAF13)], [(2, .lp 0 0), (7, .ls 1 0 9 9), (8, .lp 2 0), (11, .v (.int .i64 5)), (12, .lp 2 7), (13, .io .i64 n5), (71, .ls 3 0 7 7), (72, .v (.int .i64 7)), (73, .v (.int .i64 5)), (87, .v .nilIface)], [(zAF3, 40), ([.so (mkB p0), .so (mkB p1), .so (mkB p2), .so (mkB p3), .so (mkB p4), .so (mkB p5), .so (mkB p6), .so (mkB p7), .so (mkB p8)], 9), ([.so (mkB k), .io .i64 n0, .io .i64 n1, .io .i64 (kindOf p1), .io .i64 n2, .io .i64 n3, .io .i64 n4, .io .i64 0, .io .i64 0], 40), ([.lp 2 1, .lp 2 2, .lp 2 4, .lp 2 5, .lp 2 6, .lp 2 7, .lp 2 8], 83)]⟩ ?_
          refine At.nilne false (by kernel_rfl) noF_stable ?_
          refine zM [2, 7, 8, 11, 12, 13, 71, 72, 73, 89, 90] 4 ⟨pqops B8 [1, 1, 1, 1, 1, 1, 0, 1, 4, 4, 1, 1, 0, 4, 1, 1, 0, 0] 4, [.seq (sub B8 pAF4), .seq (sub B8 pAF5), .block 3, .seq (sub B8 pAF9), .rounds (sub B8 pAF11) 14, .block 2, .seq (sub B8 pAF13)], [(2, .lp 0 0), (7, .ls 1 0 9 9), (8, .lp 2 0), (11, .v (.int .i64 5)), (12, .lp 2 7), (13, .io .i64 n5), (71, .ls 3 0 7 7), (72, .v (.int .i64 7)), (73, .v (.int .i64 5)), (89, .v (.bool false)), (90, .io .i64 n5)], [(zAF3, 40), ([.so (mkB p0), .so (mkB p1), .so (mkB p2), .so (mkB p3), .so (mkB p4), .so (mkB p5), .so (mkB p6), .so (mkB p7), .so (mkB p8)], 9), ([.so (mkB k), .io .i64 n0, .io .i64 n1, .io .i64 (kindOf p1), .io .i64 n2, .io .i64 n3, .io .i64 n4, .io .i64 0, .io .i64 0], 40), ([.lp 2 1, .lp 2 2, .lp 2 4, .lp 2 5, .lp 2 6, .lp 2 7, .lp 2 8], 83)]⟩ ?_
          refine zC noF_stable 39 [.io .i64 n5, .v (.int .i64 10)] (.so (mkB (Lib.itoa n5))) (fun _ _ w1 hi _ => fmt_any n5 (parse_in hn5) w1 (tab_below htp hi.mem.below rfl)) ?_
          refine zM [2, 7, 8, 12, 13, 71, 72, 73, 98] 4 ⟨.code (sub B8 pAF4), [.seq (sub B8 pAF5), .block 3, .seq (sub B8 pAF9), .rounds (sub B8 pAF11) 14, .block 2, .seq (sub B8 pAF13)], [(2, .lp 0 0), (7, .ls 1 0 9 9), (8, .lp 2 0), (12, .lp 2 7), (13, .io .i64 n5), (71, .ls 3 0 7 7), (72, .v (.int .i64 7)), (73, .v (.int .i64 5)), (98, .bo !(mkB (Lib.itoa n5)).toList == (mkB p7).toList)], [(zAF3, 40), ([.so (mkB p0), .so (mkB p1), .so (mkB p2), .so (mkB p3), .so (mkB p4), .so (mkB p5), .so (mkB p6), .so (mkB p7), .so (mkB p8)], 9), ([.so (mkB k), .io .i64 n0, .io .i64 n1, .io .i64 (kindOf p1), .io .i64 n2, .io .i64 n3, .io .i64 n4, .io .i64 0, .io .i64 0], 40), ([.lp 2 1, .lp 2 2, .lp 2 4, .lp 2 5, .lp 2 6, .lp 2 7, .lp 2 8], 83)]⟩ ?_
          rcases Bool.eq_false_or_eq_true (!(mkB (Lib.itoa n5)).toList == (mkB p7).toList) with b0 | b0
          ·refine zR 98 b0 ?_
           refine zM [2, 3] 1 ⟨.exit .ret, [], [(2, .lp 0 0), (3, .v (.int .i64 280))], [(zAF2, 40)]⟩ ?_
           refine zE (.tup zAF0) ?_
           have hq5 : numK p7 = none := numK_ne hn5 b0
           rw [paneOf_none (mapM_none (p := p7) (by simp) hq5)]
           intro ρ w9 hm' hf
           exact ⟨rfl, hm'.below⟩
          refine zR 98 b0 ?_
          refine zM [2, 7, 8, 11, 12, 71, 72, 73, 83] 4 ⟨pops B8 pAF6 5, [.seq (sub B8 pAF7), .block 3, .seq (sub B8 pAF9), .rounds (sub B8 pAF11) 13, .block 2, .seq (sub B8 pAF13)], [(2, .lp 0 0), (7, .ls 1 0 9 9), (8, .lp 2 0), (11, .v (.int .i64 6)), (12, .lp 2 8), (71, .ls 3 0 7 7), (72, .v (.int .i64 7)), (73, .v (.int .i64 6)), (83, .so (mkB p8))], [(zAF3, 40), ([.so (mkB p0), .so (mkB p1), .so (mkB p2), .so (mkB p3), .so (mkB p4), .so (mkB p5), .so (mkB p6), .so (mkB p7), .so (mkB p8)], 9), ([.so (mkB k), .io .i64 n0, .io .i64 n1, .io .i64 (kindOf p1), .io .i64 n2, .io .i64 n3, .io .i64 n4, .io .i64 n5, .io .i64 0], 40), ([.lp 2 1, .lp 2 2, .lp 2 4, .lp 2 5, .lp 2 6, .lp 2 7, .lp 2 8], 83)]⟩ ?_
          have hq5 : numK p7 = some n5 := numK_eq hn5 b0
          clear b0
          rcases pint_cases p8 with ⟨n6, hn6⟩ | hn6
          ·refine zC noF_stable 42 [.so (mkB p8), .v (.int .i64 10), .v (.int .i64 64)] (.tup [.io .i64 n6, .v .nilIface]) (fun _ _ w1 hi _ => pint_ok (hsh p8 (by simp)) hn6 w1) ?_
           refine zM [2, 7, 8, 11, 12, 13, 71, 72, 73, 87] 4 ⟨pqops B8 [1, 1, 1, 1, 1, 1, 0, 1, 4, 4, 1, 1, 0, 4, 1, 1, 0, 0] 1, [.seq (sub B8 pAF4), .seq (sub B8 pAF5), .block 3, .seq (sub B8 pAF9), .rounds (sub B8 pAF11) 13, .block 2, .seq (sub B8 pAF13)], [(2, .lp 0 0), (7, .ls 1 0 9 9), (8, .lp 2 0), (11, .v (.int .i64 6)), (12, .lp 2 8), (13, .io .i64 n6), (71, .ls 3 0 7 7), (72, .v (.int .i64 7)), (73, .v (.int .i64 6)), (87, .v .nilIface)], [(zAF3, 40), ([.so (mkB p0), .so (mkB p1), .so (mkB p2), .so (mkB p3), .so (mkB p4), .so (mkB p5), .so (mkB p6), .so (mkB p7), .so (mkB p8)], 9), ([.so (mkB k), .io .i64 n0, .io .i64 n1, .io .i64 (kindOf p1), .io .i64 n2, .io .i64 n3, .io .i64 n4, .io .i64 n5, .io .i64 0], 40), ([.lp 2 1, .lp 2 2, .lp 2 4, .lp 2 5, .lp 2 6, .lp 2 7, .lp 2 8], 83)]⟩ ?_
           refine At.nilne false (by kernel_rfl) noF_stable ?_
           refine zM [2, 7, 8, 11, 12, 13, 71, 72, 73, 89, 90] 4 ⟨pqops B8 [1, 1, 1, 1, 1, 1, 0, 1, 4, 4, 1, 1, 0, 4, 1, 1, 0, 0] 4, [.seq (sub B8 pAF4), .seq (sub B8 pAF5), .block 3, .seq (sub B8 pAF9), .rounds (sub B8 pAF11) 13, .block 2, .seq (sub B8 pAF13)], [(2, .lp 0 0), (7, .ls 1 0 9 9), (8, .lp 2 0), (11, .v (.int .i64 6)), (12, .lp 2 8), (13, .io .i64 n6), (71, .ls 3 0 7 7), (72, .v (.int .i64 7)), (73, .v (.int .i64 6)), (89, .v (.bool false)), (90, .io .i64 n6)], [(zAF3, 40), ([.so (mkB p0), .so (mkB p1), .so (mkB p2), .so (mkB p3), .so (mkB p4), .so (mkB p5), .so (mkB p6), .so (mkB p7), .so (mkB p8)], 9), ([.so (mkB k), .io .i64 n0, .io .i64 n1, .io .i64 (kindOf p1), .io .i64 n2, .io .i64 n3, .io .i64 n4, .io .i64 n5, .io .i64 0], 40), ([.lp 2 1, .lp 2 2, .lp 2 4, .lp 2 5, .lp 2 6, .lp 2 7, .lp 2 8], 83)]⟩ ?_
           refine zC noF_stable 39 [.io .i64 n6, .v (.int .i64 10)] (.so (mkB (Lib.itoa n6))) (fun _ _ w1 hi _ => fmt_any n6 (parse_in hn6) w1 (tab_below htp hi.mem.below rfl)) ?_
           refine zM [2, 7, 8, 12, 13, 71, 72, 73, 98] 4 ⟨.code (sub B8 pAF4), [.seq (sub B8 pAF5), .block 3, .seq (sub B8 pAF9), .rounds (sub B8 pAF11) 13, .block 2, .seq (sub B8 pAF13)], [(2, .lp 0 0), (7, .ls 1 0 9 9), (8, .lp 2 0), (12, .lp 2 8), (13, .io .i64 n6), (71, .ls 3 0 7 7), (72, .v (.int .i64 7)), (73, .v (.int .i64 6)), (98, .bo !(mkB (Lib.itoa n6)).toList == (mkB p8).toList)], [(zAF3, 40), ([.so (mkB p0), .so (mkB p1), .so (mkB p2), .so (mkB p3), .so (mkB p4), .so (mkB p5), .so (mkB p6), .so (mkB p7), .so (mkB p8)], 9), ([.so (mkB k), .io .i64 n0, .io .i64 n1, .io .i64 (kindOf p1), .io .i64 n2, .io .i64 n3, .io .i64 n4, .io .i64 n5, .io .i64 0], 40), ([.lp 2 1, .lp 2 2, .lp 2 4, .lp 2 5, .lp 2 6, .lp 2 7, .lp 2 8], 83)]⟩ ?_
           rcases Bool.eq_false_or_eq_true (!(mkB (Lib.itoa n6)).toList == (mkB p8).toList) with b0 | b0
           ·refine zR 98 b0 ?_
            refine zM [2, 3] 1 ⟨.exit .ret, [], [(2, .lp 0 0), (3, .v (.int .i64 280))], [(zAF2, 40)]⟩ ?_
            refine zE (.tup zAF0) ?_
            have hq6 : numK p8 = none := numK_ne hn6 b0
            rw [paneOf_none (mapM_none (p := p8) (by simp) hq6)]
            intro ρ w9 hm' hf
            exact ⟨rfl, hm'.below⟩
           refine zR 98 b0 ?_
           refine zM [2, 8, 104] 3 ⟨pops B8 [1, 1, 1, 1, 1, 1, 1, 0, 0] 1, [.seq (sub B8 [1, 1, 1, 1, 1, 1, 1, 0, 1]), .seq (sub B8 [1, 1, 1, 1, 1, 1, 1, 1])], [(2, .lp 0 0), (8, .lp 2 0), (104, .agg [.so (mkB k), .io .i64 n0, .io .i64 n1, .io .i64 (kindOf p1), .io .i64 n2, .io .i64 n3, .io .i64 n4, .io .i64 n5, .io .i64 n6])], [(zAF3, 40), ([.so (mkB p0), .so (mkB p1), .so (mkB p2), .so (mkB p3), .so (mkB p4), .so (mkB p5), .so (mkB p6), .so (mkB p7), .so (mkB p8)], 9), ([.so (mkB k), .io .i64 n0, .io .i64 n1, .io .i64 (kindOf p1), .io .i64 n2, .io .i64 n3, .io .i64 n4, .io .i64 n5, .io .i64 n6], 40)]⟩ ?_
           have hq6 : numK p8 = some n6 := numK_eq hn6 b0
           clear b0
           have hmm : [p2, p3, p4, p5, p6, p7, p8].mapM numK = some [n0, n1, n2, n3, n4, n5, n6] := by simp only [List.mapM_cons, List.mapM_nil, hq0, hq1, hq2, hq3, hq4, hq5, hq6]; rfl
           rw [hmm]
           refine zC noF_stable 35 [.agg [.so (mkB k), .io .i64 n0, .io .i64 n1, .io .i64 (kindOf p1), .io .i64 n2, .io .i64 n3, .io .i64 n4, .io .i64 n5, .io .i64 n6]] (.bo (mayP (mkB k) (kindOf p1))) (fun _ _ w1 hi _ => may_any (mkB k) n0 n1 (kindOf p1) n2 n3 n4 n5 n6 w1) ?_
           refine zM [2, 8, 106] 3 ⟨.code (sub B8 [1, 1, 1, 1, 1, 1, 1, 0, 1]), [.seq (sub B8 [1, 1, 1, 1, 1, 1, 1, 1])], [(2, .lp 0 0), (8, .lp 2 0), (106, .bo !mayP (mkB k) (kindOf p1))], [(zAF3, 40), ([.so (mkB p0), .so (mkB p1), .so (mkB p2), .so (mkB p3), .so (mkB p4), .so (mkB p5), .so (mkB p6), .so (mkB p7), .so (mkB p8)], 9), ([.so (mkB k), .io .i64 n0, .io .i64 n1, .io .i64 (kindOf p1), .io .i64 n2, .io .i64 n3, .io .i64 n4, .io .i64 n5, .io .i64 n6], 40)]⟩ ?_
           rcases Bool.eq_false_or_eq_true (!mayP (mkB k) (kindOf p1)) with b0 | b0
           ·refine zR 106 b0 ?_
            refine zM [2, 3] 1 ⟨.exit .ret, [], [(2, .lp 0 0), (3, .v (.int .i64 280))], [(zAF2, 40)]⟩ ?_
            refine zE (.tup zAF0) ?_
            have hmay : mayP (mkB k) (kindOf p1) = false := by simpa using b0
            rw [show paneOf k p1 (some [n0, n1, n2, n3, n4, n5, n6]) = none from if_neg (by rw [hmay]; decide)]
            intro ρ w9 hm' hf
            exact ⟨rfl, hm'.below⟩
           refine zR 106 b0 ?_
           refine zM [2, 3] 1 ⟨.exit .ret, [], [(2, .lp 0 0), (3, .v (.int .i64 0))], [([.so (mkB k), .io .i64 n0, .io .i64 n1, .io .i64 (kindOf p1), .io .i64 n2, .io .i64 n3, .io .i64 n4, .io .i64 n5, .io .i64 n6], 40)]⟩ ?_
           refine zE (.tup [.agg [.so (mkB k), .io .i64 n0, .io .i64 n1, .io .i64 (kindOf p1), .io .i64 n2, .io .i64 n3, .io .i64 n4, .io .i64 n5, .io .i64 n6], .v (.int .i64 0)]) ?_
           have hmay : mayP (mkB k) (kindOf p1) = true := by simpa using b0
           rw [show paneOf k p1 (some [n0, n1, n2, n3, n4, n5, n6]) = some ⟨k, n0, n1, kindOf p1, n2, n3, n4, n5, n6⟩ from if_pos hmay]
           intro ρ w9 hm' hf
           exact ⟨rfl, hm'.below⟩
          have hq6 : numK p8 = none := numK_no hn6
          refine At.callx noF_stable (X := Int × Nat) 42 [.so (mkB p8), .v (.int .i64 10), .v (.int .i64 64)] (fun x => .tup [.io .i64 x.1, .v (.iface 132 (.pointer (some ⟨x.2, 0, none⟩)))]) (fun _ _ _ => True) (fun _ => fun _ _ _ _ _ _ h => h) (by kernel_rfl) (by kernel_rfl) (by kernel_rfl) (by kernel_rfl) (fun ρ a w1 hi hf => ?_) fun x => ?_
          ·exact (pint_bad (hsh p8 (by simp)) hn6 w1 (var_below hs1 hi.mem.below) (var_below hs2 hi.mem.below)).mono fun e' w' ⟨x, N, he, hb⟩ => ⟨(x, N), he, hb, trivial⟩
          refine At.mono (F' := noF) (fun ρ w1 h => trivial) ?_
          refine zM [2, 7, 8, 11, 12, 13, 71, 72, 73, 87] 4 ⟨pqops B8 [1, 1, 1, 1, 1, 1, 0, 1, 4, 4, 1, 1, 0, 4, 1, 1, 0, 0] 1, [.seq (sub B8 pAF4), .seq (sub B8 pAF5), .block 3, .seq (sub B8 pAF9), .rounds (sub B8 pAF11) 13, .block 2, .seq (sub B8 pAF13)], [(2, .lp 0 0), (7, .ls 1 0 9 9), (8, .lp 2 0), (11, .v (.int .i64 6)), (12, .lp 2 8), (13, .io .i64 x.fst), (71, .ls 3 0 7 7), (72, .v (.int .i64 7)), (73, .v (.int .i64 6)), (87, .v (.iface 132 (.pointer (some (Addr.mk x.snd 0 none)))))], [(zAF3, 40), ([.so (mkB p0), .so (mkB p1), .so (mkB p2), .so (mkB p3), .so (mkB p4), .so (mkB p5), .so (mkB p6), .so (mkB p7), .so (mkB p8)], 9), ([.so (mkB k), .io .i64 n0, .io .i64 n1, .io .i64 (kindOf p1), .io .i64 n2, .io .i64 n3, .io .i64 n4, .io .i64 n5, .io .i64 0], 40), ([.lp 2 1, .lp 2 2, .lp 2 4, .lp 2 5, .lp 2 6, .lp 2 7, .lp 2 8], 83)]⟩ ?_
          refine At.nilne true (by kernel_rfl) noF_stable ?_
          refine zM [2, 3] 1 ⟨.exit .ret, [], [(2, .lp 0 0), (3, .v (.int .i64 280))], [(zAF2, 40)]⟩ ?_
          refine zE (.tup zAF0) ?_
          rw [paneOf_none (mapM_none (p := p8) (by simp) hq6)]
          intro ρ w9 hm' hf
          exact ⟨rfl, hm'.below⟩
         have hq5 : numK p7 = none := numK_no hn5
         refine At.callx noF_stable (X := Int × Nat) 42 [.so (mkB p7), .v (.int .i64 10), .v (.int .i64 64)] (fun x => .tup [.io .i64 x.1, .v (.iface 132 (.pointer (some ⟨x.2, 0, none⟩)))]) (fun _ _ _ => True) (fun _ => fun _ _ _ _ _ _ h => h) (by kernel_rfl) (by kernel_rfl) (by kernel_rfl) (by kernel_rfl) (fun ρ a w1 hi hf => ?_) fun x => ?_
         ·exact (pint_bad (hsh p7 (by simp)) hn5 w1 (var_below hs1 hi.mem.below) (var_below hs2 hi.mem.below)).mono fun e' w' ⟨x, N, he, hb⟩ => ⟨(x, N), he, hb, trivial⟩
         refine At.mono (F' := noF) (fun ρ w1 h => trivial) ?_
         refine zM [2, 7, 8, 11, 12, 13, 71, 72, 73, 87] 4 ⟨pqops B8 [1, 1, 1, 1, 1, 1, 0, 1, 4, 4, 1, 1, 0, 4, 1, 1, 0, 0] 1, [.seq (sub B8 pAF4), .seq (sub B8 pAF5), .block 3, .seq (sub B8 pAF9), .rounds (sub B8 pAF11) 14, .block 2, .seq (sub B8 pAF13)], [(2, .lp 0 0), (7, .ls 1 0 9 9), (8, .lp 2 0), (11, .v (.int .i64 5)), (12, .lp 2 7), (13, .io .i64 x.fst), (71, .ls 3 0 7 7), (72, .v (.int .i64 7)), (73, .v (.int .i64 5)), (87, .v (.iface 132 (.pointer (some (Addr.mk x.snd 0 none)))))], [(zAF3, 40), ([.so (mkB p0), .so (mkB p1), .so (mkB p2), .so (mkB p3), .so (mkB p4), .so (mkB p5), .so (mkB p6), .so (mkB p7), .so (mkB p8)], 9), ([.so (mkB k), .io .i64 n0, .io .i64 n1, .io .i64 (kindOf p1), .io .i64 n2, .io .i64 n3, .io .i64 n4, .io .i64 0, .io .i64 0], 40), ([.lp 2 1, .lp 2 2, .lp 2 4, .lp 2 5, .lp 2 6, .lp 2 7, .lp 2 8], 83)]⟩ ?_
         refine At.nilne true (by kernel_rfl) noF_stable ?_
         refine zM [2, 3] 1 ⟨.exit .ret, [], [(2, .lp 0 0), (3, .v (.int .i64 280))], [(zAF2, 40)]⟩ ?_
         refine zE (.tup zAF0) ?_
         rw [paneOf_none (mapM_none (p := p7) (by simp) hq5)]
         intro ρ w9 hm' hf
         exact ⟨rfl, hm'.below⟩
        have hq4 : numK p6 = none := numK_no hn4
        refine At.callx noF_stable (X := Int × Nat) 42 [.so (mkB p6), .v (.int .i64 10), .v (.int .i64 64)] (fun x => .tup [.io .i64 x.1, .v (.iface 132 (.pointer (some ⟨x.2, 0, none⟩)))]) (fun _ _ _ => True) (fun _ => fun _ _ _ _ _ _ h => h) (by kernel_rfl) (by kernel_rfl) (by kernel_rfl) (by kernel_rfl) (fun ρ a w1 hi hf => ?_) fun x => ?_
        ·exact (pint_bad (hsh p6 (by simp)) hn4 w1 (var_below hs1 hi.mem.below) (var_below hs2 hi.mem.below)).mono fun e' w' ⟨x, N, he, hb⟩ => ⟨(x, N), he, hb, trivial⟩
        refine At.mono (F' := noF) (fun ρ w1 h => trivial) ?_
        refine zM [2, 7, 8, 11, 12, 13, 71, 72, 73, 87] 4 ⟨pqops B8 [1, 1, 1, 1, 1, 1, 0, 1, 4, 4, 1, 1, 0, 4, 1, 1, 0, 0] 1, [.seq (sub B8 pAF4), .seq (sub B8 pAF5), .block 3, .seq (sub B8 pAF9), .rounds (sub B8 pAF11) 15, .block 2, .seq (sub B8 pAF13)], [(2, .lp 0 0), (7, .ls 1 0 9 9), (8, .lp 2 0), (11, .v (.int .i64 4)), (12, .lp 2 6), (13, .io .i64 x.fst), (71, .ls 3 0 7 7), (72, .v (.int .i64 7)), (73, .v (.int .i64 4)), (87, .v (.iface 132 (.pointer (some (Addr.mk x.snd 0 none)))))], [(zAF3, 40), ([.so (mkB p0), .so (mkB p1), .so (mkB p2), .so (mkB p3), .so (mkB p4), .so (mkB p5), .so (mkB p6), .so (mkB p7), .so (mkB p8)], 9), ([.so (mkB k), .io .i64 n0, .io .i64 n1, .io .i64 (kindOf p1), .io .i64 n2, .io .i64 n3, .io .i64 0, .io .i64 0, .io .i64 0], 40), ([.lp 2 1, .lp 2 2, .lp 2 4, .lp 2 5, .lp 2 6, .lp 2 7, .lp 2 8], 83)]⟩ ?_
        refine At.nilne true (by kernel_rfl) noF_stable ?_
        refine zM [2, 3] 1 ⟨.exit .ret, [], [(2, .lp 0 0), (3, .v (.int .i64 280))], [(zAF2, 40)]⟩ ?_
        refine zE (.tup zAF0) ?_
        rw [paneOf_none (mapM_none (p := p6) (by simp) hq4)]
        intro ρ w9 hm' hf
        exact ⟨rfl, hm'.below⟩
       have hq3 : numK p5 = none := numK_no hn3
       refine At.callx noF_stable (X := Int × Nat) 42 [.so (mkB p5), .v (.int .i64 10), .v (.int .i64 64)] (fun x => .tup [.io .i64 x.1, .v (.iface 132 (.pointer (some ⟨x.2, 0, none⟩)))]) (fun _ _ _ => True) (fun _ => fun _ _ _ _ _ _ h => h) (by kernel_rfl) (by kernel_rfl) (by kernel_rfl) (by kernel_rfl) (fun ρ a w1 hi hf => ?_) fun x => ?_
       ·exact (pint_bad (hsh p5 (by simp)) hn3 w1 (var_below hs1 hi.mem.below) (var_below hs2 hi.mem.below)).mono fun e' w' ⟨x, N, he, hb⟩ => ⟨(x, N), he, hb, trivial⟩
       refine At.mono (F' := noF) (fun ρ w1 h => trivial) ?_
       refine zM [2, 7, 8, 11, 12, 13, 71, 72, 73, 87] 4 ⟨pqops B8 [1, 1, 1, 1, 1, 1, 0, 1, 4, 4, 1, 1, 0, 4, 1, 1, 0, 0] 1, [.seq (sub B8 pAF4), .seq (sub B8 pAF5), .block 3, .seq (sub B8 pAF9), .rounds (sub B8 pAF11) 16, .block 2, .seq (sub B8 pAF13)], [(2, .lp 0 0), (7, .ls 1 0 9 9), (8, .lp 2 0), (11, .v (.int .i64 3)), (12, .lp 2 5), (13, .io .i64 x.fst), (71, .ls 3 0 7 7), (72, .v (.int .i64 7)), (73, .v (.int .i64 3)), (87, .v (.iface 132 (.pointer (some (Addr.mk x.snd 0 none)))))], [(zAF3, 40), ([.so (mkB p0), .so (mkB p1), .so (mkB p2), .so (mkB p3), .so (mkB p4), .so (mkB p5), .so (mkB p6), .so (mkB p7), .so (mkB p8)], 9), ([.so (mkB k), .io .i64 n0, .io .i64 n1, .io .i64 (kindOf p1), .io .i64 n2, .io .i64 0, .io .i64 0, .io .i64 0, .io .i64 0], 40), ([.lp 2 1, .lp 2 2, .lp 2 4, .lp 2 5, .lp 2 6, .lp 2 7, .lp 2 8], 83)]⟩ ?_
       refine At.nilne true (by kernel_rfl) noF_stable ?_
       refine zM [2, 3] 1 ⟨.exit .ret, [], [(2, .lp 0 0), (3, .v (.int .i64 280))], [(zAF2, 40)]⟩ ?_
       refine zE (.tup zAF0) ?_
       rw [paneOf_none (mapM_none (p := p5) (by simp) hq3)]
       intro ρ w9 hm' hf
       exact ⟨rfl, hm'.below⟩
      have hq2 : numK p4 = none := numK_no hn2
      refine At.callx noF_stable (X := Int × Nat) 42 [.so (mkB p4), .v (.int .i64 10), .v (.int .i64 64)] (fun x => .tup [.io .i64 x.1, .v (.iface 132 (.pointer (some ⟨x.2, 0, none⟩)))]) (fun _ _ _ => True) (fun _ => fun _ _ _ _ _ _ h => h) (by kernel_rfl) (by kernel_rfl) (by kernel_rfl) (by kernel_rfl) (fun ρ a w1 hi hf => ?_) fun x => ?_
      ·exact (pint_bad (hsh p4 (by simp)) hn2 w1 (var_below hs1 hi.mem.below) (var_below hs2 hi.mem.below)).mono fun e' w' ⟨x, N, he, hb⟩ => ⟨(x, N), he, hb, trivial⟩
      refine At.mono (F' := noF) (fun ρ w1 h => trivial) ?_
      refine zM [2, 7, 8, 11, 12, 13, 71, 72, 73, 87] 4 ⟨pqops B8 [1, 1, 1, 1, 1, 1, 0, 1, 4, 4, 1, 1, 0, 4, 1, 1, 0, 0] 1, [.seq (sub B8 pAF4), .seq (sub B8 pAF5), .block 3, .seq (sub B8 pAF9), .rounds (sub B8 pAF11) 17, .block 2, .seq (sub B8 pAF13)], [(2, .lp 0 0), (7, .ls 1 0 9 9), (8, .lp 2 0), (11, .v (.int .i64 2)), (12, .lp 2 4), (13, .io .i64 x.fst), (71, .ls 3 0 7 7), (72, .v (.int .i64 7)), (73, .v (.int .i64 2)), (87, .v (.iface 132 (.pointer (some (Addr.mk x.snd 0 none)))))], [(zAF3, 40), ([.so (mkB p0), .so (mkB p1), .so (mkB p2), .so (mkB p3), .so (mkB p4), .so (mkB p5), .so (mkB p6), .so (mkB p7), .so (mkB p8)], 9), ([.so (mkB k), .io .i64 n0, .io .i64 n1, .io .i64 (kindOf p1), .io .i64 0, .io .i64 0, .io .i64 0, .io .i64 0, .io .i64 0], 40), ([.lp 2 1, .lp 2 2, .lp 2 4, .lp 2 5, .lp 2 6, .lp 2 7, .lp 2 8], 83)]⟩ ?_
      refine At.nilne true (by kernel_rfl) noF_stable ?_
      refine zM [2, 3] 1 ⟨.exit .ret, [], [(2, .lp 0 0), (3, .v (.int .i64 280))], [(zAF2, 40)]⟩ ?_
      refine zE (.tup zAF0) ?_
      rw [paneOf_none (mapM_none (p := p4) (by simp) hq2)]
      intro ρ w9 hm' hf
      exact ⟨rfl, hm'.below⟩
     have hq1 : numK p3 = none := numK_no hn1
     refine At.callx noF_stable (X := Int × Nat) 42 [.so (mkB p3), .v (.int .i64 10), .v (.int .i64 64)] (fun x => .tup [.io .i64 x.1, .v (.iface 132 (.pointer (some ⟨x.2, 0, none⟩)))]) (fun _ _ _ => True) (fun _ => fun _ _ _ _ _ _ h => h) (by kernel_rfl) (by kernel_rfl) (by kernel_rfl) (by kernel_rfl) (fun ρ a w1 hi hf => ?_) fun x => ?_
     ·exact (pint_bad (hsh p3 (by simp)) hn1 w1 (var_below hs1 hi.mem.below) (var_below hs2 hi.mem.below)).mono fun e' w' ⟨x, N, he, hb⟩ => ⟨(x, N), he, hb, trivial⟩
     refine At.mono (F' := noF) (fun ρ w1 h => trivial) ?_
     refine zM [2, 7, 8, 11, 12, 13, 71, 72, 73, 87] 4 ⟨pqops B8 [1, 1, 1, 1, 1, 1, 0, 1, 4, 4, 1, 1, 0, 4, 1, 1, 0, 0] 1, [.seq (sub B8 pAF4), .seq (sub B8 pAF5), .block 3, .seq (sub B8 pAF9), .rounds (sub B8 pAF11) 18, .block 2, .seq (sub B8 pAF13)], [(2, .lp 0 0), (7, .ls 1 0 9 9), (8, .lp 2 0), (11, .v (.int .i64 1)), (12, .lp 2 2), (13, .io .i64 x.fst), (71, .ls 3 0 7 7), (72, .v (.int .i64 7)), (73, .v (.int .i64 1)), (87, .v (.iface 132 (.pointer (some (Addr.mk x.snd 0 none)))))], [(zAF3, 40), ([.so (mkB p0), .so (mkB p1), .so (mkB p2), .so (mkB p3), .so (mkB p4), .so (mkB p5), .so (mkB p6), .so (mkB p7), .so (mkB p8)], 9), ([.so (mkB k), .io .i64 n0, .io .i64 0, .io .i64 (kindOf p1), .io .i64 0, .io .i64 0, .io .i64 0, .io .i64 0, .io .i64 0], 40), ([.lp 2 1, .lp 2 2, .lp 2 4, .lp 2 5, .lp 2 6, .lp 2 7, .lp 2 8], 83)]⟩ ?_
     refine At.nilne true (by kernel_rfl) noF_stable ?_
     refine zM [2, 3] 1 ⟨.exit .ret, [], [(2, .lp 0 0), (3, .v (.int .i64 280))], [(zAF2, 40)]⟩ ?_
     refine zE (.tup zAF0) ?_
     rw [paneOf_none (mapM_none (p := p3) (by simp) hq1)]
     intro ρ w9 hm' hf
     exact ⟨rfl, hm'.below⟩
    have hq0 : numK p2 = none := numK_no hn0
    refine At.callx noF_stable (X := Int × Nat) 42 [.so (mkB p2), .v (.int .i64 10), .v (.int .i64 64)] (fun x => .tup [.io .i64 x.1, .v (.iface 132 (.pointer (some ⟨x.2, 0, none⟩)))]) (fun _ _ _ => True) (fun _ => fun _ _ _ _ _ _ h => h) (by kernel_rfl) (by kernel_rfl) (by kernel_rfl) (by kernel_rfl) (fun ρ a w1 hi hf => ?_) fun x => ?_
    ·exact (pint_bad (hsh p2 (by simp)) hn0 w1 (var_below hs1 hi.mem.below) (var_below hs2 hi.mem.below)).mono fun e' w' ⟨x, N, he, hb⟩ => ⟨(x, N), he, hb, trivial⟩
    refine At.mono (F' := noF) (fun ρ w1 h => trivial) ?_
    refine zM [2, 7, 8, 11, 12, 13, 71, 72, 73, 87] 4 ⟨pqops B8 [1, 1, 1, 1, 1, 1, 0, 1, 4, 4, 1, 1, 0, 4, 1, 1, 0, 0] 1, [.seq (sub B8 pAF4), .seq (sub B8 pAF5), .block 3, .seq (sub B8 pAF9), .rounds (sub B8 pAF11) 19, .block 2, .seq (sub B8 pAF13)], [(2, .lp 0 0), (7, .ls 1 0 9 9), (8, .lp 2 0), (11, .v (.int .i64 0)), (12, .lp 2 1), (13, .io .i64 x.fst), (71, .ls 3 0 7 7), (72, .v (.int .i64 7)), (73, .v (.int .i64 0)), (87, .v (.iface 132 (.pointer (some (Addr.mk x.snd 0 none)))))], [(zAF3, 40), ([.so (mkB p0), .so (mkB p1), .so (mkB p2), .so (mkB p3), .so (mkB p4), .so (mkB p5), .so (mkB p6), .so (mkB p7), .so (mkB p8)], 9), ([.so (mkB k), .io .i64 0, .io .i64 0, .io .i64 (kindOf p1), .io .i64 0, .io .i64 0, .io .i64 0, .io .i64 0, .io .i64 0], 40), ([.lp 2 1, .lp 2 2, .lp 2 4, .lp 2 5, .lp 2 6, .lp 2 7, .lp 2 8], 83)]⟩ ?_
    refine At.nilne true (by kernel_rfl) noF_stable ?_
    refine zM [2, 3] 1 ⟨.exit .ret, [], [(2, .lp 0 0), (3, .v (.int .i64 280))], [(zAF2, 40)]⟩ ?_
    refine zE (.tup zAF0) ?_
    rw [paneOf_none (mapM_none (p := p2) (by simp) hq0)]
    intro ρ w9 hm' hf
    exact ⟨rfl, hm'.below⟩
   rcases kind_cases p1 with ⟨hkd, e1, e2, e3⟩ | ⟨hkd, e1, e2, e3⟩ | ⟨hkd, e1, e2, e3⟩ | ⟨hkd, e1, e2, e3⟩
   ·refine zM [2, 7, 8, 9, 45, 46, 54] 3 ⟨.code (sub B8 pAF8), [.block 1, .seq (sub B8 pAF10), .rounds (sub B8 pAF12) 19, .block 0, .seq (sub B8 pAF14)], [(2, .lp 0 0), (7, .ls 1 0 9 9), (8, .lp 2 0), (9, .v (.int .i64 0)), (45, .agg zAF1), (46, .v (.int .i64 0)), (54, .bo ((mkB p1).toList == (ByteArray.mk #[]).toList))], [(zAF2, 40), ([.so (mkB p0), .so (mkB p1), .so (mkB p2), .so (mkB p3), .so (mkB p4), .so (mkB p5), .so (mkB p6), .so (mkB p7), .so (mkB p8)], 9), ([.so (mkB k), .v (.int .i64 0), .v (.int .i64 0), .v (.int .i64 0), .v (.int .i64 0), .v (.int .i64 0), .v (.int .i64 0), .v (.int .i64 0), .v (.int .i64 0)], 40)]⟩ ?_
    refine zR 54 b1 ?_
    refine zM [2, 7, 8, 9, 45, 46, 54] 3 ⟨.code (sub B8 pAF8), [.block 1, .seq (sub B8 pAF10), .rounds (sub B8 pAF12) 18, .block 0, .seq (sub B8 pAF14)], [(2, .lp 0 0), (7, .ls 1 0 9 9), (8, .lp 2 0), (9, .v (.int .i64 1)), (45, .agg zAF1), (46, .v (.int .i64 1)), (54, .bo ((mkB p1).toList == (ByteArray.mk #[101, 97, 114, 108, 121]).toList))], [(zAF2, 40), ([.so (mkB p0), .so (mkB p1), .so (mkB p2), .so (mkB p3), .so (mkB p4), .so (mkB p5), .so (mkB p6), .so (mkB p7), .so (mkB p8)], 9), ([.so (mkB k), .v (.int .i64 0), .v (.int .i64 0), .v (.int .i64 0), .v (.int .i64 0), .v (.int .i64 0), .v (.int .i64 0), .v (.int .i64 0), .v (.int .i64 0)], 40)]⟩ ?_
    refine zR 54 e1 ?_
    refine zM [2, 7, 8, 9, 45, 46, 54] 3 ⟨.code (sub B8 pAF8), [.block 1, .seq (sub B8 pAF10), .rounds (sub B8 pAF12) 17, .block 0, .seq (sub B8 pAF14)], [(2, .lp 0 0), (7, .ls 1 0 9 9), (8, .lp 2 0), (9, .v (.int .i64 2)), (45, .agg zAF1), (46, .v (.int .i64 2)), (54, .bo ((mkB p1).toList == (ByteArray.mk #[111, 110, 116, 105, 109, 101]).toList))], [(zAF2, 40), ([.so (mkB p0), .so (mkB p1), .so (mkB p2), .so (mkB p3), .so (mkB p4), .so (mkB p5), .so (mkB p6), .so (mkB p7), .so (mkB p8)], 9), ([.so (mkB k), .v (.int .i64 0), .v (.int .i64 0), .v (.int .i64 1), .v (.int .i64 0), .v (.int .i64 0), .v (.int .i64 0), .v (.int .i64 0), .v (.int .i64 0)], 40)]⟩ ?_
    refine zR 54 e2 ?_
    refine zM [2, 7, 8, 9, 45, 46, 54] 3 ⟨.code (sub B8 pAF8), [.block 1, .seq (sub B8 pAF10), .rounds (sub B8 pAF12) 16, .block 0, .seq (sub B8 pAF14)], [(2, .lp 0 0), (7, .ls 1 0 9 9), (8, .lp 2 0), (9, .v (.int .i64 3)), (45, .agg zAF1), (46, .v (.int .i64 3)), (54, .bo ((mkB p1).toList == (ByteArray.mk #[108, 97, 116, 101]).toList))], [(zAF2, 40), ([.so (mkB p0), .so (mkB p1), .so (mkB p2), .so (mkB p3), .so (mkB p4), .so (mkB p5), .so (mkB p6), .so (mkB p7), .so (mkB p8)], 9), ([.so (mkB k), .v (.int .i64 0), .v (.int .i64 0), .v (.int .i64 1), .v (.int .i64 0), .v (.int .i64 0), .v (.int .i64 0), .v (.int .i64 0), .v (.int .i64 0)], 40)]⟩ ?_
    refine zR 54 e3 ?_
    refine zM [2, 7, 8, 11, 12, 71, 72, 73, 83] 4 ⟨pops B8 pAF6 5, [.seq (sub B8 pAF7), .block 3, .seq (sub B8 pAF9), .rounds (sub B8 pAF11) 19, .block 2, .seq (sub B8 pAF13)], [(2, .lp 0 0), (7, .ls 1 0 9 9), (8, .lp 2 0), (11, .v (.int .i64 0)), (12, .lp 2 1), (71, .ls 3 0 7 7), (72, .v (.int .i64 7)), (73, .v (.int .i64 0)), (83, .so (mkB p2))], [(zAF2, 40), ([.so (mkB p0), .so (mkB p1), .so (mkB p2), .so (mkB p3), .so (mkB p4), .so (mkB p5), .so (mkB p6), .so (mkB p7), .so (mkB p8)], 9), ([.so (mkB k), .v (.int .i64 0), .v (.int .i64 0), .v (.int .i64 1), .v (.int .i64 0), .v (.int .i64 0), .v (.int .i64 0), .v (.int .i64 0), .v (.int .i64 0)], 40), ([.lp 2 1, .lp 2 2, .lp 2 4, .lp 2 5, .lp 2 6, .lp 2 7, .lp 2 8], 83)]⟩ ?_
    rw [hkd] at hrest
    exact At.canonL _ (by kernel_rfl) hrest
   ·refine zM [2, 7, 8, 9, 45, 46, 54] 3 ⟨.code (sub B8 pAF8), [.block 1, .seq (sub B8 pAF10), .rounds (sub B8 pAF12) 19, .block 0, .seq (sub B8 pAF14)], [(2, .lp 0 0), (7, .ls 1 0 9 9), (8, .lp 2 0), (9, .v (.int .i64 0)), (45, .agg zAF1), (46, .v (.int .i64 0)), (54, .bo ((mkB p1).toList == (ByteArray.mk #[]).toList))], [(zAF2, 40), ([.so (mkB p0), .so (mkB p1), .so (mkB p2), .so (mkB p3), .so (mkB p4), .so (mkB p5), .so (mkB p6), .so (mkB p7), .so (mkB p8)], 9), ([.so (mkB k), .v (.int .i64 0), .v (.int .i64 0), .v (.int .i64 0), .v (.int .i64 0), .v (.int .i64 0), .v (.int .i64 0), .v (.int .i64 0), .v (.int .i64 0)], 40)]⟩ ?_
    refine zR 54 b1 ?_
    refine zM [2, 7, 8, 9, 45, 46, 54] 3 ⟨.code (sub B8 pAF8), [.block 1, .seq (sub B8 pAF10), .rounds (sub B8 pAF12) 18, .block 0, .seq (sub B8 pAF14)], [(2, .lp 0 0), (7, .ls 1 0 9 9), (8, .lp 2 0), (9, .v (.int .i64 1)), (45, .agg zAF1), (46, .v (.int .i64 1)), (54, .bo ((mkB p1).toList == (ByteArray.mk #[101, 97, 114, 108, 121]).toList))], [(zAF2, 40), ([.so (mkB p0), .so (mkB p1), .so (mkB p2), .so (mkB p3), .so (mkB p4), .so (mkB p5), .so (mkB p6), .so (mkB p7), .so (mkB p8)], 9), ([.so (mkB k), .v (.int .i64 0), .v (.int .i64 0), .v (.int .i64 0), .v (.int .i64 0), .v (.int .i64 0), .v (.int .i64 0), .v (.int .i64 0), .v (.int .i64 0)], 40)]⟩ ?_
    refine zR 54 e1 ?_
    refine zM [2, 7, 8, 9, 45, 46, 54] 3 ⟨.code (sub B8 pAF8), [.block 1, .seq (sub B8 pAF10), .rounds (sub B8 pAF12) 17, .block 0, .seq (sub B8 pAF14)], [(2, .lp 0 0), (7, .ls 1 0 9 9), (8, .lp 2 0), (9, .v (.int .i64 2)), (45, .agg zAF1), (46, .v (.int .i64 2)), (54, .bo ((mkB p1).toList == (ByteArray.mk #[111, 110, 116, 105, 109, 101]).toList))], [(zAF2, 40), ([.so (mkB p0), .so (mkB p1), .so (mkB p2), .so (mkB p3), .so (mkB p4), .so (mkB p5), .so (mkB p6), .so (mkB p7), .so (mkB p8)], 9), ([.so (mkB k), .v (.int .i64 0), .v (.int .i64 0), .v (.int .i64 0), .v (.int .i64 0), .v (.int .i64 0), .v (.int .i64 0), .v (.int .i64 0), .v (.int .i64 0)], 40)]⟩ ?_
    refine zR 54 e2 ?_
    refine zM [2, 7, 8, 9, 45, 46, 54] 3 ⟨.code (sub B8 pAF8), [.block 1, .seq (sub B8 pAF10), .rounds (sub B8 pAF12) 16, .block 0, .seq (sub B8 pAF14)], [(2, .lp 0 0), (7, .ls 1 0 9 9), (8, .lp 2 0), (9, .v (.int .i64 3)), (45, .agg zAF1), (46, .v (.int .i64 3)), (54, .bo ((mkB p1).toList == (ByteArray.mk #[108, 97, 116, 101]).toList))], [(zAF2, 40), ([.so (mkB p0), .so (mkB p1), .so (mkB p2), .so (mkB p3), .so (mkB p4), .so (mkB p5), .so (mkB p6), .so (mkB p7), .so (mkB p8)], 9), ([.so (mkB k), .v (.int .i64 0), .v (.int .i64 0), .v (.int .i64 2), .v (.int .i64 0), .v (.int .i64 0), .v (.int .i64 0), .v (.int .i64 0), .v (.int .i64 0)], 40)]⟩ ?_
    refine zR 54 e3 ?_
    refine zM [2, 7, 8, 11, 12, 71, 72, 73, 83] 4 ⟨pops B8 pAF6 5, [.seq (sub B8 pAF7), .block 3, .seq (sub B8 pAF9), .rounds (sub B8 pAF11) 19, .block 2, .seq (sub B8 pAF13)], [(2, .lp 0 0), (7, .ls 1 0 9 9), (8, .lp 2 0), (11, .v (.int .i64 0)), (12, .lp 2 1), (71, .ls 3 0 7 7), (72, .v (.int .i64 7)), (73, .v (.int .i64 0)), (83, .so (mkB p2))], [(zAF2, 40), ([.so (mkB p0), .so (mkB p1), .so (mkB p2), .so (mkB p3), .so (mkB p4), .so (mkB p5), .so (mkB p6), .so (mkB p7), .so (mkB p8)], 9), ([.so (mkB k), .v (.int .i64 0), .v (.int .i64 0), .v (.int .i64 2), .v (.int .i64 0), .v (.int .i64 0), .v (.int .i64 0), .v (.int .i64 0), .v (.int .i64 0)], 40), ([.lp 2 1, .lp 2 2, .lp 2 4, .lp 2 5, .lp 2 6, .lp 2 7, .lp 2 8], 83)]⟩ ?_
    rw [hkd] at hrest
    exact At.canonL _ (by kernel_rfl) hrest
   ·refine zM [2, 7, 8, 9, 45, 46, 54] 3 ⟨.code (sub B8 pAF8), [.block 1, .seq (sub B8 pAF10), .rounds (sub B8 pAF12) 19, .block 0, .seq (sub B8 pAF14)], [(2, .lp 0 0), (7, .ls 1 0 9 9), (8, .lp 2 0), (9, .v (.int .i64 0)), (45, .agg zAF1), (46, .v (.int .i64 0)), (54, .bo ((mkB p1).toList == (ByteArray.mk #[]).toList))], [(zAF2, 40), ([.so (mkB p0), .so (mkB p1), .so (mkB p2), .so (mkB p3), .so (mkB p4), .so (mkB p5), .so (mkB p6), .so (mkB p7), .so (mkB p8)], 9), ([.so (mkB k), .v (.int .i64 0), .v (.int .i64 0), .v (.int .i64 0), .v (.int .i64 0), .v (.int .i64 0), .v (.int .i64 0), .v (.int .i64 0), .v (.int .i64 0)], 40)]⟩ ?_
    refine zR 54 b1 ?_
    refine zM [2, 7, 8, 9, 45, 46, 54] 3 ⟨.code (sub B8 pAF8), [.block 1, .seq (sub B8 pAF10), .rounds (sub B8 pAF12) 18, .block 0, .seq (sub B8 pAF14)], [(2, .lp 0 0), (7, .ls 1 0 9 9), (8, .lp 2 0), (9, .v (.int .i64 1)), (45, .agg zAF1), (46, .v (.int .i64 1)), (54, .bo ((mkB p1).toList == (ByteArray.mk #[101, 97, 114, 108, 121]).toList))], [(zAF2, 40), ([.so (mkB p0), .so (mkB p1), .so (mkB p2), .so (mkB p3), .so (mkB p4), .so (mkB p5), .so (mkB p6), .so (mkB p7), .so (mkB p8)], 9), ([.so (mkB k), .v (.int .i64 0), .v (.int .i64 0), .v (.int .i64 0), .v (.int .i64 0), .v (.int .i64 0), .v (.int .i64 0), .v (.int .i64 0), .v (.int .i64 0)], 40)]⟩ ?_
    refine zR 54 e1 ?_
    refine zM [2, 7, 8, 9, 45, 46, 54] 3 ⟨.code (sub B8 pAF8), [.block 1, .seq (sub B8 pAF10), .rounds (sub B8 pAF12) 17, .block 0, .seq (sub B8 pAF14)], [(2, .lp 0 0), (7, .ls 1 0 9 9), (8, .lp 2 0), (9, .v (.int .i64 2)), (45, .agg zAF1), (46, .v (.int .i64 2)), (54, .bo ((mkB p1).toList == (ByteArray.mk #[111, 110, 116, 105, 109, 101]).toList))], [(zAF2, 40), ([.so (mkB p0), .so (mkB p1), .so (mkB p2), .so (mkB p3), .so (mkB p4), .so (mkB p5), .so (mkB p6), .so (mkB p7), .so (mkB p8)], 9), ([.so (mkB k), .v (.int .i64 0), .v (.int .i64 0), .v (.int .i64 0), .v (.int .i64 0), .v (.int .i64 0), .v (.int .i64 0), .v (.int .i64 0), .v (.int .i64 0)], 40)]⟩ ?_
    refine zR 54 e2 ?_
    refine zM [2, 7, 8, 9, 45, 46, 54] 3 ⟨.code (sub B8 pAF8), [.block 1, .seq (sub B8 pAF10), .rounds (sub B8 pAF12) 16, .block 0, .seq (sub B8 pAF14)], [(2, .lp 0 0), (7, .ls 1 0 9 9), (8, .lp 2 0), (9, .v (.int .i64 3)), (45, .agg zAF1), (46, .v (.int .i64 3)), (54, .bo ((mkB p1).toList == (ByteArray.mk #[108, 97, 116, 101]).toList))], [(zAF2, 40), ([.so (mkB p0), .so (mkB p1), .so (mkB p2), .so (mkB p3), .so (mkB p4), .so (mkB p5), .so (mkB p6), .so (mkB p7), .so (mkB p8)], 9), ([.so (mkB k), .v (.int .i64 0), .v (.int .i64 0), .v (.int .i64 0), .v (.int .i64 0), .v (.int .i64 0), .v (.int .i64 0), .v (.int .i64 0), .v (.int .i64 0)], 40)]⟩ ?_
    refine zR 54 e3 ?_
    refine zM [2, 7, 8, 11, 12, 71, 72, 73, 83] 4 ⟨pops B8 pAF6 5, [.seq (sub B8 pAF7), .block 3, .seq (sub B8 pAF9), .rounds (sub B8 pAF11) 19, .block 2, .seq (sub B8 pAF13)], [(2, .lp 0 0), (7, .ls 1 0 9 9), (8, .lp 2 0), (11, .v (.int .i64 0)), (12, .lp 2 1), (71, .ls 3 0 7 7), (72, .v (.int .i64 7)), (73, .v (.int .i64 0)), (83, .so (mkB p2))], [(zAF2, 40), ([.so (mkB p0), .so (mkB p1), .so (mkB p2), .so (mkB p3), .so (mkB p4), .so (mkB p5), .so (mkB p6), .so (mkB p7), .so (mkB p8)], 9), ([.so (mkB k), .v (.int .i64 0), .v (.int .i64 0), .v (.int .i64 3), .v (.int .i64 0), .v (.int .i64 0), .v (.int .i64 0), .v (.int .i64 0), .v (.int .i64 0)], 40), ([.lp 2 1, .lp 2 2, .lp 2 4, .lp 2 5, .lp 2 6, .lp 2 7, .lp 2 8], 83)]⟩ ?_
    rw [hkd] at hrest
    exact At.canonL _ (by kernel_rfl) hrest
   refine zM [2, 7, 8, 9, 45, 46, 54] 3 ⟨.code (sub B8 pAF8), [.block 1, .seq (sub B8 pAF10), .rounds (sub B8 pAF12) 19, .block 0, .seq (sub B8 pAF14)], [(2, .lp 0 0), (7, .ls 1 0 9 9), (8, .lp 2 0), (9, .v (.int .i64 0)), (45, .agg zAF1), (46, .v (.int .i64 0)), (54, .bo ((mkB p1).toList == (ByteArray.mk #[]).toList))], [(zAF2, 40), ([.so (mkB p0), .so (mkB p1), .so (mkB p2), .so (mkB p3), .so (mkB p4), .so (mkB p5), .so (mkB p6), .so (mkB p7), .so (mkB p8)], 9), ([.so (mkB k), .v (.int .i64 0), .v (.int .i64 0), .v (.int .i64 0), .v (.int .i64 0), .v (.int .i64 0), .v (.int .i64 0), .v (.int .i64 0), .v (.int .i64 0)], 40)]⟩ ?_
   refine zR 54 b1 ?_
   refine zM [2, 7, 8, 9, 45, 46, 54] 3 ⟨.code (sub B8 pAF8), [.block 1, .seq (sub B8 pAF10), .rounds (sub B8 pAF12) 18, .block 0, .seq (sub B8 pAF14)], [(2, .lp 0 0), (7, .ls 1 0 9 9), (8, .lp 2 0), (9, .v (.int .i64 1)), (45, .agg zAF1), (46, .v (.int .i64 1)), (54, .bo ((mkB p1).toList == (ByteArray.mk #[101, 97, 114, 108, 121]).toList))], [(zAF2, 40), ([.so (mkB p0), .so (mkB p1), .so (mkB p2), .so (mkB p3), .so (mkB p4), .so (mkB p5), .so (mkB p6), .so (mkB p7), .so (mkB p8)], 9), ([.so (mkB k), .v (.int .i64 0), .v (.int .i64 0), .v (.int .i64 0), .v (.int .i64 0), .v (.int .i64 0), .v (.int .i64 0), .v (.int .i64 0), .v (.int .i64 0)], 40)]⟩ ?_
   refine zR 54 e1 ?_
   refine zM [2, 7, 8, 9, 45, 46, 54] 3 ⟨.code (sub B8 pAF8), [.block 1, .seq (sub B8 pAF10), .rounds (sub B8 pAF12) 17, .block 0, .seq (sub B8 pAF14)], [(2, .lp 0 0), (7, .ls 1 0 9 9), (8, .lp 2 0), (9, .v (.int .i64 2)), (45, .agg zAF1), (46, .v (.int .i64 2)), (54, .bo ((mkB p1).toList == (ByteArray.mk #[111, 110, 116, 105, 109, 101]).toList))], [(zAF2, 40), ([.so (mkB p0), .so (mkB p1), .so (mkB p2), .so (mkB p3), .so (mkB p4), .so (mkB p5), .so (mkB p6), .so (mkB p7), .so (mkB p8)], 9), ([.so (mkB k), .v (.int .i64 0), .v (.int .i64 0), .v (.int .i64 0), .v (.int .i64 0), .v (.int .i64 0), .v (.int .i64 0), .v (.int .i64 0), .v (.int .i64 0)], 40)]⟩ ?_
   refine zR 54 e2 ?_
   refine zM [2, 7, 8, 9, 45, 46, 54] 3 ⟨.code (sub B8 pAF8), [.block 1, .seq (sub B8 pAF10), .rounds (sub B8 pAF12) 16, .block 0, .seq (sub B8 pAF14)], [(2, .lp 0 0), (7, .ls 1 0 9 9), (8, .lp 2 0), (9, .v (.int .i64 3)), (45, .agg zAF1), (46, .v (.int .i64 3)), (54, .bo ((mkB p1).toList == (ByteArray.mk #[108, 97, 116, 101]).toList))], [(zAF2, 40), ([.so (mkB p0), .so (mkB p1), .so (mkB p2), .so (mkB p3), .so (mkB p4), .so (mkB p5), .so (mkB p6), .so (mkB p7), .so (mkB p8)], 9), ([.so (mkB k), .v (.int .i64 0), .v (.int .i64 0), .v (.int .i64 0), .v (.int .i64 0), .v (.int .i64 0), .v (.int .i64 0), .v (.int .i64 0), .v (.int .i64 0)], 40)]⟩ ?_
   refine zR 54 e3 ?_
   refine zM [2, 7, 8, 11, 12, 71, 72, 73, 83] 4 ⟨pops B8 pAF6 5, [.seq (sub B8 pAF7), .block 3, .seq (sub B8 pAF9), .rounds (sub B8 pAF11) 19, .block 2, .seq (sub B8 pAF13)], [(2, .lp 0 0), (7, .ls 1 0 9 9), (8, .lp 2 0), (11, .v (.int .i64 0)), (12, .lp 2 1), (71, .ls 3 0 7 7), (72, .v (.int .i64 7)), (73, .v (.int .i64 0)), (83, .so (mkB p2))], [(zAF2, 40), ([.so (mkB p0), .so (mkB p1), .so (mkB p2), .so (mkB p3), .so (mkB p4), .so (mkB p5), .so (mkB p6), .so (mkB p7), .so (mkB p8)], 9), ([.so (mkB k), .v (.int .i64 0), .v (.int .i64 0), .v (.int .i64 0), .v (.int .i64 0), .v (.int .i64 0), .v (.int .i64 0), .v (.int .i64 0), .v (.int .i64 0)], 40), ([.lp 2 1, .lp 2 2, .lp 2 4, .lp 2 5, .lp 2 6, .lp 2 7, .lp 2 8], 83)]⟩ ?_
   rw [hkd] at hrest
   exact At.canonL _ (by kernel_rfl) hrest
  rw [parseP_len h9]
  refine enter (fn := Tryz.f20) (c := B8) [.so (mkB s)] Tryz.func20 rfl rfl ?_
  refine zM [2, 16] 1 ⟨pops B8 [1, 0] 1, [.seq (sub B8 [1, 1])], [(2, .lp 0 0), (16, .so (mkB s))], [(zAF2, 40)]⟩ ?_
  refine zC noF_stable 40 [.so (mkB s)] (.tup [.so (mkB k), .so (mkB r), .v (.bool true)]) (fun _ _ w1 hi _ => (unquote_any s hs w1).mono fun e w2 h => ⟨h.1.trans (by rw [hk]; rfl), h.2⟩) ?_
  refine zM [2, 4, 6, 21] 1 ⟨pops B8 [1, 1, 0] 1, [.seq (sub B8 [1, 1, 1])], [(2, .lp 0 0), (4, .so (mkB k)), (6, .v (.bool true)), (21, .so (mkB r))], [(zAF2, 40)]⟩ ?_
  refine At.callx noF_stable (X := Nat × Nat) 41 [.so (mkB r), .v (.string ⟨#[32]⟩)] (fun x => .sl (some ⟨x.1, 0, none⟩) x.2 x.2) (fun x _ _ => x.2 = (pcs [] r).length) (fun _ => fun _ _ _ _ _ _ h => h) (by kernel_rfl) (by kernel_rfl) (by kernel_rfl) (by kernel_rfl) (fun ρ a w1 hi hf => ?_) fun x => ?_
  ·refine (Tryz.strings_Split (mkB r) ⟨#[32]⟩ m w1 (by rw [mkB_size]; omega) (cell_below hm hi.mem.below) (by decide)).mono ?_
   rintro e w' ⟨rfl, rfl⟩
   exact ⟨(_, _), rfl, (Below.refl _ _).alloc (Nat.le_refl _) _, (split_len (mkB r))⟩
  refine At.mono (F' := fun ρ w1 => noF ρ w1 ∧ x.2 = (pcs [] r).length) (fun ρ w1 h => ⟨trivial, h.2⟩) (At.pure ?_)
  obtain ⟨x1, x2⟩ := x
  rintro rfl
  refine zM [2, 4, 7, 30] 1 ⟨pops B8 [1, 1, 1, 0, 0] 8, [.seq (sub B8 [1, 1, 1, 0, 1]), .seq (sub B8 [1, 1, 1, 1])], [(2, .lp 0 0), (4, .so (mkB k)), (7, .sl (some (Addr.mk x1 0 none)) (pcs [] r).length (pcs [] r).length), (30, .bo ((↑(x1, (pcs [] r).length).snd : Int) != 9))], [(zAF2, 40)]⟩ ?_
  rcases Bool.eq_false_or_eq_true ((↑(x1, (pcs [] r).length).snd : Int) != 9) with b0 | b0
  ·refine zR 30 b0 ?_
   refine zM [2, 3] 1 ⟨.exit .ret, [], [(2, .lp 0 0), (3, .v (.int .i64 280))], [(zAF2, 40)]⟩ ?_
   refine zE (.tup zAF0) ?_
   intro ρ w9 hm' hf
   exact ⟨rfl, hm'.below⟩
  refine zR 30 b0 ?_
  refine zM [2, 4, 7, 30, 31] 1 ⟨pops B8 [1, 1, 1, 0, 0] 9, [.seq (sub B8 [1, 1, 1, 0, 1]), .seq (sub B8 [1, 1, 1, 1])], [(2, .lp 0 0), (4, .so (mkB k)), (7, .sl (some (Addr.mk x1 0 none)) (pcs [] r).length (pcs [] r).length), (30, .v (.bool false)), (31, .sl (some (Addr.mk x1 0 none)) (pcs [] r).length (pcs [] r).length)], [(zAF2, 40)]⟩ ?_
  exfalso
  simp at b0
  omega
end Go.Proofs.YtkjnbafdmjakgaaGreatDoor
end
section
namespace Go.Proofs.YtkjnbafdmjakgaaGreatDoor
open Go.RowKit Go.Sx
def Pn.cells (p : Pn) : List Value := [.string (mkB p.key), .int .i64 p.st, .int .i64 p.en, .int .i64 p.kd, .int .i64 p.nt, .int .i64 p.ct, .int .i64 p.sm, .int .i64 p.mn, .int .i64 p.mx]
def pv (ps : List Pn) : List Value := ps.flatMap Pn.cells
theorem pv_app (ps : List Pn) (p : Pn) : pv (ps ++ [p]) = pv ps ++ p.cells := by simp [pv]
structure RSt where
 A : Option Addr
 n : Nat
 c : Nat
 ps : List Pn
 l : List UInt8
end Go.Proofs.YtkjnbafdmjakgaaGreatDoor
end
section
namespace Go.Proofs.YtkjnbafdmjakgaaGreatDoor
open Go.RowKit Go.Sx
end Go.Proofs.YtkjnbafdmjakgaaGreatDoor
end
section
namespace Go.Proofs.YtkjnbafdmjakgaaGreatDoor
open Go.RowKit Go.Sx
end Go.Proofs.YtkjnbafdmjakgaaGreatDoor
end
section
namespace Go.Proofs.YtkjnbafdmjakgaaGreatDoor
open Go.RowKit Go.Sx
structure NSt where
 i : Nat
 n : Nat
end Go.Proofs.YtkjnbafdmjakgaaGreatDoor
end
section
namespace Go.Proofs.YtkjnbafdmjakgaaGreatDoor
open Go.RowKit Go.Sx
section
variable {P : Program} {Q : Exit → Act → World → Prop} {N : Nat} {w0 : World} {ntm : Nat} {F : List Nat → World → Prop}
end
structure KSt where
 A : Option Addr
 n : Nat
 c : Nat
 acc : List UInt8
 i : Nat
end Go.Proofs.YtkjnbafdmjakgaaGreatDoor
end
section
namespace Go.Sx
open Go.RowKit
section
variable {P : Program} {ops : Array Oper} {md : Region.Mode} {Q : Exit → Act → World → Prop}
def drops (ds : List Nat) : Fr → Fr
 | [] => []
 | (k, s) :: l => if ds.contains k then drops ds l else (k, s) :: drops ds l
theorem look_drops {ds : List Nat} {t : Nat} {s : SV} : ∀ {fr : Fr}, look (drops ds fr) t = some s → look fr t = some s ∧ t ∉ ds
 | [], h => by cases h
 | (k, x) :: l, h => by
  simp only [drops] at h
  split at h
  ·rename_i hk
   obtain ⟨h1, h2⟩ := look_drops h
   refine ⟨?_, h2⟩
   simp only [look]
   split
   ·rename_i e
    have e := Nat.eq_of_beq_eq_true e
    subst e
    exact absurd (List.contains_iff_mem.1 hk) h2
   exact h1
  rename_i hk
  simp only [look] at h ⊢
  split at h
  ·rename_i e
   have e := Nat.eq_of_beq_eq_true e
   subst e
   simp only [Option.some.injEq] at h
   subst h
   refine ⟨rfl, fun hm => hk (List.contains_iff_mem.2 hm)⟩
  exact look_drops h
theorem AInv.drops_ {ntm : Nat} {ρ : List Nat} {fr : Fr} {a : Act} (h : AInv ntm ρ fr a) (ds : List Nat) : AInv ntm ρ (drops ds fr) a := ⟨h.defers, h.size, fun t s hs => h.slot t s (look_drops hs).1⟩
theorem AInv.over {ntm : Nat} {ρ : List Nat} {fr : Fr} {ds : List Nat} {a : Act} (h : AInv ntm ρ (drops ds fr) a) {d : Option Nat} (hd : ∀ t, d = some t → t ∈ ds) (u : Value) : AInv ntm ρ (drops ds fr) (a.put d u) := by
 cases d with
 | none => exact h
 | some d =>
  refine ⟨by simpa [Act.put] using h.defers, by simpa [Act.put] using h.size, fun t s hs => ?_⟩
  have hne : d ≠ t := fun e => (look_drops hs).2 (e ▸ hd d rfl)
  simp only [Act.put]
  rw [Array.getElem?_setIfInBounds_ne hne]
  exact h.slot t s hs
def unl (all : Array Oper) (listed : Array Bool) : List Oper := (List.range all.size).filterMap fun j => match listed.getD j true with
 | true => none
 | false => all[j]?
theorem mem_unl {all : Array Oper} {listed : Array Bool} {j : Nat} {o : Oper} (h : all[j]? = some o) (hl : listed.getD j true = false) : o ∈ unl all listed := by
 refine List.mem_filterMap.2 ⟨j, List.mem_range.2 (Array.getElem?_eq_some_iff.1 h).1, ?_⟩
 rw [hl]
 exact h
variable {N : Nat} {w0 : World} {ntm : Nat} {F : List Nat → World → Prop}
end
end Go.Sx
end
