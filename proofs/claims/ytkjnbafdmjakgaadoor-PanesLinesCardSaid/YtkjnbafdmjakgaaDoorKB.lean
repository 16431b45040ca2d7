import Derived.Test.YtkjnbafdmjakgaaDoorKA
import Derived.Lib.ItoaLen
set_option linter.unusedSimpArgs false
set_option linter.unusedVariables false
namespace Go.Proofs.YtkjnbafdmjakgaaDoor
open Go.RowKit Go.Sx

def mayP (key : ByteArray) (kd : Int) : Bool := decide ((key.size : Int) ≤ 256) && (decide (kd ≥ 1) && decide (kd ≤ 3))
theorem mkB_app (x y : List UInt8) : mkB x ++ mkB y = mkB (x ++ y) := by
  apply ByteArray.ext
  rw [ByteArray.data_append]
  simp [mkB]
section
variable {Q : Exit → Act → World → Prop} {N : Nat} {w0 : World} {ntm : Nat} {F : List Nat → World → Prop}
theorem catW {s : S} (x y : List UInt8) (nx ny : Nat) (hq : catI Tryd.prog ntm s = some (mkB x, mkB y)) (hx : x.length ≤ nx) (hy : y.length ≤ ny) (hs : nx + ny ≤ 1000000) (hF : Stable F) (h : ∀ t, t = x ++ y → t.length ≤ nx + ny → At Tryd.prog Q N w0 ntm F (s.tail ntm (.so (mkB t)))) : At Tryd.prog Q N w0 ntm F s := by
  refine At.cat _ _ hq (by rw [mkB_size, mkB_size]; omega) hF ?_
  rw [mkB_app]
  exact h _ rfl (by rw [List.length_append]; omega)
end
theorem grown_under (w : World) (q : Nat) (os : Array Obj) : Below w.heap.size w (Sort.grow (w.drewN q) os) :=
  ⟨rfl, rfl, rfl, by simp [Sort.grow], fun i hi => by
    show ((w.drewN q).heap ++ os)[i]? = _
    rw [Array.getElem?_append_left (by show i < w.heap.size; omega)]
    rfl⟩
theorem fmt_any (n : Int) (h : in64 n) (w : World) (htab : Lib.TabIs Tryd.prog w "internal/strconv.uint64pow10" .u64 Lib.pow10Tab) : Calls Tryd.prog 32 #[.int .i64 n, .int .i64 10] w fun e w' => e = .returned (.string (mkB (Lib.itoa n))) ∧ Below w.heap.size w w' :=
  (Tryd.strconv_FormatInt_10 n h.1 h.2 w htab).mono fun e w' h => by
    obtain ⟨rfl, k, os, rfl⟩ := h
    exact ⟨rfl, grown_under w k os⟩
theorem tab_below {B : Nat} {w w' : World} {n : String} {k : IntKind} {zs : List Int} (h : Lib.TabIs Tryd.prog w n k zs) (hb : Below B w w') (hB : B = w.heap.size) : Lib.TabIs Tryd.prog w' n k zs := by
  subst hB
  unfold Lib.TabIs World.var? at h ⊢
  cases hg : Tryd.prog.globalNamed n with
  | none => rw [hg] at h; cases h
  | some g =>
    rw [hg] at h
    simp only [Option.bind_some] at h ⊢
    have hlt : g < w.heap.size := by
      rcases Nat.lt_or_ge g w.heap.size with h' | h'
      · exact h'
      · rw [Array.getElem?_eq_none h'] at h; cases h
    rw [hb.block g hlt]
    exact h
theorem itoa_short {n : Int} (h : in64 n) : (Lib.itoa n).length ≤ 21 := Lib.itoa_length_le n h.1 h.2
theorem quote_short {k : List UInt8} (h : k.length ≤ 256) : (quoteB k).length ≤ 1026 := by
  have go : ∀ l : List UInt8, (l.flatMap q1).length ≤ 4 * l.length := by
    intro l
    induction l with
    | nil => simp
    | cons c l ih =>
      have : (q1 c).length ≤ 4 := by unfold q1; split <;> simp
      rw [List.flatMap_cons, List.length_append, List.length_cons]
      omega
  have := go k
  simp only [quoteB, List.length_cons, List.length_append, List.length_nil]
  omega
def kindN (kd : Int) : List UInt8 := if kd = 1 then [101, 97, 114, 108, 121] else if kd = 2 then [111, 110, 116, 105, 109, 101] else [108, 97, 116, 101]
/-- A pane's line. -/
def lineB (k : List UInt8) (st en kd nt ct sm mn mx : Int) : List UInt8 := quoteB k ++ 32 :: (kindN kd ++ [st, en, nt, ct, sm, mn, mx].flatMap fun n => 32 :: Lib.itoa n)
def paneL (key : ByteArray) (st en kd nt ct sm mn mx : Int) : List SV := [.so key, .io .i64 st, .io .i64 en, .io .i64 kd, .io .i64 nt, .io .i64 ct, .io .i64 sm, .io .i64 mn, .io .i64 mx]

noncomputable def B30 : Code := (Tryd.f30.body).getD .skip
set_option maxHeartbeats 4000000 in
set_option maxRecDepth 100000 in
theorem names_any (w : World) : Calls Tryd.prog 30 #[] w fun e w' => e = .returned (.agg #[.string ⟨#[]⟩, .string ⟨#[101, 97, 114, 108, 121]⟩, .string ⟨#[111, 110, 116, 105, 109, 101]⟩, .string ⟨#[108, 97, 116, 101]⟩]) ∧ Below w.heap.size w w' := by
  refine enter (fn := Tryd.f30) (c := B30) [] Tryd.func30 rfl rfl ?_
  refine At.to (noF_stable) (noF_fewer) 20 300 [0] 1 ⟨.exit .ret, [], [(0, .lp 0 0)], [([.v (.string (ByteArray.mk #[])), .v (.string (ByteArray.mk #[101, 97, 114, 108, 121])), .v (.string (ByteArray.mk #[111, 110, 116, 105, 109, 101])), .v (.string (ByteArray.mk #[108, 97, 116, 101]))], 63)]⟩ (by kernel_rfl) (by kernel_rfl) ?_
  refine At.ret (by kernel_rfl) (.agg [.v (.string (ByteArray.mk #[])), .v (.string (ByteArray.mk #[101, 97, 114, 108, 121])), .v (.string (ByteArray.mk #[111, 110, 116, 105, 109, 101])), .v (.string (ByteArray.mk #[108, 97, 116, 101]))]) (by kernel_rfl) ?_
  intro ρ w9 hm hf
  exact ⟨rfl, hm.below⟩

noncomputable def B41 : Code := (Tryd.f41.body).getD .skip
set_option maxHeartbeats 4000000 in
set_option maxRecDepth 100000 in
theorem numbers_any (key : ByteArray) (st en kd nt ct sm mn mx : Int) (w : World) : Calls Tryd.prog 41 #[.agg #[.string key, .int .i64 st, .int .i64 en, .int .i64 kd, .int .i64 nt, .int .i64 ct, .int .i64 sm, .int .i64 mn, .int .i64 mx]] w fun e w' => e = .returned (.agg #[.int .i64 st, .int .i64 en, .int .i64 nt, .int .i64 ct, .int .i64 sm, .int .i64 mn, .int .i64 mx]) ∧ Below w.heap.size w w' := by
  refine enter (fn := Tryd.f41) (c := B41) [.agg (paneL key st en kd nt ct sm mn mx)] Tryd.func41 rfl rfl ?_
  refine At.to (noF_stable) (noF_fewer) 20 300 [2] 2 ⟨.exit .ret, [], [(2, .lp 1 0)], [([.so key, .io .i64 st, .io .i64 en, .io .i64 kd, .io .i64 nt, .io .i64 ct, .io .i64 sm, .io .i64 mn, .io .i64 mx], 29), ([.io .i64 st, .io .i64 en, .io .i64 nt, .io .i64 ct, .io .i64 sm, .io .i64 mn, .io .i64 mx], 76)]⟩ (by kernel_rfl) (by kernel_rfl) ?_
  refine At.ret (by kernel_rfl) (.agg [.io .i64 st, .io .i64 en, .io .i64 nt, .io .i64 ct, .io .i64 sm, .io .i64 mn, .io .i64 mx]) (by kernel_rfl) ?_
  intro ρ w9 hm hf
  exact ⟨rfl, hm.below⟩

noncomputable def B33 : Code := (Tryd.f33.body).getD .skip
set_option maxHeartbeats 4000000 in
set_option maxRecDepth 100000 in
theorem may_any (key : ByteArray) (st en kd nt ct sm mn mx : Int) (w : World) : Calls Tryd.prog 33 #[.agg #[.string key, .int .i64 st, .int .i64 en, .int .i64 kd, .int .i64 nt, .int .i64 ct, .int .i64 sm, .int .i64 mn, .int .i64 mx]] w fun e w' => e = .returned (.bool (mayP key kd)) ∧ Below w.heap.size w w' := by
  refine enter (fn := Tryd.f33) (c := B33) [.agg (paneL key st en kd nt ct sm mn mx)] Tryd.func33 rfl rfl ?_
  refine At.to (noF_stable) (noF_fewer) 20 300 [1, 7] 1 ⟨pops B33 [1, 0] 5, [.seq (sub B33 [1, 1])], [(1, .lp 0 0), (7, .bo (decide ((↑key.size : Int) ≤ 256)))], [([.so key, .io .i64 st, .io .i64 en, .io .i64 kd, .io .i64 nt, .io .i64 ct, .io .i64 sm, .io .i64 mn, .io .i64 mx], 29)]⟩ (by kernel_rfl) (by kernel_rfl) ?_
  rcases Bool.eq_false_or_eq_true (decide ((↑key.size : Int) ≤ 256)) with b0 | b0
  · refine At.res 7 (decide ((↑key.size : Int) ≤ 256)) true (by kernel_rfl) b0 ?_
    refine At.to (noF_stable) (noF_fewer) 20 300 [1, 12] 1 ⟨pops B33 [1, 0] 10, [.seq (sub B33 [1, 1])], [(1, .lp 0 0), (12, .bo (decide (kd ≥ 1)))], [([.so key, .io .i64 st, .io .i64 en, .io .i64 kd, .io .i64 nt, .io .i64 ct, .io .i64 sm, .io .i64 mn, .io .i64 mx], 29)]⟩ (by kernel_rfl) (by kernel_rfl) ?_
    rcases Bool.eq_false_or_eq_true (decide (kd ≥ 1)) with b1 | b1
    · refine At.res 12 (decide (kd ≥ 1)) true (by kernel_rfl) b1 ?_
      refine At.to (noF_stable) (noF_fewer) 20 300 [2] 0 ⟨.exit .ret, [], [(2, .bo (decide (kd ≤ 3)))], []⟩ (by kernel_rfl) (by kernel_rfl) ?_
      refine At.ret (by kernel_rfl) (.bo (decide (kd ≤ 3))) (by kernel_rfl) ?_
      intro ρ w9 hm hf
      refine ⟨?_, hm.below⟩
      simp only [mayP, *, Bool.true_and, Bool.false_and]
      rfl
    · refine At.res 12 (decide (kd ≥ 1)) false (by kernel_rfl) b1 ?_
      refine At.to (noF_stable) (noF_fewer) 20 300 [2] 0 ⟨.exit .ret, [], [(2, .v (.bool false))], []⟩ (by kernel_rfl) (by kernel_rfl) ?_
      refine At.ret (by kernel_rfl) (.v (.bool false)) (by kernel_rfl) ?_
      intro ρ w9 hm hf
      refine ⟨?_, hm.below⟩
      simp only [mayP, *, Bool.true_and, Bool.false_and]
      rfl
  · refine At.res 7 (decide ((↑key.size : Int) ≤ 256)) false (by kernel_rfl) b0 ?_
    refine At.to (noF_stable) (noF_fewer) 20 300 [2] 0 ⟨.exit .ret, [], [(2, .v (.bool false))], []⟩ (by kernel_rfl) (by kernel_rfl) ?_
    refine At.ret (by kernel_rfl) (.v (.bool false)) (by kernel_rfl) ?_
    intro ρ w9 hm hf
    refine ⟨?_, hm.below⟩
    simp only [mayP, *, Bool.true_and, Bool.false_and]
    rfl

noncomputable def B15 : Code := (Tryd.f15.body).getD .skip
set_option maxHeartbeats 20000000 in
set_option maxRecDepth 100000 in
theorem line_ok (k : List UInt8) (st en kd nt ct sm mn mx : Int) (hk : k.length ≤ 256) (hkd : kd = 1 ∨ kd = 2 ∨ kd = 3) (i1 : in64 st) (i2 : in64 en) (i3 : in64 nt) (i4 : in64 ct) (i5 : in64 sm) (i6 : in64 mn) (i7 : in64 mx) (w : World) (htab : Lib.TabIs Tryd.prog w "internal/strconv.uint64pow10" .u64 Lib.pow10Tab) :
    Calls Tryd.prog 15 #[.agg #[.string (mkB k), .int .i64 st, .int .i64 en, .int .i64 kd, .int .i64 nt, .int .i64 ct, .int .i64 sm, .int .i64 mn, .int .i64 mx]] w fun e w' => e = .returned (.tuple #[.string (mkB (lineB k st en kd nt ct sm mn mx)), .int .i64 0]) ∧ Below w.heap.size w w' := by
  rcases hkd with rfl | rfl | rfl
  all_goals have hl0 := itoa_short i1
  all_goals have hl1 := itoa_short i2
  all_goals have hl2 := itoa_short i3
  all_goals have hl3 := itoa_short i4
  all_goals have hl4 := itoa_short i5
  all_goals have hl5 := itoa_short i6
  all_goals have hl6 := itoa_short i7
  all_goals have hlq := quote_short hk
  · refine enter (fn := Tryd.f15) (c := B15) [.agg [.so (mkB k), .io .i64 st, .io .i64 en, .v (.int .i64 1), .io .i64 nt, .io .i64 ct, .io .i64 sm, .io .i64 mn, .io .i64 mx]] Tryd.func15 rfl rfl ?_
    refine At.to (noF_stable) (noF_fewer) 20 300 [1, 7] 1 ⟨pops B15 [1, 0, 0] 1, [.seq (sub B15 [1, 0, 1]), .seq (sub B15 [1, 1])], [(1, .lp 0 0), (7, .agg [.so (mkB k), .io .i64 st, .io .i64 en, .v (.int .i64 1), .io .i64 nt, .io .i64 ct, .io .i64 sm, .io .i64 mn, .io .i64 mx])], [([.so (mkB k), .io .i64 st, .io .i64 en, .v (.int .i64 1), .io .i64 nt, .io .i64 ct, .io .i64 sm, .io .i64 mn, .io .i64 mx], 29)]⟩ (by kernel_rfl) (by kernel_rfl) ?_
    refine At.call noF_stable 33 [.agg [.so (mkB k), .io .i64 st, .io .i64 en, .v (.int .i64 1), .io .i64 nt, .io .i64 ct, .io .i64 sm, .io .i64 mn, .io .i64 mx]] (.v (.bool true)) (by kernel_rfl) (by kernel_rfl) (by kernel_rfl) (fun _ _ w1 hi _ => (may_any (mkB k) st en _ nt ct sm mn mx w1).mono fun e w2 h => ⟨h.1.trans (by rw [show mayP (mkB k) _ = true from by simp only [mayP, mkB_size, Bool.and_eq_true, decide_eq_true_eq]; omega]; rfl), h.2⟩) ?_
    refine At.to (noF_stable) (noF_fewer) 20 300 [1, 11] 1 ⟨pqops B15 [1, 1, 0] 2, [.seq (sub B15 [1, 1, 1])], [(1, .lp 0 0), (11, .so (mkB k))], [([.so (mkB k), .io .i64 st, .io .i64 en, .v (.int .i64 1), .io .i64 nt, .io .i64 ct, .io .i64 sm, .io .i64 mn, .io .i64 mx], 29)]⟩ (by kernel_rfl) (by kernel_rfl) ?_
    refine At.call noF_stable 40 [.so (mkB k)] (.so (mkB (quoteB k))) (by kernel_rfl) (by kernel_rfl) (by kernel_rfl) (fun _ _ w1 hi _ => quote_any k (by omega) w1) ?_
    refine At.to (noF_stable) (noF_fewer) 20 300 [1, 12] 1 ⟨pqops B15 [1, 1, 0] 3, [.seq (sub B15 [1, 1, 1])], [(1, .lp 0 0), (12, .so (mkB (quoteB k)))], [([.so (mkB k), .io .i64 st, .io .i64 en, .v (.int .i64 1), .io .i64 nt, .io .i64 ct, .io .i64 sm, .io .i64 mn, .io .i64 mx], 29)]⟩ (by kernel_rfl) (by kernel_rfl) ?_
    refine catW (quoteB k) [32] 1026 1 (by kernel_rfl) hlq (by decide) (by decide) noF_stable fun t0 ht0 hn0 => ?_
    refine At.to (noF_stable) (noF_fewer) 20 300 [1, 13] 1 ⟨pqops B15 [1, 1, 0] 4, [.seq (sub B15 [1, 1, 1])], [(1, .lp 0 0), (13, .so (mkB t0))], [([.so (mkB k), .io .i64 st, .io .i64 en, .v (.int .i64 1), .io .i64 nt, .io .i64 ct, .io .i64 sm, .io .i64 mn, .io .i64 mx], 29)]⟩ (by kernel_rfl) (by kernel_rfl) ?_
    refine At.call noF_stable 30 [] (.agg [.v (.string ⟨#[]⟩), .v (.string ⟨#[101, 97, 114, 108, 121]⟩), .v (.string ⟨#[111, 110, 116, 105, 109, 101]⟩), .v (.string ⟨#[108, 97, 116, 101]⟩)]) (by kernel_rfl) (by kernel_rfl) (by kernel_rfl) (fun _ _ w1 hi _ => names_any w1) ?_
    refine At.to (noF_stable) (noF_fewer) 20 300 [1, 13, 17] 1 ⟨pqops B15 [1, 1, 0] 8, [.seq (sub B15 [1, 1, 1])], [(1, .lp 0 0), (13, .so (mkB t0)), (17, .v (.string (ByteArray.mk #[101, 97, 114, 108, 121])))], [([.so (mkB k), .io .i64 st, .io .i64 en, .v (.int .i64 1), .io .i64 nt, .io .i64 ct, .io .i64 sm, .io .i64 mn, .io .i64 mx], 29)]⟩ (by kernel_rfl) (by kernel_rfl) ?_
    refine catW t0 [101, 97, 114, 108, 121] 1027 5 (by kernel_rfl) hn0 (by decide) (by decide) noF_stable fun t1 ht1 hn1 => ?_
    refine At.to (noF_stable) (noF_fewer) 20 300 [4, 19] 0 ⟨pops B15 [1, 1, 1, 0, 0] 1, [.seq (sub B15 [1, 1, 1, 0, 1]), .seq (sub B15 [1, 1, 1, 1])], [(4, .so (mkB t1)), (19, .agg [.so (mkB k), .io .i64 st, .io .i64 en, .v (.int .i64 1), .io .i64 nt, .io .i64 ct, .io .i64 sm, .io .i64 mn, .io .i64 mx])], []⟩ (by kernel_rfl) (by kernel_rfl) ?_
    refine At.call noF_stable 41 [.agg [.so (mkB k), .io .i64 st, .io .i64 en, .v (.int .i64 1), .io .i64 nt, .io .i64 ct, .io .i64 sm, .io .i64 mn, .io .i64 mx]] (.agg [.io .i64 st, .io .i64 en, .io .i64 nt, .io .i64 ct, .io .i64 sm, .io .i64 mn, .io .i64 mx]) (by kernel_rfl) (by kernel_rfl) (by kernel_rfl) (fun _ _ w1 hi _ => numbers_any (mkB k) st en _ nt ct sm mn mx w1) ?_
    refine At.to (noF_stable) (noF_fewer) 20 300 [20, 21, 24, 25] 0 ⟨pops B15 [1, 1, 1, 0, 1, 4, 4, 1, 1, 0, 4, 1] 2, [.block 1, .seq (sub B15 [1, 1, 1, 0, 1, 4, 4, 1, 1, 1]), .rounds (sub B15 [1, 1, 1, 0, 1, 4, 4]) 19, .block 0, .seq (sub B15 [1, 1, 1, 1])], [(20, .agg [.io .i64 st, .io .i64 en, .io .i64 nt, .io .i64 ct, .io .i64 sm, .io .i64 mn, .io .i64 mx]), (21, .v (.int .i64 0)), (24, .so (mkB t1)), (25, .io .i64 st)], []⟩ (by kernel_rfl) (by kernel_rfl) ?_
    refine At.call noF_stable 32 [.io .i64 st, .v (.int .i64 10)] (.so (mkB (Lib.itoa st))) (by kernel_rfl) (by kernel_rfl) (by kernel_rfl) (fun _ _ w1 hi _ => fmt_any _ i1 w1 (tab_below htab hi.mem.below rfl)) ?_
    refine At.to (noF_stable) (noF_fewer) 20 300 [20, 21, 24, 26] 0 ⟨pops B15 [1, 1, 1, 0, 1, 4, 4, 1, 1, 0, 4, 1] 3, [.block 1, .seq (sub B15 [1, 1, 1, 0, 1, 4, 4, 1, 1, 1]), .rounds (sub B15 [1, 1, 1, 0, 1, 4, 4]) 19, .block 0, .seq (sub B15 [1, 1, 1, 1])], [(20, .agg [.io .i64 st, .io .i64 en, .io .i64 nt, .io .i64 ct, .io .i64 sm, .io .i64 mn, .io .i64 mx]), (21, .v (.int .i64 0)), (24, .so (mkB t1)), (26, .so (mkB (Lib.itoa st)))], []⟩ (by kernel_rfl) (by kernel_rfl) ?_
    refine catW [32] (Lib.itoa st) 1 21 (by kernel_rfl) (by decide) hl0 (by decide) noF_stable fun t2 ht2 hn2 => ?_
    refine At.to (noF_stable) (noF_fewer) 20 300 [20, 21, 24, 27] 0 ⟨pops B15 [1, 1, 1, 0, 1, 4, 4, 1, 1, 0, 4, 1] 4, [.block 1, .seq (sub B15 [1, 1, 1, 0, 1, 4, 4, 1, 1, 1]), .rounds (sub B15 [1, 1, 1, 0, 1, 4, 4]) 19, .block 0, .seq (sub B15 [1, 1, 1, 1])], [(20, .agg [.io .i64 st, .io .i64 en, .io .i64 nt, .io .i64 ct, .io .i64 sm, .io .i64 mn, .io .i64 mx]), (21, .v (.int .i64 0)), (24, .so (mkB t1)), (27, .so (mkB t2))], []⟩ (by kernel_rfl) (by kernel_rfl) ?_
    refine catW t1 t2 1032 22 (by kernel_rfl) hn1 hn2 (by decide) noF_stable fun t3 ht3 hn3 => ?_
    refine At.to (noF_stable) (noF_fewer) 20 300 [20, 21, 24, 25] 0 ⟨pops B15 [1, 1, 1, 0, 1, 4, 4, 1, 1, 0, 4, 1] 2, [.block 1, .seq (sub B15 [1, 1, 1, 0, 1, 4, 4, 1, 1, 1]), .rounds (sub B15 [1, 1, 1, 0, 1, 4, 4]) 18, .block 0, .seq (sub B15 [1, 1, 1, 1])], [(20, .agg [.io .i64 st, .io .i64 en, .io .i64 nt, .io .i64 ct, .io .i64 sm, .io .i64 mn, .io .i64 mx]), (21, .v (.int .i64 1)), (24, .so (mkB t3)), (25, .io .i64 en)], []⟩ (by kernel_rfl) (by kernel_rfl) ?_
    refine At.call noF_stable 32 [.io .i64 en, .v (.int .i64 10)] (.so (mkB (Lib.itoa en))) (by kernel_rfl) (by kernel_rfl) (by kernel_rfl) (fun _ _ w1 hi _ => fmt_any _ i2 w1 (tab_below htab hi.mem.below rfl)) ?_
    refine At.to (noF_stable) (noF_fewer) 20 300 [20, 21, 24, 26] 0 ⟨pops B15 [1, 1, 1, 0, 1, 4, 4, 1, 1, 0, 4, 1] 3, [.block 1, .seq (sub B15 [1, 1, 1, 0, 1, 4, 4, 1, 1, 1]), .rounds (sub B15 [1, 1, 1, 0, 1, 4, 4]) 18, .block 0, .seq (sub B15 [1, 1, 1, 1])], [(20, .agg [.io .i64 st, .io .i64 en, .io .i64 nt, .io .i64 ct, .io .i64 sm, .io .i64 mn, .io .i64 mx]), (21, .v (.int .i64 1)), (24, .so (mkB t3)), (26, .so (mkB (Lib.itoa en)))], []⟩ (by kernel_rfl) (by kernel_rfl) ?_
    refine catW [32] (Lib.itoa en) 1 21 (by kernel_rfl) (by decide) hl1 (by decide) noF_stable fun t4 ht4 hn4 => ?_
    refine At.to (noF_stable) (noF_fewer) 20 300 [20, 21, 24, 27] 0 ⟨pops B15 [1, 1, 1, 0, 1, 4, 4, 1, 1, 0, 4, 1] 4, [.block 1, .seq (sub B15 [1, 1, 1, 0, 1, 4, 4, 1, 1, 1]), .rounds (sub B15 [1, 1, 1, 0, 1, 4, 4]) 18, .block 0, .seq (sub B15 [1, 1, 1, 1])], [(20, .agg [.io .i64 st, .io .i64 en, .io .i64 nt, .io .i64 ct, .io .i64 sm, .io .i64 mn, .io .i64 mx]), (21, .v (.int .i64 1)), (24, .so (mkB t3)), (27, .so (mkB t4))], []⟩ (by kernel_rfl) (by kernel_rfl) ?_
    refine catW t3 t4 1054 22 (by kernel_rfl) hn3 hn4 (by decide) noF_stable fun t5 ht5 hn5 => ?_
    refine At.to (noF_stable) (noF_fewer) 20 300 [20, 21, 24, 25] 0 ⟨pops B15 [1, 1, 1, 0, 1, 4, 4, 1, 1, 0, 4, 1] 2, [.block 1, .seq (sub B15 [1, 1, 1, 0, 1, 4, 4, 1, 1, 1]), .rounds (sub B15 [1, 1, 1, 0, 1, 4, 4]) 17, .block 0, .seq (sub B15 [1, 1, 1, 1])], [(20, .agg [.io .i64 st, .io .i64 en, .io .i64 nt, .io .i64 ct, .io .i64 sm, .io .i64 mn, .io .i64 mx]), (21, .v (.int .i64 2)), (24, .so (mkB t5)), (25, .io .i64 nt)], []⟩ (by kernel_rfl) (by kernel_rfl) ?_
    refine At.call noF_stable 32 [.io .i64 nt, .v (.int .i64 10)] (.so (mkB (Lib.itoa nt))) (by kernel_rfl) (by kernel_rfl) (by kernel_rfl) (fun _ _ w1 hi _ => fmt_any _ i3 w1 (tab_below htab hi.mem.below rfl)) ?_
    refine At.to (noF_stable) (noF_fewer) 20 300 [20, 21, 24, 26] 0 ⟨pops B15 [1, 1, 1, 0, 1, 4, 4, 1, 1, 0, 4, 1] 3, [.block 1, .seq (sub B15 [1, 1, 1, 0, 1, 4, 4, 1, 1, 1]), .rounds (sub B15 [1, 1, 1, 0, 1, 4, 4]) 17, .block 0, .seq (sub B15 [1, 1, 1, 1])], [(20, .agg [.io .i64 st, .io .i64 en, .io .i64 nt, .io .i64 ct, .io .i64 sm, .io .i64 mn, .io .i64 mx]), (21, .v (.int .i64 2)), (24, .so (mkB t5)), (26, .so (mkB (Lib.itoa nt)))], []⟩ (by kernel_rfl) (by kernel_rfl) ?_
    refine catW [32] (Lib.itoa nt) 1 21 (by kernel_rfl) (by decide) hl2 (by decide) noF_stable fun t6 ht6 hn6 => ?_
    refine At.to (noF_stable) (noF_fewer) 20 300 [20, 21, 24, 27] 0 ⟨pops B15 [1, 1, 1, 0, 1, 4, 4, 1, 1, 0, 4, 1] 4, [.block 1, .seq (sub B15 [1, 1, 1, 0, 1, 4, 4, 1, 1, 1]), .rounds (sub B15 [1, 1, 1, 0, 1, 4, 4]) 17, .block 0, .seq (sub B15 [1, 1, 1, 1])], [(20, .agg [.io .i64 st, .io .i64 en, .io .i64 nt, .io .i64 ct, .io .i64 sm, .io .i64 mn, .io .i64 mx]), (21, .v (.int .i64 2)), (24, .so (mkB t5)), (27, .so (mkB t6))], []⟩ (by kernel_rfl) (by kernel_rfl) ?_
    refine catW t5 t6 1076 22 (by kernel_rfl) hn5 hn6 (by decide) noF_stable fun t7 ht7 hn7 => ?_
    refine At.to (noF_stable) (noF_fewer) 20 300 [20, 21, 24, 25] 0 ⟨pops B15 [1, 1, 1, 0, 1, 4, 4, 1, 1, 0, 4, 1] 2, [.block 1, .seq (sub B15 [1, 1, 1, 0, 1, 4, 4, 1, 1, 1]), .rounds (sub B15 [1, 1, 1, 0, 1, 4, 4]) 16, .block 0, .seq (sub B15 [1, 1, 1, 1])], [(20, .agg [.io .i64 st, .io .i64 en, .io .i64 nt, .io .i64 ct, .io .i64 sm, .io .i64 mn, .io .i64 mx]), (21, .v (.int .i64 3)), (24, .so (mkB t7)), (25, .io .i64 ct)], []⟩ (by kernel_rfl) (by kernel_rfl) ?_
    refine At.call noF_stable 32 [.io .i64 ct, .v (.int .i64 10)] (.so (mkB (Lib.itoa ct))) (by kernel_rfl) (by kernel_rfl) (by kernel_rfl) (fun _ _ w1 hi _ => fmt_any _ i4 w1 (tab_below htab hi.mem.below rfl)) ?_
    refine At.to (noF_stable) (noF_fewer) 20 300 [20, 21, 24, 26] 0 ⟨pops B15 [1, 1, 1, 0, 1, 4, 4, 1, 1, 0, 4, 1] 3, [.block 1, .seq (sub B15 [1, 1, 1, 0, 1, 4, 4, 1, 1, 1]), .rounds (sub B15 [1, 1, 1, 0, 1, 4, 4]) 16, .block 0, .seq (sub B15 [1, 1, 1, 1])], [(20, .agg [.io .i64 st, .io .i64 en, .io .i64 nt, .io .i64 ct, .io .i64 sm, .io .i64 mn, .io .i64 mx]), (21, .v (.int .i64 3)), (24, .so (mkB t7)), (26, .so (mkB (Lib.itoa ct)))], []⟩ (by kernel_rfl) (by kernel_rfl) ?_
    refine catW [32] (Lib.itoa ct) 1 21 (by kernel_rfl) (by decide) hl3 (by decide) noF_stable fun t8 ht8 hn8 => ?_
    refine At.to (noF_stable) (noF_fewer) 20 300 [20, 21, 24, 27] 0 ⟨pops B15 [1, 1, 1, 0, 1, 4, 4, 1, 1, 0, 4, 1] 4, [.block 1, .seq (sub B15 [1, 1, 1, 0, 1, 4, 4, 1, 1, 1]), .rounds (sub B15 [1, 1, 1, 0, 1, 4, 4]) 16, .block 0, .seq (sub B15 [1, 1, 1, 1])], [(20, .agg [.io .i64 st, .io .i64 en, .io .i64 nt, .io .i64 ct, .io .i64 sm, .io .i64 mn, .io .i64 mx]), (21, .v (.int .i64 3)), (24, .so (mkB t7)), (27, .so (mkB t8))], []⟩ (by kernel_rfl) (by kernel_rfl) ?_
    refine catW t7 t8 1098 22 (by kernel_rfl) hn7 hn8 (by decide) noF_stable fun t9 ht9 hn9 => ?_
    refine At.to (noF_stable) (noF_fewer) 20 300 [20, 21, 24, 25] 0 ⟨pops B15 [1, 1, 1, 0, 1, 4, 4, 1, 1, 0, 4, 1] 2, [.block 1, .seq (sub B15 [1, 1, 1, 0, 1, 4, 4, 1, 1, 1]), .rounds (sub B15 [1, 1, 1, 0, 1, 4, 4]) 15, .block 0, .seq (sub B15 [1, 1, 1, 1])], [(20, .agg [.io .i64 st, .io .i64 en, .io .i64 nt, .io .i64 ct, .io .i64 sm, .io .i64 mn, .io .i64 mx]), (21, .v (.int .i64 4)), (24, .so (mkB t9)), (25, .io .i64 sm)], []⟩ (by kernel_rfl) (by kernel_rfl) ?_
    refine At.call noF_stable 32 [.io .i64 sm, .v (.int .i64 10)] (.so (mkB (Lib.itoa sm))) (by kernel_rfl) (by kernel_rfl) (by kernel_rfl) (fun _ _ w1 hi _ => fmt_any _ i5 w1 (tab_below htab hi.mem.below rfl)) ?_
    refine At.to (noF_stable) (noF_fewer) 20 300 [20, 21, 24, 26] 0 ⟨pops B15 [1, 1, 1, 0, 1, 4, 4, 1, 1, 0, 4, 1] 3, [.block 1, .seq (sub B15 [1, 1, 1, 0, 1, 4, 4, 1, 1, 1]), .rounds (sub B15 [1, 1, 1, 0, 1, 4, 4]) 15, .block 0, .seq (sub B15 [1, 1, 1, 1])], [(20, .agg [.io .i64 st, .io .i64 en, .io .i64 nt, .io .i64 ct, .io .i64 sm, .io .i64 mn, .io .i64 mx]), (21, .v (.int .i64 4)), (24, .so (mkB t9)), (26, .so (mkB (Lib.itoa sm)))], []⟩ (by kernel_rfl) (by kernel_rfl) ?_
    refine catW [32] (Lib.itoa sm) 1 21 (by kernel_rfl) (by decide) hl4 (by decide) noF_stable fun t10 ht10 hn10 => ?_
    refine At.to (noF_stable) (noF_fewer) 20 300 [20, 21, 24, 27] 0 ⟨pops B15 [1, 1, 1, 0, 1, 4, 4, 1, 1, 0, 4, 1] 4, [.block 1, .seq (sub B15 [1, 1, 1, 0, 1, 4, 4, 1, 1, 1]), .rounds (sub B15 [1, 1, 1, 0, 1, 4, 4]) 15, .block 0, .seq (sub B15 [1, 1, 1, 1])], [(20, .agg [.io .i64 st, .io .i64 en, .io .i64 nt, .io .i64 ct, .io .i64 sm, .io .i64 mn, .io .i64 mx]), (21, .v (.int .i64 4)), (24, .so (mkB t9)), (27, .so (mkB t10))], []⟩ (by kernel_rfl) (by kernel_rfl) ?_
    refine catW t9 t10 1120 22 (by kernel_rfl) hn9 hn10 (by decide) noF_stable fun t11 ht11 hn11 => ?_
    refine At.to (noF_stable) (noF_fewer) 20 300 [20, 21, 24, 25] 0 ⟨pops B15 [1, 1, 1, 0, 1, 4, 4, 1, 1, 0, 4, 1] 2, [.block 1, .seq (sub B15 [1, 1, 1, 0, 1, 4, 4, 1, 1, 1]), .rounds (sub B15 [1, 1, 1, 0, 1, 4, 4]) 14, .block 0, .seq (sub B15 [1, 1, 1, 1])], [(20, .agg [.io .i64 st, .io .i64 en, .io .i64 nt, .io .i64 ct, .io .i64 sm, .io .i64 mn, .io .i64 mx]), (21, .v (.int .i64 5)), (24, .so (mkB t11)), (25, .io .i64 mn)], []⟩ (by kernel_rfl) (by kernel_rfl) ?_
    refine At.call noF_stable 32 [.io .i64 mn, .v (.int .i64 10)] (.so (mkB (Lib.itoa mn))) (by kernel_rfl) (by kernel_rfl) (by kernel_rfl) (fun _ _ w1 hi _ => fmt_any _ i6 w1 (tab_below htab hi.mem.below rfl)) ?_
    refine At.to (noF_stable) (noF_fewer) 20 300 [20, 21, 24, 26] 0 ⟨pops B15 [1, 1, 1, 0, 1, 4, 4, 1, 1, 0, 4, 1] 3, [.block 1, .seq (sub B15 [1, 1, 1, 0, 1, 4, 4, 1, 1, 1]), .rounds (sub B15 [1, 1, 1, 0, 1, 4, 4]) 14, .block 0, .seq (sub B15 [1, 1, 1, 1])], [(20, .agg [.io .i64 st, .io .i64 en, .io .i64 nt, .io .i64 ct, .io .i64 sm, .io .i64 mn, .io .i64 mx]), (21, .v (.int .i64 5)), (24, .so (mkB t11)), (26, .so (mkB (Lib.itoa mn)))], []⟩ (by kernel_rfl) (by kernel_rfl) ?_
    refine catW [32] (Lib.itoa mn) 1 21 (by kernel_rfl) (by decide) hl5 (by decide) noF_stable fun t12 ht12 hn12 => ?_
    refine At.to (noF_stable) (noF_fewer) 20 300 [20, 21, 24, 27] 0 ⟨pops B15 [1, 1, 1, 0, 1, 4, 4, 1, 1, 0, 4, 1] 4, [.block 1, .seq (sub B15 [1, 1, 1, 0, 1, 4, 4, 1, 1, 1]), .rounds (sub B15 [1, 1, 1, 0, 1, 4, 4]) 14, .block 0, .seq (sub B15 [1, 1, 1, 1])], [(20, .agg [.io .i64 st, .io .i64 en, .io .i64 nt, .io .i64 ct, .io .i64 sm, .io .i64 mn, .io .i64 mx]), (21, .v (.int .i64 5)), (24, .so (mkB t11)), (27, .so (mkB t12))], []⟩ (by kernel_rfl) (by kernel_rfl) ?_
    refine catW t11 t12 1142 22 (by kernel_rfl) hn11 hn12 (by decide) noF_stable fun t13 ht13 hn13 => ?_
    refine At.to (noF_stable) (noF_fewer) 20 300 [20, 21, 24, 25] 0 ⟨pops B15 [1, 1, 1, 0, 1, 4, 4, 1, 1, 0, 4, 1] 2, [.block 1, .seq (sub B15 [1, 1, 1, 0, 1, 4, 4, 1, 1, 1]), .rounds (sub B15 [1, 1, 1, 0, 1, 4, 4]) 13, .block 0, .seq (sub B15 [1, 1, 1, 1])], [(20, .agg [.io .i64 st, .io .i64 en, .io .i64 nt, .io .i64 ct, .io .i64 sm, .io .i64 mn, .io .i64 mx]), (21, .v (.int .i64 6)), (24, .so (mkB t13)), (25, .io .i64 mx)], []⟩ (by kernel_rfl) (by kernel_rfl) ?_
    refine At.call noF_stable 32 [.io .i64 mx, .v (.int .i64 10)] (.so (mkB (Lib.itoa mx))) (by kernel_rfl) (by kernel_rfl) (by kernel_rfl) (fun _ _ w1 hi _ => fmt_any _ i7 w1 (tab_below htab hi.mem.below rfl)) ?_
    refine At.to (noF_stable) (noF_fewer) 20 300 [20, 21, 24, 26] 0 ⟨pops B15 [1, 1, 1, 0, 1, 4, 4, 1, 1, 0, 4, 1] 3, [.block 1, .seq (sub B15 [1, 1, 1, 0, 1, 4, 4, 1, 1, 1]), .rounds (sub B15 [1, 1, 1, 0, 1, 4, 4]) 13, .block 0, .seq (sub B15 [1, 1, 1, 1])], [(20, .agg [.io .i64 st, .io .i64 en, .io .i64 nt, .io .i64 ct, .io .i64 sm, .io .i64 mn, .io .i64 mx]), (21, .v (.int .i64 6)), (24, .so (mkB t13)), (26, .so (mkB (Lib.itoa mx)))], []⟩ (by kernel_rfl) (by kernel_rfl) ?_
    refine catW [32] (Lib.itoa mx) 1 21 (by kernel_rfl) (by decide) hl6 (by decide) noF_stable fun t14 ht14 hn14 => ?_
    refine At.to (noF_stable) (noF_fewer) 20 300 [20, 21, 24, 27] 0 ⟨pops B15 [1, 1, 1, 0, 1, 4, 4, 1, 1, 0, 4, 1] 4, [.block 1, .seq (sub B15 [1, 1, 1, 0, 1, 4, 4, 1, 1, 1]), .rounds (sub B15 [1, 1, 1, 0, 1, 4, 4]) 13, .block 0, .seq (sub B15 [1, 1, 1, 1])], [(20, .agg [.io .i64 st, .io .i64 en, .io .i64 nt, .io .i64 ct, .io .i64 sm, .io .i64 mn, .io .i64 mx]), (21, .v (.int .i64 6)), (24, .so (mkB t13)), (27, .so (mkB t14))], []⟩ (by kernel_rfl) (by kernel_rfl) ?_
    refine catW t13 t14 1164 22 (by kernel_rfl) hn13 hn14 (by decide) noF_stable fun t15 ht15 hn15 => ?_
    refine At.to (noF_stable) (noF_fewer) 20 300 [2, 3] 0 ⟨.exit .ret, [], [(2, .so (mkB t15)), (3, .v (.int .i64 0))], []⟩ (by kernel_rfl) (by kernel_rfl) ?_
    refine At.ret (by kernel_rfl) (.tup [.so (mkB t15), .v (.int .i64 0)]) (by kernel_rfl) ?_
    intro ρ w9 hm hf
    refine ⟨?_, hm.below⟩
    have e : t15 = lineB k st en 1 nt ct sm mn mx := by
      subst_vars
      simp only [lineB, List.flatMap_cons, List.flatMap_nil, List.append_assoc, List.nil_append, List.cons_append, List.append_nil]
      rfl
    rw [← e]
    rfl
  · refine enter (fn := Tryd.f15) (c := B15) [.agg [.so (mkB k), .io .i64 st, .io .i64 en, .v (.int .i64 2), .io .i64 nt, .io .i64 ct, .io .i64 sm, .io .i64 mn, .io .i64 mx]] Tryd.func15 rfl rfl ?_
    refine At.to (noF_stable) (noF_fewer) 20 300 [1, 7] 1 ⟨pops B15 [1, 0, 0] 1, [.seq (sub B15 [1, 0, 1]), .seq (sub B15 [1, 1])], [(1, .lp 0 0), (7, .agg [.so (mkB k), .io .i64 st, .io .i64 en, .v (.int .i64 2), .io .i64 nt, .io .i64 ct, .io .i64 sm, .io .i64 mn, .io .i64 mx])], [([.so (mkB k), .io .i64 st, .io .i64 en, .v (.int .i64 2), .io .i64 nt, .io .i64 ct, .io .i64 sm, .io .i64 mn, .io .i64 mx], 29)]⟩ (by kernel_rfl) (by kernel_rfl) ?_
    refine At.call noF_stable 33 [.agg [.so (mkB k), .io .i64 st, .io .i64 en, .v (.int .i64 2), .io .i64 nt, .io .i64 ct, .io .i64 sm, .io .i64 mn, .io .i64 mx]] (.v (.bool true)) (by kernel_rfl) (by kernel_rfl) (by kernel_rfl) (fun _ _ w1 hi _ => (may_any (mkB k) st en _ nt ct sm mn mx w1).mono fun e w2 h => ⟨h.1.trans (by rw [show mayP (mkB k) _ = true from by simp only [mayP, mkB_size, Bool.and_eq_true, decide_eq_true_eq]; omega]; rfl), h.2⟩) ?_
    refine At.to (noF_stable) (noF_fewer) 20 300 [1, 11] 1 ⟨pqops B15 [1, 1, 0] 2, [.seq (sub B15 [1, 1, 1])], [(1, .lp 0 0), (11, .so (mkB k))], [([.so (mkB k), .io .i64 st, .io .i64 en, .v (.int .i64 2), .io .i64 nt, .io .i64 ct, .io .i64 sm, .io .i64 mn, .io .i64 mx], 29)]⟩ (by kernel_rfl) (by kernel_rfl) ?_
    refine At.call noF_stable 40 [.so (mkB k)] (.so (mkB (quoteB k))) (by kernel_rfl) (by kernel_rfl) (by kernel_rfl) (fun _ _ w1 hi _ => quote_any k (by omega) w1) ?_
    refine At.to (noF_stable) (noF_fewer) 20 300 [1, 12] 1 ⟨pqops B15 [1, 1, 0] 3, [.seq (sub B15 [1, 1, 1])], [(1, .lp 0 0), (12, .so (mkB (quoteB k)))], [([.so (mkB k), .io .i64 st, .io .i64 en, .v (.int .i64 2), .io .i64 nt, .io .i64 ct, .io .i64 sm, .io .i64 mn, .io .i64 mx], 29)]⟩ (by kernel_rfl) (by kernel_rfl) ?_
    refine catW (quoteB k) [32] 1026 1 (by kernel_rfl) hlq (by decide) (by decide) noF_stable fun t0 ht0 hn0 => ?_
    refine At.to (noF_stable) (noF_fewer) 20 300 [1, 13] 1 ⟨pqops B15 [1, 1, 0] 4, [.seq (sub B15 [1, 1, 1])], [(1, .lp 0 0), (13, .so (mkB t0))], [([.so (mkB k), .io .i64 st, .io .i64 en, .v (.int .i64 2), .io .i64 nt, .io .i64 ct, .io .i64 sm, .io .i64 mn, .io .i64 mx], 29)]⟩ (by kernel_rfl) (by kernel_rfl) ?_
    refine At.call noF_stable 30 [] (.agg [.v (.string ⟨#[]⟩), .v (.string ⟨#[101, 97, 114, 108, 121]⟩), .v (.string ⟨#[111, 110, 116, 105, 109, 101]⟩), .v (.string ⟨#[108, 97, 116, 101]⟩)]) (by kernel_rfl) (by kernel_rfl) (by kernel_rfl) (fun _ _ w1 hi _ => names_any w1) ?_
    refine At.to (noF_stable) (noF_fewer) 20 300 [1, 13, 17] 1 ⟨pqops B15 [1, 1, 0] 8, [.seq (sub B15 [1, 1, 1])], [(1, .lp 0 0), (13, .so (mkB t0)), (17, .v (.string (ByteArray.mk #[111, 110, 116, 105, 109, 101])))], [([.so (mkB k), .io .i64 st, .io .i64 en, .v (.int .i64 2), .io .i64 nt, .io .i64 ct, .io .i64 sm, .io .i64 mn, .io .i64 mx], 29)]⟩ (by kernel_rfl) (by kernel_rfl) ?_
    refine catW t0 [111, 110, 116, 105, 109, 101] 1027 6 (by kernel_rfl) hn0 (by decide) (by decide) noF_stable fun t1 ht1 hn1 => ?_
    refine At.to (noF_stable) (noF_fewer) 20 300 [4, 19] 0 ⟨pops B15 [1, 1, 1, 0, 0] 1, [.seq (sub B15 [1, 1, 1, 0, 1]), .seq (sub B15 [1, 1, 1, 1])], [(4, .so (mkB t1)), (19, .agg [.so (mkB k), .io .i64 st, .io .i64 en, .v (.int .i64 2), .io .i64 nt, .io .i64 ct, .io .i64 sm, .io .i64 mn, .io .i64 mx])], []⟩ (by kernel_rfl) (by kernel_rfl) ?_
    refine At.call noF_stable 41 [.agg [.so (mkB k), .io .i64 st, .io .i64 en, .v (.int .i64 2), .io .i64 nt, .io .i64 ct, .io .i64 sm, .io .i64 mn, .io .i64 mx]] (.agg [.io .i64 st, .io .i64 en, .io .i64 nt, .io .i64 ct, .io .i64 sm, .io .i64 mn, .io .i64 mx]) (by kernel_rfl) (by kernel_rfl) (by kernel_rfl) (fun _ _ w1 hi _ => numbers_any (mkB k) st en _ nt ct sm mn mx w1) ?_
    refine At.to (noF_stable) (noF_fewer) 20 300 [20, 21, 24, 25] 0 ⟨pops B15 [1, 1, 1, 0, 1, 4, 4, 1, 1, 0, 4, 1] 2, [.block 1, .seq (sub B15 [1, 1, 1, 0, 1, 4, 4, 1, 1, 1]), .rounds (sub B15 [1, 1, 1, 0, 1, 4, 4]) 19, .block 0, .seq (sub B15 [1, 1, 1, 1])], [(20, .agg [.io .i64 st, .io .i64 en, .io .i64 nt, .io .i64 ct, .io .i64 sm, .io .i64 mn, .io .i64 mx]), (21, .v (.int .i64 0)), (24, .so (mkB t1)), (25, .io .i64 st)], []⟩ (by kernel_rfl) (by kernel_rfl) ?_
    refine At.call noF_stable 32 [.io .i64 st, .v (.int .i64 10)] (.so (mkB (Lib.itoa st))) (by kernel_rfl) (by kernel_rfl) (by kernel_rfl) (fun _ _ w1 hi _ => fmt_any _ i1 w1 (tab_below htab hi.mem.below rfl)) ?_
    refine At.to (noF_stable) (noF_fewer) 20 300 [20, 21, 24, 26] 0 ⟨pops B15 [1, 1, 1, 0, 1, 4, 4, 1, 1, 0, 4, 1] 3, [.block 1, .seq (sub B15 [1, 1, 1, 0, 1, 4, 4, 1, 1, 1]), .rounds (sub B15 [1, 1, 1, 0, 1, 4, 4]) 19, .block 0, .seq (sub B15 [1, 1, 1, 1])], [(20, .agg [.io .i64 st, .io .i64 en, .io .i64 nt, .io .i64 ct, .io .i64 sm, .io .i64 mn, .io .i64 mx]), (21, .v (.int .i64 0)), (24, .so (mkB t1)), (26, .so (mkB (Lib.itoa st)))], []⟩ (by kernel_rfl) (by kernel_rfl) ?_
    refine catW [32] (Lib.itoa st) 1 21 (by kernel_rfl) (by decide) hl0 (by decide) noF_stable fun t2 ht2 hn2 => ?_
    refine At.to (noF_stable) (noF_fewer) 20 300 [20, 21, 24, 27] 0 ⟨pops B15 [1, 1, 1, 0, 1, 4, 4, 1, 1, 0, 4, 1] 4, [.block 1, .seq (sub B15 [1, 1, 1, 0, 1, 4, 4, 1, 1, 1]), .rounds (sub B15 [1, 1, 1, 0, 1, 4, 4]) 19, .block 0, .seq (sub B15 [1, 1, 1, 1])], [(20, .agg [.io .i64 st, .io .i64 en, .io .i64 nt, .io .i64 ct, .io .i64 sm, .io .i64 mn, .io .i64 mx]), (21, .v (.int .i64 0)), (24, .so (mkB t1)), (27, .so (mkB t2))], []⟩ (by kernel_rfl) (by kernel_rfl) ?_
    refine catW t1 t2 1033 22 (by kernel_rfl) hn1 hn2 (by decide) noF_stable fun t3 ht3 hn3 => ?_
    refine At.to (noF_stable) (noF_fewer) 20 300 [20, 21, 24, 25] 0 ⟨pops B15 [1, 1, 1, 0, 1, 4, 4, 1, 1, 0, 4, 1] 2, [.block 1, .seq (sub B15 [1, 1, 1, 0, 1, 4, 4, 1, 1, 1]), .rounds (sub B15 [1, 1, 1, 0, 1, 4, 4]) 18, .block 0, .seq (sub B15 [1, 1, 1, 1])], [(20, .agg [.io .i64 st, .io .i64 en, .io .i64 nt, .io .i64 ct, .io .i64 sm, .io .i64 mn, .io .i64 mx]), (21, .v (.int .i64 1)), (24, .so (mkB t3)), (25, .io .i64 en)], []⟩ (by kernel_rfl) (by kernel_rfl) ?_
    refine At.call noF_stable 32 [.io .i64 en, .v (.int .i64 10)] (.so (mkB (Lib.itoa en))) (by kernel_rfl) (by kernel_rfl) (by kernel_rfl) (fun _ _ w1 hi _ => fmt_any _ i2 w1 (tab_below htab hi.mem.below rfl)) ?_
    refine At.to (noF_stable) (noF_fewer) 20 300 [20, 21, 24, 26] 0 ⟨pops B15 [1, 1, 1, 0, 1, 4, 4, 1, 1, 0, 4, 1] 3, [.block 1, .seq (sub B15 [1, 1, 1, 0, 1, 4, 4, 1, 1, 1]), .rounds (sub B15 [1, 1, 1, 0, 1, 4, 4]) 18, .block 0, .seq (sub B15 [1, 1, 1, 1])], [(20, .agg [.io .i64 st, .io .i64 en, .io .i64 nt, .io .i64 ct, .io .i64 sm, .io .i64 mn, .io .i64 mx]), (21, .v (.int .i64 1)), (24, .so (mkB t3)), (26, .so (mkB (Lib.itoa en)))], []⟩ (by kernel_rfl) (by kernel_rfl) ?_
    refine catW [32] (Lib.itoa en) 1 21 (by kernel_rfl) (by decide) hl1 (by decide) noF_stable fun t4 ht4 hn4 => ?_
    refine At.to (noF_stable) (noF_fewer) 20 300 [20, 21, 24, 27] 0 ⟨pops B15 [1, 1, 1, 0, 1, 4, 4, 1, 1, 0, 4, 1] 4, [.block 1, .seq (sub B15 [1, 1, 1, 0, 1, 4, 4, 1, 1, 1]), .rounds (sub B15 [1, 1, 1, 0, 1, 4, 4]) 18, .block 0, .seq (sub B15 [1, 1, 1, 1])], [(20, .agg [.io .i64 st, .io .i64 en, .io .i64 nt, .io .i64 ct, .io .i64 sm, .io .i64 mn, .io .i64 mx]), (21, .v (.int .i64 1)), (24, .so (mkB t3)), (27, .so (mkB t4))], []⟩ (by kernel_rfl) (by kernel_rfl) ?_
    refine catW t3 t4 1055 22 (by kernel_rfl) hn3 hn4 (by decide) noF_stable fun t5 ht5 hn5 => ?_
    refine At.to (noF_stable) (noF_fewer) 20 300 [20, 21, 24, 25] 0 ⟨pops B15 [1, 1, 1, 0, 1, 4, 4, 1, 1, 0, 4, 1] 2, [.block 1, .seq (sub B15 [1, 1, 1, 0, 1, 4, 4, 1, 1, 1]), .rounds (sub B15 [1, 1, 1, 0, 1, 4, 4]) 17, .block 0, .seq (sub B15 [1, 1, 1, 1])], [(20, .agg [.io .i64 st, .io .i64 en, .io .i64 nt, .io .i64 ct, .io .i64 sm, .io .i64 mn, .io .i64 mx]), (21, .v (.int .i64 2)), (24, .so (mkB t5)), (25, .io .i64 nt)], []⟩ (by kernel_rfl) (by kernel_rfl) ?_
    refine At.call noF_stable 32 [.io .i64 nt, .v (.int .i64 10)] (.so (mkB (Lib.itoa nt))) (by kernel_rfl) (by kernel_rfl) (by kernel_rfl) (fun _ _ w1 hi _ => fmt_any _ i3 w1 (tab_below htab hi.mem.below rfl)) ?_
    refine At.to (noF_stable) (noF_fewer) 20 300 [20, 21, 24, 26] 0 ⟨pops B15 [1, 1, 1, 0, 1, 4, 4, 1, 1, 0, 4, 1] 3, [.block 1, .seq (sub B15 [1, 1, 1, 0, 1, 4, 4, 1, 1, 1]), .rounds (sub B15 [1, 1, 1, 0, 1, 4, 4]) 17, .block 0, .seq (sub B15 [1, 1, 1, 1])], [(20, .agg [.io .i64 st, .io .i64 en, .io .i64 nt, .io .i64 ct, .io .i64 sm, .io .i64 mn, .io .i64 mx]), (21, .v (.int .i64 2)), (24, .so (mkB t5)), (26, .so (mkB (Lib.itoa nt)))], []⟩ (by kernel_rfl) (by kernel_rfl) ?_
    refine catW [32] (Lib.itoa nt) 1 21 (by kernel_rfl) (by decide) hl2 (by decide) noF_stable fun t6 ht6 hn6 => ?_
    refine At.to (noF_stable) (noF_fewer) 20 300 [20, 21, 24, 27] 0 ⟨pops B15 [1, 1, 1, 0, 1, 4, 4, 1, 1, 0, 4, 1] 4, [.block 1, .seq (sub B15 [1, 1, 1, 0, 1, 4, 4, 1, 1, 1]), .rounds (sub B15 [1, 1, 1, 0, 1, 4, 4]) 17, .block 0, .seq (sub B15 [1, 1, 1, 1])], [(20, .agg [.io .i64 st, .io .i64 en, .io .i64 nt, .io .i64 ct, .io .i64 sm, .io .i64 mn, .io .i64 mx]), (21, .v (.int .i64 2)), (24, .so (mkB t5)), (27, .so (mkB t6))], []⟩ (by kernel_rfl) (by kernel_rfl) ?_
    refine catW t5 t6 1077 22 (by kernel_rfl) hn5 hn6 (by decide) noF_stable fun t7 ht7 hn7 => ?_
    refine At.to (noF_stable) (noF_fewer) 20 300 [20, 21, 24, 25] 0 ⟨pops B15 [1, 1, 1, 0, 1, 4, 4, 1, 1, 0, 4, 1] 2, [.block 1, .seq (sub B15 [1, 1, 1, 0, 1, 4, 4, 1, 1, 1]), .rounds (sub B15 [1, 1, 1, 0, 1, 4, 4]) 16, .block 0, .seq (sub B15 [1, 1, 1, 1])], [(20, .agg [.io .i64 st, .io .i64 en, .io .i64 nt, .io .i64 ct, .io .i64 sm, .io .i64 mn, .io .i64 mx]), (21, .v (.int .i64 3)), (24, .so (mkB t7)), (25, .io .i64 ct)], []⟩ (by kernel_rfl) (by kernel_rfl) ?_
    refine At.call noF_stable 32 [.io .i64 ct, .v (.int .i64 10)] (.so (mkB (Lib.itoa ct))) (by kernel_rfl) (by kernel_rfl) (by kernel_rfl) (fun _ _ w1 hi _ => fmt_any _ i4 w1 (tab_below htab hi.mem.below rfl)) ?_
    refine At.to (noF_stable) (noF_fewer) 20 300 [20, 21, 24, 26] 0 ⟨pops B15 [1, 1, 1, 0, 1, 4, 4, 1, 1, 0, 4, 1] 3, [.block 1, .seq (sub B15 [1, 1, 1, 0, 1, 4, 4, 1, 1, 1]), .rounds (sub B15 [1, 1, 1, 0, 1, 4, 4]) 16, .block 0, .seq (sub B15 [1, 1, 1, 1])], [(20, .agg [.io .i64 st, .io .i64 en, .io .i64 nt, .io .i64 ct, .io .i64 sm, .io .i64 mn, .io .i64 mx]), (21, .v (.int .i64 3)), (24, .so (mkB t7)), (26, .so (mkB (Lib.itoa ct)))], []⟩ (by kernel_rfl) (by kernel_rfl) ?_
    refine catW [32] (Lib.itoa ct) 1 21 (by kernel_rfl) (by decide) hl3 (by decide) noF_stable fun t8 ht8 hn8 => ?_
    refine At.to (noF_stable) (noF_fewer) 20 300 [20, 21, 24, 27] 0 ⟨pops B15 [1, 1, 1, 0, 1, 4, 4, 1, 1, 0, 4, 1] 4, [.block 1, .seq (sub B15 [1, 1, 1, 0, 1, 4, 4, 1, 1, 1]), .rounds (sub B15 [1, 1, 1, 0, 1, 4, 4]) 16, .block 0, .seq (sub B15 [1, 1, 1, 1])], [(20, .agg [.io .i64 st, .io .i64 en, .io .i64 nt, .io .i64 ct, .io .i64 sm, .io .i64 mn, .io .i64 mx]), (21, .v (.int .i64 3)), (24, .so (mkB t7)), (27, .so (mkB t8))], []⟩ (by kernel_rfl) (by kernel_rfl) ?_
    refine catW t7 t8 1099 22 (by kernel_rfl) hn7 hn8 (by decide) noF_stable fun t9 ht9 hn9 => ?_
    refine At.to (noF_stable) (noF_fewer) 20 300 [20, 21, 24, 25] 0 ⟨pops B15 [1, 1, 1, 0, 1, 4, 4, 1, 1, 0, 4, 1] 2, [.block 1, .seq (sub B15 [1, 1, 1, 0, 1, 4, 4, 1, 1, 1]), .rounds (sub B15 [1, 1, 1, 0, 1, 4, 4]) 15, .block 0, .seq (sub B15 [1, 1, 1, 1])], [(20, .agg [.io .i64 st, .io .i64 en, .io .i64 nt, .io .i64 ct, .io .i64 sm, .io .i64 mn, .io .i64 mx]), (21, .v (.int .i64 4)), (24, .so (mkB t9)), (25, .io .i64 sm)], []⟩ (by kernel_rfl) (by kernel_rfl) ?_
    refine At.call noF_stable 32 [.io .i64 sm, .v (.int .i64 10)] (.so (mkB (Lib.itoa sm))) (by kernel_rfl) (by kernel_rfl) (by kernel_rfl) (fun _ _ w1 hi _ => fmt_any _ i5 w1 (tab_below htab hi.mem.below rfl)) ?_
    refine At.to (noF_stable) (noF_fewer) 20 300 [20, 21, 24, 26] 0 ⟨pops B15 [1, 1, 1, 0, 1, 4, 4, 1, 1, 0, 4, 1] 3, [.block 1, .seq (sub B15 [1, 1, 1, 0, 1, 4, 4, 1, 1, 1]), .rounds (sub B15 [1, 1, 1, 0, 1, 4, 4]) 15, .block 0, .seq (sub B15 [1, 1, 1, 1])], [(20, .agg [.io .i64 st, .io .i64 en, .io .i64 nt, .io .i64 ct, .io .i64 sm, .io .i64 mn, .io .i64 mx]), (21, .v (.int .i64 4)), (24, .so (mkB t9)), (26, .so (mkB (Lib.itoa sm)))], []⟩ (by kernel_rfl) (by kernel_rfl) ?_
    refine catW [32] (Lib.itoa sm) 1 21 (by kernel_rfl) (by decide) hl4 (by decide) noF_stable fun t10 ht10 hn10 => ?_
    refine At.to (noF_stable) (noF_fewer) 20 300 [20, 21, 24, 27] 0 ⟨pops B15 [1, 1, 1, 0, 1, 4, 4, 1, 1, 0, 4, 1] 4, [.block 1, .seq (sub B15 [1, 1, 1, 0, 1, 4, 4, 1, 1, 1]), .rounds (sub B15 [1, 1, 1, 0, 1, 4, 4]) 15, .block 0, .seq (sub B15 [1, 1, 1, 1])], [(20, .agg [.io .i64 st, .io .i64 en, .io .i64 nt, .io .i64 ct, .io .i64 sm, .io .i64 mn, .io .i64 mx]), (21, .v (.int .i64 4)), (24, .so (mkB t9)), (27, .so (mkB t10))], []⟩ (by kernel_rfl) (by kernel_rfl) ?_
    refine catW t9 t10 1121 22 (by kernel_rfl) hn9 hn10 (by decide) noF_stable fun t11 ht11 hn11 => ?_
    refine At.to (noF_stable) (noF_fewer) 20 300 [20, 21, 24, 25] 0 ⟨pops B15 [1, 1, 1, 0, 1, 4, 4, 1, 1, 0, 4, 1] 2, [.block 1, .seq (sub B15 [1, 1, 1, 0, 1, 4, 4, 1, 1, 1]), .rounds (sub B15 [1, 1, 1, 0, 1, 4, 4]) 14, .block 0, .seq (sub B15 [1, 1, 1, 1])], [(20, .agg [.io .i64 st, .io .i64 en, .io .i64 nt, .io .i64 ct, .io .i64 sm, .io .i64 mn, .io .i64 mx]), (21, .v (.int .i64 5)), (24, .so (mkB t11)), (25, .io .i64 mn)], []⟩ (by kernel_rfl) (by kernel_rfl) ?_
    refine At.call noF_stable 32 [.io .i64 mn, .v (.int .i64 10)] (.so (mkB (Lib.itoa mn))) (by kernel_rfl) (by kernel_rfl) (by kernel_rfl) (fun _ _ w1 hi _ => fmt_any _ i6 w1 (tab_below htab hi.mem.below rfl)) ?_
    refine At.to (noF_stable) (noF_fewer) 20 300 [20, 21, 24, 26] 0 ⟨pops B15 [1, 1, 1, 0, 1, 4, 4, 1, 1, 0, 4, 1] 3, [.block 1, .seq (sub B15 [1, 1, 1, 0, 1, 4, 4, 1, 1, 1]), .rounds (sub B15 [1, 1, 1, 0, 1, 4, 4]) 14, .block 0, .seq (sub B15 [1, 1, 1, 1])], [(20, .agg [.io .i64 st, .io .i64 en, .io .i64 nt, .io .i64 ct, .io .i64 sm, .io .i64 mn, .io .i64 mx]), (21, .v (.int .i64 5)), (24, .so (mkB t11)), (26, .so (mkB (Lib.itoa mn)))], []⟩ (by kernel_rfl) (by kernel_rfl) ?_
    refine catW [32] (Lib.itoa mn) 1 21 (by kernel_rfl) (by decide) hl5 (by decide) noF_stable fun t12 ht12 hn12 => ?_
    refine At.to (noF_stable) (noF_fewer) 20 300 [20, 21, 24, 27] 0 ⟨pops B15 [1, 1, 1, 0, 1, 4, 4, 1, 1, 0, 4, 1] 4, [.block 1, .seq (sub B15 [1, 1, 1, 0, 1, 4, 4, 1, 1, 1]), .rounds (sub B15 [1, 1, 1, 0, 1, 4, 4]) 14, .block 0, .seq (sub B15 [1, 1, 1, 1])], [(20, .agg [.io .i64 st, .io .i64 en, .io .i64 nt, .io .i64 ct, .io .i64 sm, .io .i64 mn, .io .i64 mx]), (21, .v (.int .i64 5)), (24, .so (mkB t11)), (27, .so (mkB t12))], []⟩ (by kernel_rfl) (by kernel_rfl) ?_
    refine catW t11 t12 1143 22 (by kernel_rfl) hn11 hn12 (by decide) noF_stable fun t13 ht13 hn13 => ?_
    refine At.to (noF_stable) (noF_fewer) 20 300 [20, 21, 24, 25] 0 ⟨pops B15 [1, 1, 1, 0, 1, 4, 4, 1, 1, 0, 4, 1] 2, [.block 1, .seq (sub B15 [1, 1, 1, 0, 1, 4, 4, 1, 1, 1]), .rounds (sub B15 [1, 1, 1, 0, 1, 4, 4]) 13, .block 0, .seq (sub B15 [1, 1, 1, 1])], [(20, .agg [.io .i64 st, .io .i64 en, .io .i64 nt, .io .i64 ct, .io .i64 sm, .io .i64 mn, .io .i64 mx]), (21, .v (.int .i64 6)), (24, .so (mkB t13)), (25, .io .i64 mx)], []⟩ (by kernel_rfl) (by kernel_rfl) ?_
    refine At.call noF_stable 32 [.io .i64 mx, .v (.int .i64 10)] (.so (mkB (Lib.itoa mx))) (by kernel_rfl) (by kernel_rfl) (by kernel_rfl) (fun _ _ w1 hi _ => fmt_any _ i7 w1 (tab_below htab hi.mem.below rfl)) ?_
    refine At.to (noF_stable) (noF_fewer) 20 300 [20, 21, 24, 26] 0 ⟨pops B15 [1, 1, 1, 0, 1, 4, 4, 1, 1, 0, 4, 1] 3, [.block 1, .seq (sub B15 [1, 1, 1, 0, 1, 4, 4, 1, 1, 1]), .rounds (sub B15 [1, 1, 1, 0, 1, 4, 4]) 13, .block 0, .seq (sub B15 [1, 1, 1, 1])], [(20, .agg [.io .i64 st, .io .i64 en, .io .i64 nt, .io .i64 ct, .io .i64 sm, .io .i64 mn, .io .i64 mx]), (21, .v (.int .i64 6)), (24, .so (mkB t13)), (26, .so (mkB (Lib.itoa mx)))], []⟩ (by kernel_rfl) (by kernel_rfl) ?_
    refine catW [32] (Lib.itoa mx) 1 21 (by kernel_rfl) (by decide) hl6 (by decide) noF_stable fun t14 ht14 hn14 => ?_
    refine At.to (noF_stable) (noF_fewer) 20 300 [20, 21, 24, 27] 0 ⟨pops B15 [1, 1, 1, 0, 1, 4, 4, 1, 1, 0, 4, 1] 4, [.block 1, .seq (sub B15 [1, 1, 1, 0, 1, 4, 4, 1, 1, 1]), .rounds (sub B15 [1, 1, 1, 0, 1, 4, 4]) 13, .block 0, .seq (sub B15 [1, 1, 1, 1])], [(20, .agg [.io .i64 st, .io .i64 en, .io .i64 nt, .io .i64 ct, .io .i64 sm, .io .i64 mn, .io .i64 mx]), (21, .v (.int .i64 6)), (24, .so (mkB t13)), (27, .so (mkB t14))], []⟩ (by kernel_rfl) (by kernel_rfl) ?_
    refine catW t13 t14 1165 22 (by kernel_rfl) hn13 hn14 (by decide) noF_stable fun t15 ht15 hn15 => ?_
    refine At.to (noF_stable) (noF_fewer) 20 300 [2, 3] 0 ⟨.exit .ret, [], [(2, .so (mkB t15)), (3, .v (.int .i64 0))], []⟩ (by kernel_rfl) (by kernel_rfl) ?_
    refine At.ret (by kernel_rfl) (.tup [.so (mkB t15), .v (.int .i64 0)]) (by kernel_rfl) ?_
    intro ρ w9 hm hf
    refine ⟨?_, hm.below⟩
    have e : t15 = lineB k st en 2 nt ct sm mn mx := by
      subst_vars
      simp only [lineB, List.flatMap_cons, List.flatMap_nil, List.append_assoc, List.nil_append, List.cons_append, List.append_nil]
      rfl
    rw [← e]
    rfl
  · refine enter (fn := Tryd.f15) (c := B15) [.agg [.so (mkB k), .io .i64 st, .io .i64 en, .v (.int .i64 3), .io .i64 nt, .io .i64 ct, .io .i64 sm, .io .i64 mn, .io .i64 mx]] Tryd.func15 rfl rfl ?_
    refine At.to (noF_stable) (noF_fewer) 20 300 [1, 7] 1 ⟨pops B15 [1, 0, 0] 1, [.seq (sub B15 [1, 0, 1]), .seq (sub B15 [1, 1])], [(1, .lp 0 0), (7, .agg [.so (mkB k), .io .i64 st, .io .i64 en, .v (.int .i64 3), .io .i64 nt, .io .i64 ct, .io .i64 sm, .io .i64 mn, .io .i64 mx])], [([.so (mkB k), .io .i64 st, .io .i64 en, .v (.int .i64 3), .io .i64 nt, .io .i64 ct, .io .i64 sm, .io .i64 mn, .io .i64 mx], 29)]⟩ (by kernel_rfl) (by kernel_rfl) ?_
    refine At.call noF_stable 33 [.agg [.so (mkB k), .io .i64 st, .io .i64 en, .v (.int .i64 3), .io .i64 nt, .io .i64 ct, .io .i64 sm, .io .i64 mn, .io .i64 mx]] (.v (.bool true)) (by kernel_rfl) (by kernel_rfl) (by kernel_rfl) (fun _ _ w1 hi _ => (may_any (mkB k) st en _ nt ct sm mn mx w1).mono fun e w2 h => ⟨h.1.trans (by rw [show mayP (mkB k) _ = true from by simp only [mayP, mkB_size, Bool.and_eq_true, decide_eq_true_eq]; omega]; rfl), h.2⟩) ?_
    refine At.to (noF_stable) (noF_fewer) 20 300 [1, 11] 1 ⟨pqops B15 [1, 1, 0] 2, [.seq (sub B15 [1, 1, 1])], [(1, .lp 0 0), (11, .so (mkB k))], [([.so (mkB k), .io .i64 st, .io .i64 en, .v (.int .i64 3), .io .i64 nt, .io .i64 ct, .io .i64 sm, .io .i64 mn, .io .i64 mx], 29)]⟩ (by kernel_rfl) (by kernel_rfl) ?_
    refine At.call noF_stable 40 [.so (mkB k)] (.so (mkB (quoteB k))) (by kernel_rfl) (by kernel_rfl) (by kernel_rfl) (fun _ _ w1 hi _ => quote_any k (by omega) w1) ?_
    refine At.to (noF_stable) (noF_fewer) 20 300 [1, 12] 1 ⟨pqops B15 [1, 1, 0] 3, [.seq (sub B15 [1, 1, 1])], [(1, .lp 0 0), (12, .so (mkB (quoteB k)))], [([.so (mkB k), .io .i64 st, .io .i64 en, .v (.int .i64 3), .io .i64 nt, .io .i64 ct, .io .i64 sm, .io .i64 mn, .io .i64 mx], 29)]⟩ (by kernel_rfl) (by kernel_rfl) ?_
    refine catW (quoteB k) [32] 1026 1 (by kernel_rfl) hlq (by decide) (by decide) noF_stable fun t0 ht0 hn0 => ?_
    refine At.to (noF_stable) (noF_fewer) 20 300 [1, 13] 1 ⟨pqops B15 [1, 1, 0] 4, [.seq (sub B15 [1, 1, 1])], [(1, .lp 0 0), (13, .so (mkB t0))], [([.so (mkB k), .io .i64 st, .io .i64 en, .v (.int .i64 3), .io .i64 nt, .io .i64 ct, .io .i64 sm, .io .i64 mn, .io .i64 mx], 29)]⟩ (by kernel_rfl) (by kernel_rfl) ?_
    refine At.call noF_stable 30 [] (.agg [.v (.string ⟨#[]⟩), .v (.string ⟨#[101, 97, 114, 108, 121]⟩), .v (.string ⟨#[111, 110, 116, 105, 109, 101]⟩), .v (.string ⟨#[108, 97, 116, 101]⟩)]) (by kernel_rfl) (by kernel_rfl) (by kernel_rfl) (fun _ _ w1 hi _ => names_any w1) ?_
    refine At.to (noF_stable) (noF_fewer) 20 300 [1, 13, 17] 1 ⟨pqops B15 [1, 1, 0] 8, [.seq (sub B15 [1, 1, 1])], [(1, .lp 0 0), (13, .so (mkB t0)), (17, .v (.string (ByteArray.mk #[108, 97, 116, 101])))], [([.so (mkB k), .io .i64 st, .io .i64 en, .v (.int .i64 3), .io .i64 nt, .io .i64 ct, .io .i64 sm, .io .i64 mn, .io .i64 mx], 29)]⟩ (by kernel_rfl) (by kernel_rfl) ?_
    refine catW t0 [108, 97, 116, 101] 1027 4 (by kernel_rfl) hn0 (by decide) (by decide) noF_stable fun t1 ht1 hn1 => ?_
    refine At.to (noF_stable) (noF_fewer) 20 300 [4, 19] 0 ⟨pops B15 [1, 1, 1, 0, 0] 1, [.seq (sub B15 [1, 1, 1, 0, 1]), .seq (sub B15 [1, 1, 1, 1])], [(4, .so (mkB t1)), (19, .agg [.so (mkB k), .io .i64 st, .io .i64 en, .v (.int .i64 3), .io .i64 nt, .io .i64 ct, .io .i64 sm, .io .i64 mn, .io .i64 mx])], []⟩ (by kernel_rfl) (by kernel_rfl) ?_
    refine At.call noF_stable 41 [.agg [.so (mkB k), .io .i64 st, .io .i64 en, .v (.int .i64 3), .io .i64 nt, .io .i64 ct, .io .i64 sm, .io .i64 mn, .io .i64 mx]] (.agg [.io .i64 st, .io .i64 en, .io .i64 nt, .io .i64 ct, .io .i64 sm, .io .i64 mn, .io .i64 mx]) (by kernel_rfl) (by kernel_rfl) (by kernel_rfl) (fun _ _ w1 hi _ => numbers_any (mkB k) st en _ nt ct sm mn mx w1) ?_
    refine At.to (noF_stable) (noF_fewer) 20 300 [20, 21, 24, 25] 0 ⟨pops B15 [1, 1, 1, 0, 1, 4, 4, 1, 1, 0, 4, 1] 2, [.block 1, .seq (sub B15 [1, 1, 1, 0, 1, 4, 4, 1, 1, 1]), .rounds (sub B15 [1, 1, 1, 0, 1, 4, 4]) 19, .block 0, .seq (sub B15 [1, 1, 1, 1])], [(20, .agg [.io .i64 st, .io .i64 en, .io .i64 nt, .io .i64 ct, .io .i64 sm, .io .i64 mn, .io .i64 mx]), (21, .v (.int .i64 0)), (24, .so (mkB t1)), (25, .io .i64 st)], []⟩ (by kernel_rfl) (by kernel_rfl) ?_
    refine At.call noF_stable 32 [.io .i64 st, .v (.int .i64 10)] (.so (mkB (Lib.itoa st))) (by kernel_rfl) (by kernel_rfl) (by kernel_rfl) (fun _ _ w1 hi _ => fmt_any _ i1 w1 (tab_below htab hi.mem.below rfl)) ?_
    refine At.to (noF_stable) (noF_fewer) 20 300 [20, 21, 24, 26] 0 ⟨pops B15 [1, 1, 1, 0, 1, 4, 4, 1, 1, 0, 4, 1] 3, [.block 1, .seq (sub B15 [1, 1, 1, 0, 1, 4, 4, 1, 1, 1]), .rounds (sub B15 [1, 1, 1, 0, 1, 4, 4]) 19, .block 0, .seq (sub B15 [1, 1, 1, 1])], [(20, .agg [.io .i64 st, .io .i64 en, .io .i64 nt, .io .i64 ct, .io .i64 sm, .io .i64 mn, .io .i64 mx]), (21, .v (.int .i64 0)), (24, .so (mkB t1)), (26, .so (mkB (Lib.itoa st)))], []⟩ (by kernel_rfl) (by kernel_rfl) ?_
    refine catW [32] (Lib.itoa st) 1 21 (by kernel_rfl) (by decide) hl0 (by decide) noF_stable fun t2 ht2 hn2 => ?_
    refine At.to (noF_stable) (noF_fewer) 20 300 [20, 21, 24, 27] 0 ⟨pops B15 [1, 1, 1, 0, 1, 4, 4, 1, 1, 0, 4, 1] 4, [.block 1, .seq (sub B15 [1, 1, 1, 0, 1, 4, 4, 1, 1, 1]), .rounds (sub B15 [1, 1, 1, 0, 1, 4, 4]) 19, .block 0, .seq (sub B15 [1, 1, 1, 1])], [(20, .agg [.io .i64 st, .io .i64 en, .io .i64 nt, .io .i64 ct, .io .i64 sm, .io .i64 mn, .io .i64 mx]), (21, .v (.int .i64 0)), (24, .so (mkB t1)), (27, .so (mkB t2))], []⟩ (by kernel_rfl) (by kernel_rfl) ?_
    refine catW t1 t2 1031 22 (by kernel_rfl) hn1 hn2 (by decide) noF_stable fun t3 ht3 hn3 => ?_
    refine At.to (noF_stable) (noF_fewer) 20 300 [20, 21, 24, 25] 0 ⟨pops B15 [1, 1, 1, 0, 1, 4, 4, 1, 1, 0, 4, 1] 2, [.block 1, .seq (sub B15 [1, 1, 1, 0, 1, 4, 4, 1, 1, 1]), .rounds (sub B15 [1, 1, 1, 0, 1, 4, 4]) 18, .block 0, .seq (sub B15 [1, 1, 1, 1])], [(20, .agg [.io .i64 st, .io .i64 en, .io .i64 nt, .io .i64 ct, .io .i64 sm, .io .i64 mn, .io .i64 mx]), (21, .v (.int .i64 1)), (24, .so (mkB t3)), (25, .io .i64 en)], []⟩ (by kernel_rfl) (by kernel_rfl) ?_
    refine At.call noF_stable 32 [.io .i64 en, .v (.int .i64 10)] (.so (mkB (Lib.itoa en))) (by kernel_rfl) (by kernel_rfl) (by kernel_rfl) (fun _ _ w1 hi _ => fmt_any _ i2 w1 (tab_below htab hi.mem.below rfl)) ?_
    refine At.to (noF_stable) (noF_fewer) 20 300 [20, 21, 24, 26] 0 ⟨pops B15 [1, 1, 1, 0, 1, 4, 4, 1, 1, 0, 4, 1] 3, [.block 1, .seq (sub B15 [1, 1, 1, 0, 1, 4, 4, 1, 1, 1]), .rounds (sub B15 [1, 1, 1, 0, 1, 4, 4]) 18, .block 0, .seq (sub B15 [1, 1, 1, 1])], [(20, .agg [.io .i64 st, .io .i64 en, .io .i64 nt, .io .i64 ct, .io .i64 sm, .io .i64 mn, .io .i64 mx]), (21, .v (.int .i64 1)), (24, .so (mkB t3)), (26, .so (mkB (Lib.itoa en)))], []⟩ (by kernel_rfl) (by kernel_rfl) ?_
    refine catW [32] (Lib.itoa en) 1 21 (by kernel_rfl) (by decide) hl1 (by decide) noF_stable fun t4 ht4 hn4 => ?_
    refine At.to (noF_stable) (noF_fewer) 20 300 [20, 21, 24, 27] 0 ⟨pops B15 [1, 1, 1, 0, 1, 4, 4, 1, 1, 0, 4, 1] 4, [.block 1, .seq (sub B15 [1, 1, 1, 0, 1, 4, 4, 1, 1, 1]), .rounds (sub B15 [1, 1, 1, 0, 1, 4, 4]) 18, .block 0, .seq (sub B15 [1, 1, 1, 1])], [(20, .agg [.io .i64 st, .io .i64 en, .io .i64 nt, .io .i64 ct, .io .i64 sm, .io .i64 mn, .io .i64 mx]), (21, .v (.int .i64 1)), (24, .so (mkB t3)), (27, .so (mkB t4))], []⟩ (by kernel_rfl) (by kernel_rfl) ?_
    refine catW t3 t4 1053 22 (by kernel_rfl) hn3 hn4 (by decide) noF_stable fun t5 ht5 hn5 => ?_
    refine At.to (noF_stable) (noF_fewer) 20 300 [20, 21, 24, 25] 0 ⟨pops B15 [1, 1, 1, 0, 1, 4, 4, 1, 1, 0, 4, 1] 2, [.block 1, .seq (sub B15 [1, 1, 1, 0, 1, 4, 4, 1, 1, 1]), .rounds (sub B15 [1, 1, 1, 0, 1, 4, 4]) 17, .block 0, .seq (sub B15 [1, 1, 1, 1])], [(20, .agg [.io .i64 st, .io .i64 en, .io .i64 nt, .io .i64 ct, .io .i64 sm, .io .i64 mn, .io .i64 mx]), (21, .v (.int .i64 2)), (24, .so (mkB t5)), (25, .io .i64 nt)], []⟩ (by kernel_rfl) (by kernel_rfl) ?_
    refine At.call noF_stable 32 [.io .i64 nt, .v (.int .i64 10)] (.so (mkB (Lib.itoa nt))) (by kernel_rfl) (by kernel_rfl) (by kernel_rfl) (fun _ _ w1 hi _ => fmt_any _ i3 w1 (tab_below htab hi.mem.below rfl)) ?_
    refine At.to (noF_stable) (noF_fewer) 20 300 [20, 21, 24, 26] 0 ⟨pops B15 [1, 1, 1, 0, 1, 4, 4, 1, 1, 0, 4, 1] 3, [.block 1, .seq (sub B15 [1, 1, 1, 0, 1, 4, 4, 1, 1, 1]), .rounds (sub B15 [1, 1, 1, 0, 1, 4, 4]) 17, .block 0, .seq (sub B15 [1, 1, 1, 1])], [(20, .agg [.io .i64 st, .io .i64 en, .io .i64 nt, .io .i64 ct, .io .i64 sm, .io .i64 mn, .io .i64 mx]), (21, .v (.int .i64 2)), (24, .so (mkB t5)), (26, .so (mkB (Lib.itoa nt)))], []⟩ (by kernel_rfl) (by kernel_rfl) ?_
    refine catW [32] (Lib.itoa nt) 1 21 (by kernel_rfl) (by decide) hl2 (by decide) noF_stable fun t6 ht6 hn6 => ?_
    refine At.to (noF_stable) (noF_fewer) 20 300 [20, 21, 24, 27] 0 ⟨pops B15 [1, 1, 1, 0, 1, 4, 4, 1, 1, 0, 4, 1] 4, [.block 1, .seq (sub B15 [1, 1, 1, 0, 1, 4, 4, 1, 1, 1]), .rounds (sub B15 [1, 1, 1, 0, 1, 4, 4]) 17, .block 0, .seq (sub B15 [1, 1, 1, 1])], [(20, .agg [.io .i64 st, .io .i64 en, .io .i64 nt, .io .i64 ct, .io .i64 sm, .io .i64 mn, .io .i64 mx]), (21, .v (.int .i64 2)), (24, .so (mkB t5)), (27, .so (mkB t6))], []⟩ (by kernel_rfl) (by kernel_rfl) ?_
    refine catW t5 t6 1075 22 (by kernel_rfl) hn5 hn6 (by decide) noF_stable fun t7 ht7 hn7 => ?_
    refine At.to (noF_stable) (noF_fewer) 20 300 [20, 21, 24, 25] 0 ⟨pops B15 [1, 1, 1, 0, 1, 4, 4, 1, 1, 0, 4, 1] 2, [.block 1, .seq (sub B15 [1, 1, 1, 0, 1, 4, 4, 1, 1, 1]), .rounds (sub B15 [1, 1, 1, 0, 1, 4, 4]) 16, .block 0, .seq (sub B15 [1, 1, 1, 1])], [(20, .agg [.io .i64 st, .io .i64 en, .io .i64 nt, .io .i64 ct, .io .i64 sm, .io .i64 mn, .io .i64 mx]), (21, .v (.int .i64 3)), (24, .so (mkB t7)), (25, .io .i64 ct)], []⟩ (by kernel_rfl) (by kernel_rfl) ?_
    refine At.call noF_stable 32 [.io .i64 ct, .v (.int .i64 10)] (.so (mkB (Lib.itoa ct))) (by kernel_rfl) (by kernel_rfl) (by kernel_rfl) (fun _ _ w1 hi _ => fmt_any _ i4 w1 (tab_below htab hi.mem.below rfl)) ?_
    refine At.to (noF_stable) (noF_fewer) 20 300 [20, 21, 24, 26] 0 ⟨pops B15 [1, 1, 1, 0, 1, 4, 4, 1, 1, 0, 4, 1] 3, [.block 1, .seq (sub B15 [1, 1, 1, 0, 1, 4, 4, 1, 1, 1]), .rounds (sub B15 [1, 1, 1, 0, 1, 4, 4]) 16, .block 0, .seq (sub B15 [1, 1, 1, 1])], [(20, .agg [.io .i64 st, .io .i64 en, .io .i64 nt, .io .i64 ct, .io .i64 sm, .io .i64 mn, .io .i64 mx]), (21, .v (.int .i64 3)), (24, .so (mkB t7)), (26, .so (mkB (Lib.itoa ct)))], []⟩ (by kernel_rfl) (by kernel_rfl) ?_
    refine catW [32] (Lib.itoa ct) 1 21 (by kernel_rfl) (by decide) hl3 (by decide) noF_stable fun t8 ht8 hn8 => ?_
    refine At.to (noF_stable) (noF_fewer) 20 300 [20, 21, 24, 27] 0 ⟨pops B15 [1, 1, 1, 0, 1, 4, 4, 1, 1, 0, 4, 1] 4, [.block 1, .seq (sub B15 [1, 1, 1, 0, 1, 4, 4, 1, 1, 1]), .rounds (sub B15 [1, 1, 1, 0, 1, 4, 4]) 16, .block 0, .seq (sub B15 [1, 1, 1, 1])], [(20, .agg [.io .i64 st, .io .i64 en, .io .i64 nt, .io .i64 ct, .io .i64 sm, .io .i64 mn, .io .i64 mx]), (21, .v (.int .i64 3)), (24, .so (mkB t7)), (27, .so (mkB t8))], []⟩ (by kernel_rfl) (by kernel_rfl) ?_
    refine catW t7 t8 1097 22 (by kernel_rfl) hn7 hn8 (by decide) noF_stable fun t9 ht9 hn9 => ?_
    refine At.to (noF_stable) (noF_fewer) 20 300 [20, 21, 24, 25] 0 ⟨pops B15 [1, 1, 1, 0, 1, 4, 4, 1, 1, 0, 4, 1] 2, [.block 1, .seq (sub B15 [1, 1, 1, 0, 1, 4, 4, 1, 1, 1]), .rounds (sub B15 [1, 1, 1, 0, 1, 4, 4]) 15, .block 0, .seq (sub B15 [1, 1, 1, 1])], [(20, .agg [.io .i64 st, .io .i64 en, .io .i64 nt, .io .i64 ct, .io .i64 sm, .io .i64 mn, .io .i64 mx]), (21, .v (.int .i64 4)), (24, .so (mkB t9)), (25, .io .i64 sm)], []⟩ (by kernel_rfl) (by kernel_rfl) ?_
    refine At.call noF_stable 32 [.io .i64 sm, .v (.int .i64 10)] (.so (mkB (Lib.itoa sm))) (by kernel_rfl) (by kernel_rfl) (by kernel_rfl) (fun _ _ w1 hi _ => fmt_any _ i5 w1 (tab_below htab hi.mem.below rfl)) ?_
    refine At.to (noF_stable) (noF_fewer) 20 300 [20, 21, 24, 26] 0 ⟨pops B15 [1, 1, 1, 0, 1, 4, 4, 1, 1, 0, 4, 1] 3, [.block 1, .seq (sub B15 [1, 1, 1, 0, 1, 4, 4, 1, 1, 1]), .rounds (sub B15 [1, 1, 1, 0, 1, 4, 4]) 15, .block 0, .seq (sub B15 [1, 1, 1, 1])], [(20, .agg [.io .i64 st, .io .i64 en, .io .i64 nt, .io .i64 ct, .io .i64 sm, .io .i64 mn, .io .i64 mx]), (21, .v (.int .i64 4)), (24, .so (mkB t9)), (26, .so (mkB (Lib.itoa sm)))], []⟩ (by kernel_rfl) (by kernel_rfl) ?_
    refine catW [32] (Lib.itoa sm) 1 21 (by kernel_rfl) (by decide) hl4 (by decide) noF_stable fun t10 ht10 hn10 => ?_
    refine At.to (noF_stable) (noF_fewer) 20 300 [20, 21, 24, 27] 0 ⟨pops B15 [1, 1, 1, 0, 1, 4, 4, 1, 1, 0, 4, 1] 4, [.block 1, .seq (sub B15 [1, 1, 1, 0, 1, 4, 4, 1, 1, 1]), .rounds (sub B15 [1, 1, 1, 0, 1, 4, 4]) 15, .block 0, .seq (sub B15 [1, 1, 1, 1])], [(20, .agg [.io .i64 st, .io .i64 en, .io .i64 nt, .io .i64 ct, .io .i64 sm, .io .i64 mn, .io .i64 mx]), (21, .v (.int .i64 4)), (24, .so (mkB t9)), (27, .so (mkB t10))], []⟩ (by kernel_rfl) (by kernel_rfl) ?_
    refine catW t9 t10 1119 22 (by kernel_rfl) hn9 hn10 (by decide) noF_stable fun t11 ht11 hn11 => ?_
    refine At.to (noF_stable) (noF_fewer) 20 300 [20, 21, 24, 25] 0 ⟨pops B15 [1, 1, 1, 0, 1, 4, 4, 1, 1, 0, 4, 1] 2, [.block 1, .seq (sub B15 [1, 1, 1, 0, 1, 4, 4, 1, 1, 1]), .rounds (sub B15 [1, 1, 1, 0, 1, 4, 4]) 14, .block 0, .seq (sub B15 [1, 1, 1, 1])], [(20, .agg [.io .i64 st, .io .i64 en, .io .i64 nt, .io .i64 ct, .io .i64 sm, .io .i64 mn, .io .i64 mx]), (21, .v (.int .i64 5)), (24, .so (mkB t11)), (25, .io .i64 mn)], []⟩ (by kernel_rfl) (by kernel_rfl) ?_
    refine At.call noF_stable 32 [.io .i64 mn, .v (.int .i64 10)] (.so (mkB (Lib.itoa mn))) (by kernel_rfl) (by kernel_rfl) (by kernel_rfl) (fun _ _ w1 hi _ => fmt_any _ i6 w1 (tab_below htab hi.mem.below rfl)) ?_
    refine At.to (noF_stable) (noF_fewer) 20 300 [20, 21, 24, 26] 0 ⟨pops B15 [1, 1, 1, 0, 1, 4, 4, 1, 1, 0, 4, 1] 3, [.block 1, .seq (sub B15 [1, 1, 1, 0, 1, 4, 4, 1, 1, 1]), .rounds (sub B15 [1, 1, 1, 0, 1, 4, 4]) 14, .block 0, .seq (sub B15 [1, 1, 1, 1])], [(20, .agg [.io .i64 st, .io .i64 en, .io .i64 nt, .io .i64 ct, .io .i64 sm, .io .i64 mn, .io .i64 mx]), (21, .v (.int .i64 5)), (24, .so (mkB t11)), (26, .so (mkB (Lib.itoa mn)))], []⟩ (by kernel_rfl) (by kernel_rfl) ?_
    refine catW [32] (Lib.itoa mn) 1 21 (by kernel_rfl) (by decide) hl5 (by decide) noF_stable fun t12 ht12 hn12 => ?_
    refine At.to (noF_stable) (noF_fewer) 20 300 [20, 21, 24, 27] 0 ⟨pops B15 [1, 1, 1, 0, 1, 4, 4, 1, 1, 0, 4, 1] 4, [.block 1, .seq (sub B15 [1, 1, 1, 0, 1, 4, 4, 1, 1, 1]), .rounds (sub B15 [1, 1, 1, 0, 1, 4, 4]) 14, .block 0, .seq (sub B15 [1, 1, 1, 1])], [(20, .agg [.io .i64 st, .io .i64 en, .io .i64 nt, .io .i64 ct, .io .i64 sm, .io .i64 mn, .io .i64 mx]), (21, .v (.int .i64 5)), (24, .so (mkB t11)), (27, .so (mkB t12))], []⟩ (by kernel_rfl) (by kernel_rfl) ?_
    refine catW t11 t12 1141 22 (by kernel_rfl) hn11 hn12 (by decide) noF_stable fun t13 ht13 hn13 => ?_
    refine At.to (noF_stable) (noF_fewer) 20 300 [20, 21, 24, 25] 0 ⟨pops B15 [1, 1, 1, 0, 1, 4, 4, 1, 1, 0, 4, 1] 2, [.block 1, .seq (sub B15 [1, 1, 1, 0, 1, 4, 4, 1, 1, 1]), .rounds (sub B15 [1, 1, 1, 0, 1, 4, 4]) 13, .block 0, .seq (sub B15 [1, 1, 1, 1])], [(20, .agg [.io .i64 st, .io .i64 en, .io .i64 nt, .io .i64 ct, .io .i64 sm, .io .i64 mn, .io .i64 mx]), (21, .v (.int .i64 6)), (24, .so (mkB t13)), (25, .io .i64 mx)], []⟩ (by kernel_rfl) (by kernel_rfl) ?_
    refine At.call noF_stable 32 [.io .i64 mx, .v (.int .i64 10)] (.so (mkB (Lib.itoa mx))) (by kernel_rfl) (by kernel_rfl) (by kernel_rfl) (fun _ _ w1 hi _ => fmt_any _ i7 w1 (tab_below htab hi.mem.below rfl)) ?_
    refine At.to (noF_stable) (noF_fewer) 20 300 [20, 21, 24, 26] 0 ⟨pops B15 [1, 1, 1, 0, 1, 4, 4, 1, 1, 0, 4, 1] 3, [.block 1, .seq (sub B15 [1, 1, 1, 0, 1, 4, 4, 1, 1, 1]), .rounds (sub B15 [1, 1, 1, 0, 1, 4, 4]) 13, .block 0, .seq (sub B15 [1, 1, 1, 1])], [(20, .agg [.io .i64 st, .io .i64 en, .io .i64 nt, .io .i64 ct, .io .i64 sm, .io .i64 mn, .io .i64 mx]), (21, .v (.int .i64 6)), (24, .so (mkB t13)), (26, .so (mkB (Lib.itoa mx)))], []⟩ (by kernel_rfl) (by kernel_rfl) ?_
    refine catW [32] (Lib.itoa mx) 1 21 (by kernel_rfl) (by decide) hl6 (by decide) noF_stable fun t14 ht14 hn14 => ?_
    refine At.to (noF_stable) (noF_fewer) 20 300 [20, 21, 24, 27] 0 ⟨pops B15 [1, 1, 1, 0, 1, 4, 4, 1, 1, 0, 4, 1] 4, [.block 1, .seq (sub B15 [1, 1, 1, 0, 1, 4, 4, 1, 1, 1]), .rounds (sub B15 [1, 1, 1, 0, 1, 4, 4]) 13, .block 0, .seq (sub B15 [1, 1, 1, 1])], [(20, .agg [.io .i64 st, .io .i64 en, .io .i64 nt, .io .i64 ct, .io .i64 sm, .io .i64 mn, .io .i64 mx]), (21, .v (.int .i64 6)), (24, .so (mkB t13)), (27, .so (mkB t14))], []⟩ (by kernel_rfl) (by kernel_rfl) ?_
    refine catW t13 t14 1163 22 (by kernel_rfl) hn13 hn14 (by decide) noF_stable fun t15 ht15 hn15 => ?_
    refine At.to (noF_stable) (noF_fewer) 20 300 [2, 3] 0 ⟨.exit .ret, [], [(2, .so (mkB t15)), (3, .v (.int .i64 0))], []⟩ (by kernel_rfl) (by kernel_rfl) ?_
    refine At.ret (by kernel_rfl) (.tup [.so (mkB t15), .v (.int .i64 0)]) (by kernel_rfl) ?_
    intro ρ w9 hm hf
    refine ⟨?_, hm.below⟩
    have e : t15 = lineB k st en 3 nt ct sm mn mx := by
      subst_vars
      simp only [lineB, List.flatMap_cons, List.flatMap_nil, List.append_assoc, List.nil_append, List.cons_append, List.append_nil]
      rfl
    rw [← e]
    rfl

end Go.Proofs.YtkjnbafdmjakgaaDoor
