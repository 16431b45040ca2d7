import Derived.Test.YtkjnbafdmjakgaaDoorBL
import Derived.Test.YtkjnbafdmjakgaaDoorShB
import Derived.Test.YtkjnbafdmjakgaaDoorRH
set_option linter.unusedSimpArgs false
set_option linter.unusedVariables false
namespace Go.Proofs.YtkjnbafdmjakgaaDoor
open Go.RowKit Go.Sx

def Pn.in64 (p : Pn) : Prop := YtkjnbafdmjakgaaDoor.in64 p.st ∧ YtkjnbafdmjakgaaDoor.in64 p.en ∧ YtkjnbafdmjakgaaDoor.in64 p.nt ∧ YtkjnbafdmjakgaaDoor.in64 p.ct ∧ YtkjnbafdmjakgaaDoor.in64 p.sm ∧ YtkjnbafdmjakgaaDoor.in64 p.mn ∧ YtkjnbafdmjakgaaDoor.in64 p.mx
def Pn.may (p : Pn) : Bool := mayP (mkB p.key) p.kd
def Pn.line (p : Pn) : List UInt8 := lineB p.key p.st p.en p.kd p.nt p.ct p.sm p.mn p.mx
theorem may_spec {p : Pn} (h : p.may = true) : p.key.length ≤ 256 ∧ (p.kd = 1 ∨ p.kd = 2 ∨ p.kd = 3) := by
  unfold Pn.may mayP at h
  simp only [Bool.and_eq_true, decide_eq_true_eq, mkB_size] at h
  omega
/-- What the kit writes of panes: lines; nothing where one may not be. -/
def textP : List Pn → List UInt8 → Option (List UInt8)
  | [], acc => some acc
  | p :: ps, acc => if p.may = true then textP ps (acc ++ p.line ++ [10]) else none
def textV : Option (List UInt8) → Value
  | some t => .tuple #[.string (mkB t), .int .i64 0]
  | none => .tuple #[.string ⟨#[]⟩, .int .i64 2]
theorem quote_len (k : List UInt8) : (quoteB k).length ≤ 4 * k.length + 2 := by
  have : ∀ l : List UInt8, (l.flatMap q1).length ≤ 4 * l.length := by
    intro l
    induction l with
    | nil => simp
    | cons c l ih =>
      have : (q1 c).length ≤ 4 := by unfold q1; split <;> simp
      rw [List.flatMap_cons, List.length_append, List.length_cons]
      omega
  have := this k
  simp only [quoteB, List.length_append, List.length_cons, List.length_nil]
  omega
theorem line_len {p : Pn} (h : p.may = true) (hi : p.in64) : p.line.length ≤ 1300 := by
  obtain ⟨hk, hkd⟩ := may_spec h
  obtain ⟨i1, i2, i3, i4, i5, i6, i7⟩ := hi
  have hl0 := itoa_short i1
  have hl1 := itoa_short i2
  have hl2 := itoa_short i3
  have hl3 := itoa_short i4
  have hl4 := itoa_short i5
  have hl5 := itoa_short i6
  have hl6 := itoa_short i7
  have hq := quote_len p.key
  have hkn : (kindN p.kd).length ≤ 6 := by rcases hkd with h | h | h <;> rw [h] <;> decide
  simp only [Pn.line, lineB, List.flatMap_cons, List.flatMap_nil, List.length_append, List.length_cons, List.length_nil]
  omega

set_option maxHeartbeats 4000000 in
set_option maxRecDepth 100000 in
theorem line_no (p : Pn) (hmay : p.may = false) (w : World) :
    Calls Tryd.prog 15 #[p.val] w fun e w' => e = .returned (.tuple #[.string ⟨#[]⟩, .int .i64 2]) ∧ Below w.heap.size w w' := by
  refine enter (fn := Tryd.f15) (c := B15) [.agg (paneL (mkB p.key) p.st p.en p.kd p.nt p.ct p.sm p.mn p.mx)] Tryd.func15 rfl rfl ?_
  refine At.to (noF_stable) (noF_fewer) 20 300 [1, 7] 1 ⟨pops B15 [1, 0, 0] 1, [.seq (sub B15 [1, 0, 1]), .seq (sub B15 [1, 1])], [(1, .lp 0 0), (7, .agg [.so (mkB p.key), .io .i64 p.st, .io .i64 p.en, .io .i64 p.kd, .io .i64 p.nt, .io .i64 p.ct, .io .i64 p.sm, .io .i64 p.mn, .io .i64 p.mx])], [([.so (mkB p.key), .io .i64 p.st, .io .i64 p.en, .io .i64 p.kd, .io .i64 p.nt, .io .i64 p.ct, .io .i64 p.sm, .io .i64 p.mn, .io .i64 p.mx], 29)]⟩ (by kernel_rfl) (by kernel_rfl) ?_
  refine At.call noF_stable 33 [.agg (paneL (mkB p.key) p.st p.en p.kd p.nt p.ct p.sm p.mn p.mx)] (.v (.bool false)) (by kernel_rfl) (by kernel_rfl) (by kernel_rfl) (fun _ _ w1 hi _ => (may_any (mkB p.key) p.st p.en p.kd p.nt p.ct p.sm p.mn p.mx w1).mono fun e w2 h => ⟨h.1.trans (by rw [show mayP (mkB p.key) p.kd = false from hmay]; rfl), h.2⟩) ?_
  refine At.to (noF_stable) (noF_fewer) 20 300 [2, 3] 0 ⟨.exit .ret, [], [(2, .v (.string (ByteArray.mk #[]))), (3, .v (.int .i64 2))], []⟩ (by kernel_rfl) (by kernel_rfl) ?_
  refine At.ret (by kernel_rfl) (.tup [.v (.string (ByteArray.mk #[])), .v (.int .i64 2)]) (by kernel_rfl) ?_
  intro ρ w9 hm' hf
  exact ⟨rfl, hm'.below⟩


theorem line_yes (p : Pn) (hmay : p.may = true) (hi : p.in64) (w : World) (htp : Lib.TabIs Tryd.prog w "internal/strconv.uint64pow10" .u64 Lib.pow10Tab) :
    Calls Tryd.prog 15 #[p.val] w fun e w' => e = .returned (.tuple #[.string (mkB p.line), .int .i64 0]) ∧ Below w.heap.size w w' :=
  line_ok p.key p.st p.en p.kd p.nt p.ct p.sm p.mn p.mx (may_spec hmay).1 (may_spec hmay).2 hi.1 hi.2.1 hi.2.2.1 hi.2.2.2.1 hi.2.2.2.2.1 hi.2.2.2.2.2.1 hi.2.2.2.2.2.2 w htp
theorem bld_is {B b : Nat} {l : List UInt8} {w : World} (h : BldV 85 5 B b (Lib.byteCells l) [] w) : Lib.IsBuilder 85 5 B b (Lib.byteCells l) w := by
  obtain ⟨p, A, n, c, hp, hg⟩ := h
  have hn : (Lib.byteCells l).length = n * 1 := hg.2.1.1.1
  rw [Nat.mul_one] at hn
  have : Lib.BuilderAt 85 5 B b p (Lib.byteCells l) w := ⟨hg.2.2.2, .slice A n c, hg.1, by rw [hn]; exact hg.2.1.1, hg.own (by decide)⟩
  rcases hp with rfl | rfl
  · exact .inl this
  · exact .inr this
theorem cells_app (a l : List UInt8) : Lib.byteCells a ++ Lib.strCells (mkB l) ++ [Value.int .u8 10] = Lib.byteCells (a ++ l ++ [10]) := by
  simp [Lib.byteCells, Lib.strCells, mkB]
def frT (A : Option Addr) (n c b : Nat) : Nat × List UInt8 → Fr
  | (i, _) => [(4, .v (.pointer (some ⟨b, 0, none⟩))), (9, .sl A n c), (10, .io .i64 (n : Int)), (11, .io .i64 (i : Int))]
def locT (_ : Nat × List UInt8) : Sx.Loc := []
def GT (w : World) (ps : List Pn) (R : Option (List UInt8)) (b : Nat) : Nat × List UInt8 → List Nat → World → Prop
  | (i, acc), ρ, w1 => BldV 85 5 w.heap.size b (Lib.byteCells acc) ρ w1 ∧ (textP (ps.drop i) acc = R ∧ i ≤ ps.length ∧ acc.length ≤ i * 1301)

noncomputable def B16 : Code := (Tryd.f16.body).getD .skip
set_option maxHeartbeats 20000000 in
set_option maxRecDepth 100000 in
theorem text_any {A : Option Addr} {n c base : Nat} {ps : List Pn} (w : World) (hA : w.ownsRow base 29 9 (.slice A n c) n (pv ps)) (hn : n = ps.length) (hbig : n ≤ 200) (hok : ∀ p ∈ ps, p.in64) (htp : Lib.TabIs Tryd.prog w "internal/strconv.uint64pow10" .u64 Lib.pow10Tab) :
    Calls Tryd.prog 16 #[.slice A n c] w fun e w' => e = .returned (textV (textP ps [])) ∧ Below w.heap.size w w' := by
  refine enter (fn := Tryd.f16) (c := B16) [.sl A n c] Tryd.func16 rfl rfl ?_
  refine At.to (noF_stable) (noF_fewer) 0 300 [4, 9, 10, 11] 1 ⟨.code (sub B16 [1, 1, 0, 1, 4]), [.block 0, .seq (sub B16 [1, 1, 1])], [(4, .lp 0 0), (9, .sl A n c), (10, .io .i64 (↑n : Int)), (11, .v (.int .i64 0))], [([.v (.pointer none), .v (.slice none 0 0)], 85)]⟩ (by kernel_rfl) (by kernel_rfl) ?_
  refine At.bldNew 4 [9, 10, 11] 85 5 rfl rfl (by kernel_rfl) (fun b => ?_)
  generalize hR : textP ps [] = R
  refine At.canon _ rfl ?_
  refine At.loop (σ := Nat × List UInt8) (sub B16 [1, 1, 0, 1, 4, 4]) (frT A n c b) locT (GT w ps R b) (fun x => n - x.1) (0, []) (by kernel_rfl) (by unfold subFr; kernel_rfl) (by kernel_rfl) (fun _ _ _ _ h => ⟨h, hR, Nat.zero_le _, Nat.zero_le _⟩) ?_
  clear hR
  rintro ⟨i, acc⟩
  refine At.pure fun ⟨h1, h2, h3⟩ => ?_
  refine At.toJ (BldV.stable) BldV.fewer 0 300 [4, 9, 10, 11, 12] 0 ⟨.code (sub B16 [1, 1, 0, 1, 4, 4, 1, 0]), [.seq (sub B16 [1, 1, 0, 1, 4, 4, 1, 1]), .next (Sx.Next w.heap.size w Tryd.f16.ntmps (frT A n c b) locT (GT w ps R b) (fun x => n - x.fst) (i, acc)), .block 0, .seq (sub B16 [1, 1, 1])], [(4, .v (.pointer (some (Addr.mk b 0 none)))), (9, .sl A n c), (10, .io .i64 (↑n : Int)), (11, .io .i64 (↑i : Int)), (12, .bo (decide ((↑i : Int) < (↑n : Int))))], []⟩ (by kernel_rfl) (by kernel_rfl) ?_
  rcases Bool.eq_false_or_eq_true (decide ((↑i : Int) < (↑n : Int))) with b0 | b0
  · refine At.res 12 (decide ((↑i : Int) < (↑n : Int))) true (by kernel_rfl) b0 ?_
    refine At.toJ (BldV.stable) BldV.fewer 0 300 [4, 9, 10, 11] 0 ⟨pops B16 [1, 1, 0, 1, 4, 4, 1, 1, 0, 4, 0] 0, [.seq (sub B16 [1, 1, 0, 1, 4, 4, 1, 1, 0, 4, 1]), .block 1, .seq (sub B16 [1, 1, 0, 1, 4, 4, 1, 1, 1]), .next (Sx.Next w.heap.size w Tryd.f16.ntmps (frT A n c b) locT (GT w ps R b) (fun x => n - x.fst) (i, acc)), .block 0, .seq (sub B16 [1, 1, 1])], [(4, .v (.pointer (some (Addr.mk b 0 none)))), (9, .sl A n c), (10, .io .i64 (↑n : Int)), (11, .io .i64 (↑i : Int))], []⟩ (by kernel_rfl) (by kernel_rfl) ?_
    have hi : i < n := by have := of_decide_eq_true b0; omega
    clear b0
    obtain ⟨p, hp⟩ : ∃ p, ps[i]? = some p := ⟨_, List.getElem?_eq_getElem (by omega)⟩
    have hpi := hok p (List.mem_of_getElem? hp)
    obtain ⟨a, rfl⟩ := row_some hA (by omega)
    rw [drop_at hp] at h1
    simp only [textP] at h1
    refine At.idx a n 9 (i : Int) (by kernel_rfl) (by omega) (by omega) BldV.stable ?_
    refine At.lda (a.add ((i : Int).toNat * 9)) 9 (paneL (mkB p.key) p.st p.en p.kd p.nt p.ct p.sm p.mn p.mx) (by kernel_rfl) rfl BldV.stable (fun ρ w1 hm' hf j v hj => row_pane hA hm'.below hp hj) ?_
    refine At.toJ (BldV.stable) BldV.fewer 0 300 [4, 9, 10, 11, 16] 0 ⟨pops B16 [1, 1, 0, 1, 4, 4, 1, 1, 0, 4, 1, 0] 1, [.seq (sub B16 [1, 1, 0, 1, 4, 4, 1, 1, 0, 4, 1, 1]), .block 1, .seq (sub B16 [1, 1, 0, 1, 4, 4, 1, 1, 1]), .next (Sx.Next w.heap.size w Tryd.f16.ntmps (frT (some a) n c b) locT (GT w ps R b) (fun x => n - x.fst) (i, acc)), .block 0, .seq (sub B16 [1, 1, 1])], [(4, .v (.pointer (some (Addr.mk b 0 none)))), (9, .sl (some a) n c), (10, .io .i64 (↑n : Int)), (11, .io .i64 (↑i : Int)), (16, .agg [.so (mkB p.key), .io .i64 p.st, .io .i64 p.en, .io .i64 p.kd, .io .i64 p.nt, .io .i64 p.ct, .io .i64 p.sm, .io .i64 p.mn, .io .i64 p.mx])], []⟩ (by kernel_rfl) (by kernel_rfl) ?_
    cases hmay : p.may with
    | false =>
      rw [hmay] at h1
      simp only [Bool.false_eq_true, if_false] at h1
      subst h1
      refine At.call BldV.stable 15 [.agg (paneL (mkB p.key) p.st p.en p.kd p.nt p.ct p.sm p.mn p.mx)] (.tup [.v (.string ⟨#[]⟩), .v (.int .i64 2)]) (by kernel_rfl) (by kernel_rfl) (by kernel_rfl) (fun _ _ w1 hi _ => line_no p hmay w1) ?_
      refine At.toJ (BldV.stable) BldV.fewer 0 300 [2, 3] 0 ⟨.exit .ret, [], [(2, .v (.string (ByteArray.mk #[]))), (3, .v (.int .i64 2))], []⟩ (by kernel_rfl) (by kernel_rfl) ?_
      refine At.ret (by kernel_rfl) (.tup [.v (.string (ByteArray.mk #[])), .v (.int .i64 2)]) (by kernel_rfl) ?_
      intro ρ w9 hm' hf
      exact ⟨rfl, hm'.below⟩
    | true =>
      rw [hmay] at h1
      simp only [if_true] at h1
      refine At.call BldV.stable 15 [.agg (paneL (mkB p.key) p.st p.en p.kd p.nt p.ct p.sm p.mn p.mx)] (.tup [.so (mkB p.line), .v (.int .i64 0)]) (by kernel_rfl) (by kernel_rfl) (by kernel_rfl) (fun _ _ w1 hi _ => line_yes p hmay hpi w1 (tab_below htp hi.mem.below rfl)) ?_
      refine At.toJ (BldV.stable) BldV.fewer 0 300 [4, 9, 10, 11, 23] 0 ⟨pops B16 [1, 1, 0, 1, 4, 4, 1, 1, 0, 4, 1, 1, 1, 0] 1, [.seq (sub B16 [1, 1, 0, 1, 4, 4, 1, 1, 0, 4, 1, 1, 1, 1]), .block 1, .seq (sub B16 [1, 1, 0, 1, 4, 4, 1, 1, 1]), .next (Sx.Next w.heap.size w Tryd.f16.ntmps (frT (some a) n c b) locT (GT w ps R b) (fun x => n - x.fst) (i, acc)), .block 0, .seq (sub B16 [1, 1, 1])], [(4, .v (.pointer (some (Addr.mk b 0 none)))), (9, .sl (some a) n c), (10, .io .i64 (↑n : Int)), (11, .io .i64 (↑i : Int)), (23, .so (mkB p.line))], []⟩ (by kernel_rfl) (by kernel_rfl) ?_
      have hll := line_len hmay hpi
      refine At.facts (G := BldV 85 5 w.heap.size b (Lib.byteCells acc ++ Lib.strCells (mkB p.line))) 42 [.v (.pointer (some ⟨b, 0, none⟩)), .so (mkB p.line)] (.tup [.io .i64 ((mkB p.line).size : Int), .v .nilIface]) (by kernel_rfl) (by kernel_rfl) (by kernel_rfl) (by kernel_rfl) (by kernel_rfl) rfl (fun w1 hm hf => wstr_any (mkB p.line) w1 hf hm.hN (by rw [mkB_size, Lib.byteCells_length]; omega)) ?_
      refine At.toJ (BldV.stable) BldV.fewer 0 300 [4, 9, 10, 11] 0 ⟨pops B16 [1, 1, 0, 1, 4, 4, 1, 1, 0, 4, 1, 1, 1, 1] 0, [.block 1, .seq (sub B16 [1, 1, 0, 1, 4, 4, 1, 1, 1]), .next (Sx.Next w.heap.size w Tryd.f16.ntmps (frT (some a) n c b) locT (GT w ps R b) (fun x => n - x.fst) (i, acc)), .block 0, .seq (sub B16 [1, 1, 1])], [(4, .v (.pointer (some (Addr.mk b 0 none)))), (9, .sl (some a) n c), (10, .io .i64 (↑n : Int)), (11, .io .i64 (↑i : Int))], []⟩ (by kernel_rfl) (by kernel_rfl) ?_
      refine At.facts (G := BldV 85 5 w.heap.size b (Lib.byteCells acc ++ Lib.strCells (mkB p.line) ++ [Value.int .u8 10])) 43 [.v (.pointer (some ⟨b, 0, none⟩)), .v (.int .u8 10)] (.v .nilIface) (by kernel_rfl) (by kernel_rfl) (by kernel_rfl) (by kernel_rfl) (by kernel_rfl) rfl (fun w1 hm hf => wbyte_any 10 w1 hf hm.hN (by rw [List.length_append, Lib.strCells_length, mkB_size, Lib.byteCells_length]; omega)) ?_
      refine At.toJ (BldV.stable) BldV.fewer 0 300 [4, 9, 10, 11] 0 ⟨.exit .normal, [.next (Sx.Next w.heap.size w Tryd.f16.ntmps (frT (some a) n c b) locT (GT w ps R b) (fun x => n - x.fst) (i, acc)), .block 0, .seq (sub B16 [1, 1, 1])], [(4, .v (.pointer (some (Addr.mk b 0 none)))), (9, .sl (some a) n c), (10, .io .i64 (↑n : Int)), (11, .io .i64 (IntKind.i64.wrap ((↑i : Int) + 1)))], []⟩ (by kernel_rfl) (by kernel_rfl) ?_
      have hw3 : IntKind.i64.wrap ((i : Int) + 1) = ((i + 1 : Nat) : Int) := by
        rw [wrap63 (by omega) (by omega)]
        omega
      rw [hw3]
      refine At.next (σ := Nat × List UInt8) (i + 1, acc ++ p.line ++ [10]) rfl rfl (by unfold subFr; kernel_rfl) (by kernel_rfl) ?_ ?_
      · intro ρ a' w' hi' hf
        exact ⟨by rw [← cells_app]; exact hf, h1, by omega, by simp only [List.length_append, List.length_singleton]; omega⟩
      · show n - (i + 1) < n - i
        omega
  · refine At.res 12 (decide ((↑i : Int) < (↑n : Int))) false (by kernel_rfl) b0 ?_
    refine At.toJ (BldV.stable) BldV.fewer 0 300 [4] 0 ⟨pops B16 [1, 1, 1, 0] 0, [.seq (sub B16 [1, 1, 0, 1, 4, 4, 1, 1, 0, 4, 1, 1, 0, 1, 2, 1])], [(4, .v (.pointer (some (Addr.mk b 0 none))))], []⟩ (by kernel_rfl) (by kernel_rfl) ?_
    have hi : ¬ (i : Int) < (n : Int) := of_decide_eq_false b0
    rw [List.drop_eq_nil_of_le (by omega)] at h1
    simp only [textP] at h1
    subst h1
    refine At.facts (G := noF) 44 [.v (.pointer (some ⟨b, 0, none⟩))] (.so (mkB acc)) (by kernel_rfl) (by kernel_rfl) (by kernel_rfl) (by kernel_rfl) (by kernel_rfl) rfl (fun w1 hm hf => (Tryd.Builder_String_any w.heap.size b acc w1 (bld_is hf) hm.hN).mono fun e w2 h => ⟨h.1, trivial, h.2⟩) ?_
    refine At.to (noF_stable) (noF_fewer) 20 300 [2, 3] 0 ⟨.exit .ret, [], [(2, .so (mkB acc)), (3, .v (.int .i64 0))], []⟩ (by kernel_rfl) (by kernel_rfl) ?_
    refine At.ret (by kernel_rfl) (.tup [.so (mkB acc), .v (.int .i64 0)]) (by kernel_rfl) ?_
    intro ρ w9 hm' hf
    exact ⟨rfl, hm'.below⟩

end Go.Proofs.YtkjnbafdmjakgaaDoor
