import Derived.Test.YtkjnbafdmjakgaaDoorBR
import Derived.Test.YtkjnbafdmjakgaaDoorBK
set_option linter.unusedSimpArgs false
set_option linter.unusedVariables false
namespace Go.Proofs.YtkjnbafdmjakgaaDoor
open Go.RowKit Go.Sx

theorem add_add (a : Addr) (n m : Nat) : (a.add n).add m = a.add (n + m) := by
  unfold Addr.add
  by_cases hn : n = 0
  · subst hn; simp
  · by_cases hm : m = 0
    · subst hm; simp
    · simp [hn, hm]; omega
theorem src_low {w w' : World} {a : Addr} {xs : List Value} (h : Src w a xs) (hb : Below w.heap.size w w') : Src w' a xs := fun j u hj => cell_below (h j u hj) hb
/-- A slice of panes that was handed in. -/
def SlP (w : World) (A : Option Addr) (n : Nat) (ls : List Pn) : Prop := ls.length = n ∧ (A = none → ls = []) ∧ ∀ a, A = some a → Src w a (pv ls)
theorem SlP.cell {w w1 : World} {a : Addr} {n : Nat} {ls : List Pn} (h : SlP w (some a) n ls) (hb : Below w.heap.size w w1) {i j : Nat} {p : Pn} {ρ : List Nat} {v : Value} (hp : ls[i]? = some p)
    (hj : (SV.denL ρ (paneL (mkB p.key) p.st p.en p.kd p.nt p.ct p.sm p.mn p.mx))[j]? = some v) : w1.cell? ((a.add ((i : Int).toNat * 9)).add j) = some v := by
  rw [Int.toNat_natCast, add_add]
  exact src_low (h.2.2 a rfl) hb _ _ (pv_at hp hj)
theorem SlP.some {w : World} {A : Option Addr} {n : Nat} {ls : List Pn} (h : SlP w A n ls) (hn : 0 < n) : ∃ a, A = some a := by
  cases A with
  | none => have := h.1; rw [h.2.1 rfl] at this; simp at this; omega
  | some a => exact ⟨a, rfl⟩
theorem cut_k (cut : Int) (L : Nat) (h1 : 1 ≤ L) (h2 : L ≤ 1300) : ∃ k : Nat, 1 ≤ k ∧ k ≤ L ∧ IntKind.i64.wrap (1 + (IntKind.i64.wrap (cut.tmod (L : Int) + (L : Int))).tmod (L : Int)) = (k : Int) := by
  have hL : (0 : Int) < (L : Int) := by omega
  have h3 : -(L : Int) < cut.tmod L ∧ cut.tmod L < L := ⟨by have := Int.lt_tmod_of_pos cut hL; omega, Int.tmod_lt_of_pos cut hL⟩
  have e2 : IntKind.i64.wrap (cut.tmod (L : Int) + (L : Int)) = cut.tmod (L : Int) + (L : Int) := wrap_id ⟨by omega, by omega⟩
  have h4 : 0 ≤ (cut.tmod (L : Int) + (L : Int)).tmod (L : Int) ∧ (cut.tmod (L : Int) + (L : Int)).tmod (L : Int) < L := ⟨Int.tmod_nonneg L (by omega), Int.tmod_lt_of_pos _ hL⟩
  rw [e2, wrap_id ⟨by omega, by omega⟩]
  exact ⟨(1 + (cut.tmod (L : Int) + (L : Int)).tmod (L : Int)).toNat, by omega, by omega, by omega⟩
theorem textB_len : ∀ qs : List Pn, (∀ q ∈ qs, q.may = true ∧ q.in64) → (textB qs).length ≤ qs.length * 1301
  | [], _ => by simp [textB]
  | q :: qs, h => by
    have := textB_len qs (fun p hp => h p (by simp [hp]))
    have hq := line_len (h q (by simp)).1 (h q (by simp)).2
    rw [show textB (q :: qs) = q.line ++ [10] ++ textB qs by simp [textB], List.length_append, List.length_append, List.length_singleton, List.length_cons]
    omega
theorem PRows.one {b n c : Nat} {A : Option Addr} {xs : List Value} {ρ : List Nat} {w : World} (h : Row b 29 9 A n c xs ρ w) : PRows b [(A, n, c, xs)] ρ w :=
  ⟨fun x hx => by rw [List.mem_singleton.1 hx]; exact h, List.pairwise_singleton _ _⟩
def frB (Al : Option Addr) (nl cl : Nat) (cut : Int) : Option Addr × Nat × Nat → Fr
  | (A, c, i) => [(0, .sl Al nl cl), (1, .io .i64 cut), (5, .sl A i c), (6, .io .i64 (i : Int))]
def locB (_ : Option Addr × Nat × Nat) : Sx.Loc := []
def GB (w : World) (qs : List Pn) : Option Addr × Nat × Nat → List Nat → World → Prop
  | (A, c, i), ρ, w1 => RowF w (fun _ => False) [] w.heap.size 29 9 A i c (pv (qs.take i)) ρ w1 ∧ i ≤ qs.length

noncomputable def B4 : Code := (Tryd.f4.body).getD .skip
set_option maxHeartbeats 20000000 in
set_option maxRecDepth 100000 in
theorem back_ok (Al : Option Addr) (nl cl : Nat) (ls : List Pn) (cut : Int) (hcut : in64 cut) (hls : ∀ p ∈ ls, p.in64) (w : World) (hl : SlP w Al nl ls) (htp : Lib.TabIs Tryd.prog w "internal/strconv.uint64pow10" .u64 Lib.pow10Tab)
    {tp1 tp2 : TypeId} {q1 q2 : Value} (hs1 : w.var? Tryd.prog "strconv.ErrSyntax" = some #[.iface tp1 q1]) (hs2 : w.var? Tryd.prog "strconv.ErrRange" = some #[.iface tp2 q2]) {m : Int} (hm : w.cell? ⟨3, 0, none⟩ = some (.int .i64 m)) :
    Calls Tryd.prog 4 #[.slice Al nl cl, .int .i64 cut] w fun e w' => e = .returned (.bool true) ∧ Below w.heap.size w w' := by
  obtain ⟨qs, hqs⟩ : ∃ qs, qs = ls.map Pn.right := ⟨_, rfl⟩
  have hall : ∀ q ∈ qs, q.may = true ∧ q.in64 := fun q hq => by
    rw [hqs] at hq
    obtain ⟨p, hp, rfl⟩ := List.mem_map.1 hq
    exact ⟨right_may p, right_in (hls p hp)⟩
  have hql : qs.length = nl := by rw [hqs, List.length_map]; exact hl.1
  refine enterF (N := w.heap.size) (F := RowF w (fun _ => False) [] w.heap.size 29 9 none 0 0 []) (fn := Tryd.f4) (c := B4) [.sl Al nl cl, .io .i64 cut] Tryd.func4 rfl rfl (Nat.le_refl _) ⟨⟨⟨World.ownsRow_nil _ _ _ _, by simp [Value.ownBlock]⟩, Nat.le_refl _⟩, FrameR.start _ [] (by simp), by simp [Value.ownBlock]⟩ ?_
  refine At.toJ (RowF.stable) RowF.fewer 0 300 [0, 1, 26] 0 ⟨.code (sub B4 [1, 0, 1]), [.seq (sub B4 [1, 1])], [(0, .sl Al nl cl), (1, .io .i64 cut), (26, .bo (decide ((↑nl : Int) > 200)))], []⟩ (by kernel_rfl) (by kernel_rfl) ?_
  rcases Bool.eq_false_or_eq_true (decide ((↑nl : Int) > 200)) with b0 | b0
  · refine At.res 26 (decide ((↑nl : Int) > 200)) true (by kernel_rfl) b0 ?_
    refine At.toJ (RowF.stable) RowF.fewer 0 300 [] 0 ⟨pops B4 [1, 0, 1, 2, 0] 0, [.seq (sub B4 [1, 0, 1, 2, 1]), .seq (sub B4 [1, 1])], [], []⟩ (by kernel_rfl) (by kernel_rfl) ?_
    refine At.call RowF.stable 7 [] (.v (.bool true)) (by kernel_rfl) (by kernel_rfl) (by kernel_rfl) (fun _ _ w1 hi _ => known_any w1 (tab_below htp hi.mem.below rfl) (var_below hs1 hi.mem.below) (var_below hs2 hi.mem.below) (cell_below hm hi.mem.below)) ?_
    refine At.toJ (RowF.stable) RowF.fewer 20 300 [4] 0 ⟨.exit .ret, [], [(4, .v (.bool true))], []⟩ (by kernel_rfl) (by kernel_rfl) ?_
    refine At.ret (by kernel_rfl) (.v (.bool true)) (by kernel_rfl) ?_
    intro ρ w9 hm' hf
    exact ⟨rfl, hm'.below⟩
  · refine At.res 26 (decide ((↑nl : Int) > 200)) false (by kernel_rfl) b0 ?_
    refine At.toJ (RowF.stable) RowF.fewer 0 300 [0, 1, 5, 6] 0 ⟨.code (sub B4 [1, 1, 1, 0, 1, 4]), [.block 0, .seq (sub B4 [1, 1, 1, 1])], [(0, .sl Al nl cl), (1, .io .i64 cut), (5, .v (.slice none 0 0)), (6, .v (.int .i64 0))], []⟩ (by kernel_rfl) (by kernel_rfl) ?_
    have hbig : nl ≤ 200 := by have := of_decide_eq_false b0; omega
    clear b0
    refine At.canon _ rfl ?_
    refine At.slFr _ rfl ?_
    refine At.loop (σ := Option Addr × Nat × Nat) (sub B4 [1, 1, 1, 0, 1, 4, 4]) (frB Al nl cl cut) locB (GB w qs) (fun x => nl - x.2.2) (none, 0, 0) (by kernel_rfl) (by unfold subFr; kernel_rfl) (by kernel_rfl) (fun _ _ _ _ h => ⟨h, Nat.zero_le _⟩) ?_
    rintro ⟨A, c, i⟩
    refine At.pure fun h1 => ?_
    refine At.toJ (RowF.stable) RowF.fewer 0 300 [0, 1, 5, 6, 31] 0 ⟨.code (sub B4 [1, 1, 1, 0, 1, 4, 4, 0, 1]), [.seq (sub B4 [1, 1, 1, 0, 1, 4, 4, 1]), .next (Sx.Next w.heap.size w Tryd.f4.ntmps (frB Al nl cl cut) locB (GB w qs) (fun x => nl - x.snd.snd) (A, c, i)), .block 0, .seq (sub B4 [1, 1, 1, 1])], [(0, .sl Al nl cl), (1, .io .i64 cut), (5, .sl A i c), (6, .io .i64 (↑i : Int)), (31, .bo (decide ((↑i : Int) < (↑nl : Int))))], []⟩ (by kernel_rfl) (by kernel_rfl) ?_
    rcases Bool.eq_false_or_eq_true (decide ((↑i : Int) < (↑nl : Int))) with b0 | b0
    · refine At.res 31 (decide ((↑i : Int) < (↑nl : Int))) true (by kernel_rfl) b0 ?_
      refine At.toJ (RowF.stable) RowF.fewer 0 300 [0, 1, 6, 34, 35, 36] 0 ⟨pops B4 [1, 1, 1, 0, 1, 4, 4, 1, 0, 4, 0] 3, [.seq (sub B4 [1, 1, 1, 0, 1, 4, 4, 1, 0, 4, 1]), .block 1, .seq (sub B4 [1, 1, 1, 0, 1, 4, 4, 1, 1]), .next (Sx.Next w.heap.size w Tryd.f4.ntmps (frB Al nl cl cut) locB (GB w qs) (fun x => nl - x.snd.snd) (A, c, i)), .block 0, .seq (sub B4 [1, 1, 1, 1])], [(0, .sl Al nl cl), (1, .io .i64 cut), (6, .io .i64 (↑i : Int)), (34, .sl A i c), (35, .sl Al nl cl), (36, .io .i64 (↑i : Int))], []⟩ (by kernel_rfl) (by kernel_rfl) ?_
      have hi : i < nl := by have := of_decide_eq_true b0; omega
      clear b0
      obtain ⟨p, hp⟩ : ∃ p, ls[i]? = some p := ⟨_, List.getElem?_eq_getElem (by rw [hl.1]; omega)⟩
      obtain ⟨q, hq, hqm, hqi⟩ : ∃ q, qs[i]? = some q ∧ (q = p.right) ∧ q.in64 := ⟨p.right, by rw [hqs, List.getElem?_map, hp]; rfl, rfl, right_in (hls p (List.mem_of_getElem? hp))⟩
      have hqy : q.may = true := by rw [hqm]; exact right_may p
      have htk : qs.take (i + 1) = qs.take i ++ [q] := by rw [List.take_add_one, hq]; rfl
      have hq' : (qs.take (i + 1))[i]? = some q := by rw [List.getElem?_take_of_lt (by omega)]; exact hq
      obtain ⟨al, rfl⟩ := hl.some (by omega)
      refine At.idx al nl 9 (i : Int) (by kernel_rfl) (by omega) (by omega) RowF.stable ?_
      refine At.lda (al.add ((i : Int).toNat * 9)) 9 (paneL (mkB p.key) p.st p.en p.kd p.nt p.ct p.sm p.mn p.mx) (by kernel_rfl) rfl RowF.stable (fun ρ w1 hm' hf j v hj => hl.cell hm'.below hp hj) ?_
      refine At.toJ (RowF.stable) RowF.fewer 0 300 [0, 1, 6, 34, 38] 0 ⟨pops B4 [1, 1, 1, 0, 1, 4, 4, 1, 0, 4, 0] 5, [.seq (sub B4 [1, 1, 1, 0, 1, 4, 4, 1, 0, 4, 1]), .block 1, .seq (sub B4 [1, 1, 1, 0, 1, 4, 4, 1, 1]), .next (Sx.Next w.heap.size w Tryd.f4.ntmps (frB (some al) nl cl cut) locB (GB w qs) (fun x => nl - x.snd.snd) (A, c, i)), .block 0, .seq (sub B4 [1, 1, 1, 1])], [(0, .sl (some al) nl cl), (1, .io .i64 cut), (6, .io .i64 (↑i : Int)), (34, .sl A i c), (38, .agg [.so (mkB p.key), .io .i64 p.st, .io .i64 p.en, .io .i64 p.kd, .io .i64 p.nt, .io .i64 p.ct, .io .i64 p.sm, .io .i64 p.mn, .io .i64 p.mx])], []⟩ (by kernel_rfl) (by kernel_rfl) ?_
      refine At.call RowF.stable 14 [.agg (paneL (mkB p.key) p.st p.en p.kd p.nt p.ct p.sm p.mn p.mx)] (.agg (paneL (mkB q.key) q.st q.en q.kd q.nt q.ct q.sm q.mn q.mx)) (by kernel_rfl) (by kernel_rfl) (by kernel_rfl) (fun _ _ w1 hi _ => (right_any p w1).mono fun e w2 h => ⟨h.1.trans (by rw [← hqm]; rfl), h.2⟩) ?_
      refine At.toJ (RowF.stable) RowF.fewer 0 300 [0, 1, 6, 34, 40] 1 ⟨pops B4 [1, 1, 1, 0, 1, 4, 4, 1, 0, 4, 0] 7, [.seq (sub B4 [1, 1, 1, 0, 1, 4, 4, 1, 0, 4, 1]), .block 1, .seq (sub B4 [1, 1, 1, 0, 1, 4, 4, 1, 1]), .next (Sx.Next w.heap.size w Tryd.f4.ntmps (frB (some al) nl cl cut) locB (GB w qs) (fun x => nl - x.snd.snd) (A, c, i)), .block 0, .seq (sub B4 [1, 1, 1, 1])], [(0, .sl (some al) nl cl), (1, .io .i64 cut), (6, .io .i64 (↑i : Int)), (34, .sl A i c), (40, .ls 0 0 1 1)], [([.so (mkB q.key), .io .i64 q.st, .io .i64 q.en, .io .i64 q.kd, .io .i64 q.nt, .io .i64 q.ct, .io .i64 q.sm, .io .i64 q.mn, .io .i64 q.mx], 29)]⟩ (by kernel_rfl) (by kernel_rfl) ?_
      refine At.app (35) (29) (9) (80) (A) (i) (c) (1) ([.so (mkB q.key), .io .i64 q.st, .io .i64 q.en, .io .i64 q.kd, .io .i64 q.nt, .io .i64 q.ct, .io .i64 q.sm, .io .i64 q.mn, .io .i64 q.mx]) _ _ _ _ ([.string (mkB q.key), .int .i64 q.st, .int .i64 q.en, .int .i64 q.kd, .int .i64 q.nt, .int .i64 q.ct, .int .i64 q.sm, .int .i64 q.mn, .int .i64 q.mx]) (by kernel_rfl) (fun ρ => by kernel_rfl) (by first | omega | (simp only [Go.maxLen]; omega)) (by first | omega | (simp only [Go.maxLen]; omega)) (by first | omega | (simp only [Go.maxLen]; omega)) fun A0 c0 => ?_
      refine At.toJ (RowF.stable) RowF.fewer 0 300 [0, 1, 5, 6, 43, 44] 0 ⟨pops B4 [1, 1, 1, 0, 1, 4, 4, 1, 0, 4, 1, 0] 2, [.seq (sub B4 [1, 1, 1, 0, 1, 4, 4, 1, 0, 4, 1, 1]), .block 1, .seq (sub B4 [1, 1, 1, 0, 1, 4, 4, 1, 1]), .next (Sx.Next w.heap.size w Tryd.f4.ntmps (frB (some al) nl cl cut) locB (GB w qs) (fun x => nl - x.snd.snd) (A, c, i)), .block 0, .seq (sub B4 [1, 1, 1, 1])], [(0, .sl (some al) nl cl), (1, .io .i64 cut), (5, .sl A0 (i + 1) c0), (6, .io .i64 (↑i : Int)), (43, .sl A0 (i + 1) c0), (44, .io .i64 (↑i : Int))], []⟩ (by kernel_rfl) (by kernel_rfl) ?_
      refine At.mono (F' := fun ρ w1 => RowF w (fun _ => False) [] w.heap.size 29 9 A0 (i + 1) c0 (pv (qs.take (i + 1))) ρ w1 ∧ ∃ r, A0 = some r) (fun ρ w1 h => ⟨by rw [htk, pv_app]; exact h, (row_is h.1.1 (by omega)).1⟩) (At.pure ?_)
      rintro ⟨r, rfl⟩
      refine At.idx r (i + 1) 9 (i : Int) (by kernel_rfl) (by omega) (by omega) RowF.stable ?_
      refine At.lda (r.add (((i : Int)).toNat * 9)) 9 (paneL (mkB q.key) q.st q.en q.kd q.nt q.ct q.sm q.mn q.mx) (by kernel_rfl) rfl RowF.stable (fun ρ w1 hm' hf j v hj => row_pane (i := i) hf.1.1.1 (Below.refl _ _) hq' hj) ?_
      refine At.toJ (RowF.stable) RowF.fewer 0 300 [0, 1, 5, 6, 46] 0 ⟨pops B4 [1, 1, 1, 0, 1, 4, 4, 1, 0, 4, 1, 0] 4, [.seq (sub B4 [1, 1, 1, 0, 1, 4, 4, 1, 0, 4, 1, 1]), .block 1, .seq (sub B4 [1, 1, 1, 0, 1, 4, 4, 1, 1]), .next (Sx.Next w.heap.size w Tryd.f4.ntmps (frB (some al) nl cl cut) locB (GB w qs) (fun x => nl - x.snd.snd) (A, c, i)), .block 0, .seq (sub B4 [1, 1, 1, 1])], [(0, .sl (some al) nl cl), (1, .io .i64 cut), (5, .sl (some r) (i + 1) c0), (6, .io .i64 (↑i : Int)), (46, .agg [.so (mkB q.key), .io .i64 q.st, .io .i64 q.en, .io .i64 q.kd, .io .i64 q.nt, .io .i64 q.ct, .io .i64 q.sm, .io .i64 q.mn, .io .i64 q.mx])], []⟩ (by kernel_rfl) (by kernel_rfl) ?_
      have hll := line_len hqy hqi
      have hpl := parse_line hqy hqi
      refine At.call RowF.stable 15 [.agg (paneL (mkB q.key) q.st q.en q.kd q.nt q.ct q.sm q.mn q.mx)] (.tup [.so (mkB q.line), .v (.int .i64 0)]) (by kernel_rfl) (by kernel_rfl) (by kernel_rfl) (fun _ _ w1 hi _ => line_yes q hqy hqi w1 (tab_below htp hi.mem.below rfl)) ?_
      refine At.toJ (RowF.stable) RowF.fewer 0 300 [0, 1, 5, 6, 7, 8, 51] 0 ⟨pops B4 [1, 1, 1, 0, 1, 4, 4, 1, 0, 4, 1, 1, 0] 1, [.seq (sub B4 [1, 1, 1, 0, 1, 4, 4, 1, 0, 4, 1, 1, 1]), .block 1, .seq (sub B4 [1, 1, 1, 0, 1, 4, 4, 1, 1]), .next (Sx.Next w.heap.size w Tryd.f4.ntmps (frB (some al) nl cl cut) locB (GB w qs) (fun x => nl - x.snd.snd) (A, c, i)), .block 0, .seq (sub B4 [1, 1, 1, 1])], [(0, .sl (some al) nl cl), (1, .io .i64 cut), (5, .sl (some r) (i + 1) c0), (6, .io .i64 (↑i : Int)), (7, .so (mkB q.line)), (8, .v (.int .i64 0)), (51, .so (mkB q.line))], []⟩ (by kernel_rfl) (by kernel_rfl) ?_
      refine At.call RowF.stable 8 [.so (mkB q.line)] (.tup [.agg (paneL (mkB q.key) q.st q.en q.kd q.nt q.ct q.sm q.mn q.mx), .v (.int .i64 0)]) (by kernel_rfl) (by kernel_rfl) (by kernel_rfl) (fun _ _ w1 hi _ => (parse_any q.line (by omega) w1 (tab_below htp hi.mem.below rfl) (var_below hs1 hi.mem.below) (var_below hs2 hi.mem.below) (cell_below hm hi.mem.below)).mono fun e w2 h => ⟨h.1.trans (by rw [hpl]; rfl), h.2⟩) ?_
      refine At.toJ (RowF.stable) RowF.fewer 0 300 [0, 1, 5, 6, 7, 61, 62, 63, 64] 0 ⟨pqops B4 [1, 1, 1, 0, 1, 4, 4, 1, 0, 4, 1, 1, 1, 0, 0] 10, [.seq (sub B4 [1, 1, 1, 0, 1, 4, 4, 1, 0, 4, 1, 1, 1, 0, 1]), .seq (sub B4 [1, 1, 1, 0, 1, 4, 4, 1, 0, 4, 1, 1, 1, 1]), .block 1, .seq (sub B4 [1, 1, 1, 0, 1, 4, 4, 1, 1]), .next (Sx.Next w.heap.size w Tryd.f4.ntmps (frB (some al) nl cl cut) locB (GB w qs) (fun x => nl - x.snd.snd) (A, c, i)), .block 0, .seq (sub B4 [1, 1, 1, 1])], [(0, .sl (some al) nl cl), (1, .io .i64 cut), (5, .sl (some r) (i + 1) c0), (6, .io .i64 (↑i : Int)), (7, .so (mkB q.line)), (61, .v (.bool false)), (62, .agg [.so (mkB q.key), .io .i64 q.st, .io .i64 q.en, .io .i64 q.kd, .io .i64 q.nt, .io .i64 q.ct, .io .i64 q.sm, .io .i64 q.mn, .io .i64 q.mx]), (63, .sl (some r) (i + 1) c0), (64, .io .i64 (↑i : Int))], []⟩ (by kernel_rfl) (by kernel_rfl) ?_
      refine At.idx r (i + 1) 9 (i : Int) (by kernel_rfl) (by omega) (by omega) RowF.stable ?_
      refine At.lda (r.add (((i : Int)).toNat * 9)) 9 (paneL (mkB q.key) q.st q.en q.kd q.nt q.ct q.sm q.mn q.mx) (by kernel_rfl) rfl RowF.stable (fun ρ w1 hm' hf j v hj => row_pane (i := i) hf.1.1.1 (Below.refl _ _) hq' hj) ?_
      refine At.toJ (RowF.stable) RowF.fewer 0 300 [0, 1, 5, 6, 7, 68] 0 ⟨.code (sub B4 [1, 1, 1, 0, 1, 4, 4, 1, 0, 4, 1, 1, 1, 0, 1]), [.seq (sub B4 [1, 1, 1, 0, 1, 4, 4, 1, 0, 4, 1, 1, 1, 1]), .block 1, .seq (sub B4 [1, 1, 1, 0, 1, 4, 4, 1, 1]), .next (Sx.Next w.heap.size w Tryd.f4.ntmps (frB (some al) nl cl cut) locB (GB w qs) (fun x => nl - x.snd.snd) (A, c, i)), .block 0, .seq (sub B4 [1, 1, 1, 1])], [(0, .sl (some al) nl cl), (1, .io .i64 cut), (5, .sl (some r) (i + 1) c0), (6, .io .i64 (↑i : Int)), (7, .so (mkB q.line)), (68, .bo !((mkB q.key).toList == (mkB q.key).toList && (q.st == q.st && (q.en == q.en && true) && (q.kd == q.kd && (q.nt == q.nt && (q.ct == q.ct && (q.sm == q.sm && (q.mn == q.mn && (q.mx == q.mx && true))) && true))))))], []⟩ (by kernel_rfl) (by kernel_rfl) ?_
      refine At.res 68 (!((mkB q.key).toList == (mkB q.key).toList && (q.st == q.st && (q.en == q.en && true) && (q.kd == q.kd && (q.nt == q.nt && (q.ct == q.ct && (q.sm == q.sm && (q.mn == q.mn && (q.mx == q.mx && true))) && true)))))) false (by kernel_rfl) (by first | assumption | (simp only [*]; done) | (simp [*]; done)) ?_
      refine At.toJ (RowF.stable) RowF.fewer 0 300 [0, 1, 5, 6, 7, 70] 0 ⟨.code (sub B4 [1, 1, 1, 0, 1, 4, 4, 1, 0, 4, 1, 1, 1, 1, 1]), [.block 1, .seq (sub B4 [1, 1, 1, 0, 1, 4, 4, 1, 1]), .next (Sx.Next w.heap.size w Tryd.f4.ntmps (frB (some al) nl cl cut) locB (GB w qs) (fun x => nl - x.snd.snd) (A, c, i)), .block 0, .seq (sub B4 [1, 1, 1, 1])], [(0, .sl (some al) nl cl), (1, .io .i64 cut), (5, .sl (some r) (i + 1) c0), (6, .io .i64 (↑i : Int)), (7, .so (mkB q.line)), (70, .bo (decide ((↑i : Int) > 0)))], []⟩ (by kernel_rfl) (by kernel_rfl) ?_
      rcases Bool.eq_false_or_eq_true (decide ((↑i : Int) > 0)) with b0 | b0
      · refine At.res 70 (decide ((↑i : Int) > 0)) true (by kernel_rfl) b0 ?_
        refine At.toJ (RowF.stable) RowF.fewer 0 300 [0, 1, 5, 6, 7, 72, 74] 0 ⟨pops B4 [1, 1, 1, 0, 1, 4, 4, 1, 0, 4, 1, 1, 1, 1, 1, 2, 0] 3, [.seq (sub B4 [1, 1, 1, 0, 1, 4, 4, 1, 0, 4, 1, 1, 1, 1, 1, 2, 1]), .block 1, .seq (sub B4 [1, 1, 1, 0, 1, 4, 4, 1, 1]), .next (Sx.Next w.heap.size w Tryd.f4.ntmps (frB (some al) nl cl cut) locB (GB w qs) (fun x => nl - x.snd.snd) (A, c, i)), .block 0, .seq (sub B4 [1, 1, 1, 1])], [(0, .sl (some al) nl cl), (1, .io .i64 cut), (5, .sl (some r) (i + 1) c0), (6, .io .i64 (↑i : Int)), (7, .so (mkB q.line)), (72, .sl (some r) (i + 1) c0), (74, .io .i64 (IntKind.i64.wrap ((↑i : Int) - 1)))], []⟩ (by kernel_rfl) (by kernel_rfl) ?_
        have hi0 : 0 < i := by have := of_decide_eq_true b0; omega
        clear b0
        have hwm : IntKind.i64.wrap ((i : Int) - 1) = ((i - 1 : Nat) : Int) := by
          rw [wrap63 (by omega) (by omega)]
          omega
        rw [hwm]
        obtain ⟨u, hu⟩ : ∃ u, qs[i - 1]? = some u := ⟨_, List.getElem?_eq_getElem (by omega)⟩
        obtain ⟨huy, hui⟩ := hall u (List.mem_of_getElem? hu)
        have hu' : (qs.take (i + 1))[i - 1]? = some u := by rw [List.getElem?_take_of_lt (by omega)]; exact hu
        refine At.idx r (i + 1) 9 ((i - 1 : Nat) : Int) (by kernel_rfl) (by omega) (by omega) RowF.stable ?_
        refine At.lda (r.add ((((i - 1 : Nat) : Int)).toNat * 9)) 9 (paneL (mkB u.key) u.st u.en u.kd u.nt u.ct u.sm u.mn u.mx) (by kernel_rfl) rfl RowF.stable (fun ρ w1 hm' hf j v hj => row_pane (i := i - 1) hf.1.1.1 (Below.refl _ _) hu' hj) ?_
        refine At.toJ (RowF.stable) RowF.fewer 0 300 [0, 1, 5, 6, 7, 76] 0 ⟨pops B4 [1, 1, 1, 0, 1, 4, 4, 1, 0, 4, 1, 1, 1, 1, 1, 2, 0] 5, [.seq (sub B4 [1, 1, 1, 0, 1, 4, 4, 1, 0, 4, 1, 1, 1, 1, 1, 2, 1]), .block 1, .seq (sub B4 [1, 1, 1, 0, 1, 4, 4, 1, 1]), .next (Sx.Next w.heap.size w Tryd.f4.ntmps (frB (some al) nl cl cut) locB (GB w qs) (fun x => nl - x.snd.snd) (A, c, i)), .block 0, .seq (sub B4 [1, 1, 1, 1])], [(0, .sl (some al) nl cl), (1, .io .i64 cut), (5, .sl (some r) (i + 1) c0), (6, .io .i64 (↑i : Int)), (7, .so (mkB q.line)), (76, .agg [.so (mkB u.key), .io .i64 u.st, .io .i64 u.en, .io .i64 u.kd, .io .i64 u.nt, .io .i64 u.ct, .io .i64 u.sm, .io .i64 u.mn, .io .i64 u.mx])], []⟩ (by kernel_rfl) (by kernel_rfl) ?_
        refine At.call RowF.stable 15 [.agg (paneL (mkB u.key) u.st u.en u.kd u.nt u.ct u.sm u.mn u.mx)] (.tup [.so (mkB u.line), .v (.int .i64 0)]) (by kernel_rfl) (by kernel_rfl) (by kernel_rfl) (fun _ _ w1 hi _ => line_yes u huy hui w1 (tab_below htp hi.mem.below rfl)) ?_
        refine At.toJ (RowF.stable) RowF.fewer 0 300 [0, 1, 5, 6, 82, 83, 84] 0 ⟨pqops B4 [1, 1, 1, 0, 1, 4, 4, 1, 0, 4, 1, 1, 1, 1, 1, 2, 1, 0] 5, [.seq (sub B4 [1, 1, 1, 0, 1, 4, 4, 1, 0, 4, 1, 1, 1, 1, 1, 2, 1, 1]), .block 1, .seq (sub B4 [1, 1, 1, 0, 1, 4, 4, 1, 1]), .next (Sx.Next w.heap.size w Tryd.f4.ntmps (frB (some al) nl cl cut) locB (GB w qs) (fun x => nl - x.snd.snd) (A, c, i)), .block 0, .seq (sub B4 [1, 1, 1, 1])], [(0, .sl (some al) nl cl), (1, .io .i64 cut), (5, .sl (some r) (i + 1) c0), (6, .io .i64 (↑i : Int)), (82, .bo ((mkB q.line).toList == (mkB u.line).toList)), (83, .sl (some r) (i + 1) c0), (84, .io .i64 (↑i : Int))], []⟩ (by kernel_rfl) (by kernel_rfl) ?_
        refine At.idx r (i + 1) 9 (i : Int) (by kernel_rfl) (by omega) (by omega) RowF.stable ?_
        refine At.lda (r.add (((i : Int)).toNat * 9)) 9 (paneL (mkB q.key) q.st q.en q.kd q.nt q.ct q.sm q.mn q.mx) (by kernel_rfl) rfl RowF.stable (fun ρ w1 hm' hf j v hj => row_pane (i := i) hf.1.1.1 (Below.refl _ _) hq' hj) ?_
        refine At.toJ (RowF.stable) RowF.fewer 0 300 [0, 1, 5, 6, 82, 86, 87, 89] 0 ⟨pqops B4 [1, 1, 1, 0, 1, 4, 4, 1, 0, 4, 1, 1, 1, 1, 1, 2, 1, 0] 10, [.seq (sub B4 [1, 1, 1, 0, 1, 4, 4, 1, 0, 4, 1, 1, 1, 1, 1, 2, 1, 1]), .block 1, .seq (sub B4 [1, 1, 1, 0, 1, 4, 4, 1, 1]), .next (Sx.Next w.heap.size w Tryd.f4.ntmps (frB (some al) nl cl cut) locB (GB w qs) (fun x => nl - x.snd.snd) (A, c, i)), .block 0, .seq (sub B4 [1, 1, 1, 1])], [(0, .sl (some al) nl cl), (1, .io .i64 cut), (5, .sl (some r) (i + 1) c0), (6, .io .i64 (↑i : Int)), (82, .bo ((mkB q.line).toList == (mkB u.line).toList)), (86, .agg [.so (mkB q.key), .io .i64 q.st, .io .i64 q.en, .io .i64 q.kd, .io .i64 q.nt, .io .i64 q.ct, .io .i64 q.sm, .io .i64 q.mn, .io .i64 q.mx]), (87, .sl (some r) (i + 1) c0), (89, .io .i64 (IntKind.i64.wrap ((↑i : Int) - 1)))], []⟩ (by kernel_rfl) (by kernel_rfl) ?_
        rw [hwm]
        refine At.idx r (i + 1) 9 ((i - 1 : Nat) : Int) (by kernel_rfl) (by omega) (by omega) RowF.stable ?_
        refine At.lda (r.add ((((i - 1 : Nat) : Int)).toNat * 9)) 9 (paneL (mkB u.key) u.st u.en u.kd u.nt u.ct u.sm u.mn u.mx) (by kernel_rfl) rfl RowF.stable (fun ρ w1 hm' hf j v hj => row_pane (i := i - 1) hf.1.1.1 (Below.refl _ _) hu' hj) ?_
        refine At.toJ (RowF.stable) RowF.fewer 0 300 [0, 1, 5, 6, 93] 0 ⟨.code (sub B4 [1, 1, 1, 0, 1, 4, 4, 1, 0, 4, 1, 1, 1, 1, 1, 2, 1, 1]), [.block 1, .seq (sub B4 [1, 1, 1, 0, 1, 4, 4, 1, 1]), .next (Sx.Next w.heap.size w Tryd.f4.ntmps (frB (some al) nl cl cut) locB (GB w qs) (fun x => nl - x.snd.snd) (A, c, i)), .block 0, .seq (sub B4 [1, 1, 1, 1])], [(0, .sl (some al) nl cl), (1, .io .i64 cut), (5, .sl (some r) (i + 1) c0), (6, .io .i64 (↑i : Int)), (93, .bo !((mkB q.line).toList == (mkB u.line).toList) == ((mkB q.key).toList == (mkB u.key).toList && (q.st == u.st && (q.en == u.en && true) && (q.kd == u.kd && (q.nt == u.nt && (q.ct == u.ct && (q.sm == u.sm && (q.mn == u.mn && (q.mx == u.mx && true))) && true))))))], []⟩ (by kernel_rfl) (by kernel_rfl) ?_
        rcases Bool.eq_false_or_eq_true (!((mkB q.line).toList == (mkB u.line).toList) == ((mkB q.key).toList == (mkB u.key).toList && (q.st == u.st && (q.en == u.en && true) && (q.kd == u.kd && (q.nt == u.nt && (q.ct == u.ct && (q.sm == u.sm && (q.mn == u.mn && (q.mx == u.mx && true))) && true)))))) with b0 | b0
        · refine At.res 93 (!((mkB q.line).toList == (mkB u.line).toList) == ((mkB q.key).toList == (mkB u.key).toList && (q.st == u.st && (q.en == u.en && true) && (q.kd == u.kd && (q.nt == u.nt && (q.ct == u.ct && (q.sm == u.sm && (q.mn == u.mn && (q.mx == u.mx && true))) && true)))))) true (by kernel_rfl) b0 ?_
          refine At.toJ (RowF.stable) RowF.fewer 0 300 [4] 0 ⟨.exit .ret, [], [(4, .v (.bool false))], []⟩ (by kernel_rfl) (by kernel_rfl) ?_
          refine At.ret (by kernel_rfl) (.v (.bool false)) (by kernel_rfl) ?_
          exfalso
          rw [pane_beq, str_beq] at b0
          have he := line_inj hqy hqi huy hui
          by_cases e : q = u
          · rw [decide_eq_true e, decide_eq_true (he.2 e)] at b0
            exact absurd b0 (by decide)
          · rw [decide_eq_false e, decide_eq_false (fun h => e (he.1 h))] at b0
            exact absurd b0 (by decide)
        · refine At.res 93 (!((mkB q.line).toList == (mkB u.line).toList) == ((mkB q.key).toList == (mkB u.key).toList && (q.st == u.st && (q.en == u.en && true) && (q.kd == u.kd && (q.nt == u.nt && (q.ct == u.ct && (q.sm == u.sm && (q.mn == u.mn && (q.mx == u.mx && true))) && true)))))) false (by kernel_rfl) b0 ?_
          refine At.toJ (RowF.stable) RowF.fewer 0 300 [0, 1, 5, 6] 0 ⟨.exit .normal, [.next (Sx.Next w.heap.size w Tryd.f4.ntmps (frB (some al) nl cl cut) locB (GB w qs) (fun x => nl - x.snd.snd) (A, c, i)), .block 0, .seq (sub B4 [1, 1, 1, 1])], [(0, .sl (some al) nl cl), (1, .io .i64 cut), (5, .sl (some r) (i + 1) c0), (6, .io .i64 (IntKind.i64.wrap ((↑i : Int) + 1)))], []⟩ (by kernel_rfl) (by kernel_rfl) ?_
          clear b0
          have hw3 : IntKind.i64.wrap ((i : Int) + 1) = ((i + 1 : Nat) : Int) := by
            rw [wrap63 (by omega) (by omega)]
            omega
          rw [hw3]
          refine At.next (σ := Option Addr × Nat × Nat) (some r, c0, i + 1) rfl rfl (by unfold subFr; kernel_rfl) (by kernel_rfl) ?_ ?_
          · intro ρ a' w' hi' hf
            exact ⟨hf, by omega⟩
          · show nl - (i + 1) < nl - i
            omega
      · refine At.res 70 (decide ((↑i : Int) > 0)) false (by kernel_rfl) b0 ?_
        refine At.toJ (RowF.stable) RowF.fewer 0 300 [0, 1, 5, 6] 0 ⟨.exit .normal, [.next (Sx.Next w.heap.size w Tryd.f4.ntmps (frB (some al) nl cl cut) locB (GB w qs) (fun x => nl - x.snd.snd) (A, c, i)), .block 0, .seq (sub B4 [1, 1, 1, 1])], [(0, .sl (some al) nl cl), (1, .io .i64 cut), (5, .sl (some r) (i + 1) c0), (6, .io .i64 (IntKind.i64.wrap ((↑i : Int) + 1)))], []⟩ (by kernel_rfl) (by kernel_rfl) ?_
        have hi0 : ¬ 0 < i := by have := of_decide_eq_false b0; omega
        clear b0
        have hw3 : IntKind.i64.wrap ((i : Int) + 1) = ((i + 1 : Nat) : Int) := by
          rw [wrap63 (by omega) (by omega)]
          omega
        rw [hw3]
        refine At.next (σ := Option Addr × Nat × Nat) (some r, c0, i + 1) rfl rfl (by unfold subFr; kernel_rfl) (by kernel_rfl) ?_ ?_
        · intro ρ a' w' hi' hf
          exact ⟨hf, by omega⟩
        · show nl - (i + 1) < nl - i
          omega
    · refine At.res 31 (decide ((↑i : Int) < (↑nl : Int))) false (by kernel_rfl) b0 ?_
      refine At.toJ (RowF.stable) RowF.fewer 0 300 [1, 5, 95] 0 ⟨pops B4 [1, 1, 1, 1, 0] 1, [.seq (sub B4 [1, 1, 1, 1, 1])], [(1, .io .i64 cut), (5, .sl A i c), (95, .sl A i c)], []⟩ (by kernel_rfl) (by kernel_rfl) ?_
      have hi : i = nl := by have := of_decide_eq_false b0; omega
      clear b0
      subst hi
      have htk : qs.take i = qs := List.take_of_length_le (by omega)
      refine At.mono (F' := RowF w (fun _ => False) [] w.heap.size 29 9 A i c (pv qs)) (fun ρ w1 h => by rw [htk] at h; exact h) ?_
      refine At.call RowF.stable 16 [.sl A i c] (.tup [.so (mkB (textB qs)), .v (.int .i64 0)]) (by kernel_rfl) (by kernel_rfl) (by kernel_rfl) (fun _ _ w1 hi hf => (text_any w1 hf.1.1.1 hql.symm hbig (fun p hp => (hall p hp).2) (tab_below htp hi.mem.below rfl)).mono fun e w2 h => ⟨h.1.trans (by rw [text_some qs [] (fun p hp => (hall p hp).1), List.nil_append]; rfl), h.2⟩) ?_
      refine At.toJ (RowF.stable) RowF.fewer 20 300 [1, 5, 13, 14, 100] 0 ⟨pops B4 [1, 1, 1, 1, 1, 0] 1, [.seq (sub B4 [1, 1, 1, 1, 1, 1])], [(1, .io .i64 cut), (5, .sl A i c), (13, .so (mkB (textB qs))), (14, .v (.int .i64 0)), (100, .so (mkB (textB qs)))], []⟩ (by kernel_rfl) (by kernel_rfl) ?_
      have htl := textB_len qs hall
      refine At.mono (F' := PRows w.heap.size [(A, i, c, pv qs)]) (fun ρ w1 h => PRows.one h.1.1) ?_
      refine At.rowCall 10 [.so (mkB (textB qs))] (pv qs) (fun A n c => .tup [.sl A n c, .io .i64 (i : Int), .v (.int .i64 0)]) (by kernel_rfl) (by kernel_rfl) (by kernel_rfl) rfl (fun ρ w1 hi => (read_any (textB qs) (by omega) w1 (tab_below htp hi.below rfl) (var_below hs1 hi.below) (var_below hs2 hi.below) (cell_below hm hi.below)).mono fun e w2 h => by rw [read_whole qs hall, hql] at h; exact h) ?_
      intro Ax nx cx
      refine At.toJ (PRows.stable) PRows.fewer 20 300 [1, 5, 13, 15, 117] 0 ⟨pops B4 [1, 1, 1, 1, 1, 1, 0, 0] 13, [.seq (sub B4 [1, 1, 1, 1, 1, 1, 0, 1]), .seq (sub B4 [1, 1, 1, 1, 1, 1, 1])], [(1, .io .i64 cut), (5, .sl A i c), (13, .so (mkB (textB qs))), (15, .sl Ax nx cx), (117, .bo ((↑i : Int) != (↑i : Int)))], []⟩ (by kernel_rfl) (by kernel_rfl) ?_
      refine At.res 117 ((↑i : Int) != (↑i : Int)) false (by kernel_rfl) (by first | assumption | (simp only [*]; done) | (simp [*]; done)) ?_
      refine At.toJ (PRows.stable) PRows.fewer 20 300 [1, 5, 13, 117, 118, 119] 0 ⟨pops B4 [1, 1, 1, 1, 1, 1, 0, 0] 15, [.seq (sub B4 [1, 1, 1, 1, 1, 1, 0, 1]), .seq (sub B4 [1, 1, 1, 1, 1, 1, 1])], [(1, .io .i64 cut), (5, .sl A i c), (13, .so (mkB (textB qs))), (117, .v (.bool false)), (118, .sl Ax nx cx), (119, .sl A i c)], []⟩ (by kernel_rfl) (by kernel_rfl) ?_
      refine At.call PRows.stable 12 [.sl Ax nx cx, .sl A i c] (.v (.bool true)) (by kernel_rfl) (by kernel_rfl) (by kernel_rfl) (fun ρ _ w1 hi hf => (same_any w1 (hf.1 (Ax, nx, cx, pv qs) (by simp)).1 (hf.1 (A, i, c, pv qs) (by simp)).1 (row_n (hf.1 (Ax, nx, cx, pv qs) (by simp))) (row_n (hf.1 (A, i, c, pv qs) (by simp))) (by have := row_n (hf.1 (Ax, nx, cx, pv qs) (by simp)); omega)).mono fun e w2 h => ⟨h.1.trans (by rw [decide_eq_true rfl]; rfl), h.2⟩) ?_
      refine At.toJ (PRows.stable) PRows.fewer 20 300 [1, 5, 13, 125] 0 ⟨.code (sub B4 [1, 1, 1, 1, 1, 1, 1, 0, 1]), [.seq (sub B4 [1, 1, 1, 1, 1, 1, 1, 1])], [(1, .io .i64 cut), (5, .sl A i c), (13, .so (mkB (textB qs))), (125, .bo (decide ((↑i : Int) > 0)))], []⟩ (by kernel_rfl) (by kernel_rfl) ?_
      rcases Bool.eq_false_or_eq_true (decide ((↑i : Int) > 0)) with b0 | b0
      · refine At.res 125 (decide ((↑i : Int) > 0)) true (by kernel_rfl) b0 ?_
        refine At.toJ (PRows.stable) PRows.fewer 20 300 [1, 5, 13, 127, 130] 0 ⟨pops B4 [1, 1, 1, 1, 1, 1, 1, 0, 1, 2, 0] 4, [.seq (sub B4 [1, 1, 1, 1, 1, 1, 1, 0, 1, 2, 1]), .seq (sub B4 [1, 1, 1, 1, 1, 1, 1, 1])], [(1, .io .i64 cut), (5, .sl A i c), (13, .so (mkB (textB qs))), (127, .sl A i c), (130, .io .i64 (IntKind.i64.wrap ((↑i : Int) - 1)))], []⟩ (by kernel_rfl) (by kernel_rfl) ?_
        have hi0 : 0 < i := by have := of_decide_eq_true b0; omega
        clear b0
        have hwm : IntKind.i64.wrap ((i : Int) - 1) = ((i - 1 : Nat) : Int) := by
          rw [wrap63 (by omega) (by omega)]
          omega
        rw [hwm]
        obtain ⟨u, hu⟩ : ∃ u, qs[i - 1]? = some u := ⟨_, List.getElem?_eq_getElem (by omega)⟩
        obtain ⟨huy, hui⟩ := hall u (List.mem_of_getElem? hu)
        obtain ⟨ys, hys, hyl⟩ : ∃ ys, qs = ys ++ [u] ∧ ys.length = i - 1 := ⟨qs.take (i - 1), by
          have h9 : qs.take (i - 1 + 1) = qs.take (i - 1) ++ [u] := by rw [List.take_add_one, hu]; rfl
          rw [← h9, List.take_of_length_le (by omega)], by rw [List.length_take]; omega⟩
        have hul := line_len huy hui
        have hup := line_pos u
        have hts : (textB qs).length = (textB ys).length + (u.line.length + 1) := by rw [hys]; simp [textB]
        refine At.mono (F' := fun ρ w1 => PRows w.heap.size [(Ax, nx, cx, pv qs), (A, i, c, pv qs)] ρ w1 ∧ ∃ r, A = some r) (fun ρ w1 h => ⟨h, (row_is (h.1 (A, i, c, pv qs) (by simp)) (by omega)).1⟩) (At.pure ?_)
        rintro ⟨r, rfl⟩
        refine At.idx r i 9 ((i - 1 : Nat) : Int) (by kernel_rfl) (by omega) (by omega) PRows.stable ?_
        refine At.lda (r.add (((i - 1 : Nat) : Int).toNat * 9)) 9 (paneL (mkB u.key) u.st u.en u.kd u.nt u.ct u.sm u.mn u.mx) (by kernel_rfl) rfl PRows.stable (fun ρ w1 hm' hf j v hj => row_pane (i := i - 1) (hf.1 (some r, i, c, pv qs) (by simp)).1 (Below.refl _ _) hu hj) ?_
        refine At.toJ (PRows.stable) PRows.fewer 20 300 [1, 5, 13, 132] 0 ⟨pops B4 [1, 1, 1, 1, 1, 1, 1, 0, 1, 2, 0] 6, [.seq (sub B4 [1, 1, 1, 1, 1, 1, 1, 0, 1, 2, 1]), .seq (sub B4 [1, 1, 1, 1, 1, 1, 1, 1])], [(1, .io .i64 cut), (5, .sl (some r) i c), (13, .so (mkB (textB qs))), (132, .agg [.so (mkB u.key), .io .i64 u.st, .io .i64 u.en, .io .i64 u.kd, .io .i64 u.nt, .io .i64 u.ct, .io .i64 u.sm, .io .i64 u.mn, .io .i64 u.mx])], []⟩ (by kernel_rfl) (by kernel_rfl) ?_
        refine At.call PRows.stable 15 [.agg (paneL (mkB u.key) u.st u.en u.kd u.nt u.ct u.sm u.mn u.mx)] (.tup [.so (mkB u.line), .v (.int .i64 0)]) (by kernel_rfl) (by kernel_rfl) (by kernel_rfl) (fun _ _ w1 hi _ => line_yes u huy hui w1 (tab_below htp hi.mem.below rfl)) ?_
        refine At.toJ (PRows.stable) PRows.fewer 20 300 [5, 13, 18, 136, 138] 0 ⟨pops B4 [1, 1, 1, 1, 1, 1, 1, 0, 1, 2, 1, 0] 3, [.seq (sub B4 [1, 1, 1, 1, 1, 1, 1, 0, 1, 2, 1, 1]), .seq (sub B4 [1, 1, 1, 1, 1, 1, 1, 1])], [(5, .sl (some r) i c), (13, .so (mkB (textB qs))), (18, .so (mkB u.line)), (136, .io .i64 cut), (138, .io .i64 (↑(mkB u.line).size : Int))], []⟩ (by kernel_rfl) (by kernel_rfl) ?_
        refine At.rem .i64 cut ((mkB u.line).size : Int) (by kernel_rfl) (by rw [mkB_size]; omega) PRows.stable ?_
        refine At.toJ (PRows.stable) PRows.fewer 20 300 [5, 13, 142, 144] 0 ⟨pops B4 [1, 1, 1, 1, 1, 1, 1, 0, 1, 2, 1, 0] 9, [.seq (sub B4 [1, 1, 1, 1, 1, 1, 1, 0, 1, 2, 1, 1]), .seq (sub B4 [1, 1, 1, 1, 1, 1, 1, 1])], [(5, .sl (some r) i c), (13, .so (mkB (textB qs))), (142, .io .i64 (IntKind.i64.wrap (cut.tmod (↑(mkB u.line).size : Int) + (↑(mkB u.line).size : Int)))), (144, .io .i64 (↑(mkB u.line).size : Int))], []⟩ (by kernel_rfl) (by kernel_rfl) ?_
        refine At.rem .i64 (IntKind.i64.wrap (cut.tmod ((mkB u.line).size : Int) + ((mkB u.line).size : Int))) ((mkB u.line).size : Int) (by kernel_rfl) (by rw [mkB_size]; omega) PRows.stable ?_
        refine At.toJ (PRows.stable) PRows.fewer 20 300 [5, 148, 152] 0 ⟨pops B4 [1, 1, 1, 1, 1, 1, 1, 0, 1, 2, 1, 1, 0] 5, [.seq (sub B4 [1, 1, 1, 1, 1, 1, 1, 0, 1, 2, 1, 1, 1]), .seq (sub B4 [1, 1, 1, 1, 1, 1, 1, 1])], [(5, .sl (some r) i c), (148, .so (mkB (textB qs))), (152, .io .i64 (IntKind.i64.wrap ((↑(mkB (textB qs)).size : Int) - IntKind.i64.wrap (1 + (IntKind.i64.wrap (cut.tmod (↑(mkB u.line).size : Int) + (↑(mkB u.line).size : Int))).tmod (↑(mkB u.line).size : Int)))))], []⟩ (by kernel_rfl) (by kernel_rfl) ?_
        obtain ⟨k, hk1, hk2, hk⟩ := cut_k cut u.line.length hup hul
        have hsub : IntKind.i64.wrap (((mkB (textB qs)).size : Int) - IntKind.i64.wrap (1 + (IntKind.i64.wrap (cut.tmod ((mkB u.line).size : Int) + ((mkB u.line).size : Int))).tmod ((mkB u.line).size : Int))) = (((textB qs).length - k : Nat) : Int) := by
          rw [mkB_size, mkB_size, hk, wrap63 (by omega) (by omega)]
          omega
        rw [hsub]
        refine sslT (textB qs) ((textB qs).length - k) (by kernel_rfl) (by omega) PRows.stable ?_
        refine At.toJ (PRows.stable) PRows.fewer 20 300 [5, 153] 0 ⟨pops B4 [1, 1, 1, 1, 1, 1, 1, 0, 1, 2, 1, 1, 0] 6, [.seq (sub B4 [1, 1, 1, 1, 1, 1, 1, 0, 1, 2, 1, 1, 1]), .seq (sub B4 [1, 1, 1, 1, 1, 1, 1, 1])], [(5, .sl (some r) i c), (153, .so (mkB (List.take ((textB qs).length - k) (textB qs))))], []⟩ (by kernel_rfl) (by kernel_rfl) ?_
        have hrc : readG (((textB qs).take ((textB qs).length - k)).length + 1) [] ((textB qs).take ((textB qs).length - k)) = ([], i - 1, false) := by
          rw [hys, read_cut ys u k (by rw [← hys]; exact hall) hk1 hk2, hyl]
        refine At.rowCall 10 [.so (mkB ((textB qs).take ((textB qs).length - k)))] (pv []) (fun A n c => .tup [.sl A n c, .io .i64 ((i - 1 : Nat) : Int), .v (.int .i64 280)]) (by kernel_rfl) (by kernel_rfl) (by kernel_rfl) rfl (fun ρ w1 hi => (read_any ((textB qs).take ((textB qs).length - k)) (by rw [List.length_take]; omega) w1 (tab_below htp hi.below rfl) (var_below hs1 hi.below) (var_below hs2 hi.below) (cell_below hm hi.below)).mono fun e w2 h => by rw [hrc] at h; exact h) ?_
        intro Ay ny cy
        refine At.mono (F' := fun ρ w1 => PRows w.heap.size [(Ay, ny, cy, pv []), (Ax, nx, cx, pv qs), (some r, i, c, pv qs)] ρ w1 ∧ ny = 0) (fun ρ w1 h => ⟨h, row_n (h.1 (Ay, ny, cy, pv []) (by simp))⟩) (At.pure ?_)
        rintro rfl
        refine At.toJ (PRows.stable) PRows.fewer 20 300 [5, 22, 23, 161] 0 ⟨pops B4 [1, 1, 1, 1, 1, 1, 1, 0, 1, 2, 1, 1, 1, 0] 4, [.seq (sub B4 [1, 1, 1, 1, 1, 1, 1, 0, 1, 2, 1, 1, 1, 1]), .seq (sub B4 [1, 1, 1, 1, 1, 1, 1, 1])], [(5, .sl (some r) i c), (22, .io .i64 (↑(i - 1) : Int)), (23, .v (.int .i64 280)), (161, .bo false)], []⟩ (by kernel_rfl) (by kernel_rfl) ?_
        refine At.res 161 (false) false (by kernel_rfl) (by first | assumption | (simp only [*]; done) | (simp [*]; done)) ?_
        refine At.toJ (PRows.stable) PRows.fewer 20 300 [23, 168] 0 ⟨pops B4 [1, 1, 1, 1, 1, 1, 1, 0, 1, 2, 1, 1, 1, 0] 11, [.seq (sub B4 [1, 1, 1, 1, 1, 1, 1, 0, 1, 2, 1, 1, 1, 1]), .seq (sub B4 [1, 1, 1, 1, 1, 1, 1, 1])], [(23, .v (.int .i64 280)), (168, .bo ((↑(i - 1) : Int) != IntKind.i64.wrap ((↑i : Int) - 1)))], []⟩ (by kernel_rfl) (by kernel_rfl) ?_
        refine At.res 168 ((↑(i - 1) : Int) != IntKind.i64.wrap ((↑i : Int) - 1)) false (by kernel_rfl) (by first | assumption | (simp only [*]; done) | (simp [*]; done)) ?_
        refine At.toJ (PRows.stable) PRows.fewer 20 300 [] 0 ⟨pops B4 [1, 1, 1, 1, 1, 1, 1, 1, 0] 0, [.seq (sub B4 [1, 0, 1, 2, 1])], [], []⟩ (by kernel_rfl) (by kernel_rfl) ?_
        refine At.call PRows.stable 7 [] (.v (.bool true)) (by kernel_rfl) (by kernel_rfl) (by kernel_rfl) (fun _ _ w1 hi _ => known_any w1 (tab_below htp hi.mem.below rfl) (var_below hs1 hi.mem.below) (var_below hs2 hi.mem.below) (cell_below hm hi.mem.below)) ?_
        refine At.toJ (PRows.stable) PRows.fewer 20 300 [4] 0 ⟨.exit .ret, [], [(4, .v (.bool true))], []⟩ (by kernel_rfl) (by kernel_rfl) ?_
        refine At.ret (by kernel_rfl) (.v (.bool true)) (by kernel_rfl) ?_
        intro ρ w9 hm' hf
        exact ⟨rfl, hm'.below⟩
      · refine At.res 125 (decide ((↑i : Int) > 0)) false (by kernel_rfl) b0 ?_
        refine At.toJ (PRows.stable) PRows.fewer 20 300 [] 0 ⟨pops B4 [1, 1, 1, 1, 1, 1, 1, 1, 0] 0, [.seq (sub B4 [1, 0, 1, 2, 1])], [], []⟩ (by kernel_rfl) (by kernel_rfl) ?_
        refine At.call PRows.stable 7 [] (.v (.bool true)) (by kernel_rfl) (by kernel_rfl) (by kernel_rfl) (fun _ _ w1 hi _ => known_any w1 (tab_below htp hi.mem.below rfl) (var_below hs1 hi.mem.below) (var_below hs2 hi.mem.below) (cell_below hm hi.mem.below)) ?_
        refine At.toJ (PRows.stable) PRows.fewer 20 300 [4] 0 ⟨.exit .ret, [], [(4, .v (.bool true))], []⟩ (by kernel_rfl) (by kernel_rfl) ?_
        refine At.ret (by kernel_rfl) (.v (.bool true)) (by kernel_rfl) ?_
        intro ρ w9 hm' hf
        exact ⟨rfl, hm'.below⟩

end Go.Proofs.YtkjnbafdmjakgaaDoor
