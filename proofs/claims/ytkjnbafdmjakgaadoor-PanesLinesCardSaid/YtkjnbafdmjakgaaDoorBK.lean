import Derived.Test.YtkjnbafdmjakgaaDoorRH
import Derived.Test.YtkjnbafdmjakgaaDoorBJ
set_option linter.unusedSimpArgs false
set_option linter.unusedVariables false
namespace Go.Proofs.YtkjnbafdmjakgaaDoor
open Go.RowKit Go.Sx

theorem pv_len : ∀ ps : List Pn, (pv ps).length = ps.length * 9
  | [] => rfl
  | p :: ps => by
    rw [show pv (p :: ps) = p.cells ++ pv ps by simp [pv], List.length_append, pv_len ps, cells_len, List.length_cons]
    omega
theorem readG_len : ∀ (f : Nat) (ps : List Pn) (t : List UInt8), (readG f ps t).1.length ≤ ps.length + t.length
  | 0, ps, t => by simp [readG]
  | f + 1, ps, [] => by simp [readG]
  | f + 1, ps, c :: r => by
    have hl := cutN_len (c :: r)
    simp only [readG]
    cases parseK (cutN (c :: r)).1 with
    | none => simp
    | some p =>
      simp only
      by_cases he : (cutN (c :: r)).2.2 = true
      · rw [if_pos he]
        have := readG_len f (ps ++ [p]) (cutN (c :: r)).2.1
        have h2 := hl.2.2 he
        simp only [List.length_append, List.length_singleton] at this
        omega
      · rw [if_neg he]
        simp
abbrev Rw := Option Addr × Nat × Nat × List Value
def Rw.own (x : Rw) : Option Nat := (Value.slice x.1 x.2.1 x.2.2.1).ownBlock
/-- PRows of panes, each in memory of its own. -/
def PRows (b : Nat) (L : List Rw) (ρ : List Nat) (w : World) : Prop := (∀ x ∈ L, Row b 29 9 x.1 x.2.1 x.2.2.1 x.2.2.2 ρ w) ∧ L.Pairwise fun x y => ∀ g, x.own = some g → y.own ≠ some g
theorem PRows.none (b : Nat) (ρ : List Nat) (w : World) : PRows b [] ρ w := ⟨fun x h => (by cases h), List.Pairwise.nil⟩
theorem PRows.stable {b : Nat} {L : List Rw} : Stable (PRows b L) := fun ρ w ρ' w' hg hk h => ⟨fun x hx => (h.1 x hx).keep hg hk, h.2⟩
theorem PRows.fewer {b : Nat} {L : List Rw} : FewerK 0 (PRows b L) := fun ρ w k _ h => ⟨fun x hx => Row.fewer _ _ _ _ _ _ _ ρ w k (h.1 x hx), h.2⟩
theorem own_base {w : World} {b b' e size n : Nat} {v : Value} {xs : List Value} (h : w.ownsRow b e size v n xs) (hb : b' ≤ b) : w.ownsRow b' e size v n xs := by
  refine ⟨h.1, ?_⟩
  rcases h.2 with h2 | ⟨g, cap, cur, hv, hg, h3⟩
  · exact .inl h2
  · exact .inr ⟨g, cap, cur, hv, Nat.le_trans hb hg, h3⟩
/-- What a change of other blocks leaves of a row. -/
theorem Row.chg {b e size : Nat} {A : Option Addr} {n c : Nat} {xs : List Value} {ρ : List Nat} {w w' : World} {ok : Nat → Prop} (h : Row b e size A n c xs ρ w) (hc : Chg ok w w') (ho : ∀ g, (Value.slice A n c).ownBlock = some g → ¬ ok g) : Row b e size A n c xs ρ w' := by
  have hlt := h.1.lt
  refine ⟨⟨h.1.1, ?_⟩, h.2⟩
  rcases h.1.2 with h2 | ⟨g, cap, cur, hv, hb, hcur, hr⟩
  · exact .inl h2
  · have hg : (Value.slice A n c).ownBlock = some g := by rw [hv]; rfl
    exact .inr ⟨g, cap, cur, hv, hb, by rw [hc.block g (hlt g hg).2 (ho g hg)]; exact hcur, hr⟩
theorem row_n {b n c : Nat} {A : Option Addr} {ps : List Pn} {ρ : List Nat} {w : World} (h : Row b 29 9 A n c (pv ps) ρ w) : n = ps.length := by
  have := h.1.1
  rw [pv_len] at this
  omega
section
variable {P : Program} {Q : Exit → Act → World → Prop} {N : Nat} {w0 : World} {ntm : Nat}
/-- A call that makes one more row. -/
theorem At.rowCall {s : S} {L : List Rw} (g : FuncId) (vs : List SV) (xs : List Value) (rv : Option Addr → Nat → Nat → SV) (hc : s.call? = some (g, vs)) (hb : bodied P g = true) (hd : s.dstOk ntm = true) (hq : (match s.pc with | .ops .. => true | _ => false) = true)
    (hr : ∀ ρ w, WInv N w0 ρ s.loc w → Calls P g (SV.denL ρ vs).toArray w fun e w' => ∃ A n c, e = .returned ((rv A n c).den ρ) ∧ RowF w (fun _ => False) [] w.heap.size 29 9 A n c xs [] w')
    (h : ∀ A n c, At P Q N w0 ntm (PRows N ((A, n, c, xs) :: L)) (s.tail ntm (rv A n c))) : At P Q N w0 ntm (PRows N L) s := by
  refine At.callx (X := Option Addr × Nat × Nat) PRows.stable g vs (fun x => rv x.1 x.2.1 x.2.2) (fun x ρ w => PRows N ((x.1, x.2.1, x.2.2, xs) :: L) ρ w) (fun x => PRows.stable) hc hb hd hq (fun ρ a w hi hf => (hr ρ w hi.mem).mono ?_) (fun x => At.mono (fun ρ w h => h.2) (h x.1 x.2.1 x.2.2))
  rintro e w' ⟨A, n, c, rfl, ⟨⟨h1, h2⟩, h3, h4⟩⟩
  have hbel : Below w.heap.size w w' := ⟨h3.1.os, h3.1.tape, h3.1.output, h3.1.size, fun k hk => h3.1.block k hk (fun h => h)⟩
  have hnew : ∀ g, (Value.slice A n c).ownBlock = some g → w.heap.size ≤ g := fun g hg => (h4 g hg).resolve_left fun h => h
  refine ⟨(A, n, c), rfl, hbel, fun x hx => ?_, List.pairwise_cons.2 ⟨fun y hy g hg => ?_, hf.2⟩⟩
  · rcases List.mem_cons.1 hx with rfl | hx
    · refine ⟨own_base h1.1 hi.mem.hN, fun g hg hm => ?_⟩
      have h5 := hnew g hg
      have h6 := (hi.mem.ge g hm).2
      omega
    · exact (hf.1 x hx).keep (Grow.refl _ _) (Keep.of_below hbel)
  · intro he
    have h5 := hnew g hg
    have h6 := ((hf.1 y hy).1.lt g he).2
    omega
/-- A row given away to be spoilt. -/
theorem At.spoil {s : S} {L : List Rw} {x : Rw} (g : FuncId) (hc : s.call? = some (g, [.sl x.1 x.2.1 x.2.2.1])) (hb : bodied P g = true) (hd : s.dstOk ntm = true) (hp : s.plain = true) (hsc : scopedFr s.loc.length s.fr = true) (hloc : s.loc = [])
    (hr : ∀ w, N ≤ w.heap.size → w.ownsRow N 29 9 (.slice x.1 x.2.1 x.2.2.1) x.2.1 x.2.2.2 → Calls P g #[.slice x.1 x.2.1 x.2.2.1] w fun e w' => e = .returned (.tuple #[]) ∧ Chg (ownOf x.1 x.2.1 x.2.2.1) w w')
    (h : At P Q N w0 ntm (PRows N L) ((s.tail ntm (.tup [])).withLoc s.loc)) : At P Q N w0 ntm (PRows N (L ++ [x])) s := by
  refine At.callg (X := Unit) g [.sl x.1 x.2.1 x.2.2.1] (fun _ => .tup []) (fun _ => s.loc) (fun _ => PRows N L) hc hb hd hp hsc ?_ (fun _ => h)
  intro ρ w hm hf
  have hx := hf.1 x (by simp)
  have hlen : ρ = [] := List.length_eq_zero_iff.1 (by rw [hm.len, hloc]; rfl)
  refine (hr w hm.hN hx.1).mono ?_
  rintro e w' ⟨rfl, k⟩
  have hge : ∀ g, ownOf x.1 x.2.1 x.2.2.1 g → N ≤ g := fun g hg => (hx.1.lt g hg).1
  refine ⟨(), ρ, rfl, Grow.refl _ _, ⟨hm.below.trans ⟨k.os, k.tape, k.output, k.size, fun i hi => k.block i (Nat.lt_of_lt_of_le hi hm.hN) fun ho => ?_⟩, Nat.le_trans hm.hN k.size, hm.len, hm.nodup, fun b hb => ?_, fun i c t hi => ?_⟩, fun y hy => ?_, (List.pairwise_append.1 hf.2).1⟩
  · have := hge i ho; omega
  · rw [hlen] at hb; cases hb
  · rw [hloc] at hi; simp at hi
  · refine Row.chg (hf.1 y (by simp [hy])) k fun g hg ho => ?_
    exact (List.pairwise_append.1 hf.2).2.2 y hy x (by simp) g hg ho
end

noncomputable def B3 : Code := (Tryd.f3.body).getD .skip
set_option maxHeartbeats 20000000 in
set_option maxRecDepth 100000 in
theorem texts_pp (t : List UInt8) (ps : List Pn) (cnt : Nat) (p : Pn) (hp : parseK t = some p) (hR : readG (t.length + 1) [] t = (ps, cnt, true)) (w : World) (htp : Lib.TabIs Tryd.prog w "internal/strconv.uint64pow10" .u64 Lib.pow10Tab)
    {tp1 tp2 : TypeId} {q1 q2 : Value} (hs1 : w.var? Tryd.prog "strconv.ErrSyntax" = some #[.iface tp1 q1]) (hs2 : w.var? Tryd.prog "strconv.ErrRange" = some #[.iface tp2 q2]) {m : Int} (hm : w.cell? ⟨3, 0, none⟩ = some (.int .i64 m)) :
    Calls Tryd.prog 3 #[.string (mkB t)] w fun e w' => e = .returned (.bool true) ∧ Below w.heap.size w w' := by
  refine enter (fn := Tryd.f3) (c := B3) [.so (mkB t)] Tryd.func3 rfl rfl ?_
  refine At.to (noF_stable) (noF_fewer) 20 300 [0, 18] 0 ⟨.code (sub B3 [1, 0, 1]), [.seq (sub B3 [1, 1])], [(0, .so (mkB t)), (18, .bo (decide ((↑(mkB t).size : Int) > 20000)))], []⟩ (by kernel_rfl) (by kernel_rfl) ?_
  rcases Bool.eq_false_or_eq_true (decide ((↑(mkB t).size : Int) > 20000)) with b0 | b0
  · refine At.res 18 (decide ((↑(mkB t).size : Int) > 20000)) true (by kernel_rfl) b0 ?_
    refine At.to (noF_stable) (noF_fewer) 20 300 [] 0 ⟨pops B3 [1, 0, 1, 2, 0] 0, [.seq (sub B3 [1, 0, 1, 2, 1]), .seq (sub B3 [1, 1])], [], []⟩ (by kernel_rfl) (by kernel_rfl) ?_
    refine At.call noF_stable 7 [] (.v (.bool true)) (by kernel_rfl) (by kernel_rfl) (by kernel_rfl) (fun _ _ w1 hi _ => known_any w1 (tab_below htp hi.mem.below rfl) (var_below hs1 hi.mem.below) (var_below hs2 hi.mem.below) (cell_below hm hi.mem.below)) ?_
    refine At.to (noF_stable) (noF_fewer) 20 300 [2] 0 ⟨.exit .ret, [], [(2, .v (.bool true))], []⟩ (by kernel_rfl) (by kernel_rfl) ?_
    refine At.ret (by kernel_rfl) (.v (.bool true)) (by kernel_rfl) ?_
    intro ρ w9 hm' hf
    exact ⟨rfl, hm'.below⟩
  · refine At.res 18 (decide ((↑(mkB t).size : Int) > 20000)) false (by kernel_rfl) b0 ?_
    refine At.to (noF_stable) (noF_fewer) 20 300 [0, 21] 0 ⟨pops B3 [1, 1, 0] 1, [.seq (sub B3 [1, 1, 1])], [(0, .so (mkB t)), (21, .so (mkB t))], []⟩ (by kernel_rfl) (by kernel_rfl) ?_
    have hbig : t.length ≤ 20000 := by have := of_decide_eq_false b0; rw [mkB_size] at this; omega
    have hcnt := readG_len (t.length + 1) [] t
    rw [hR] at hcnt
    simp only [List.length_nil, Nat.zero_add] at hcnt
    refine At.call noF_stable 8 [.so (mkB t)] (.tup [.agg (paneL (mkB p.key) p.st p.en p.kd p.nt p.ct p.sm p.mn p.mx), .v (.int .i64 0)]) (by kernel_rfl) (by kernel_rfl) (by kernel_rfl) (fun _ _ w1 hi _ => (parse_any t (by omega) w1 (tab_below htp hi.mem.below rfl) (var_below hs1 hi.mem.below) (var_below hs2 hi.mem.below) (cell_below hm hi.mem.below)).mono fun e w2 h => ⟨h.1.trans (by rw [hp]; rfl), h.2⟩) ?_
    refine At.to (noF_stable) (noF_fewer) 20 300 [0, 3, 4, 26] 1 ⟨pops B3 [1, 1, 1, 0] 1, [.seq (sub B3 [1, 1, 1, 1])], [(0, .so (mkB t)), (3, .lp 0 0), (4, .v (.int .i64 0)), (26, .so (mkB t))], [([.so (mkB p.key), .io .i64 p.st, .io .i64 p.en, .io .i64 p.kd, .io .i64 p.nt, .io .i64 p.ct, .io .i64 p.sm, .io .i64 p.mn, .io .i64 p.mx], 29)]⟩ (by kernel_rfl) (by kernel_rfl) ?_
    refine At.call noF_stable 9 [.so (mkB t)] (.tup [.agg (paneL (mkB p.key) p.st p.en p.kd p.nt p.ct p.sm p.mn p.mx), .v (.bool true)]) (by kernel_rfl) (by kernel_rfl) (by kernel_rfl) (fun _ _ w1 hi _ => (rparse_any t (by omega) w1).mono fun e w2 h => ⟨h.1.trans (by rw [parse_alike, hp]; rfl), h.2⟩) ?_
    refine At.to (noF_stable) (noF_fewer) 20 300 [0, 3, 4, 5, 6, 31] 2 ⟨pops B3 [1, 1, 1, 1, 0] 1, [.seq (sub B3 [1, 1, 1, 1, 1])], [(0, .so (mkB t)), (3, .lp 0 0), (4, .v (.int .i64 0)), (5, .lp 1 0), (6, .v (.bool true)), (31, .so (mkB t))], [([.so (mkB p.key), .io .i64 p.st, .io .i64 p.en, .io .i64 p.kd, .io .i64 p.nt, .io .i64 p.ct, .io .i64 p.sm, .io .i64 p.mn, .io .i64 p.mx], 29), ([.so (mkB p.key), .io .i64 p.st, .io .i64 p.en, .io .i64 p.kd, .io .i64 p.nt, .io .i64 p.ct, .io .i64 p.sm, .io .i64 p.mn, .io .i64 p.mx], 29)]⟩ (by kernel_rfl) (by kernel_rfl) ?_
    refine At.mono (F' := PRows w.heap.size []) (fun ρ w1 _ => PRows.none _ _ _) ?_
    refine At.rowCall 10 [.so (mkB t)] (pv ps) (fun A n c => .tup [.sl A n c, .io .i64 (cnt : Int), .v (.int .i64 0)]) (by kernel_rfl) (by kernel_rfl) (by kernel_rfl) rfl (fun ρ w1 hi => (read_any t (by omega) w1 (tab_below htp hi.below rfl) (var_below hs1 hi.below) (var_below hs2 hi.below) (cell_below hm hi.below)).mono fun e w2 h => by rw [hR] at h; exact h) ?_
    intro A n c
    refine At.toJ (PRows.stable) PRows.fewer 20 300 [0, 3, 4, 5, 6, 7, 8, 9, 37] 2 ⟨pops B3 [1, 1, 1, 1, 1, 0] 1, [.seq (sub B3 [1, 1, 1, 1, 1, 1])], [(0, .so (mkB t)), (3, .lp 0 0), (4, .v (.int .i64 0)), (5, .lp 1 0), (6, .v (.bool true)), (7, .sl A n c), (8, .io .i64 (↑cnt : Int)), (9, .v (.int .i64 0)), (37, .so (mkB t))], [([.so (mkB p.key), .io .i64 p.st, .io .i64 p.en, .io .i64 p.kd, .io .i64 p.nt, .io .i64 p.ct, .io .i64 p.sm, .io .i64 p.mn, .io .i64 p.mx], 29), ([.so (mkB p.key), .io .i64 p.st, .io .i64 p.en, .io .i64 p.kd, .io .i64 p.nt, .io .i64 p.ct, .io .i64 p.sm, .io .i64 p.mn, .io .i64 p.mx], 29)]⟩ (by kernel_rfl) (by kernel_rfl) ?_
    refine At.rowCall 10 [.so (mkB t)] (pv ps) (fun A n c => .tup [.sl A n c, .io .i64 (cnt : Int), .v (.int .i64 0)]) (by kernel_rfl) (by kernel_rfl) (by kernel_rfl) rfl (fun ρ w1 hi => (read_any t (by omega) w1 (tab_below htp hi.below rfl) (var_below hs1 hi.below) (var_below hs2 hi.below) (cell_below hm hi.below)).mono fun e w2 h => by rw [hR] at h; exact h) ?_
    intro A' n' c'
    refine At.toJ (PRows.stable) PRows.fewer 20 300 [3, 4, 5, 6, 7, 8, 9, 10, 43] 2 ⟨pops B3 [1, 1, 1, 1, 1, 1, 0] 1, [.seq (sub B3 [1, 1, 1, 1, 1, 1, 1])], [(3, .lp 0 0), (4, .v (.int .i64 0)), (5, .lp 1 0), (6, .v (.bool true)), (7, .sl A n c), (8, .io .i64 (↑cnt : Int)), (9, .v (.int .i64 0)), (10, .sl A' n' c'), (43, .so (mkB t))], [([.so (mkB p.key), .io .i64 p.st, .io .i64 p.en, .io .i64 p.kd, .io .i64 p.nt, .io .i64 p.ct, .io .i64 p.sm, .io .i64 p.mn, .io .i64 p.mx], 29), ([.so (mkB p.key), .io .i64 p.st, .io .i64 p.en, .io .i64 p.kd, .io .i64 p.nt, .io .i64 p.ct, .io .i64 p.sm, .io .i64 p.mn, .io .i64 p.mx], 29)]⟩ (by kernel_rfl) (by kernel_rfl) ?_
    refine At.rowCall 11 [.so (mkB t)] (pv ps) (fun A n c => .tup [.sl A n c, .io .i64 (cnt : Int), .v (.bool true)]) (by kernel_rfl) (by kernel_rfl) (by kernel_rfl) rfl (fun ρ w1 hi => (rread_any t (by omega) w1).mono fun e w2 h => by rw [hR] at h; exact h) ?_
    intro A2 n2 c2
    refine At.toJ (PRows.stable) PRows.fewer 20 300 [4, 6, 7, 8, 9, 10, 13, 14, 15, 51] 0 ⟨pops B3 [1, 1, 1, 1, 1, 1, 1, 0, 0] 4, [.seq (sub B3 [1, 1, 1, 1, 1, 1, 1, 0, 1]), .seq (sub B3 [1, 1, 1, 1, 1, 1, 1, 1])], [(4, .v (.int .i64 0)), (6, .v (.bool true)), (7, .sl A n c), (8, .io .i64 (↑cnt : Int)), (9, .v (.int .i64 0)), (10, .sl A' n' c'), (13, .sl A2 n2 c2), (14, .io .i64 (↑cnt : Int)), (15, .v (.bool true)), (51, .bo !((mkB p.key).toList == (mkB p.key).toList && (p.st == p.st && (p.en == p.en && true) && (p.kd == p.kd && (p.nt == p.nt && (p.ct == p.ct && (p.sm == p.sm && (p.mn == p.mn && (p.mx == p.mx && true))) && true))))))], []⟩ (by kernel_rfl) (by kernel_rfl) ?_
    refine At.res 51 (!((mkB p.key).toList == (mkB p.key).toList && (p.st == p.st && (p.en == p.en && true) && (p.kd == p.kd && (p.nt == p.nt && (p.ct == p.ct && (p.sm == p.sm && (p.mn == p.mn && (p.mx == p.mx && true))) && true)))))) false (by kernel_rfl) (by first | assumption | (simp only [*]; done) | (simp [*]; done)) ?_
    refine At.toJ (PRows.stable) PRows.fewer 20 300 [7, 8, 9, 10, 13, 14, 15, 65, 66, 67] 0 ⟨pops B3 [1, 1, 1, 1, 1, 1, 1, 0, 0] 20, [.seq (sub B3 [1, 1, 1, 1, 1, 1, 1, 0, 1]), .seq (sub B3 [1, 1, 1, 1, 1, 1, 1, 1])], [(7, .sl A n c), (8, .io .i64 (↑cnt : Int)), (9, .v (.int .i64 0)), (10, .sl A' n' c'), (13, .sl A2 n2 c2), (14, .io .i64 (↑cnt : Int)), (15, .v (.bool true)), (65, .v (.bool false)), (66, .sl A n c), (67, .sl A2 n2 c2)], []⟩ (by kernel_rfl) (by kernel_rfl) ?_
    refine At.call PRows.stable 12 [.sl A n c, .sl A2 n2 c2] (.v (.bool true)) (by kernel_rfl) (by kernel_rfl) (by kernel_rfl) (fun ρ _ w1 hi hf => (same_any w1 (hf.1 (A, n, c, pv ps) (by simp)).1 (hf.1 (A2, n2, c2, pv ps) (by simp)).1 (row_n (hf.1 (A, n, c, pv ps) (by simp))) (row_n (hf.1 (A2, n2, c2, pv ps) (by simp))) (by have := row_n (hf.1 (A, n, c, pv ps) (by simp)); omega)).mono fun e w2 h => ⟨h.1.trans (by rw [decide_eq_true rfl]; rfl), h.2⟩) ?_
    refine At.toJ (PRows.stable) PRows.fewer 20 300 [7, 9, 10, 13, 15, 76] 0 ⟨pops B3 [1, 1, 1, 1, 1, 1, 1, 0, 0] 29, [.seq (sub B3 [1, 1, 1, 1, 1, 1, 1, 0, 1]), .seq (sub B3 [1, 1, 1, 1, 1, 1, 1, 1])], [(7, .sl A n c), (9, .v (.int .i64 0)), (10, .sl A' n' c'), (13, .sl A2 n2 c2), (15, .v (.bool true)), (76, .bo ((↑cnt : Int) != (↑cnt : Int)))], []⟩ (by kernel_rfl) (by kernel_rfl) ?_
    refine At.res 76 ((↑cnt : Int) != (↑cnt : Int)) false (by kernel_rfl) (by first | assumption | (simp only [*]; done) | (simp [*]; done)) ?_
    refine At.toJ (PRows.stable) PRows.fewer 20 300 [10, 13, 90] 0 ⟨pops B3 [1, 1, 1, 1, 1, 1, 1, 1, 0] 1, [.seq (sub B3 [1, 1, 1, 1, 1, 1, 1, 1, 1])], [(10, .sl A' n' c'), (13, .sl A2 n2 c2), (90, .sl A n c)], []⟩ (by kernel_rfl) (by kernel_rfl) ?_
    refine At.spoil (L := [(A2, n2, c2, pv ps), (A', n', c', pv ps)]) (x := (A, n, c, pv ps)) 13 (by kernel_rfl) (by kernel_rfl) (by kernel_rfl) (by kernel_rfl) (by kernel_rfl) rfl (fun w1 hN hx => spoilt_any w1 hx hN (by have := hx.1; rw [pv_len] at this; omega)) ?_
    refine At.toJ (PRows.stable) PRows.fewer 20 300 [92, 93] 0 ⟨pops B3 [1, 1, 1, 1, 1, 1, 1, 1, 1, 0] 2, [.seq (sub B3 [1, 0, 1, 2, 1])], [(92, .sl A' n' c'), (93, .sl A2 n2 c2)], []⟩ (by kernel_rfl) (by kernel_rfl) ?_
    refine At.call PRows.stable 12 [.sl A' n' c', .sl A2 n2 c2] (.v (.bool true)) (by kernel_rfl) (by kernel_rfl) (by kernel_rfl) (fun ρ _ w1 hi hf => (same_any w1 (hf.1 (A', n', c', pv ps) (by simp)).1 (hf.1 (A2, n2, c2, pv ps) (by simp)).1 (row_n (hf.1 (A', n', c', pv ps) (by simp))) (row_n (hf.1 (A2, n2, c2, pv ps) (by simp))) (by have := row_n (hf.1 (A', n', c', pv ps) (by simp)); omega)).mono fun e w2 h => ⟨h.1.trans (by rw [decide_eq_true rfl]; rfl), h.2⟩) ?_
    refine At.toJ (PRows.stable) PRows.fewer 20 300 [95] 0 ⟨pops B3 [1, 1, 1, 1, 1, 1, 1, 1, 1, 0] 4, [.seq (sub B3 [1, 0, 1, 2, 1])], [(95, .v (.bool true))], []⟩ (by kernel_rfl) (by kernel_rfl) ?_
    refine At.call PRows.stable 7 [] (.v (.bool true)) (by kernel_rfl) (by kernel_rfl) (by kernel_rfl) (fun _ _ w1 hi _ => known_any w1 (tab_below htp hi.mem.below rfl) (var_below hs1 hi.mem.below) (var_below hs2 hi.mem.below) (cell_below hm hi.mem.below)) ?_
    refine At.toJ (PRows.stable) PRows.fewer 20 300 [2] 0 ⟨.exit .ret, [], [(2, .v (.bool true))], []⟩ (by kernel_rfl) (by kernel_rfl) ?_
    refine At.ret (by kernel_rfl) (.v (.bool true)) (by kernel_rfl) ?_
    intro ρ w9 hm' hf
    exact ⟨rfl, hm'.below⟩

set_option maxHeartbeats 20000000 in
set_option maxRecDepth 100000 in
theorem texts_pq (t : List UInt8) (ps : List Pn) (cnt : Nat) (p : Pn) (hp : parseK t = some p) (hR : readG (t.length + 1) [] t = (ps, cnt, false)) (w : World) (htp : Lib.TabIs Tryd.prog w "internal/strconv.uint64pow10" .u64 Lib.pow10Tab)
    {tp1 tp2 : TypeId} {q1 q2 : Value} (hs1 : w.var? Tryd.prog "strconv.ErrSyntax" = some #[.iface tp1 q1]) (hs2 : w.var? Tryd.prog "strconv.ErrRange" = some #[.iface tp2 q2]) {m : Int} (hm : w.cell? ⟨3, 0, none⟩ = some (.int .i64 m)) :
    Calls Tryd.prog 3 #[.string (mkB t)] w fun e w' => e = .returned (.bool true) ∧ Below w.heap.size w w' := by
  refine enter (fn := Tryd.f3) (c := B3) [.so (mkB t)] Tryd.func3 rfl rfl ?_
  refine At.to (noF_stable) (noF_fewer) 20 300 [0, 18] 0 ⟨.code (sub B3 [1, 0, 1]), [.seq (sub B3 [1, 1])], [(0, .so (mkB t)), (18, .bo (decide ((↑(mkB t).size : Int) > 20000)))], []⟩ (by kernel_rfl) (by kernel_rfl) ?_
  rcases Bool.eq_false_or_eq_true (decide ((↑(mkB t).size : Int) > 20000)) with b0 | b0
  · refine At.res 18 (decide ((↑(mkB t).size : Int) > 20000)) true (by kernel_rfl) b0 ?_
    refine At.to (noF_stable) (noF_fewer) 20 300 [] 0 ⟨pops B3 [1, 0, 1, 2, 0] 0, [.seq (sub B3 [1, 0, 1, 2, 1]), .seq (sub B3 [1, 1])], [], []⟩ (by kernel_rfl) (by kernel_rfl) ?_
    refine At.call noF_stable 7 [] (.v (.bool true)) (by kernel_rfl) (by kernel_rfl) (by kernel_rfl) (fun _ _ w1 hi _ => known_any w1 (tab_below htp hi.mem.below rfl) (var_below hs1 hi.mem.below) (var_below hs2 hi.mem.below) (cell_below hm hi.mem.below)) ?_
    refine At.to (noF_stable) (noF_fewer) 20 300 [2] 0 ⟨.exit .ret, [], [(2, .v (.bool true))], []⟩ (by kernel_rfl) (by kernel_rfl) ?_
    refine At.ret (by kernel_rfl) (.v (.bool true)) (by kernel_rfl) ?_
    intro ρ w9 hm' hf
    exact ⟨rfl, hm'.below⟩
  · refine At.res 18 (decide ((↑(mkB t).size : Int) > 20000)) false (by kernel_rfl) b0 ?_
    refine At.to (noF_stable) (noF_fewer) 20 300 [0, 21] 0 ⟨pops B3 [1, 1, 0] 1, [.seq (sub B3 [1, 1, 1])], [(0, .so (mkB t)), (21, .so (mkB t))], []⟩ (by kernel_rfl) (by kernel_rfl) ?_
    have hbig : t.length ≤ 20000 := by have := of_decide_eq_false b0; rw [mkB_size] at this; omega
    have hcnt := readG_len (t.length + 1) [] t
    rw [hR] at hcnt
    simp only [List.length_nil, Nat.zero_add] at hcnt
    refine At.call noF_stable 8 [.so (mkB t)] (.tup [.agg (paneL (mkB p.key) p.st p.en p.kd p.nt p.ct p.sm p.mn p.mx), .v (.int .i64 0)]) (by kernel_rfl) (by kernel_rfl) (by kernel_rfl) (fun _ _ w1 hi _ => (parse_any t (by omega) w1 (tab_below htp hi.mem.below rfl) (var_below hs1 hi.mem.below) (var_below hs2 hi.mem.below) (cell_below hm hi.mem.below)).mono fun e w2 h => ⟨h.1.trans (by rw [hp]; rfl), h.2⟩) ?_
    refine At.to (noF_stable) (noF_fewer) 20 300 [0, 3, 4, 26] 1 ⟨pops B3 [1, 1, 1, 0] 1, [.seq (sub B3 [1, 1, 1, 1])], [(0, .so (mkB t)), (3, .lp 0 0), (4, .v (.int .i64 0)), (26, .so (mkB t))], [([.so (mkB p.key), .io .i64 p.st, .io .i64 p.en, .io .i64 p.kd, .io .i64 p.nt, .io .i64 p.ct, .io .i64 p.sm, .io .i64 p.mn, .io .i64 p.mx], 29)]⟩ (by kernel_rfl) (by kernel_rfl) ?_
    refine At.call noF_stable 9 [.so (mkB t)] (.tup [.agg (paneL (mkB p.key) p.st p.en p.kd p.nt p.ct p.sm p.mn p.mx), .v (.bool true)]) (by kernel_rfl) (by kernel_rfl) (by kernel_rfl) (fun _ _ w1 hi _ => (rparse_any t (by omega) w1).mono fun e w2 h => ⟨h.1.trans (by rw [parse_alike, hp]; rfl), h.2⟩) ?_
    refine At.to (noF_stable) (noF_fewer) 20 300 [0, 3, 4, 5, 6, 31] 2 ⟨pops B3 [1, 1, 1, 1, 0] 1, [.seq (sub B3 [1, 1, 1, 1, 1])], [(0, .so (mkB t)), (3, .lp 0 0), (4, .v (.int .i64 0)), (5, .lp 1 0), (6, .v (.bool true)), (31, .so (mkB t))], [([.so (mkB p.key), .io .i64 p.st, .io .i64 p.en, .io .i64 p.kd, .io .i64 p.nt, .io .i64 p.ct, .io .i64 p.sm, .io .i64 p.mn, .io .i64 p.mx], 29), ([.so (mkB p.key), .io .i64 p.st, .io .i64 p.en, .io .i64 p.kd, .io .i64 p.nt, .io .i64 p.ct, .io .i64 p.sm, .io .i64 p.mn, .io .i64 p.mx], 29)]⟩ (by kernel_rfl) (by kernel_rfl) ?_
    refine At.mono (F' := PRows w.heap.size []) (fun ρ w1 _ => PRows.none _ _ _) ?_
    refine At.rowCall 10 [.so (mkB t)] (pv ps) (fun A n c => .tup [.sl A n c, .io .i64 (cnt : Int), .v (.int .i64 280)]) (by kernel_rfl) (by kernel_rfl) (by kernel_rfl) rfl (fun ρ w1 hi => (read_any t (by omega) w1 (tab_below htp hi.below rfl) (var_below hs1 hi.below) (var_below hs2 hi.below) (cell_below hm hi.below)).mono fun e w2 h => by rw [hR] at h; exact h) ?_
    intro A n c
    refine At.toJ (PRows.stable) PRows.fewer 20 300 [0, 3, 4, 5, 6, 7, 8, 9, 37] 2 ⟨pops B3 [1, 1, 1, 1, 1, 0] 1, [.seq (sub B3 [1, 1, 1, 1, 1, 1])], [(0, .so (mkB t)), (3, .lp 0 0), (4, .v (.int .i64 0)), (5, .lp 1 0), (6, .v (.bool true)), (7, .sl A n c), (8, .io .i64 (↑cnt : Int)), (9, .v (.int .i64 280)), (37, .so (mkB t))], [([.so (mkB p.key), .io .i64 p.st, .io .i64 p.en, .io .i64 p.kd, .io .i64 p.nt, .io .i64 p.ct, .io .i64 p.sm, .io .i64 p.mn, .io .i64 p.mx], 29), ([.so (mkB p.key), .io .i64 p.st, .io .i64 p.en, .io .i64 p.kd, .io .i64 p.nt, .io .i64 p.ct, .io .i64 p.sm, .io .i64 p.mn, .io .i64 p.mx], 29)]⟩ (by kernel_rfl) (by kernel_rfl) ?_
    refine At.rowCall 10 [.so (mkB t)] (pv ps) (fun A n c => .tup [.sl A n c, .io .i64 (cnt : Int), .v (.int .i64 280)]) (by kernel_rfl) (by kernel_rfl) (by kernel_rfl) rfl (fun ρ w1 hi => (read_any t (by omega) w1 (tab_below htp hi.below rfl) (var_below hs1 hi.below) (var_below hs2 hi.below) (cell_below hm hi.below)).mono fun e w2 h => by rw [hR] at h; exact h) ?_
    intro A' n' c'
    refine At.toJ (PRows.stable) PRows.fewer 20 300 [3, 4, 5, 6, 7, 8, 9, 10, 43] 2 ⟨pops B3 [1, 1, 1, 1, 1, 1, 0] 1, [.seq (sub B3 [1, 1, 1, 1, 1, 1, 1])], [(3, .lp 0 0), (4, .v (.int .i64 0)), (5, .lp 1 0), (6, .v (.bool true)), (7, .sl A n c), (8, .io .i64 (↑cnt : Int)), (9, .v (.int .i64 280)), (10, .sl A' n' c'), (43, .so (mkB t))], [([.so (mkB p.key), .io .i64 p.st, .io .i64 p.en, .io .i64 p.kd, .io .i64 p.nt, .io .i64 p.ct, .io .i64 p.sm, .io .i64 p.mn, .io .i64 p.mx], 29), ([.so (mkB p.key), .io .i64 p.st, .io .i64 p.en, .io .i64 p.kd, .io .i64 p.nt, .io .i64 p.ct, .io .i64 p.sm, .io .i64 p.mn, .io .i64 p.mx], 29)]⟩ (by kernel_rfl) (by kernel_rfl) ?_
    refine At.rowCall 11 [.so (mkB t)] (pv ps) (fun A n c => .tup [.sl A n c, .io .i64 (cnt : Int), .v (.bool false)]) (by kernel_rfl) (by kernel_rfl) (by kernel_rfl) rfl (fun ρ w1 hi => (rread_any t (by omega) w1).mono fun e w2 h => by rw [hR] at h; exact h) ?_
    intro A2 n2 c2
    refine At.toJ (PRows.stable) PRows.fewer 20 300 [4, 6, 7, 8, 9, 10, 13, 14, 15, 51] 0 ⟨pops B3 [1, 1, 1, 1, 1, 1, 1, 0, 0] 4, [.seq (sub B3 [1, 1, 1, 1, 1, 1, 1, 0, 1]), .seq (sub B3 [1, 1, 1, 1, 1, 1, 1, 1])], [(4, .v (.int .i64 0)), (6, .v (.bool true)), (7, .sl A n c), (8, .io .i64 (↑cnt : Int)), (9, .v (.int .i64 280)), (10, .sl A' n' c'), (13, .sl A2 n2 c2), (14, .io .i64 (↑cnt : Int)), (15, .v (.bool false)), (51, .bo !((mkB p.key).toList == (mkB p.key).toList && (p.st == p.st && (p.en == p.en && true) && (p.kd == p.kd && (p.nt == p.nt && (p.ct == p.ct && (p.sm == p.sm && (p.mn == p.mn && (p.mx == p.mx && true))) && true))))))], []⟩ (by kernel_rfl) (by kernel_rfl) ?_
    refine At.res 51 (!((mkB p.key).toList == (mkB p.key).toList && (p.st == p.st && (p.en == p.en && true) && (p.kd == p.kd && (p.nt == p.nt && (p.ct == p.ct && (p.sm == p.sm && (p.mn == p.mn && (p.mx == p.mx && true))) && true)))))) false (by kernel_rfl) (by first | assumption | (simp only [*]; done) | (simp [*]; done)) ?_
    refine At.toJ (PRows.stable) PRows.fewer 20 300 [7, 8, 9, 10, 13, 14, 15, 65, 66, 67] 0 ⟨pops B3 [1, 1, 1, 1, 1, 1, 1, 0, 0] 20, [.seq (sub B3 [1, 1, 1, 1, 1, 1, 1, 0, 1]), .seq (sub B3 [1, 1, 1, 1, 1, 1, 1, 1])], [(7, .sl A n c), (8, .io .i64 (↑cnt : Int)), (9, .v (.int .i64 280)), (10, .sl A' n' c'), (13, .sl A2 n2 c2), (14, .io .i64 (↑cnt : Int)), (15, .v (.bool false)), (65, .v (.bool false)), (66, .sl A n c), (67, .sl A2 n2 c2)], []⟩ (by kernel_rfl) (by kernel_rfl) ?_
    refine At.call PRows.stable 12 [.sl A n c, .sl A2 n2 c2] (.v (.bool true)) (by kernel_rfl) (by kernel_rfl) (by kernel_rfl) (fun ρ _ w1 hi hf => (same_any w1 (hf.1 (A, n, c, pv ps) (by simp)).1 (hf.1 (A2, n2, c2, pv ps) (by simp)).1 (row_n (hf.1 (A, n, c, pv ps) (by simp))) (row_n (hf.1 (A2, n2, c2, pv ps) (by simp))) (by have := row_n (hf.1 (A, n, c, pv ps) (by simp)); omega)).mono fun e w2 h => ⟨h.1.trans (by rw [decide_eq_true rfl]; rfl), h.2⟩) ?_
    refine At.toJ (PRows.stable) PRows.fewer 20 300 [7, 9, 10, 13, 15, 76] 0 ⟨pops B3 [1, 1, 1, 1, 1, 1, 1, 0, 0] 29, [.seq (sub B3 [1, 1, 1, 1, 1, 1, 1, 0, 1]), .seq (sub B3 [1, 1, 1, 1, 1, 1, 1, 1])], [(7, .sl A n c), (9, .v (.int .i64 280)), (10, .sl A' n' c'), (13, .sl A2 n2 c2), (15, .v (.bool false)), (76, .bo ((↑cnt : Int) != (↑cnt : Int)))], []⟩ (by kernel_rfl) (by kernel_rfl) ?_
    refine At.res 76 ((↑cnt : Int) != (↑cnt : Int)) false (by kernel_rfl) (by first | assumption | (simp only [*]; done) | (simp [*]; done)) ?_
    refine At.toJ (PRows.stable) PRows.fewer 20 300 [10, 13, 90] 0 ⟨pops B3 [1, 1, 1, 1, 1, 1, 1, 1, 0] 1, [.seq (sub B3 [1, 1, 1, 1, 1, 1, 1, 1, 1])], [(10, .sl A' n' c'), (13, .sl A2 n2 c2), (90, .sl A n c)], []⟩ (by kernel_rfl) (by kernel_rfl) ?_
    refine At.spoil (L := [(A2, n2, c2, pv ps), (A', n', c', pv ps)]) (x := (A, n, c, pv ps)) 13 (by kernel_rfl) (by kernel_rfl) (by kernel_rfl) (by kernel_rfl) (by kernel_rfl) rfl (fun w1 hN hx => spoilt_any w1 hx hN (by have := hx.1; rw [pv_len] at this; omega)) ?_
    refine At.toJ (PRows.stable) PRows.fewer 20 300 [92, 93] 0 ⟨pops B3 [1, 1, 1, 1, 1, 1, 1, 1, 1, 0] 2, [.seq (sub B3 [1, 0, 1, 2, 1])], [(92, .sl A' n' c'), (93, .sl A2 n2 c2)], []⟩ (by kernel_rfl) (by kernel_rfl) ?_
    refine At.call PRows.stable 12 [.sl A' n' c', .sl A2 n2 c2] (.v (.bool true)) (by kernel_rfl) (by kernel_rfl) (by kernel_rfl) (fun ρ _ w1 hi hf => (same_any w1 (hf.1 (A', n', c', pv ps) (by simp)).1 (hf.1 (A2, n2, c2, pv ps) (by simp)).1 (row_n (hf.1 (A', n', c', pv ps) (by simp))) (row_n (hf.1 (A2, n2, c2, pv ps) (by simp))) (by have := row_n (hf.1 (A', n', c', pv ps) (by simp)); omega)).mono fun e w2 h => ⟨h.1.trans (by rw [decide_eq_true rfl]; rfl), h.2⟩) ?_
    refine At.toJ (PRows.stable) PRows.fewer 20 300 [95] 0 ⟨pops B3 [1, 1, 1, 1, 1, 1, 1, 1, 1, 0] 4, [.seq (sub B3 [1, 0, 1, 2, 1])], [(95, .v (.bool true))], []⟩ (by kernel_rfl) (by kernel_rfl) ?_
    refine At.call PRows.stable 7 [] (.v (.bool true)) (by kernel_rfl) (by kernel_rfl) (by kernel_rfl) (fun _ _ w1 hi _ => known_any w1 (tab_below htp hi.mem.below rfl) (var_below hs1 hi.mem.below) (var_below hs2 hi.mem.below) (cell_below hm hi.mem.below)) ?_
    refine At.toJ (PRows.stable) PRows.fewer 20 300 [2] 0 ⟨.exit .ret, [], [(2, .v (.bool true))], []⟩ (by kernel_rfl) (by kernel_rfl) ?_
    refine At.ret (by kernel_rfl) (.v (.bool true)) (by kernel_rfl) ?_
    intro ρ w9 hm' hf
    exact ⟨rfl, hm'.below⟩

set_option maxHeartbeats 20000000 in
set_option maxRecDepth 100000 in
theorem texts_qp (t : List UInt8) (ps : List Pn) (cnt : Nat) (hp : parseK t = none) (hR : readG (t.length + 1) [] t = (ps, cnt, true)) (w : World) (htp : Lib.TabIs Tryd.prog w "internal/strconv.uint64pow10" .u64 Lib.pow10Tab)
    {tp1 tp2 : TypeId} {q1 q2 : Value} (hs1 : w.var? Tryd.prog "strconv.ErrSyntax" = some #[.iface tp1 q1]) (hs2 : w.var? Tryd.prog "strconv.ErrRange" = some #[.iface tp2 q2]) {m : Int} (hm : w.cell? ⟨3, 0, none⟩ = some (.int .i64 m)) :
    Calls Tryd.prog 3 #[.string (mkB t)] w fun e w' => e = .returned (.bool true) ∧ Below w.heap.size w w' := by
  refine enter (fn := Tryd.f3) (c := B3) [.so (mkB t)] Tryd.func3 rfl rfl ?_
  refine At.to (noF_stable) (noF_fewer) 20 300 [0, 18] 0 ⟨.code (sub B3 [1, 0, 1]), [.seq (sub B3 [1, 1])], [(0, .so (mkB t)), (18, .bo (decide ((↑(mkB t).size : Int) > 20000)))], []⟩ (by kernel_rfl) (by kernel_rfl) ?_
  rcases Bool.eq_false_or_eq_true (decide ((↑(mkB t).size : Int) > 20000)) with b0 | b0
  · refine At.res 18 (decide ((↑(mkB t).size : Int) > 20000)) true (by kernel_rfl) b0 ?_
    refine At.to (noF_stable) (noF_fewer) 20 300 [] 0 ⟨pops B3 [1, 0, 1, 2, 0] 0, [.seq (sub B3 [1, 0, 1, 2, 1]), .seq (sub B3 [1, 1])], [], []⟩ (by kernel_rfl) (by kernel_rfl) ?_
    refine At.call noF_stable 7 [] (.v (.bool true)) (by kernel_rfl) (by kernel_rfl) (by kernel_rfl) (fun _ _ w1 hi _ => known_any w1 (tab_below htp hi.mem.below rfl) (var_below hs1 hi.mem.below) (var_below hs2 hi.mem.below) (cell_below hm hi.mem.below)) ?_
    refine At.to (noF_stable) (noF_fewer) 20 300 [2] 0 ⟨.exit .ret, [], [(2, .v (.bool true))], []⟩ (by kernel_rfl) (by kernel_rfl) ?_
    refine At.ret (by kernel_rfl) (.v (.bool true)) (by kernel_rfl) ?_
    intro ρ w9 hm' hf
    exact ⟨rfl, hm'.below⟩
  · refine At.res 18 (decide ((↑(mkB t).size : Int) > 20000)) false (by kernel_rfl) b0 ?_
    refine At.to (noF_stable) (noF_fewer) 20 300 [0, 21] 0 ⟨pops B3 [1, 1, 0] 1, [.seq (sub B3 [1, 1, 1])], [(0, .so (mkB t)), (21, .so (mkB t))], []⟩ (by kernel_rfl) (by kernel_rfl) ?_
    have hbig : t.length ≤ 20000 := by have := of_decide_eq_false b0; rw [mkB_size] at this; omega
    have hcnt := readG_len (t.length + 1) [] t
    rw [hR] at hcnt
    simp only [List.length_nil, Nat.zero_add] at hcnt
    refine At.call noF_stable 8 [.so (mkB t)] (.tup [.agg [.v (.string ⟨#[]⟩), .v (.int .i64 0), .v (.int .i64 0), .v (.int .i64 0), .v (.int .i64 0), .v (.int .i64 0), .v (.int .i64 0), .v (.int .i64 0), .v (.int .i64 0)], .v (.int .i64 280)]) (by kernel_rfl) (by kernel_rfl) (by kernel_rfl) (fun _ _ w1 hi _ => (parse_any t (by omega) w1 (tab_below htp hi.mem.below rfl) (var_below hs1 hi.mem.below) (var_below hs2 hi.mem.below) (cell_below hm hi.mem.below)).mono fun e w2 h => ⟨h.1.trans (by rw [hp]; rfl), h.2⟩) ?_
    refine At.to (noF_stable) (noF_fewer) 20 300 [0, 3, 4, 26] 1 ⟨pops B3 [1, 1, 1, 0] 1, [.seq (sub B3 [1, 1, 1, 1])], [(0, .so (mkB t)), (3, .lp 0 0), (4, .v (.int .i64 280)), (26, .so (mkB t))], [([.v (.string (ByteArray.mk #[])), .v (.int .i64 0), .v (.int .i64 0), .v (.int .i64 0), .v (.int .i64 0), .v (.int .i64 0), .v (.int .i64 0), .v (.int .i64 0), .v (.int .i64 0)], 29)]⟩ (by kernel_rfl) (by kernel_rfl) ?_
    refine At.call noF_stable 9 [.so (mkB t)] (.tup [.agg [.v (.string ⟨#[]⟩), .v (.int .i64 0), .v (.int .i64 0), .v (.int .i64 0), .v (.int .i64 0), .v (.int .i64 0), .v (.int .i64 0), .v (.int .i64 0), .v (.int .i64 0)], .v (.bool false)]) (by kernel_rfl) (by kernel_rfl) (by kernel_rfl) (fun _ _ w1 hi _ => (rparse_any t (by omega) w1).mono fun e w2 h => ⟨h.1.trans (by rw [parse_alike, hp]; rfl), h.2⟩) ?_
    refine At.to (noF_stable) (noF_fewer) 20 300 [0, 3, 4, 5, 6, 31] 2 ⟨pops B3 [1, 1, 1, 1, 0] 1, [.seq (sub B3 [1, 1, 1, 1, 1])], [(0, .so (mkB t)), (3, .lp 0 0), (4, .v (.int .i64 280)), (5, .lp 1 0), (6, .v (.bool false)), (31, .so (mkB t))], [([.v (.string (ByteArray.mk #[])), .v (.int .i64 0), .v (.int .i64 0), .v (.int .i64 0), .v (.int .i64 0), .v (.int .i64 0), .v (.int .i64 0), .v (.int .i64 0), .v (.int .i64 0)], 29), ([.v (.string (ByteArray.mk #[])), .v (.int .i64 0), .v (.int .i64 0), .v (.int .i64 0), .v (.int .i64 0), .v (.int .i64 0), .v (.int .i64 0), .v (.int .i64 0), .v (.int .i64 0)], 29)]⟩ (by kernel_rfl) (by kernel_rfl) ?_
    refine At.mono (F' := PRows w.heap.size []) (fun ρ w1 _ => PRows.none _ _ _) ?_
    refine At.rowCall 10 [.so (mkB t)] (pv ps) (fun A n c => .tup [.sl A n c, .io .i64 (cnt : Int), .v (.int .i64 0)]) (by kernel_rfl) (by kernel_rfl) (by kernel_rfl) rfl (fun ρ w1 hi => (read_any t (by omega) w1 (tab_below htp hi.below rfl) (var_below hs1 hi.below) (var_below hs2 hi.below) (cell_below hm hi.below)).mono fun e w2 h => by rw [hR] at h; exact h) ?_
    intro A n c
    refine At.toJ (PRows.stable) PRows.fewer 20 300 [0, 3, 4, 5, 6, 7, 8, 9, 37] 2 ⟨pops B3 [1, 1, 1, 1, 1, 0] 1, [.seq (sub B3 [1, 1, 1, 1, 1, 1])], [(0, .so (mkB t)), (3, .lp 0 0), (4, .v (.int .i64 280)), (5, .lp 1 0), (6, .v (.bool false)), (7, .sl A n c), (8, .io .i64 (↑cnt : Int)), (9, .v (.int .i64 0)), (37, .so (mkB t))], [([.v (.string (ByteArray.mk #[])), .v (.int .i64 0), .v (.int .i64 0), .v (.int .i64 0), .v (.int .i64 0), .v (.int .i64 0), .v (.int .i64 0), .v (.int .i64 0), .v (.int .i64 0)], 29), ([.v (.string (ByteArray.mk #[])), .v (.int .i64 0), .v (.int .i64 0), .v (.int .i64 0), .v (.int .i64 0), .v (.int .i64 0), .v (.int .i64 0), .v (.int .i64 0), .v (.int .i64 0)], 29)]⟩ (by kernel_rfl) (by kernel_rfl) ?_
    refine At.rowCall 10 [.so (mkB t)] (pv ps) (fun A n c => .tup [.sl A n c, .io .i64 (cnt : Int), .v (.int .i64 0)]) (by kernel_rfl) (by kernel_rfl) (by kernel_rfl) rfl (fun ρ w1 hi => (read_any t (by omega) w1 (tab_below htp hi.below rfl) (var_below hs1 hi.below) (var_below hs2 hi.below) (cell_below hm hi.below)).mono fun e w2 h => by rw [hR] at h; exact h) ?_
    intro A' n' c'
    refine At.toJ (PRows.stable) PRows.fewer 20 300 [3, 4, 5, 6, 7, 8, 9, 10, 43] 2 ⟨pops B3 [1, 1, 1, 1, 1, 1, 0] 1, [.seq (sub B3 [1, 1, 1, 1, 1, 1, 1])], [(3, .lp 0 0), (4, .v (.int .i64 280)), (5, .lp 1 0), (6, .v (.bool false)), (7, .sl A n c), (8, .io .i64 (↑cnt : Int)), (9, .v (.int .i64 0)), (10, .sl A' n' c'), (43, .so (mkB t))], [([.v (.string (ByteArray.mk #[])), .v (.int .i64 0), .v (.int .i64 0), .v (.int .i64 0), .v (.int .i64 0), .v (.int .i64 0), .v (.int .i64 0), .v (.int .i64 0), .v (.int .i64 0)], 29), ([.v (.string (ByteArray.mk #[])), .v (.int .i64 0), .v (.int .i64 0), .v (.int .i64 0), .v (.int .i64 0), .v (.int .i64 0), .v (.int .i64 0), .v (.int .i64 0), .v (.int .i64 0)], 29)]⟩ (by kernel_rfl) (by kernel_rfl) ?_
    refine At.rowCall 11 [.so (mkB t)] (pv ps) (fun A n c => .tup [.sl A n c, .io .i64 (cnt : Int), .v (.bool true)]) (by kernel_rfl) (by kernel_rfl) (by kernel_rfl) rfl (fun ρ w1 hi => (rread_any t (by omega) w1).mono fun e w2 h => by rw [hR] at h; exact h) ?_
    intro A2 n2 c2
    refine At.toJ (PRows.stable) PRows.fewer 20 300 [7, 8, 9, 10, 13, 14, 15, 65, 66, 67] 0 ⟨pops B3 [1, 1, 1, 1, 1, 1, 1, 0, 0] 20, [.seq (sub B3 [1, 1, 1, 1, 1, 1, 1, 0, 1]), .seq (sub B3 [1, 1, 1, 1, 1, 1, 1, 1])], [(7, .sl A n c), (8, .io .i64 (↑cnt : Int)), (9, .v (.int .i64 0)), (10, .sl A' n' c'), (13, .sl A2 n2 c2), (14, .io .i64 (↑cnt : Int)), (15, .v (.bool true)), (65, .v (.bool false)), (66, .sl A n c), (67, .sl A2 n2 c2)], []⟩ (by kernel_rfl) (by kernel_rfl) ?_
    refine At.call PRows.stable 12 [.sl A n c, .sl A2 n2 c2] (.v (.bool true)) (by kernel_rfl) (by kernel_rfl) (by kernel_rfl) (fun ρ _ w1 hi hf => (same_any w1 (hf.1 (A, n, c, pv ps) (by simp)).1 (hf.1 (A2, n2, c2, pv ps) (by simp)).1 (row_n (hf.1 (A, n, c, pv ps) (by simp))) (row_n (hf.1 (A2, n2, c2, pv ps) (by simp))) (by have := row_n (hf.1 (A, n, c, pv ps) (by simp)); omega)).mono fun e w2 h => ⟨h.1.trans (by rw [decide_eq_true rfl]; rfl), h.2⟩) ?_
    refine At.toJ (PRows.stable) PRows.fewer 20 300 [7, 9, 10, 13, 15, 76] 0 ⟨pops B3 [1, 1, 1, 1, 1, 1, 1, 0, 0] 29, [.seq (sub B3 [1, 1, 1, 1, 1, 1, 1, 0, 1]), .seq (sub B3 [1, 1, 1, 1, 1, 1, 1, 1])], [(7, .sl A n c), (9, .v (.int .i64 0)), (10, .sl A' n' c'), (13, .sl A2 n2 c2), (15, .v (.bool true)), (76, .bo ((↑cnt : Int) != (↑cnt : Int)))], []⟩ (by kernel_rfl) (by kernel_rfl) ?_
    refine At.res 76 ((↑cnt : Int) != (↑cnt : Int)) false (by kernel_rfl) (by first | assumption | (simp only [*]; done) | (simp [*]; done)) ?_
    refine At.toJ (PRows.stable) PRows.fewer 20 300 [10, 13, 90] 0 ⟨pops B3 [1, 1, 1, 1, 1, 1, 1, 1, 0] 1, [.seq (sub B3 [1, 1, 1, 1, 1, 1, 1, 1, 1])], [(10, .sl A' n' c'), (13, .sl A2 n2 c2), (90, .sl A n c)], []⟩ (by kernel_rfl) (by kernel_rfl) ?_
    refine At.spoil (L := [(A2, n2, c2, pv ps), (A', n', c', pv ps)]) (x := (A, n, c, pv ps)) 13 (by kernel_rfl) (by kernel_rfl) (by kernel_rfl) (by kernel_rfl) (by kernel_rfl) rfl (fun w1 hN hx => spoilt_any w1 hx hN (by have := hx.1; rw [pv_len] at this; omega)) ?_
    refine At.toJ (PRows.stable) PRows.fewer 20 300 [92, 93] 0 ⟨pops B3 [1, 1, 1, 1, 1, 1, 1, 1, 1, 0] 2, [.seq (sub B3 [1, 0, 1, 2, 1])], [(92, .sl A' n' c'), (93, .sl A2 n2 c2)], []⟩ (by kernel_rfl) (by kernel_rfl) ?_
    refine At.call PRows.stable 12 [.sl A' n' c', .sl A2 n2 c2] (.v (.bool true)) (by kernel_rfl) (by kernel_rfl) (by kernel_rfl) (fun ρ _ w1 hi hf => (same_any w1 (hf.1 (A', n', c', pv ps) (by simp)).1 (hf.1 (A2, n2, c2, pv ps) (by simp)).1 (row_n (hf.1 (A', n', c', pv ps) (by simp))) (row_n (hf.1 (A2, n2, c2, pv ps) (by simp))) (by have := row_n (hf.1 (A', n', c', pv ps) (by simp)); omega)).mono fun e w2 h => ⟨h.1.trans (by rw [decide_eq_true rfl]; rfl), h.2⟩) ?_
    refine At.toJ (PRows.stable) PRows.fewer 20 300 [95] 0 ⟨pops B3 [1, 1, 1, 1, 1, 1, 1, 1, 1, 0] 4, [.seq (sub B3 [1, 0, 1, 2, 1])], [(95, .v (.bool true))], []⟩ (by kernel_rfl) (by kernel_rfl) ?_
    refine At.call PRows.stable 7 [] (.v (.bool true)) (by kernel_rfl) (by kernel_rfl) (by kernel_rfl) (fun _ _ w1 hi _ => known_any w1 (tab_below htp hi.mem.below rfl) (var_below hs1 hi.mem.below) (var_below hs2 hi.mem.below) (cell_below hm hi.mem.below)) ?_
    refine At.toJ (PRows.stable) PRows.fewer 20 300 [2] 0 ⟨.exit .ret, [], [(2, .v (.bool true))], []⟩ (by kernel_rfl) (by kernel_rfl) ?_
    refine At.ret (by kernel_rfl) (.v (.bool true)) (by kernel_rfl) ?_
    intro ρ w9 hm' hf
    exact ⟨rfl, hm'.below⟩

set_option maxHeartbeats 20000000 in
set_option maxRecDepth 100000 in
theorem texts_qq (t : List UInt8) (ps : List Pn) (cnt : Nat) (hp : parseK t = none) (hR : readG (t.length + 1) [] t = (ps, cnt, false)) (w : World) (htp : Lib.TabIs Tryd.prog w "internal/strconv.uint64pow10" .u64 Lib.pow10Tab)
    {tp1 tp2 : TypeId} {q1 q2 : Value} (hs1 : w.var? Tryd.prog "strconv.ErrSyntax" = some #[.iface tp1 q1]) (hs2 : w.var? Tryd.prog "strconv.ErrRange" = some #[.iface tp2 q2]) {m : Int} (hm : w.cell? ⟨3, 0, none⟩ = some (.int .i64 m)) :
    Calls Tryd.prog 3 #[.string (mkB t)] w fun e w' => e = .returned (.bool true) ∧ Below w.heap.size w w' := by
  refine enter (fn := Tryd.f3) (c := B3) [.so (mkB t)] Tryd.func3 rfl rfl ?_
  refine At.to (noF_stable) (noF_fewer) 20 300 [0, 18] 0 ⟨.code (sub B3 [1, 0, 1]), [.seq (sub B3 [1, 1])], [(0, .so (mkB t)), (18, .bo (decide ((↑(mkB t).size : Int) > 20000)))], []⟩ (by kernel_rfl) (by kernel_rfl) ?_
  rcases Bool.eq_false_or_eq_true (decide ((↑(mkB t).size : Int) > 20000)) with b0 | b0
  · refine At.res 18 (decide ((↑(mkB t).size : Int) > 20000)) true (by kernel_rfl) b0 ?_
    refine At.to (noF_stable) (noF_fewer) 20 300 [] 0 ⟨pops B3 [1, 0, 1, 2, 0] 0, [.seq (sub B3 [1, 0, 1, 2, 1]), .seq (sub B3 [1, 1])], [], []⟩ (by kernel_rfl) (by kernel_rfl) ?_
    refine At.call noF_stable 7 [] (.v (.bool true)) (by kernel_rfl) (by kernel_rfl) (by kernel_rfl) (fun _ _ w1 hi _ => known_any w1 (tab_below htp hi.mem.below rfl) (var_below hs1 hi.mem.below) (var_below hs2 hi.mem.below) (cell_below hm hi.mem.below)) ?_
    refine At.to (noF_stable) (noF_fewer) 20 300 [2] 0 ⟨.exit .ret, [], [(2, .v (.bool true))], []⟩ (by kernel_rfl) (by kernel_rfl) ?_
    refine At.ret (by kernel_rfl) (.v (.bool true)) (by kernel_rfl) ?_
    intro ρ w9 hm' hf
    exact ⟨rfl, hm'.below⟩
  · refine At.res 18 (decide ((↑(mkB t).size : Int) > 20000)) false (by kernel_rfl) b0 ?_
    refine At.to (noF_stable) (noF_fewer) 20 300 [0, 21] 0 ⟨pops B3 [1, 1, 0] 1, [.seq (sub B3 [1, 1, 1])], [(0, .so (mkB t)), (21, .so (mkB t))], []⟩ (by kernel_rfl) (by kernel_rfl) ?_
    have hbig : t.length ≤ 20000 := by have := of_decide_eq_false b0; rw [mkB_size] at this; omega
    have hcnt := readG_len (t.length + 1) [] t
    rw [hR] at hcnt
    simp only [List.length_nil, Nat.zero_add] at hcnt
    refine At.call noF_stable 8 [.so (mkB t)] (.tup [.agg [.v (.string ⟨#[]⟩), .v (.int .i64 0), .v (.int .i64 0), .v (.int .i64 0), .v (.int .i64 0), .v (.int .i64 0), .v (.int .i64 0), .v (.int .i64 0), .v (.int .i64 0)], .v (.int .i64 280)]) (by kernel_rfl) (by kernel_rfl) (by kernel_rfl) (fun _ _ w1 hi _ => (parse_any t (by omega) w1 (tab_below htp hi.mem.below rfl) (var_below hs1 hi.mem.below) (var_below hs2 hi.mem.below) (cell_below hm hi.mem.below)).mono fun e w2 h => ⟨h.1.trans (by rw [hp]; rfl), h.2⟩) ?_
    refine At.to (noF_stable) (noF_fewer) 20 300 [0, 3, 4, 26] 1 ⟨pops B3 [1, 1, 1, 0] 1, [.seq (sub B3 [1, 1, 1, 1])], [(0, .so (mkB t)), (3, .lp 0 0), (4, .v (.int .i64 280)), (26, .so (mkB t))], [([.v (.string (ByteArray.mk #[])), .v (.int .i64 0), .v (.int .i64 0), .v (.int .i64 0), .v (.int .i64 0), .v (.int .i64 0), .v (.int .i64 0), .v (.int .i64 0), .v (.int .i64 0)], 29)]⟩ (by kernel_rfl) (by kernel_rfl) ?_
    refine At.call noF_stable 9 [.so (mkB t)] (.tup [.agg [.v (.string ⟨#[]⟩), .v (.int .i64 0), .v (.int .i64 0), .v (.int .i64 0), .v (.int .i64 0), .v (.int .i64 0), .v (.int .i64 0), .v (.int .i64 0), .v (.int .i64 0)], .v (.bool false)]) (by kernel_rfl) (by kernel_rfl) (by kernel_rfl) (fun _ _ w1 hi _ => (rparse_any t (by omega) w1).mono fun e w2 h => ⟨h.1.trans (by rw [parse_alike, hp]; rfl), h.2⟩) ?_
    refine At.to (noF_stable) (noF_fewer) 20 300 [0, 3, 4, 5, 6, 31] 2 ⟨pops B3 [1, 1, 1, 1, 0] 1, [.seq (sub B3 [1, 1, 1, 1, 1])], [(0, .so (mkB t)), (3, .lp 0 0), (4, .v (.int .i64 280)), (5, .lp 1 0), (6, .v (.bool false)), (31, .so (mkB t))], [([.v (.string (ByteArray.mk #[])), .v (.int .i64 0), .v (.int .i64 0), .v (.int .i64 0), .v (.int .i64 0), .v (.int .i64 0), .v (.int .i64 0), .v (.int .i64 0), .v (.int .i64 0)], 29), ([.v (.string (ByteArray.mk #[])), .v (.int .i64 0), .v (.int .i64 0), .v (.int .i64 0), .v (.int .i64 0), .v (.int .i64 0), .v (.int .i64 0), .v (.int .i64 0), .v (.int .i64 0)], 29)]⟩ (by kernel_rfl) (by kernel_rfl) ?_
    refine At.mono (F' := PRows w.heap.size []) (fun ρ w1 _ => PRows.none _ _ _) ?_
    refine At.rowCall 10 [.so (mkB t)] (pv ps) (fun A n c => .tup [.sl A n c, .io .i64 (cnt : Int), .v (.int .i64 280)]) (by kernel_rfl) (by kernel_rfl) (by kernel_rfl) rfl (fun ρ w1 hi => (read_any t (by omega) w1 (tab_below htp hi.below rfl) (var_below hs1 hi.below) (var_below hs2 hi.below) (cell_below hm hi.below)).mono fun e w2 h => by rw [hR] at h; exact h) ?_
    intro A n c
    refine At.toJ (PRows.stable) PRows.fewer 20 300 [0, 3, 4, 5, 6, 7, 8, 9, 37] 2 ⟨pops B3 [1, 1, 1, 1, 1, 0] 1, [.seq (sub B3 [1, 1, 1, 1, 1, 1])], [(0, .so (mkB t)), (3, .lp 0 0), (4, .v (.int .i64 280)), (5, .lp 1 0), (6, .v (.bool false)), (7, .sl A n c), (8, .io .i64 (↑cnt : Int)), (9, .v (.int .i64 280)), (37, .so (mkB t))], [([.v (.string (ByteArray.mk #[])), .v (.int .i64 0), .v (.int .i64 0), .v (.int .i64 0), .v (.int .i64 0), .v (.int .i64 0), .v (.int .i64 0), .v (.int .i64 0), .v (.int .i64 0)], 29), ([.v (.string (ByteArray.mk #[])), .v (.int .i64 0), .v (.int .i64 0), .v (.int .i64 0), .v (.int .i64 0), .v (.int .i64 0), .v (.int .i64 0), .v (.int .i64 0), .v (.int .i64 0)], 29)]⟩ (by kernel_rfl) (by kernel_rfl) ?_
    refine At.rowCall 10 [.so (mkB t)] (pv ps) (fun A n c => .tup [.sl A n c, .io .i64 (cnt : Int), .v (.int .i64 280)]) (by kernel_rfl) (by kernel_rfl) (by kernel_rfl) rfl (fun ρ w1 hi => (read_any t (by omega) w1 (tab_below htp hi.below rfl) (var_below hs1 hi.below) (var_below hs2 hi.below) (cell_below hm hi.below)).mono fun e w2 h => by rw [hR] at h; exact h) ?_
    intro A' n' c'
    refine At.toJ (PRows.stable) PRows.fewer 20 300 [3, 4, 5, 6, 7, 8, 9, 10, 43] 2 ⟨pops B3 [1, 1, 1, 1, 1, 1, 0] 1, [.seq (sub B3 [1, 1, 1, 1, 1, 1, 1])], [(3, .lp 0 0), (4, .v (.int .i64 280)), (5, .lp 1 0), (6, .v (.bool false)), (7, .sl A n c), (8, .io .i64 (↑cnt : Int)), (9, .v (.int .i64 280)), (10, .sl A' n' c'), (43, .so (mkB t))], [([.v (.string (ByteArray.mk #[])), .v (.int .i64 0), .v (.int .i64 0), .v (.int .i64 0), .v (.int .i64 0), .v (.int .i64 0), .v (.int .i64 0), .v (.int .i64 0), .v (.int .i64 0)], 29), ([.v (.string (ByteArray.mk #[])), .v (.int .i64 0), .v (.int .i64 0), .v (.int .i64 0), .v (.int .i64 0), .v (.int .i64 0), .v (.int .i64 0), .v (.int .i64 0), .v (.int .i64 0)], 29)]⟩ (by kernel_rfl) (by kernel_rfl) ?_
    refine At.rowCall 11 [.so (mkB t)] (pv ps) (fun A n c => .tup [.sl A n c, .io .i64 (cnt : Int), .v (.bool false)]) (by kernel_rfl) (by kernel_rfl) (by kernel_rfl) rfl (fun ρ w1 hi => (rread_any t (by omega) w1).mono fun e w2 h => by rw [hR] at h; exact h) ?_
    intro A2 n2 c2
    refine At.toJ (PRows.stable) PRows.fewer 20 300 [7, 8, 9, 10, 13, 14, 15, 65, 66, 67] 0 ⟨pops B3 [1, 1, 1, 1, 1, 1, 1, 0, 0] 20, [.seq (sub B3 [1, 1, 1, 1, 1, 1, 1, 0, 1]), .seq (sub B3 [1, 1, 1, 1, 1, 1, 1, 1])], [(7, .sl A n c), (8, .io .i64 (↑cnt : Int)), (9, .v (.int .i64 280)), (10, .sl A' n' c'), (13, .sl A2 n2 c2), (14, .io .i64 (↑cnt : Int)), (15, .v (.bool false)), (65, .v (.bool false)), (66, .sl A n c), (67, .sl A2 n2 c2)], []⟩ (by kernel_rfl) (by kernel_rfl) ?_
    refine At.call PRows.stable 12 [.sl A n c, .sl A2 n2 c2] (.v (.bool true)) (by kernel_rfl) (by kernel_rfl) (by kernel_rfl) (fun ρ _ w1 hi hf => (same_any w1 (hf.1 (A, n, c, pv ps) (by simp)).1 (hf.1 (A2, n2, c2, pv ps) (by simp)).1 (row_n (hf.1 (A, n, c, pv ps) (by simp))) (row_n (hf.1 (A2, n2, c2, pv ps) (by simp))) (by have := row_n (hf.1 (A, n, c, pv ps) (by simp)); omega)).mono fun e w2 h => ⟨h.1.trans (by rw [decide_eq_true rfl]; rfl), h.2⟩) ?_
    refine At.toJ (PRows.stable) PRows.fewer 20 300 [7, 9, 10, 13, 15, 76] 0 ⟨pops B3 [1, 1, 1, 1, 1, 1, 1, 0, 0] 29, [.seq (sub B3 [1, 1, 1, 1, 1, 1, 1, 0, 1]), .seq (sub B3 [1, 1, 1, 1, 1, 1, 1, 1])], [(7, .sl A n c), (9, .v (.int .i64 280)), (10, .sl A' n' c'), (13, .sl A2 n2 c2), (15, .v (.bool false)), (76, .bo ((↑cnt : Int) != (↑cnt : Int)))], []⟩ (by kernel_rfl) (by kernel_rfl) ?_
    refine At.res 76 ((↑cnt : Int) != (↑cnt : Int)) false (by kernel_rfl) (by first | assumption | (simp only [*]; done) | (simp [*]; done)) ?_
    refine At.toJ (PRows.stable) PRows.fewer 20 300 [10, 13, 90] 0 ⟨pops B3 [1, 1, 1, 1, 1, 1, 1, 1, 0] 1, [.seq (sub B3 [1, 1, 1, 1, 1, 1, 1, 1, 1])], [(10, .sl A' n' c'), (13, .sl A2 n2 c2), (90, .sl A n c)], []⟩ (by kernel_rfl) (by kernel_rfl) ?_
    refine At.spoil (L := [(A2, n2, c2, pv ps), (A', n', c', pv ps)]) (x := (A, n, c, pv ps)) 13 (by kernel_rfl) (by kernel_rfl) (by kernel_rfl) (by kernel_rfl) (by kernel_rfl) rfl (fun w1 hN hx => spoilt_any w1 hx hN (by have := hx.1; rw [pv_len] at this; omega)) ?_
    refine At.toJ (PRows.stable) PRows.fewer 20 300 [92, 93] 0 ⟨pops B3 [1, 1, 1, 1, 1, 1, 1, 1, 1, 0] 2, [.seq (sub B3 [1, 0, 1, 2, 1])], [(92, .sl A' n' c'), (93, .sl A2 n2 c2)], []⟩ (by kernel_rfl) (by kernel_rfl) ?_
    refine At.call PRows.stable 12 [.sl A' n' c', .sl A2 n2 c2] (.v (.bool true)) (by kernel_rfl) (by kernel_rfl) (by kernel_rfl) (fun ρ _ w1 hi hf => (same_any w1 (hf.1 (A', n', c', pv ps) (by simp)).1 (hf.1 (A2, n2, c2, pv ps) (by simp)).1 (row_n (hf.1 (A', n', c', pv ps) (by simp))) (row_n (hf.1 (A2, n2, c2, pv ps) (by simp))) (by have := row_n (hf.1 (A', n', c', pv ps) (by simp)); omega)).mono fun e w2 h => ⟨h.1.trans (by rw [decide_eq_true rfl]; rfl), h.2⟩) ?_
    refine At.toJ (PRows.stable) PRows.fewer 20 300 [95] 0 ⟨pops B3 [1, 1, 1, 1, 1, 1, 1, 1, 1, 0] 4, [.seq (sub B3 [1, 0, 1, 2, 1])], [(95, .v (.bool true))], []⟩ (by kernel_rfl) (by kernel_rfl) ?_
    refine At.call PRows.stable 7 [] (.v (.bool true)) (by kernel_rfl) (by kernel_rfl) (by kernel_rfl) (fun _ _ w1 hi _ => known_any w1 (tab_below htp hi.mem.below rfl) (var_below hs1 hi.mem.below) (var_below hs2 hi.mem.below) (cell_below hm hi.mem.below)) ?_
    refine At.toJ (PRows.stable) PRows.fewer 20 300 [2] 0 ⟨.exit .ret, [], [(2, .v (.bool true))], []⟩ (by kernel_rfl) (by kernel_rfl) ?_
    refine At.ret (by kernel_rfl) (.v (.bool true)) (by kernel_rfl) ?_
    intro ρ w9 hm' hf
    exact ⟨rfl, hm'.below⟩


/-- PanesTexts holds of every text. -/
theorem texts_ok (t : List UInt8) (w : World) (htp : Lib.TabIs Tryd.prog w "internal/strconv.uint64pow10" .u64 Lib.pow10Tab)
    {tp1 tp2 : TypeId} {q1 q2 : Value} (hs1 : w.var? Tryd.prog "strconv.ErrSyntax" = some #[.iface tp1 q1]) (hs2 : w.var? Tryd.prog "strconv.ErrRange" = some #[.iface tp2 q2]) {m : Int} (hm : w.cell? ⟨3, 0, none⟩ = some (.int .i64 m)) :
    Calls Tryd.prog 3 #[.string (mkB t)] w fun e w' => e = .returned (.bool true) ∧ Below w.heap.size w w' := by
  rcases hR : readG (t.length + 1) [] t with ⟨ps, cnt, ok⟩
  cases hp : parseK t with
  | none => cases ok with
    | true => exact texts_qp t ps cnt hp hR w htp hs1 hs2 hm
    | false => exact texts_qq t ps cnt hp hR w htp hs1 hs2 hm
  | some p => cases ok with
    | true => exact texts_pp t ps cnt p hp hR w htp hs1 hs2 hm
    | false => exact texts_pq t ps cnt p hp hR w htp hs1 hs2 hm

end Go.Proofs.YtkjnbafdmjakgaaDoor
