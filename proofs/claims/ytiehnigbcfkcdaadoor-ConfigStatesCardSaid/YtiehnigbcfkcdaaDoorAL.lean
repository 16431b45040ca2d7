import Derived.Test.YtiehnigbcfkcdaaDoorAK
set_option linter.unusedSimpArgs false
set_option linter.unusedVariables false
namespace Go.Proofs.YtiehnigbcfkcdaaDoor
open Go.RowKit Go.Sx

theorem LentS.room {w : World} {ms : List Int} {ks : List Ky} {am : Addr} {nm cm : Nat} {ak : Addr} {nk ck : Nat} {ks' : List Ky} (h : LentS w ms ks am nm cm ak nk ck ks') (hl : ks.length = nk) {i : Nat} {r : Ky} (hr : rooms[i]? = some r) : ∀ (j : Nat) (v : Value), (kC r)[j]? = some v → w.cell? ((ak.add ((nk + i) * 3)).add j) = some v := fun j v hv => by
  have hj := (List.getElem?_eq_some_iff.1 hv).1
  rw [kC_len] at hj
  have hlen := h.lk.len
  rw [add_add]
  exact h.keys _ _ (by rw [kv_get (ks' ++ rooms) (nk + i) r (by rw [List.getElem?_append_right (by omega), show nk + i - ks'.length = i by omega]; exact hr) j hj]; exact hv)
def frKs (i : Nat) : Fr := [(2, .lp 0 0), (3, .lp 1 0), (5, .io .i64 (i : Int))]
def locKs (g s k sz sl of gp lt ea : Int) (d : Bool) (am : Addr) (nm cm2 : Nat) (ak : Addr) (nk ck2 : Nat) (Bm : Option Addr) (cm : Nat) (Bk : Option Addr) (ck : Nat) (_ : Nat) : Go.Sx.Loc := [((stL g s k sz sl of gp lt ea d (some am) nm cm2 (some ak) nk ck2), 58), ((stL g s k sz sl of gp lt ea d Bm nm cm Bk nk ck), 58)]

noncomputable def B27 : Code := (Tryd.f27.body).getD .skip
set_option maxHeartbeats 4000000 in
set_option maxRecDepth 100000 in
theorem skept_any (g s k sz sl of gp lt ea : Int) (d : Bool) (am ak : Addr) (cm2 ck2 : Nat) (Bm : Option Addr) (nm cm : Nat) (ms : List Int) (Bk : Option Addr) (nk ck : Nat) (ks ks' : List Ky) (hmb : nm ≤ 140737488355320) (hkb : nk ≤ 140737488355320) (hkw : ∀ x ∈ ks, x.n ≤ 140737488355320) (w : World) (hm0 : SlI w Bm nm ms) (hy : SlK w Bk nk ks) (hS : LentS w ms ks am nm cm2 ak nk ck2 ks') :
    Calls Tryd.prog 27 #[.agg #[.int .i64 g, .int .i64 s, .int .i64 k, .int .i64 sz, .int .i64 sl, .int .i64 of, .int .i64 gp, .int .i64 lt, .int .i64 ea, .bool d, .slice (some am) nm cm2, .slice (some ak) nk ck2], .agg #[.int .i64 g, .int .i64 s, .int .i64 k, .int .i64 sz, .int .i64 sl, .int .i64 of, .int .i64 gp, .int .i64 lt, .int .i64 ea, .bool d, .slice Bm nm cm, .slice Bk nk ck]] w fun e w' => e = .returned (.bool true) ∧ Below w.heap.size w w' := by
  have w3 : IntKind.i64.wrap ((nk : Int) + 3) = ((nk + 3 : Nat) : Int) := wrap_add (k := 3) hkb (by omega)
  have w0 : IntKind.i64.wrap ((nk : Int) + 0) = ((nk + 0 : Nat) : Int) := wrap_add (k := 0) hkb (by omega)
  have w1 : IntKind.i64.wrap ((nk : Int) + 1) = ((nk + 1 : Nat) : Int) := wrap_add (k := 1) hkb (by omega)
  have w2 : IntKind.i64.wrap ((nk : Int) + 2) = ((nk + 2 : Nat) : Int) := wrap_add (k := 2) hkb (by omega)
  have hL := hS.lk
  refine enter (fn := Tryd.f27) (c := B27) [.agg (stL g s k sz sl of gp lt ea d (some am) nm cm2 (some ak) nk ck2), .agg (stL g s k sz sl of gp lt ea d Bm nm cm Bk nk ck)] Tryd.func27 rfl rfl ?_
  refine At.to (noF_stable) (noF_fewer) 0 300 [2, 3, 8, 9] 2 ⟨pops B27 [1, 0, 0] 2, [.seq (sub B27 [1, 0, 1]), .seq (sub B27 [1, 1])], [(2, .lp 0 0), (3, .lp 1 0), (8, .agg (stL g s k sz sl of gp lt ea d (some am) nm cm2 (some ak) nk ck2)), (9, .agg (stL g s k sz sl of gp lt ea d Bm nm cm Bk nk ck))], [((stL g s k sz sl of gp lt ea d (some am) nm cm2 (some ak) nk ck2), 58), ((stL g s k sz sl of gp lt ea d Bm nm cm Bk nk ck), 58)]⟩ (by kernel_rfl) (by kernel_rfl) ?_
  refine At.call noF_stable 51 [.agg (stL g s k sz sl of gp lt ea d (some am) nm cm2 (some ak) nk ck2), .agg (stL g s k sz sl of gp lt ea d Bm nm cm Bk nk ck)] (.v (.bool true)) (by kernel_rfl) (by kernel_rfl) (by kernel_rfl) (fun _ _ w1 hi _ => kstate_same g s k sz sl of gp lt ea d am ak cm2 ck2 Bm nm cm ms Bk nk ck ks ks' hmb hkb hkw w1 (hm0.below hi.mem.below) (hy.below hi.mem.below) (hS.below hi.mem.below)) ?_
  refine At.to (noF_stable) (noF_fewer) 0 300 [2, 3, 12, 14, 16] 2 ⟨pops B27 [1, 0, 0] 9, [.seq (sub B27 [1, 0, 1]), .seq (sub B27 [1, 1])], [(2, .lp 0 0), (3, .lp 1 0), (12, .v (.bool false)), (14, .sl (some am) nm cm2), (16, .sl Bm nm cm)], [((stL g s k sz sl of gp lt ea d (some am) nm cm2 (some ak) nk ck2), 58), ((stL g s k sz sl of gp lt ea d Bm nm cm Bk nk ck), 58)]⟩ (by kernel_rfl) (by kernel_rfl) ?_
  refine At.call noF_stable 52 [.sl (some am) nm cm2, .sl Bm nm cm] (.v (.bool true)) (by kernel_rfl) (by kernel_rfl) (by kernel_rfl) (fun _ _ w1 hi _ => ikept_any am Bm nm cm2 cm ms hmb hS.capm w1 (hS.ints.below hi.mem.below) (hm0.below hi.mem.below)) ?_
  refine At.to (noF_stable) (noF_fewer) 0 300 [2, 3, 5] 2 ⟨.code (sub B27 [1, 1, 0, 1, 4]), [.block 0, .seq (sub B27 [1, 1, 1])], [(2, .lp 0 0), (3, .lp 1 0), (5, .v (.int .i64 0))], [((stL g s k sz sl of gp lt ea d (some am) nm cm2 (some ak) nk ck2), 58), ((stL g s k sz sl of gp lt ea d Bm nm cm Bk nk ck), 58)]⟩ (by kernel_rfl) (by kernel_rfl) ?_
  refine At.canon _ rfl ?_
  refine At.loop (σ := Nat) (sub B27 [1, 1, 0, 1, 4, 4]) frKs (locKs g s k sz sl of gp lt ea d am nm cm2 ak nk ck2 Bm cm Bk ck) (GWn nk) (muKy nk) 0 (by kernel_rfl) (by unfold subFr; kernel_rfl) (by kernel_rfl) (fun _ _ _ _ h => ⟨h, Nat.zero_le _⟩) ?_
  intro i
  refine At.pure fun h1 => ?_
  have hl := hy.1
  refine At.to (noF_stable) (noF_fewer) 0 300 [2, 3, 5, 24] 2 ⟨.code (sub B27 [1, 1, 0, 1, 4, 4, 0, 1]), [.seq (sub B27 [1, 1, 0, 1, 4, 4, 1]), .next (Sx.Next w.heap.size w Tryd.f27.ntmps frKs (locKs g s k sz sl of gp lt ea d am nm cm2 ak nk ck2 Bm cm Bk ck) (GWn nk) (muKy nk) i), .block 0, .seq (sub B27 [1, 1, 1])], [(2, .lp 0 0), (3, .lp 1 0), (5, .io .i64 (↑i : Int)), (24, .bo (decide ((↑i : Int) < (↑nk : Int))))], [((stL g s k sz sl of gp lt ea d (some am) nm cm2 (some ak) nk ck2), 58), ((stL g s k sz sl of gp lt ea d Bm nm cm Bk nk ck), 58)]⟩ (by kernel_rfl) (by kernel_rfl) ?_
  rcases Bool.eq_false_or_eq_true (decide ((↑i : Int) < (↑nk : Int))) with b0 | b0
  · refine At.res 24 (decide ((↑i : Int) < (↑nk : Int))) true (by kernel_rfl) b0 ?_
    refine At.to (noF_stable) (noF_fewer) 0 300 [2, 3, 5, 28, 29] 2 ⟨pqops B27 [1, 1, 0, 1, 4, 4, 1, 0, 4, 0] 3, [.seq (sub B27 [1, 1, 0, 1, 4, 4, 1, 0, 4, 1]), .block 1, .seq (sub B27 [1, 1, 0, 1, 4, 4, 1, 1]), .next (Sx.Next w.heap.size w Tryd.f27.ntmps frKs (locKs g s k sz sl of gp lt ea d am nm cm2 ak nk ck2 Bm cm Bk ck) (GWn nk) (muKy nk) i), .block 0, .seq (sub B27 [1, 1, 1])], [(2, .lp 0 0), (3, .lp 1 0), (5, .io .i64 (↑i : Int)), (28, .sl (some ak) nk ck2), (29, .io .i64 (↑i : Int))], [((stL g s k sz sl of gp lt ea d (some am) nm cm2 (some ak) nk ck2), 58), ((stL g s k sz sl of gp lt ea d Bm nm cm Bk nk ck), 58)]⟩ (by kernel_rfl) (by kernel_rfl) ?_
    have hi : i < nk := by have := of_decide_eq_true b0; omega
    clear b0

    obtain ⟨⟨key, dr, xA, xn, xc, ws⟩, hz⟩ : ∃ x, ks[i]? = some x := ⟨_, List.getElem?_eq_getElem (by omega)⟩
    obtain ⟨⟨key', dr', yA, yn, yc, ws'⟩, hz', e1, e2, e3, e4, e5⟩ := hL.get hz
    simp only at e1 e2 e3 e4 e5
    subst e1 e2 e3 e4
    have hmem := List.mem_of_getElem? hz
    have hmem' := List.mem_of_getElem? hz'
    have hyn : yn ≤ 140737488355320 := hkw ⟨key', dr', xA, yn, xc, ws'⟩ hmem
    have hyw : SlW w xA yn ws' := hy.2.2.2 ⟨key', dr', xA, yn, xc, ws'⟩ hmem

    obtain ⟨b, rfl⟩ : ∃ b, Bk = some b := by
      cases Bk with
      | none => have := hy.2.1 rfl; subst this; simp at hz
      | some b => exact ⟨b, rfl⟩
    obtain ⟨a, hya, hyw'⟩ := hS.wins ⟨key', dr', yA, yn, yc, ws'⟩ hmem'
    simp only at hya hyw'
    subst hya
    refine At.idx ak nk 3 (i : Int) (by kernel_rfl) (by omega) (by omega) noF_stable ?_
    refine At.lda (ak.add ((i : Int).toNat * 3)) 3 (kL ⟨key', dr', some a, yn, yc, ws'⟩) (by kernel_rfl) rfl noF_stable (fun ρ w1 hm hf => by rw [Int.toNat_natCast]; exact ((hS.slK hl fun x hx => (hy.2.2.2 x hx).1).below hm.below).cell hz') ?_
    refine At.to (noF_stable) (noF_fewer) 0 300 [2, 3, 5, 31, 33, 34] 2 ⟨pqops B27 [1, 1, 0, 1, 4, 4, 1, 0, 4, 0] 8, [.seq (sub B27 [1, 1, 0, 1, 4, 4, 1, 0, 4, 1]), .block 1, .seq (sub B27 [1, 1, 0, 1, 4, 4, 1, 1]), .next (Sx.Next w.heap.size w Tryd.f27.ntmps frKs (locKs g s k sz sl of gp lt ea d am nm cm2 ak nk ck2 Bm cm (some b) ck) (GWn nk) (muKy nk) i), .block 0, .seq (sub B27 [1, 1, 1])], [(2, .lp 0 0), (3, .lp 1 0), (5, .io .i64 (↑i : Int)), (31, .agg [.so key', .io .i64 dr', .sl (some a) yn yc]), (33, .sl (some b) nk ck), (34, .io .i64 (↑i : Int))], [((stL g s k sz sl of gp lt ea d (some am) nm cm2 (some ak) nk ck2), 58), ([.io .i64 g, .io .i64 s, .io .i64 k, .io .i64 sz, .io .i64 sl, .io .i64 of, .io .i64 gp, .io .i64 lt, .io .i64 ea, .bo d, .sl Bm nm cm, .sl (some b) nk ck], 58)]⟩ (by kernel_rfl) (by kernel_rfl) ?_
    refine At.idx b nk 3 (i : Int) (by kernel_rfl) (by omega) (by omega) noF_stable ?_
    refine At.lda (b.add ((i : Int).toNat * 3)) 3 (kL ⟨key', dr', xA, yn, xc, ws'⟩) (by kernel_rfl) rfl noF_stable (fun ρ w1 hm hf => by rw [Int.toNat_natCast]; exact (hy.below hm.below).cell hz) ?_
    refine At.to (noF_stable) (noF_fewer) 0 300 [2, 3, 5, 31, 36] 2 ⟨pqops B27 [1, 1, 0, 1, 4, 4, 1, 0, 4, 0] 10, [.seq (sub B27 [1, 1, 0, 1, 4, 4, 1, 0, 4, 1]), .block 1, .seq (sub B27 [1, 1, 0, 1, 4, 4, 1, 1]), .next (Sx.Next w.heap.size w Tryd.f27.ntmps frKs (locKs g s k sz sl of gp lt ea d am nm cm2 ak nk ck2 Bm cm (some b) ck) (GWn nk) (muKy nk) i), .block 0, .seq (sub B27 [1, 1, 1])], [(2, .lp 0 0), (3, .lp 1 0), (5, .io .i64 (↑i : Int)), (31, .agg [.so key', .io .i64 dr', .sl (some a) yn yc]), (36, .agg [.so key', .io .i64 dr', .sl xA yn xc])], [((stL g s k sz sl of gp lt ea d (some am) nm cm2 (some ak) nk ck2), 58), ([.io .i64 g, .io .i64 s, .io .i64 k, .io .i64 sz, .io .i64 sl, .io .i64 of, .io .i64 gp, .io .i64 lt, .io .i64 ea, .bo d, .sl Bm nm cm, .sl (some b) nk ck], 58)]⟩ (by kernel_rfl) (by kernel_rfl) ?_
    refine At.call noF_stable 23 [.agg [.so key', .io .i64 dr', .sl (some a) yn yc], .agg [.so key', .io .i64 dr', .sl xA yn xc]] (.v (.bool true)) (by kernel_rfl) (by kernel_rfl) (by kernel_rfl) (fun _ _ w1 hi _ => kkept_any key' dr' a xA yn yc xc ws' hyn e5 w1 (hyw'.below hi.mem.below) (hyw.below hi.mem.below)) ?_
    refine At.to (noF_stable) (noF_fewer) 0 300 [2, 3, 5] 2 ⟨.exit .normal, [.next (Sx.Next w.heap.size w Tryd.f27.ntmps frKs (locKs g s k sz sl of gp lt ea d am nm cm2 ak nk ck2 Bm cm (some b) ck) (GWn nk) (muKy nk) i), .block 0, .seq (sub B27 [1, 1, 1])], [(2, .lp 0 0), (3, .lp 1 0), (5, .io .i64 (IntKind.i64.wrap ((↑i : Int) + 1)))], [((stL g s k sz sl of gp lt ea d (some am) nm cm2 (some ak) nk ck2), 58), ([.io .i64 g, .io .i64 s, .io .i64 k, .io .i64 sz, .io .i64 sl, .io .i64 of, .io .i64 gp, .io .i64 lt, .io .i64 ea, .bo d, .sl Bm nm cm, .sl (some b) nk ck], 58)]⟩ (by kernel_rfl) (by kernel_rfl) ?_
    have hw3 : IntKind.i64.wrap ((i : Int) + 1) = ((i + 1 : Nat) : Int) := by
      rw [wrap63 (by omega) (by omega)]
      omega
    rw [hw3]
    refine At.next (σ := Nat) (i + 1) rfl rfl (by unfold subFr; kernel_rfl) (by kernel_rfl) ?_ ?_
    · intro ρ a' w' hi' hf
      exact ⟨hf, by omega⟩
    · unfold muKy
      omega
  · refine At.res 24 (decide ((↑i : Int) < (↑nk : Int))) false (by kernel_rfl) b0 ?_
    refine At.to (noF_stable) (noF_fewer) 0 300 [3, 40, 44] 2 ⟨pops B27 [1, 1, 1, 0] 6, [.seq (sub B27 [1, 1, 1, 1])], [(3, .lp 1 0), (40, .sl (some ak) nk ck2), (44, .io .i64 (IntKind.i64.wrap ((↑nk : Int) + 3)))], [((stL g s k sz sl of gp lt ea d (some am) nm cm2 (some ak) nk ck2), 58), ((stL g s k sz sl of gp lt ea d Bm nm cm Bk nk ck), 58)]⟩ (by kernel_rfl) (by kernel_rfl) ?_
    clear b0
    refine At.to (noF_stable) (noF_fewer) 20 300 [3, 40, 44] 2 ⟨pops B27 [1, 1, 1, 0] 6, [.seq (sub B27 [1, 1, 1, 1])], [(3, .lp 1 0), (40, .sl (some ak) nk ck2), (44, .io .i64 (IntKind.i64.wrap ((↑nk : Int) + 3)))], [((stL g s k sz sl of gp lt ea d (some am) nm cm2 (some ak) nk ck2), 58), ((stL g s k sz sl of gp lt ea d Bm nm cm Bk nk ck), 58)]⟩ (by kernel_rfl) (by kernel_rfl) ?_
    rw [w3]
    refine At.slx (some ak) nk ck2 none ((nk + 3 : Nat) : Int) 3 (.sl (some ak) (nk + 3) ck2) (by kernel_rfl) noF_stable (by simp) (by simp only [Option.getD_none]; omega) (fun ρ w1 hm hf => ⟨by have := hS.capk; omega, ?_⟩) ?_
    · simp only [SV.den, Option.getD_none, Int.toNat_zero, Nat.zero_mul, Nat.sub_zero, Int.toNat_natCast]
      rw [if_neg (by have := hS.capk; omega)]
      simp [Addr.add]
    refine At.to (noF_stable) (noF_fewer) 20 300 [3, 6, 7, 50, 55] 2 ⟨pops B27 [1, 1, 1, 1, 0, 1, 4, 4, 1, 0, 4, 0] 6, [.seq (sub B27 [1, 1, 1, 1, 0, 1, 4, 4, 1, 0, 4, 1]), .block 3, .seq (sub B27 [1, 1, 1, 1, 0, 1, 4, 4, 1, 1]), .rounds (sub B27 [1, 1, 1, 1, 0, 1, 4, 4]) 19, .block 2, .seq (sub B27 [1, 1, 1, 1, 1])], [(3, .lp 1 0), (6, .sl (some ak) (nk + 3) ck2), (7, .v (.int .i64 0)), (50, .sl (some ak) (nk + 3) ck2), (55, .io .i64 (IntKind.i64.wrap ((↑nk : Int) + 0)))], [((stL g s k sz sl of gp lt ea d (some am) nm cm2 (some ak) nk ck2), 58), ((stL g s k sz sl of gp lt ea d Bm nm cm Bk nk ck), 58)]⟩ (by kernel_rfl) (by kernel_rfl) ?_
    rw [w0]
    refine At.idx ak (nk + 3) 3 ((nk + 0 : Nat) : Int) (by kernel_rfl) (by omega) (by omega) noF_stable ?_
    refine At.fax (ak.add (((nk + 0 : Nat) : Int).toNat * 3)) 0 (by kernel_rfl) noF_stable ?_
    refine At.ldx ((ak.add (((nk + 0 : Nat) : Int).toNat * 3)).add 0) (.v (.string ⟨#[114, 111, 111, 109]⟩)) (by kernel_rfl) noF_stable (fun ρ w1 hm hf => by rw [Int.toNat_natCast]; exact (hS.below hm.below).room hy.1 (i := 0) rfl 0 _ rfl) ?_
    refine At.to (noF_stable) (noF_fewer) 20 300 [3, 6, 7, 60, 61, 66] 2 ⟨pops B27 [1, 1, 1, 1, 0, 1, 4, 4, 1, 0, 4, 0] 17, [.seq (sub B27 [1, 1, 1, 1, 0, 1, 4, 4, 1, 0, 4, 1]), .block 3, .seq (sub B27 [1, 1, 1, 1, 0, 1, 4, 4, 1, 1]), .rounds (sub B27 [1, 1, 1, 1, 0, 1, 4, 4]) 19, .block 2, .seq (sub B27 [1, 1, 1, 1, 1])], [(3, .lp 1 0), (6, .sl (some ak) (nk + 3) ck2), (7, .v (.int .i64 0)), (60, .v (.bool false)), (61, .sl (some ak) (nk + 3) ck2), (66, .io .i64 (IntKind.i64.wrap ((↑nk : Int) + 0)))], [((stL g s k sz sl of gp lt ea d (some am) nm cm2 (some ak) nk ck2), 58), ((stL g s k sz sl of gp lt ea d Bm nm cm Bk nk ck), 58)]⟩ (by kernel_rfl) (by kernel_rfl) ?_
    rw [w0]
    refine At.idx ak (nk + 3) 3 ((nk + 0 : Nat) : Int) (by kernel_rfl) (by omega) (by omega) noF_stable ?_
    refine At.fax (ak.add (((nk + 0 : Nat) : Int).toNat * 3)) 1 (by kernel_rfl) noF_stable ?_
    refine At.ldx ((ak.add (((nk + 0 : Nat) : Int).toNat * 3)).add 1) (.v (.int .i64 0)) (by kernel_rfl) noF_stable (fun ρ w1 hm hf => by rw [Int.toNat_natCast]; exact (hS.below hm.below).room hy.1 (i := 0) rfl 1 _ rfl) ?_
    refine At.to (noF_stable) (noF_fewer) 20 300 [3, 6, 7, 50, 55] 2 ⟨pops B27 [1, 1, 1, 1, 0, 1, 4, 4, 1, 0, 4, 0] 6, [.seq (sub B27 [1, 1, 1, 1, 0, 1, 4, 4, 1, 0, 4, 1]), .block 3, .seq (sub B27 [1, 1, 1, 1, 0, 1, 4, 4, 1, 1]), .rounds (sub B27 [1, 1, 1, 1, 0, 1, 4, 4]) 18, .block 2, .seq (sub B27 [1, 1, 1, 1, 1])], [(3, .lp 1 0), (6, .sl (some ak) (nk + 3) ck2), (7, .v (.int .i64 1)), (50, .sl (some ak) (nk + 3) ck2), (55, .io .i64 (IntKind.i64.wrap ((↑nk : Int) + IntKind.i64.wrap (0 + 1))))], [((stL g s k sz sl of gp lt ea d (some am) nm cm2 (some ak) nk ck2), 58), ((stL g s k sz sl of gp lt ea d Bm nm cm Bk nk ck), 58)]⟩ (by kernel_rfl) (by kernel_rfl) ?_
    rw [show IntKind.i64.wrap (0 + 1) = 1 from by decide]
    rw [w1]
    refine At.idx ak (nk + 3) 3 ((nk + 1 : Nat) : Int) (by kernel_rfl) (by omega) (by omega) noF_stable ?_
    refine At.fax (ak.add (((nk + 1 : Nat) : Int).toNat * 3)) 0 (by kernel_rfl) noF_stable ?_
    refine At.ldx ((ak.add (((nk + 1 : Nat) : Int).toNat * 3)).add 0) (.v (.string ⟨#[114, 111, 111, 109]⟩)) (by kernel_rfl) noF_stable (fun ρ w1 hm hf => by rw [Int.toNat_natCast]; exact (hS.below hm.below).room hy.1 (i := 1) rfl 0 _ rfl) ?_
    refine At.to (noF_stable) (noF_fewer) 20 300 [3, 6, 7, 60, 61, 66] 2 ⟨pops B27 [1, 1, 1, 1, 0, 1, 4, 4, 1, 0, 4, 0] 17, [.seq (sub B27 [1, 1, 1, 1, 0, 1, 4, 4, 1, 0, 4, 1]), .block 3, .seq (sub B27 [1, 1, 1, 1, 0, 1, 4, 4, 1, 1]), .rounds (sub B27 [1, 1, 1, 1, 0, 1, 4, 4]) 18, .block 2, .seq (sub B27 [1, 1, 1, 1, 1])], [(3, .lp 1 0), (6, .sl (some ak) (nk + 3) ck2), (7, .v (.int .i64 1)), (60, .v (.bool false)), (61, .sl (some ak) (nk + 3) ck2), (66, .io .i64 (IntKind.i64.wrap ((↑nk : Int) + 1)))], [((stL g s k sz sl of gp lt ea d (some am) nm cm2 (some ak) nk ck2), 58), ((stL g s k sz sl of gp lt ea d Bm nm cm Bk nk ck), 58)]⟩ (by kernel_rfl) (by kernel_rfl) ?_
    rw [w1]
    refine At.idx ak (nk + 3) 3 ((nk + 1 : Nat) : Int) (by kernel_rfl) (by omega) (by omega) noF_stable ?_
    refine At.fax (ak.add (((nk + 1 : Nat) : Int).toNat * 3)) 1 (by kernel_rfl) noF_stable ?_
    refine At.ldx ((ak.add (((nk + 1 : Nat) : Int).toNat * 3)).add 1) (.v (.int .i64 1)) (by kernel_rfl) noF_stable (fun ρ w1 hm hf => by rw [Int.toNat_natCast]; exact (hS.below hm.below).room hy.1 (i := 1) rfl 1 _ rfl) ?_
    refine At.to (noF_stable) (noF_fewer) 20 300 [3, 6, 7, 50, 55] 2 ⟨pops B27 [1, 1, 1, 1, 0, 1, 4, 4, 1, 0, 4, 0] 6, [.seq (sub B27 [1, 1, 1, 1, 0, 1, 4, 4, 1, 0, 4, 1]), .block 3, .seq (sub B27 [1, 1, 1, 1, 0, 1, 4, 4, 1, 1]), .rounds (sub B27 [1, 1, 1, 1, 0, 1, 4, 4]) 17, .block 2, .seq (sub B27 [1, 1, 1, 1, 1])], [(3, .lp 1 0), (6, .sl (some ak) (nk + 3) ck2), (7, .v (.int .i64 2)), (50, .sl (some ak) (nk + 3) ck2), (55, .io .i64 (IntKind.i64.wrap ((↑nk : Int) + IntKind.i64.wrap (1 + 1))))], [((stL g s k sz sl of gp lt ea d (some am) nm cm2 (some ak) nk ck2), 58), ((stL g s k sz sl of gp lt ea d Bm nm cm Bk nk ck), 58)]⟩ (by kernel_rfl) (by kernel_rfl) ?_
    rw [show IntKind.i64.wrap (1 + 1) = 2 from by decide]
    rw [w2]
    refine At.idx ak (nk + 3) 3 ((nk + 2 : Nat) : Int) (by kernel_rfl) (by omega) (by omega) noF_stable ?_
    refine At.fax (ak.add (((nk + 2 : Nat) : Int).toNat * 3)) 0 (by kernel_rfl) noF_stable ?_
    refine At.ldx ((ak.add (((nk + 2 : Nat) : Int).toNat * 3)).add 0) (.v (.string ⟨#[114, 111, 111, 109]⟩)) (by kernel_rfl) noF_stable (fun ρ w1 hm hf => by rw [Int.toNat_natCast]; exact (hS.below hm.below).room hy.1 (i := 2) rfl 0 _ rfl) ?_
    refine At.to (noF_stable) (noF_fewer) 20 300 [3, 6, 7, 60, 61, 66] 2 ⟨pops B27 [1, 1, 1, 1, 0, 1, 4, 4, 1, 0, 4, 0] 17, [.seq (sub B27 [1, 1, 1, 1, 0, 1, 4, 4, 1, 0, 4, 1]), .block 3, .seq (sub B27 [1, 1, 1, 1, 0, 1, 4, 4, 1, 1]), .rounds (sub B27 [1, 1, 1, 1, 0, 1, 4, 4]) 17, .block 2, .seq (sub B27 [1, 1, 1, 1, 1])], [(3, .lp 1 0), (6, .sl (some ak) (nk + 3) ck2), (7, .v (.int .i64 2)), (60, .v (.bool false)), (61, .sl (some ak) (nk + 3) ck2), (66, .io .i64 (IntKind.i64.wrap ((↑nk : Int) + 2)))], [((stL g s k sz sl of gp lt ea d (some am) nm cm2 (some ak) nk ck2), 58), ((stL g s k sz sl of gp lt ea d Bm nm cm Bk nk ck), 58)]⟩ (by kernel_rfl) (by kernel_rfl) ?_
    rw [w2]
    refine At.idx ak (nk + 3) 3 ((nk + 2 : Nat) : Int) (by kernel_rfl) (by omega) (by omega) noF_stable ?_
    refine At.fax (ak.add (((nk + 2 : Nat) : Int).toNat * 3)) 1 (by kernel_rfl) noF_stable ?_
    refine At.ldx ((ak.add (((nk + 2 : Nat) : Int).toNat * 3)).add 1) (.v (.int .i64 2)) (by kernel_rfl) noF_stable (fun ρ w1 hm hf => by rw [Int.toNat_natCast]; exact (hS.below hm.below).room hy.1 (i := 2) rfl 1 _ rfl) ?_
    refine At.to (noF_stable) (noF_fewer) 20 300 [4] 0 ⟨.exit .ret, [], [(4, .v (.bool true))], []⟩ (by kernel_rfl) (by kernel_rfl) ?_
    refine At.ret (by kernel_rfl) (.v (.bool true)) (by kernel_rfl) ?_
    intro ρ w9 hm _
    exact ⟨rfl, hm.below⟩

end Go.Proofs.YtiehnigbcfkcdaaDoor
