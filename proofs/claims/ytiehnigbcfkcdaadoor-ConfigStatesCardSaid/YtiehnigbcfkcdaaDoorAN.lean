import Derived.Test.YtiehnigbcfkcdaaDoorAM
set_option linter.unusedSimpArgs false
set_option linter.unusedVariables false
namespace Go.Proofs.YtiehnigbcfkcdaaDoor
open Go.RowKit Go.Sx

structure LX where
  w1 : World
  ρ1 : List Nat
  am : Addr
  cm : Nat
  ak : Addr
  ck : Nat
  ys : List Ky
theorem LkL.nle : ∀ {l m : List Ky}, LkL l m → ∀ {b : Nat}, (∀ x ∈ l, x.n ≤ b) → ∀ y ∈ m, y.n ≤ b
  | [], [], _, _, _, y, hy => by cases hy
  | a :: l, c :: m, h, b, hx, y, hy => by
    rcases List.mem_cons.1 hy with rfl | hy
    · rw [h.1.2.2.1]
      exact hx a (by simp)
    · exact LkL.nle h.2 (fun x hx' => hx x (by simp [hx'])) y hy
  | [], _ :: _, h, _, _, _, _ => h.elim
  | _ :: _, [], h, _, _, _, _ => h.elim


theorem aside_front {w1 : World} {ρ1 : List Nat} {a : Addr} {xs zs : List Value} (h : Sx.Aside w1 ρ1 a (xs ++ zs)) : Sx.Aside w1 ρ1 a xs :=
  ⟨fun j u hj => h.src j u (by rw [List.getElem?_append_left (List.getElem?_eq_some_iff.1 hj).1]; exact hj), h.out⟩
theorem keys_cut {w1 : World} {ρ1 : List Nat} {a : Addr} {ys : List Ky} {o : Nat} (h : Sx.Aside w1 ρ1 a (kv (ys ++ rooms))) (ho : o < ys.length) : Sx.Aside w1 ρ1 a (kv (ys.take o)) ∧ Sx.Aside w1 ρ1 (a.add ((o + 1) * 3)) (kv (ys.drop (o + 1))) := by
  have hy : ys[o]? = some ys[o] := List.getElem?_eq_getElem ho
  have e : ys ++ rooms = ys.take o ++ [ys[o]] ++ ys.drop (o + 1) ++ rooms := by
    rw [← take_k hy, List.take_append_drop]
  have e2 : kv (ys ++ rooms) = kv (ys.take o ++ [ys[o]]) ++ kv (ys.drop (o + 1)) ++ kv rooms := by
    rw [e, kv_append, kv_append]
  rw [e2] at h
  refine ⟨?_, ?_⟩
  · rw [kv_append, List.append_assoc, List.append_assoc] at h
    exact aside_front h
  · have := aside_part h
    rwa [kv_len, List.length_append, List.length_take, List.length_singleton, Nat.min_eq_left (by omega)] at this
theorem keys_left {w2 w : World} {ρ2 ρ : List Nat} {a : Addr} {ys : List Ky} {o : Nat} (h : kv (ys.take o) ++ kv (ys.drop (o + 1)) ≠ [] → Sx.Aside w2 ρ2 a (kv (ys.take o) ++ kv (ys.drop (o + 1)))) (hf : FrameR w2 (fun b => b ∈ ρ2) ρ2 ρ w) : Src w a (kv (ys.eraseIdx o)) := by
  rw [List.eraseIdx_eq_take_drop_succ, kv_append]
  by_cases hx : kv (ys.take o) ++ kv (ys.drop (o + 1)) = []
  · rw [hx]
    intro j u hj
    simp at hj
  · exact (h hx).now hf

noncomputable def B8 : Code := (Tryd.f8.body).getD .skip
set_option maxHeartbeats 4000000 in
set_option maxRecDepth 100000 in
theorem states_walk (g s k sz sl of gp lt ea : Int) (d : Bool) (Bm : Option Addr) (nm cm : Nat) (ms : List Int) (Bk : Option Addr) (nk ck : Nat) (ks : List Ky) (out : Int) (hm8 : nm * 8 ≤ 140737488351232) (hk48 : nk * 48 ≤ 140737488351232) (w : World) (hm0 : SlI w Bm nm ms) (hk0 : SlK w Bk nk ks) (hkw72 : ∀ x ∈ ks, x.n * 72 ≤ 140737488351232) (htab : Lib.TabIs Tryd.prog w "strings.asciiSpace" .u8 Lib.asciiSpaceTab) :
    Calls Tryd.prog 8 #[.agg #[.int .i64 g, .int .i64 s, .int .i64 k, .int .i64 sz, .int .i64 sl, .int .i64 of, .int .i64 gp, .int .i64 lt, .int .i64 ea, .bool d, .slice Bm nm cm, .slice Bk nk ck], .int .i64 out] w fun e w' => e = .returned (.bool true) ∧ Below w.heap.size w w' := by
  have hmb : nm ≤ 140737488355320 := by omega
  have hkb : nk ≤ 140737488355320 := by omega
  have hkw : ∀ x ∈ ks, x.n ≤ 140737488355320 := fun x hx => by have := hkw72 x hx; omega
  refine enter (fn := Tryd.f8) (c := B8) [.agg (stL g s k sz sl of gp lt ea d Bm nm cm Bk nk ck), .io .i64 out] Tryd.func8 rfl rfl ?_
  refine At.to (noF_stable) (noF_fewer) 0 300 [1, 2, 7] 1 ⟨pops B8 [1, 0] 1, [.seq (sub B8 [1, 1])], [(1, .io .i64 out), (2, .lp 0 0), (7, .agg (stL g s k sz sl of gp lt ea d Bm nm cm Bk nk ck))], [((stL g s k sz sl of gp lt ea d Bm nm cm Bk nk ck), 58)]⟩ (by kernel_rfl) (by kernel_rfl) ?_
  have hl := hm0.1
  have hkk := hk0.1
  have hkl : ∀ x ∈ ks, x.ws.length = x.n := fun x hx => (hk0.2.2.2 x hx).1
  refine At.callx noF_stable (X := LX) 24 [.agg (stL g s k sz sl of gp lt ea d Bm nm cm Bk nk ck)] (fun | ⟨_, _, am, cm2, ak, ck2, _⟩ => .agg (stL g s k sz sl of gp lt ea d (some am) nm cm2 (some ak) nk ck2)) (fun x ρ w9 => match x with | ⟨w1, ρ1, am, cm2, ak, ck2, ys⟩ => FrameR w1 (fun b => b ∈ ρ1) ρ1 ρ w9 ∧ (ρ1.length = 1 ∧ LentA w1 ρ1 ms ks am nm cm2 ak nk ck2 ys)) (fun ⟨w1, ρ1, am, cm2, ak, ck2, ys⟩ => Stable.and FrameR.stable fun _ _ _ _ _ _ h => h) (by kernel_rfl) (by kernel_rfl) (by kernel_rfl) (by kernel_rfl) (fun ρ a w9 hi _ => ?_) ?_
  · refine (slend_any g s k sz sl of gp lt ea d Bm nm cm ms Bk nk ck ks (by omega) (by omega) w9 (hm0.below hi.mem.below) (hk0.below hi.mem.below) hkw72).mono ?_
    rintro e' w1 ⟨am, cm2, ak, ck2, ys, rfl, hb, h1, h2, h3, h4, h5, h6, h7, h8, h9⟩
    exact ⟨⟨w1, ρ, am, cm2, ak, ck2, ys⟩, rfl, hb, FrameR.start (w0 := w1) _ ρ (fun b hb => hb), hi.mem.len, LentA.ofS h1 h2 h3 h4 h5 h6 h7 h8 h9 (fun b hb => (hi.mem.ge b hb).2)⟩
  rintro ⟨w1, ρ1, am, cm2, ak, ck2, ys⟩
  refine At.mono (F' := fun ρ w9 => FrameR w1 (fun b => b ∈ ρ1) ρ1 ρ w9 ∧ (ρ1.length = 1 ∧ LentA w1 ρ1 ms ks am nm cm2 ak nk ck2 ys)) (fun ρ w9 h => h.2) (At.pure fun ⟨hρ, hA⟩ => ?_)
  have hfw : FewerK 1 (FrameR w1 (fun b => b ∈ ρ1) ρ1) := fewer_len hρ
  obtain ⟨e, he⟩ : ∃ e, rstateE (wrongF g s k sz sl of gp lt ea) s k nm ms ks = e := ⟨_, rfl⟩
  by_cases h0 : e = 0
  · subst h0
    refine At.toJ (FrameR.stable) hfw 0 300 [1, 2, 5, 9] 2 ⟨pops B8 [1, 1, 0] 1, [.seq (sub B8 [1, 1, 1])], [(1, .io .i64 out), (2, .lp 0 0), (5, .lp 1 0), (9, .agg (stL g s k sz sl of gp lt ea d (some am) nm cm2 (some ak) nk ck2))], [((stL g s k sz sl of gp lt ea d Bm nm cm Bk nk ck), 58), ((stL g s k sz sl of gp lt ea d (some am) nm cm2 (some ak) nk ck2), 58)]⟩ (by kernel_rfl) (by kernel_rfl) ?_
    refine At.call FrameR.stable 25 [.agg (stL g s k sz sl of gp lt ea d (some am) nm cm2 (some ak) nk ck2)] (.v (.int .i64 0)) (by kernel_rfl) (by kernel_rfl) (by kernel_rfl) (fun ρ _ w9 hi hf => ?_) ?_
    · have hS := hA.now hf hl hkl
      have hk := state_any g s k sz sl of gp lt ea d (some am) nm cm2 ms (some ak) nk ck2 ys hmb hkb w9 (hS.ints.head hl) (hS.slK hkk hkl) (hS.lk.nle hkw)
      rw [state_lk hS.lk, states_alike ks hl, he] at hk
      exact hk
    refine At.toJ (FrameR.stable) hfw 0 300 [1, 2, 5, 6, 11] 2 ⟨pqops B8 [1, 1, 1, 0, 0] 1, [.seq (sub B8 [1, 1, 1, 0, 1]), .seq (sub B8 [1, 1, 1, 1])], [(1, .io .i64 out), (2, .lp 0 0), (5, .lp 1 0), (6, .v (.int .i64 0)), (11, .v (.int .i64 0))], [((stL g s k sz sl of gp lt ea d Bm nm cm Bk nk ck), 58), ((stL g s k sz sl of gp lt ea d (some am) nm cm2 (some ak) nk ck2), 58)]⟩ (by kernel_rfl) (by kernel_rfl) ?_
    refine At.call (FrameR.stable) 11 [.v (.int .i64 0)] (.io .i64 0) (by kernel_rfl) (by kernel_rfl) (by kernel_rfl) (fun _ _ w _ _ => num_any (0) w) ?_
    refine At.toJ (FrameR.stable) hfw 0 300 [1, 2, 5, 6, 12, 13] 2 ⟨pqops B8 [1, 1, 1, 0, 0] 3, [.seq (sub B8 [1, 1, 1, 0, 1]), .seq (sub B8 [1, 1, 1, 1])], [(1, .io .i64 out), (2, .lp 0 0), (5, .lp 1 0), (6, .v (.int .i64 0)), (12, .io .i64 0), (13, .agg (stL g s k sz sl of gp lt ea d Bm nm cm Bk nk ck))], [((stL g s k sz sl of gp lt ea d Bm nm cm Bk nk ck), 58), ((stL g s k sz sl of gp lt ea d (some am) nm cm2 (some ak) nk ck2), 58)]⟩ (by kernel_rfl) (by kernel_rfl) ?_
    refine At.call FrameR.stable 26 [.agg (stL g s k sz sl of gp lt ea d Bm nm cm Bk nk ck)] (.v (.int .i64 0)) (by kernel_rfl) (by kernel_rfl) (by kernel_rfl) (fun ρ _ w9 hi hf => ?_) ?_
    · have hk := rstate_any g s k sz sl of gp lt ea d Bm nm cm ms Bk nk ck ks hmb hkb w9 (hm0.below hi.mem.below) (hk0.below hi.mem.below) hkw
      rw [he] at hk
      exact hk
    refine At.toJ (FrameR.stable) hfw 0 300 [1, 2, 5, 6, 16] 2 ⟨pqops B8 [1, 1, 1, 0, 0] 6, [.seq (sub B8 [1, 1, 1, 0, 1]), .seq (sub B8 [1, 1, 1, 1])], [(1, .io .i64 out), (2, .lp 0 0), (5, .lp 1 0), (6, .v (.int .i64 0)), (16, .bo false)], [((stL g s k sz sl of gp lt ea d Bm nm cm Bk nk ck), 58), ((stL g s k sz sl of gp lt ea d (some am) nm cm2 (some ak) nk ck2), 58)]⟩ (by kernel_rfl) (by kernel_rfl) ?_
    refine At.res 16 (false) false (by kernel_rfl) (by first | assumption | (simp only [*]; done) | (simp [*]; done)) ?_
    refine At.toJ (FrameR.stable) hfw 0 300 [1, 2, 5, 6, 16, 17, 18] 2 ⟨pqops B8 [1, 1, 1, 0, 0] 8, [.seq (sub B8 [1, 1, 1, 0, 1]), .seq (sub B8 [1, 1, 1, 1])], [(1, .io .i64 out), (2, .lp 0 0), (5, .lp 1 0), (6, .v (.int .i64 0)), (16, .v (.bool false)), (17, .agg (stL g s k sz sl of gp lt ea d (some am) nm cm2 (some ak) nk ck2)), (18, .agg (stL g s k sz sl of gp lt ea d Bm nm cm Bk nk ck))], [((stL g s k sz sl of gp lt ea d Bm nm cm Bk nk ck), 58), ((stL g s k sz sl of gp lt ea d (some am) nm cm2 (some ak) nk ck2), 58)]⟩ (by kernel_rfl) (by kernel_rfl) ?_
    refine At.call FrameR.stable 27 [.agg (stL g s k sz sl of gp lt ea d (some am) nm cm2 (some ak) nk ck2), .agg (stL g s k sz sl of gp lt ea d Bm nm cm Bk nk ck)] (.v (.bool true)) (by kernel_rfl) (by kernel_rfl) (by kernel_rfl) (fun ρ _ w9 hi hf => ?_) ?_
    · exact skept_any g s k sz sl of gp lt ea d am ak cm2 ck2 Bm nm cm ms Bk nk ck ks ys hmb hkb hkw w9 (hm0.below hi.mem.below) (hk0.below hi.mem.below) (hA.now hf hl hkl)
    refine At.toJ (FrameR.stable) hfw 0 300 [1, 2, 5, 22] 2 ⟨pops B8 [1, 1, 1, 1, 0, 0] 1, [.seq (sub B8 [1, 1, 1, 1, 0, 1]), .seq (sub B8 [1, 1, 1, 1, 1])], [(1, .io .i64 out), (2, .lp 0 0), (5, .lp 1 0), (22, .v (.int .i64 0))], [((stL g s k sz sl of gp lt ea d Bm nm cm Bk nk ck), 58), ((stL g s k sz sl of gp lt ea d (some am) nm cm2 (some ak) nk ck2), 58)]⟩ (by kernel_rfl) (by kernel_rfl) ?_
    refine At.call (FrameR.stable) 11 [.v (.int .i64 0)] (.io .i64 0) (by kernel_rfl) (by kernel_rfl) (by kernel_rfl) (fun _ _ w _ _ => num_any (0) w) ?_
    refine At.toJ (FrameR.stable) hfw 0 300 [1, 2, 5, 25] 2 ⟨pops B8 [1, 1, 1, 1, 0, 0] 4, [.seq (sub B8 [1, 1, 1, 1, 0, 1]), .seq (sub B8 [1, 1, 1, 1, 1])], [(1, .io .i64 out), (2, .lp 0 0), (5, .lp 1 0), (25, .bo true)], [((stL g s k sz sl of gp lt ea d Bm nm cm Bk nk ck), 58), ((stL g s k sz sl of gp lt ea d (some am) nm cm2 (some ak) nk ck2), 58)]⟩ (by kernel_rfl) (by kernel_rfl) ?_
    refine At.res 25 (true) true (by kernel_rfl) (by first | assumption | (simp only [*]; done) | (simp [*]; done)) ?_
    refine At.toJ (FrameR.stable) hfw 0 300 [1, 2, 5, 30] 2 ⟨.code (sub B8 [1, 1, 1, 1, 0, 1]), [.seq (sub B8 [1, 1, 1, 1, 1])], [(1, .io .i64 out), (2, .lp 0 0), (5, .lp 1 0), (30, .bo (decide ((↑nk : Int) > 0)))], [((stL g s k sz sl of gp lt ea d Bm nm cm Bk nk ck), 58), ((stL g s k sz sl of gp lt ea d (some am) nm cm2 (some ak) nk ck2), 58)]⟩ (by kernel_rfl) (by kernel_rfl) ?_
    rcases Bool.eq_false_or_eq_true (decide ((↑nk : Int) > 0)) with b0 | b0
    · refine At.res 30 (decide ((↑nk : Int) > 0)) true (by kernel_rfl) b0 ?_
      refine At.toJ (FrameR.stable) hfw 0 300 [2, 5, 31, 34] 2 ⟨pqops B8 [1, 1, 1, 1, 0, 1, 2, 0] 4, [.seq (sub B8 [1, 1, 1, 1, 0, 1, 2, 1]), .seq (sub B8 [1, 1, 1, 1, 1])], [(2, .lp 0 0), (5, .lp 1 0), (31, .io .i64 out), (34, .io .i64 (↑nk : Int))], [((stL g s k sz sl of gp lt ea d Bm nm cm Bk nk ck), 58), ((stL g s k sz sl of gp lt ea d (some am) nm cm2 (some ak) nk ck2), 58)]⟩ (by kernel_rfl) (by kernel_rfl) ?_
      have hnk : 0 < nk := by have := of_decide_eq_true ‹decide ((nk : Int) > 0) = true›; omega
      obtain ⟨o, ho, hoe⟩ := out_place out hnk hkb
      refine At.rem .i64 out nk (by kernel_rfl) (by omega) FrameR.stable ?_
      refine At.toJ (FrameR.stable) hfw 0 300 [5, 39, 42] 2 ⟨pqops B8 [1, 1, 1, 1, 0, 1, 2, 0] 12, [.seq (sub B8 [1, 1, 1, 1, 0, 1, 2, 1]), .seq (sub B8 [1, 1, 1, 1, 1])], [(5, .lp 1 0), (39, .io .i64 (IntKind.i64.wrap (out.tmod (↑nk : Int) + (↑nk : Int)))), (42, .io .i64 (↑nk : Int))], [((stL g s k sz sl of gp lt ea d Bm nm cm Bk nk ck), 58), ((stL g s k sz sl of gp lt ea d (some am) nm cm2 (some ak) nk ck2), 58)]⟩ (by kernel_rfl) (by kernel_rfl) ?_
      refine At.rem .i64 (IntKind.i64.wrap (out.tmod nk + nk)) nk (by kernel_rfl) (by omega) FrameR.stable ?_
      rw [hoe]
      refine At.toJ (FrameR.stable) hfw 0 300 [1, 5, 45, 46, 47] 2 ⟨.qops (opsOf (sub B8 [1, 1, 1, 1, 0, 1, 2, 1, 0])) (((opsOf (sub B8 [1, 1, 1, 1, 0, 1, 2, 1, 0])).toList.take 10).drop 4), [.tail (opsOf (sub B8 [1, 1, 1, 1, 0, 1, 2, 1, 0])) ((opsOf (sub B8 [1, 1, 1, 1, 0, 1, 2, 1, 0])).toList.drop 10), .seq (sub B8 [1, 1, 1, 1, 0, 1, 2, 1, 1]), .seq (sub B8 [1, 1, 1, 1, 1])], [(1, .io .i64 (↑o : Int)), (5, .lp 1 0), (45, .sl (some ak) nk ck2), (46, .io .i64 (↑o : Int)), (47, .io .i64 (↑o : Int))], [((stL g s k sz sl of gp lt ea d Bm nm cm Bk nk ck), 58), ((stL g s k sz sl of gp lt ea d (some am) nm cm2 (some ak) nk ck2), 58)]⟩ (by kernel_rfl) (by kernel_rfl) ?_
      refine At.sl3 (some ak) nk ck2 (o : Int) (o : Int) 3 (by kernel_rfl) FrameR.stable (by omega) (Int.le_refl _) (by have := hA.capk; omega) ?_
      rw [Int.toNat_natCast]
      refine At.toJ (FrameR.stable) hfw 0 300 [5, 48, 50, 52] 2 ⟨.qops (opsOf (sub B8 [1, 1, 1, 1, 0, 1, 2, 1, 0])) (((opsOf (sub B8 [1, 1, 1, 1, 0, 1, 2, 1, 0])).toList.take 10).drop 9), [.tail (opsOf (sub B8 [1, 1, 1, 1, 0, 1, 2, 1, 0])) ((opsOf (sub B8 [1, 1, 1, 1, 0, 1, 2, 1, 0])).toList.drop 10), .seq (sub B8 [1, 1, 1, 1, 0, 1, 2, 1, 1]), .seq (sub B8 [1, 1, 1, 1, 1])], [(5, .lp 1 0), (48, .sl (some ak) o o), (50, .sl (some ak) nk ck2), (52, .io .i64 (IntKind.i64.wrap ((↑o : Int) + 1)))], [((stL g s k sz sl of gp lt ea d Bm nm cm Bk nk ck), 58), ((stL g s k sz sl of gp lt ea d (some am) nm cm2 (some ak) nk ck2), 58)]⟩ (by kernel_rfl) (by kernel_rfl) ?_
      have hw2 : IntKind.i64.wrap ((o : Int) + 1) = ((o + 1 : Nat) : Int) := by
        rw [wrap63 (by omega) (by omega)]
        omega
      rw [hw2]
      refine At.slL ak nk ck2 ((o + 1 : Nat) : Int) 3 (by kernel_rfl) FrameR.stable (by omega) (by omega) (by rw [Int.toNat_natCast]; have := hA.capk; omega) ?_
      rw [Int.toNat_natCast]
      refine At.toJ (FrameR.stable) hfw 0 300 [5, 48, 53] 2 ⟨pops B8 [1, 1, 1, 1, 0, 1, 2, 1, 0] 10, [.seq (sub B8 [1, 1, 1, 1, 0, 1, 2, 1, 1]), .seq (sub B8 [1, 1, 1, 1, 1])], [(5, .lp 1 0), (48, .sl (some ak) o o), (53, .sl (some (Addr.mk ak.block (ak.off + (o + 1) * 3) none)) (nk - (o + 1)) (ck2 - (o + 1)))], [((stL g s k sz sl of gp lt ea d Bm nm cm Bk nk ck), 58), ((stL g s k sz sl of gp lt ea d (some am) nm cm2 (some ak) nk ck2), 58)]⟩ (by kernel_rfl) (by kernel_rfl) ?_
      have hyl : ys.length = nk := hA.lk.len.trans hkk
      obtain ⟨ka1, ka2⟩ := keys_cut hA.keys (o := o) (by omega)
      refine At.appFull 50 3 48 ak o o rfl (ak.add ((o + 1) * 3)) (nk - (o + 1)) (ck2 - (o + 1)) (kv (ys.take o)) (kv (ys.drop (o + 1))) w1 ρ1 (by kernel_rfl) ka1 ka2 (by rw [kv_len, List.length_take]; omega) (by rw [kv_len, List.length_drop]; omega) (by omega) (by simp only [maxLen]; omega) ?_
      intro a' c' w2 ρ2 hρ2 hlater hnew
      have hfw2 : FewerK 2 (FrameR w2 (fun b => b ∈ ρ2) ρ2) := fewer_len (hρ2.trans (by kernel_rfl))
      have hA2 := hA.later hlater
      refine At.toJ (FrameR.stable) hfw2 0 300 [56] 2 ⟨pops B8 [1, 1, 1, 1, 0, 1, 2, 1, 1, 0] 1, [.seq (sub B8 [1, 1, 1, 0, 1, 2, 1]), .seq (sub B8 [1, 1, 1, 1, 1])], [(56, .agg [.io .i64 g, .io .i64 s, .io .i64 k, .io .i64 sz, .io .i64 sl, .io .i64 of, .io .i64 gp, .io .i64 lt, .io .i64 ea, .bo d, .sl (some am) nm cm2, .sl (some a') (o + (nk - (o + 1))) c'])], [((stL g s k sz sl of gp lt ea d Bm nm cm Bk nk ck), 58), ([.io .i64 g, .io .i64 s, .io .i64 k, .io .i64 sz, .io .i64 sl, .io .i64 of, .io .i64 gp, .io .i64 lt, .io .i64 ea, .bo d, .sl (some am) nm cm2, .sl (some a') (o + (nk - (o + 1))) c'], 58)]⟩ (by kernel_rfl) (by kernel_rfl) ?_
      refine At.call FrameR.stable 25 [.agg [.io .i64 g, .io .i64 s, .io .i64 k, .io .i64 sz, .io .i64 sl, .io .i64 of, .io .i64 gp, .io .i64 lt, .io .i64 ea, .bo d, .sl (some am) nm cm2, .sl (some a') (o + (nk - (o + 1))) c']] (.v (.int .i64 0)) (by kernel_rfl) (by kernel_rfl) (by kernel_rfl) (fun ρ _ w9 hi hf => ?_) ?_
      · have hS := hA2.now hf hl hkl
        have hzero : stateE (wrongF g s k sz sl of gp lt ea) s k nm ms (ys.eraseIdx o) = 0 := state_out (nm' := 0) ((state_lk hS.lk).trans ((states_alike ks hl).trans he)) o
        have hk := state_any g s k sz sl of gp lt ea d (some am) nm cm2 ms (some a') (o + (nk - (o + 1))) c' (ys.eraseIdx o) hmb (by omega) w9 (hS.ints.head hl) ⟨by rw [List.length_eraseIdx_of_lt (by omega)]; omega, (fun h => by (cases h)), (fun a ha => by cases ha; exact keys_left hnew hf), fun x hx => (hS.slK hkk hkl).2.2.2 x (List.mem_of_mem_eraseIdx hx)⟩ (fun x hx => hS.lk.nle hkw x (List.mem_of_mem_eraseIdx hx))
        rw [hzero] at hk
        exact hk
      refine At.toJ (FrameR.stable) hfw2 0 300 [57] 2 ⟨pops B8 [1, 1, 1, 1, 0, 1, 2, 1, 1, 0] 2, [.seq (sub B8 [1, 1, 1, 0, 1, 2, 1]), .seq (sub B8 [1, 1, 1, 1, 1])], [(57, .v (.int .i64 0))], [((stL g s k sz sl of gp lt ea d Bm nm cm Bk nk ck), 58), ([.io .i64 g, .io .i64 s, .io .i64 k, .io .i64 sz, .io .i64 sl, .io .i64 of, .io .i64 gp, .io .i64 lt, .io .i64 ea, .bo d, .sl (some am) nm cm2, .sl (some a') (o + (nk - (o + 1))) c'], 58)]⟩ (by kernel_rfl) (by kernel_rfl) ?_
      refine At.call (FrameR.stable) 11 [.v (.int .i64 0)] (.io .i64 0) (by kernel_rfl) (by kernel_rfl) (by kernel_rfl) (fun _ _ w _ _ => num_any (0) w) ?_
      refine At.toJ (FrameR.stable) hfw2 0 300 [60] 2 ⟨pops B8 [1, 1, 1, 1, 0, 1, 2, 1, 1, 0] 5, [.seq (sub B8 [1, 1, 1, 0, 1, 2, 1]), .seq (sub B8 [1, 1, 1, 1, 1])], [(60, .bo true)], [((stL g s k sz sl of gp lt ea d Bm nm cm Bk nk ck), 58), ([.io .i64 g, .io .i64 s, .io .i64 k, .io .i64 sz, .io .i64 sl, .io .i64 of, .io .i64 gp, .io .i64 lt, .io .i64 ea, .bo d, .sl (some am) nm cm2, .sl (some a') (o + (nk - (o + 1))) c'], 58)]⟩ (by kernel_rfl) (by kernel_rfl) ?_
      refine At.res 60 (true) true (by kernel_rfl) (by first | assumption | (simp only [*]; done) | (simp [*]; done)) ?_
      refine At.toJ (FrameR.stable) hfw2 0 300 [60] 2 ⟨pops B8 [1, 1, 1, 1, 0, 1, 2, 1, 1, 0] 5, [.seq (sub B8 [1, 1, 1, 0, 1, 2, 1]), .seq (sub B8 [1, 1, 1, 1, 1])], [(60, .v (.bool true))], [((stL g s k sz sl of gp lt ea d Bm nm cm Bk nk ck), 58), ([.io .i64 g, .io .i64 s, .io .i64 k, .io .i64 sz, .io .i64 sl, .io .i64 of, .io .i64 gp, .io .i64 lt, .io .i64 ea, .bo d, .sl (some am) nm cm2, .sl (some a') (o + (nk - (o + 1))) c'], 58)]⟩ (by kernel_rfl) (by kernel_rfl) ?_
      refine At.call FrameR.stable 13 [] (.v (.bool true)) (by kernel_rfl) (by kernel_rfl) (by kernel_rfl) (fun ρ _ w9 hi hf => ?_) ?_
      · exact works_true w9 (tab_below htab hi.mem.below rfl)
      refine At.toJ (FrameR.stable) hfw2 0 300 [4] 2 ⟨.exit .ret, [], [(4, .v (.bool true))], [((stL g s k sz sl of gp lt ea d Bm nm cm Bk nk ck), 58), ([.io .i64 g, .io .i64 s, .io .i64 k, .io .i64 sz, .io .i64 sl, .io .i64 of, .io .i64 gp, .io .i64 lt, .io .i64 ea, .bo d, .sl (some am) nm cm2, .sl (some a') (o + (nk - (o + 1))) c'], 58)]⟩ (by kernel_rfl) (by kernel_rfl) ?_
      refine At.ret (by kernel_rfl) (.v (.bool true)) (by kernel_rfl) ?_
      intro ρ w9 hm _
      exact ⟨rfl, hm.below⟩
    · refine At.res 30 (decide ((↑nk : Int) > 0)) false (by kernel_rfl) b0 ?_
      refine At.toJ (FrameR.stable) hfw 0 300 [] 1 ⟨pops B8 [1, 1, 1, 1, 1, 0] 0, [.seq (sub B8 [1, 1, 1, 0, 1, 2, 1])], [], [((stL g s k sz sl of gp lt ea d Bm nm cm Bk nk ck), 58)]⟩ (by kernel_rfl) (by kernel_rfl) ?_
      refine At.call FrameR.stable 13 [] (.v (.bool true)) (by kernel_rfl) (by kernel_rfl) (by kernel_rfl) (fun ρ _ w9 hi hf => ?_) ?_
      · exact works_true w9 (tab_below htab hi.mem.below rfl)
      refine At.toJ (FrameR.stable) hfw 0 300 [4] 1 ⟨.exit .ret, [], [(4, .v (.bool true))], [((stL g s k sz sl of gp lt ea d Bm nm cm Bk nk ck), 58)]⟩ (by kernel_rfl) (by kernel_rfl) ?_
      refine At.ret (by kernel_rfl) (.v (.bool true)) (by kernel_rfl) ?_
      intro ρ w9 hm _
      exact ⟨rfl, hm.below⟩
  · have hne : (e == 0) = false := by simp [h0]
    have hee : (e != e) = false := by simp
    refine At.toJ (FrameR.stable) hfw 0 300 [1, 2, 5, 9] 2 ⟨pops B8 [1, 1, 0] 1, [.seq (sub B8 [1, 1, 1])], [(1, .io .i64 out), (2, .lp 0 0), (5, .lp 1 0), (9, .agg (stL g s k sz sl of gp lt ea d (some am) nm cm2 (some ak) nk ck2))], [((stL g s k sz sl of gp lt ea d Bm nm cm Bk nk ck), 58), ((stL g s k sz sl of gp lt ea d (some am) nm cm2 (some ak) nk ck2), 58)]⟩ (by kernel_rfl) (by kernel_rfl) ?_
    refine At.call FrameR.stable 25 [.agg (stL g s k sz sl of gp lt ea d (some am) nm cm2 (some ak) nk ck2)] (.io .i64 e) (by kernel_rfl) (by kernel_rfl) (by kernel_rfl) (fun ρ _ w9 hi hf => ?_) ?_
    · have hS := hA.now hf hl hkl
      have hk := state_any g s k sz sl of gp lt ea d (some am) nm cm2 ms (some ak) nk ck2 ys hmb hkb w9 (hS.ints.head hl) (hS.slK hkk hkl) (hS.lk.nle hkw)
      rw [state_lk hS.lk, states_alike ks hl, he] at hk
      exact hk
    refine At.toJ (FrameR.stable) hfw 0 300 [1, 2, 5, 6, 11] 2 ⟨pqops B8 [1, 1, 1, 0, 0] 1, [.seq (sub B8 [1, 1, 1, 0, 1]), .seq (sub B8 [1, 1, 1, 1])], [(1, .io .i64 out), (2, .lp 0 0), (5, .lp 1 0), (6, .io .i64 e), (11, .io .i64 e)], [((stL g s k sz sl of gp lt ea d Bm nm cm Bk nk ck), 58), ((stL g s k sz sl of gp lt ea d (some am) nm cm2 (some ak) nk ck2), 58)]⟩ (by kernel_rfl) (by kernel_rfl) ?_
    refine At.call (FrameR.stable) 11 [.io .i64 e] (.io .i64 e) (by kernel_rfl) (by kernel_rfl) (by kernel_rfl) (fun _ _ w _ _ => num_any (e) w) ?_
    refine At.toJ (FrameR.stable) hfw 0 300 [1, 2, 5, 6, 12, 13] 2 ⟨pqops B8 [1, 1, 1, 0, 0] 3, [.seq (sub B8 [1, 1, 1, 0, 1]), .seq (sub B8 [1, 1, 1, 1])], [(1, .io .i64 out), (2, .lp 0 0), (5, .lp 1 0), (6, .io .i64 e), (12, .io .i64 e), (13, .agg (stL g s k sz sl of gp lt ea d Bm nm cm Bk nk ck))], [((stL g s k sz sl of gp lt ea d Bm nm cm Bk nk ck), 58), ((stL g s k sz sl of gp lt ea d (some am) nm cm2 (some ak) nk ck2), 58)]⟩ (by kernel_rfl) (by kernel_rfl) ?_
    refine At.call FrameR.stable 26 [.agg (stL g s k sz sl of gp lt ea d Bm nm cm Bk nk ck)] (.io .i64 e) (by kernel_rfl) (by kernel_rfl) (by kernel_rfl) (fun ρ _ w9 hi hf => ?_) ?_
    · have hk := rstate_any g s k sz sl of gp lt ea d Bm nm cm ms Bk nk ck ks hmb hkb w9 (hm0.below hi.mem.below) (hk0.below hi.mem.below) hkw
      rw [he] at hk
      exact hk
    refine At.toJ (FrameR.stable) hfw 0 300 [1, 2, 5, 6, 16] 2 ⟨pqops B8 [1, 1, 1, 0, 0] 6, [.seq (sub B8 [1, 1, 1, 0, 1]), .seq (sub B8 [1, 1, 1, 1])], [(1, .io .i64 out), (2, .lp 0 0), (5, .lp 1 0), (6, .io .i64 e), (16, .bo (e != e))], [((stL g s k sz sl of gp lt ea d Bm nm cm Bk nk ck), 58), ((stL g s k sz sl of gp lt ea d (some am) nm cm2 (some ak) nk ck2), 58)]⟩ (by kernel_rfl) (by kernel_rfl) ?_
    refine At.res 16 (e != e) false (by kernel_rfl) hee ?_
    refine At.toJ (FrameR.stable) hfw 0 300 [1, 2, 5, 6, 16, 17, 18] 2 ⟨pqops B8 [1, 1, 1, 0, 0] 8, [.seq (sub B8 [1, 1, 1, 0, 1]), .seq (sub B8 [1, 1, 1, 1])], [(1, .io .i64 out), (2, .lp 0 0), (5, .lp 1 0), (6, .io .i64 e), (16, .v (.bool false)), (17, .agg (stL g s k sz sl of gp lt ea d (some am) nm cm2 (some ak) nk ck2)), (18, .agg (stL g s k sz sl of gp lt ea d Bm nm cm Bk nk ck))], [((stL g s k sz sl of gp lt ea d Bm nm cm Bk nk ck), 58), ((stL g s k sz sl of gp lt ea d (some am) nm cm2 (some ak) nk ck2), 58)]⟩ (by kernel_rfl) (by kernel_rfl) ?_
    refine At.call FrameR.stable 27 [.agg (stL g s k sz sl of gp lt ea d (some am) nm cm2 (some ak) nk ck2), .agg (stL g s k sz sl of gp lt ea d Bm nm cm Bk nk ck)] (.v (.bool true)) (by kernel_rfl) (by kernel_rfl) (by kernel_rfl) (fun ρ _ w9 hi hf => ?_) ?_
    · exact skept_any g s k sz sl of gp lt ea d am ak cm2 ck2 Bm nm cm ms Bk nk ck ks ys hmb hkb hkw w9 (hm0.below hi.mem.below) (hk0.below hi.mem.below) (hA.now hf hl hkl)
    refine At.toJ (FrameR.stable) hfw 0 300 [1, 2, 5, 22] 2 ⟨pops B8 [1, 1, 1, 1, 0, 0] 1, [.seq (sub B8 [1, 1, 1, 1, 0, 1]), .seq (sub B8 [1, 1, 1, 1, 1])], [(1, .io .i64 out), (2, .lp 0 0), (5, .lp 1 0), (22, .io .i64 e)], [((stL g s k sz sl of gp lt ea d Bm nm cm Bk nk ck), 58), ((stL g s k sz sl of gp lt ea d (some am) nm cm2 (some ak) nk ck2), 58)]⟩ (by kernel_rfl) (by kernel_rfl) ?_
    refine At.call (FrameR.stable) 11 [.io .i64 e] (.io .i64 e) (by kernel_rfl) (by kernel_rfl) (by kernel_rfl) (fun _ _ w _ _ => num_any (e) w) ?_
    refine At.toJ (FrameR.stable) hfw 0 300 [1, 2, 5, 25] 2 ⟨pops B8 [1, 1, 1, 1, 0, 0] 4, [.seq (sub B8 [1, 1, 1, 1, 0, 1]), .seq (sub B8 [1, 1, 1, 1, 1])], [(1, .io .i64 out), (2, .lp 0 0), (5, .lp 1 0), (25, .bo (e == 0))], [((stL g s k sz sl of gp lt ea d Bm nm cm Bk nk ck), 58), ((stL g s k sz sl of gp lt ea d (some am) nm cm2 (some ak) nk ck2), 58)]⟩ (by kernel_rfl) (by kernel_rfl) ?_
    refine At.res 25 (e == 0) false (by kernel_rfl) hne ?_
    refine At.toJ (FrameR.stable) hfw 0 300 [] 1 ⟨pops B8 [1, 1, 1, 1, 1, 0] 0, [.seq (sub B8 [1, 1, 1, 0, 1, 2, 1])], [], [((stL g s k sz sl of gp lt ea d Bm nm cm Bk nk ck), 58)]⟩ (by kernel_rfl) (by kernel_rfl) ?_
    refine At.call FrameR.stable 13 [] (.v (.bool true)) (by kernel_rfl) (by kernel_rfl) (by kernel_rfl) (fun ρ _ w9 hi hf => ?_) ?_
    · exact works_true w9 (tab_below htab hi.mem.below rfl)
    refine At.toJ (FrameR.stable) hfw 0 300 [4] 1 ⟨.exit .ret, [], [(4, .v (.bool true))], [((stL g s k sz sl of gp lt ea d Bm nm cm Bk nk ck), 58)]⟩ (by kernel_rfl) (by kernel_rfl) ?_
    refine At.ret (by kernel_rfl) (.v (.bool true)) (by kernel_rfl) ?_
    intro ρ w9 hm _
    exact ⟨rfl, hm.below⟩

end Go.Proofs.YtiehnigbcfkcdaaDoor
