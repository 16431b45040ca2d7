import Derived.Test.YtiehnigbcfkcdaaDoorAG
set_option linter.unusedSimpArgs false
set_option linter.unusedVariables false
namespace Go.Proofs.YtiehnigbcfkcdaaDoor
open Go.RowKit Go.Sx

theorem LkL.get : ∀ {l m : List Ky}, LkL l m → ∀ {i : Nat} {x : Ky}, l[i]? = some x → ∃ y, m[i]? = some y ∧ Lk x y
  | [], [], _, i, x, h => by simp at h
  | a :: l, b :: m, h, 0, x, hx => by
    simp only [List.getElem?_cons_zero, Option.some.injEq] at hx
    subst hx
    exact ⟨b, rfl, h.1⟩
  | a :: l, b :: m, h, i + 1, x, hx => by
    simp only [List.getElem?_cons_succ] at hx ⊢
    exact LkL.get h.2 hx
  | [], _ :: _, h, _, _, _ => h.elim
  | _ :: _, [], h, _, _, _ => h.elim
/-- What is lent, in memory. -/
structure LentS (w : World) (ms : List Int) (ks : List Ky) (am : Addr) (nm cm : Nat) (ak : Addr) (nk ck : Nat) (ks' : List Ky) : Prop where
  capm : nm + 3 ≤ cm
  ints : SlI w (some am) (nm + 3) (ms ++ [-7000, -7001, -7002])
  capk : nk + 3 ≤ ck
  lk : LkL ks ks'
  keys : Src w ak (kv (ks' ++ rooms))
  wins : ∀ y ∈ ks', ∃ a, y.A = some a ∧ SlW w y.A (y.n + 3) (y.ws ++ marksW)
theorem LentS.below {w w' : World} {ms : List Int} {ks : List Ky} {am : Addr} {nm cm : Nat} {ak : Addr} {nk ck : Nat} {ks' : List Ky} (h : LentS w ms ks am nm cm ak nk ck ks') (hb : Below w.heap.size w w') : LentS w' ms ks am nm cm ak nk ck ks' :=
  ⟨h.capm, h.ints.below hb, h.capk, h.lk, src_low h.keys hb, fun y hy => by
    obtain ⟨a, h1, h2⟩ := h.wins y hy
    exact ⟨a, h1, h2.below hb⟩⟩
theorem SlW.front {w : World} {A : Option Addr} {n m : Nat} {ws zs : List Wn} (h : SlW w A m (ws ++ zs)) (hl : ws.length = n) : SlW w A n ws :=
  ⟨hl, fun h0 => (List.append_eq_nil_iff.1 (h.2.1 h0)).1, fun a ha j u hj => h.2.2 a ha j u (by
    have := (List.getElem?_eq_some_iff.1 hj).1
    rw [wv_append, List.getElem?_append_left this]
    exact hj)⟩
theorem LentS.slK {w : World} {ms : List Int} {ks : List Ky} {am : Addr} {nm cm : Nat} {ak : Addr} {nk ck : Nat} {ks' : List Ky} (h : LentS w ms ks am nm cm ak nk ck ks') (hl : ks.length = nk) (hw : ∀ x ∈ ks, x.ws.length = x.n) : SlK w (some ak) nk ks' :=
  ⟨h.lk.len.trans hl, fun h => (by cases h), fun a ha j u hj => by
    cases ha
    exact h.keys j u (by
      have := (List.getElem?_eq_some_iff.1 hj).1
      rw [kv_append, List.getElem?_append_left this]
      exact hj), fun y hy => by
    obtain ⟨a, h1, h2⟩ := h.wins y hy
    exact h2.front (h.lk.wlen hw y hy)⟩

noncomputable def B66 : Code := (Tryd.f66.body).getD .skip
set_option maxHeartbeats 4000000 in
set_option maxRecDepth 100000 in
theorem keys_same (A B : Option Addr) (n c q : Nat) (ks ks' : List Ky) (hn : n ≤ 140737488355320) (hL : LkL ks ks') (hkw : ∀ x ∈ ks, x.n ≤ 140737488355320) (w : World) (hx : SlK w A n ks') (hy : SlK w B n ks) :
    Calls Tryd.prog 66 #[.slice A n c, .slice B n q] w fun e w' => e = .returned (.bool true) ∧ Below w.heap.size w w' := by
  have hnn : ((n : Int) != (n : Int)) = false := by simp
  refine enter (fn := Tryd.f66) (c := B66) [.sl A n c, .sl B n q] Tryd.func66 rfl rfl ?_
  refine At.to (noF_stable) (noF_fewer) 0 300 [0, 1, 10] 0 ⟨.code (sub B66 [1, 0, 1]), [.seq (sub B66 [1, 1])], [(0, .sl A n c), (1, .sl B n q), (10, .bo ((↑n : Int) != (↑n : Int)))], []⟩ (by kernel_rfl) (by kernel_rfl) ?_
  refine At.res 10 ((↑n : Int) != (↑n : Int)) false (by kernel_rfl) hnn ?_
  refine At.to (noF_stable) (noF_fewer) 0 300 [0, 1, 5] 0 ⟨.code (sub B66 [1, 1, 0, 1, 4]), [.block 0, .seq (sub B66 [1, 1, 1])], [(0, .sl A n c), (1, .sl B n q), (5, .v (.int .i64 0))], []⟩ (by kernel_rfl) (by kernel_rfl) ?_
  refine At.canon _ rfl ?_
  refine At.loop (σ := Nat) (sub B66 [1, 1, 0, 1, 4, 4]) (frWn A B n c q) locWn (GWn n) (muKy n) 0 (by kernel_rfl) (by unfold subFr; kernel_rfl) (by kernel_rfl) (fun _ _ _ _ h => ⟨h, Nat.zero_le _⟩) ?_
  intro i
  refine At.pure fun h1 => ?_
  have hl := hy.1
  refine At.to (noF_stable) (noF_fewer) 0 300 [0, 1, 5, 14] 0 ⟨.code (sub B66 [1, 1, 0, 1, 4, 4, 0, 1]), [.seq (sub B66 [1, 1, 0, 1, 4, 4, 1]), .next (Sx.Next w.heap.size w Tryd.f66.ntmps (frWn A B n c q) locWn (GWn n) (muKy n) i), .block 0, .seq (sub B66 [1, 1, 1])], [(0, .sl A n c), (1, .sl B n q), (5, .io .i64 (↑i : Int)), (14, .bo (decide ((↑i : Int) < (↑n : Int))))], []⟩ (by kernel_rfl) (by kernel_rfl) ?_
  rcases Bool.eq_false_or_eq_true (decide ((↑i : Int) < (↑n : Int))) with b0 | b0
  · refine At.res 14 (decide ((↑i : Int) < (↑n : Int))) true (by kernel_rfl) b0 ?_
    refine At.to (noF_stable) (noF_fewer) 0 300 [0, 1, 5, 17, 18] 0 ⟨pqops B66 [1, 1, 0, 1, 4, 4, 1, 0, 4, 0] 2, [.seq (sub B66 [1, 1, 0, 1, 4, 4, 1, 0, 4, 1]), .block 1, .seq (sub B66 [1, 1, 0, 1, 4, 4, 1, 1]), .next (Sx.Next w.heap.size w Tryd.f66.ntmps (frWn A B n c q) locWn (GWn n) (muKy n) i), .block 0, .seq (sub B66 [1, 1, 1])], [(0, .sl A n c), (1, .sl B n q), (5, .io .i64 (↑i : Int)), (17, .sl A n c), (18, .io .i64 (↑i : Int))], []⟩ (by kernel_rfl) (by kernel_rfl) ?_
    have hi : i < n := by have := of_decide_eq_true b0; omega
    clear b0

    obtain ⟨⟨key, dr, xA, xn, xc, ws⟩, hz⟩ : ∃ x, ks[i]? = some x := ⟨_, List.getElem?_eq_getElem (by omega)⟩
    obtain ⟨⟨key', dr', yA, yn, yc, ws'⟩, hz', e1, e2, e3, e4, e5⟩ := hL.get hz
    simp only at e1 e2 e3 e4 e5
    subst e1 e2 e3 e4
    have hmem := List.mem_of_getElem? hz
    have hmem' := List.mem_of_getElem? hz'
    have hyn : yn ≤ 140737488355320 := hkw ⟨key', dr', xA, yn, xc, ws'⟩ hmem
    have hyw : SlW w xA yn ws' := hy.2.2.2 ⟨key', dr', xA, yn, xc, ws'⟩ hmem

    obtain ⟨a, rfl⟩ : ∃ a, A = some a := by
      cases A with
      | none => have := hx.2.1 rfl; subst this; simp at hz'
      | some a => exact ⟨a, rfl⟩
    obtain ⟨b, rfl⟩ : ∃ b, B = some b := by
      cases B with
      | none => have := hy.2.1 rfl; subst this; simp at hz
      | some b => exact ⟨b, rfl⟩
    have hyw' : SlW w yA yn ws' := hx.2.2.2 ⟨key', dr', yA, yn, yc, ws'⟩ hmem'
    refine At.idx a n 3 (i : Int) (by kernel_rfl) (by omega) (by omega) noF_stable ?_
    refine At.lda (a.add ((i : Int).toNat * 3)) 3 (kL ⟨key', dr', yA, yn, yc, ws'⟩) (by kernel_rfl) rfl noF_stable (fun ρ w1 hm hf => by rw [Int.toNat_natCast]; exact (hx.below hm.below).cell hz') ?_
    refine At.to (noF_stable) (noF_fewer) 0 300 [0, 1, 5, 20, 21, 22] 0 ⟨pqops B66 [1, 1, 0, 1, 4, 4, 1, 0, 4, 0] 6, [.seq (sub B66 [1, 1, 0, 1, 4, 4, 1, 0, 4, 1]), .block 1, .seq (sub B66 [1, 1, 0, 1, 4, 4, 1, 1]), .next (Sx.Next w.heap.size w Tryd.f66.ntmps (frWn (some a) (some b) n c q) locWn (GWn n) (muKy n) i), .block 0, .seq (sub B66 [1, 1, 1])], [(0, .sl (some a) n c), (1, .sl (some b) n q), (5, .io .i64 (↑i : Int)), (20, .agg [.so key', .io .i64 dr', .sl yA yn yc]), (21, .sl (some b) n q), (22, .io .i64 (↑i : Int))], []⟩ (by kernel_rfl) (by kernel_rfl) ?_
    refine At.idx b n 3 (i : Int) (by kernel_rfl) (by omega) (by omega) noF_stable ?_
    refine At.lda (b.add ((i : Int).toNat * 3)) 3 (kL ⟨key', dr', xA, yn, xc, ws'⟩) (by kernel_rfl) rfl noF_stable (fun ρ w1 hm hf => by rw [Int.toNat_natCast]; exact (hy.below hm.below).cell hz) ?_
    refine At.to (noF_stable) (noF_fewer) 0 300 [0, 1, 5, 20, 24] 0 ⟨pqops B66 [1, 1, 0, 1, 4, 4, 1, 0, 4, 0] 8, [.seq (sub B66 [1, 1, 0, 1, 4, 4, 1, 0, 4, 1]), .block 1, .seq (sub B66 [1, 1, 0, 1, 4, 4, 1, 1]), .next (Sx.Next w.heap.size w Tryd.f66.ntmps (frWn (some a) (some b) n c q) locWn (GWn n) (muKy n) i), .block 0, .seq (sub B66 [1, 1, 1])], [(0, .sl (some a) n c), (1, .sl (some b) n q), (5, .io .i64 (↑i : Int)), (20, .agg [.so key', .io .i64 dr', .sl yA yn yc]), (24, .agg [.so key', .io .i64 dr', .sl xA yn xc])], []⟩ (by kernel_rfl) (by kernel_rfl) ?_
    refine At.call noF_stable 47 [.agg [.so key', .io .i64 dr', .sl yA yn yc], .agg [.so key', .io .i64 dr', .sl xA yn xc]] (.v (.bool true)) (by kernel_rfl) (by kernel_rfl) (by kernel_rfl) (fun _ _ w1 hi _ => kkey_same key' dr' yA xA yn yc xc ws' hyn w1 (hyw'.below hi.mem.below) (hyw.below hi.mem.below)) ?_
    refine At.to (noF_stable) (noF_fewer) 0 300 [0, 1, 5] 0 ⟨.exit .normal, [.next (Sx.Next w.heap.size w Tryd.f66.ntmps (frWn (some a) (some b) n c q) locWn (GWn n) (muKy n) i), .block 0, .seq (sub B66 [1, 1, 1])], [(0, .sl (some a) n c), (1, .sl (some b) n q), (5, .io .i64 (IntKind.i64.wrap ((↑i : Int) + 1)))], []⟩ (by kernel_rfl) (by kernel_rfl) ?_
    have hw3 : IntKind.i64.wrap ((i : Int) + 1) = ((i + 1 : Nat) : Int) := by
      rw [wrap63 (by omega) (by omega)]
      omega
    rw [hw3]
    refine At.next (σ := Nat) (i + 1) rfl rfl (by unfold subFr; kernel_rfl) (by kernel_rfl) ?_ ?_
    · intro ρ a' w' hi' hf
      exact ⟨hf, by omega⟩
    · unfold muKy
      omega
  · refine At.res 14 (decide ((↑i : Int) < (↑n : Int))) false (by kernel_rfl) b0 ?_
    refine At.to (noF_stable) (noF_fewer) 0 300 [4] 0 ⟨.exit .ret, [], [(4, .v (.bool true))], []⟩ (by kernel_rfl) (by kernel_rfl) ?_
    refine At.ret (by kernel_rfl) (.v (.bool true)) (by kernel_rfl) ?_
    intro ρ w9 hm _
    exact ⟨rfl, hm.below⟩

noncomputable def B51 : Code := (Tryd.f51.body).getD .skip
set_option maxHeartbeats 4000000 in
set_option maxRecDepth 100000 in
theorem kstate_same (g s k sz sl of gp lt ea : Int) (d : Bool) (am ak : Addr) (cm2 ck2 : Nat) (Bm : Option Addr) (nm cm : Nat) (ms : List Int) (Bk : Option Addr) (nk ck : Nat) (ks ks' : List Ky) (hmb : nm ≤ 140737488355320) (hkb : nk ≤ 140737488355320) (hkw : ∀ x ∈ ks, x.n ≤ 140737488355320) (w : World) (hm0 : SlI w Bm nm ms) (hy : SlK w Bk nk ks) (hS : LentS w ms ks am nm cm2 ak nk ck2 ks') :
    Calls Tryd.prog 51 #[.agg #[.int .i64 g, .int .i64 s, .int .i64 k, .int .i64 sz, .int .i64 sl, .int .i64 of, .int .i64 gp, .int .i64 lt, .int .i64 ea, .bool d, .slice (some am) nm cm2, .slice (some ak) nk ck2], .agg #[.int .i64 g, .int .i64 s, .int .i64 k, .int .i64 sz, .int .i64 sl, .int .i64 of, .int .i64 gp, .int .i64 lt, .int .i64 ea, .bool d, .slice Bm nm cm, .slice Bk nk ck]] w fun e w' => e = .returned (.bool true) ∧ Below w.heap.size w w' := by
  refine enter (fn := Tryd.f51) (c := B51) [.agg (stL g s k sz sl of gp lt ea d (some am) nm cm2 (some ak) nk ck2), .agg (stL g s k sz sl of gp lt ea d Bm nm cm Bk nk ck)] Tryd.func51 rfl rfl ?_
  refine At.to (noF_stable) (noF_fewer) 0 300 [2, 3, 10] 2 ⟨pops B51 [1, 0] 6, [.seq (sub B51 [1, 1])], [(2, .lp 0 0), (3, .lp 1 0), (10, .bo (g == g && (s == s && (k == k && (sz == sz && (sl == sl && (of == of && (gp == gp && (lt == lt && (ea == ea && (d == d && true)))))))))))], [((stL g s k sz sl of gp lt ea d (some am) nm cm2 (some ak) nk ck2), 58), ((stL g s k sz sl of gp lt ea d Bm nm cm Bk nk ck), 58)]⟩ (by kernel_rfl) (by kernel_rfl) ?_
  refine At.res 10 (g == g && (s == s && (k == k && (sz == sz && (sl == sl && (of == of && (gp == gp && (lt == lt && (ea == ea && (d == d && true)))))))))) true (by kernel_rfl) (by first | assumption | (simp only [*]; done) | (simp [*]; done)) ?_
  refine At.to (noF_stable) (noF_fewer) 0 300 [2, 3, 10, 12, 14] 2 ⟨pops B51 [1, 0] 10, [.seq (sub B51 [1, 1])], [(2, .lp 0 0), (3, .lp 1 0), (10, .v (.bool true)), (12, .sl (some am) nm cm2), (14, .sl Bm nm cm)], [((stL g s k sz sl of gp lt ea d (some am) nm cm2 (some ak) nk ck2), 58), ((stL g s k sz sl of gp lt ea d Bm nm cm Bk nk ck), 58)]⟩ (by kernel_rfl) (by kernel_rfl) ?_
  refine At.call noF_stable 65 [.sl (some am) nm cm2, .sl Bm nm cm] (.v (.bool true)) (by kernel_rfl) (by kernel_rfl) (by kernel_rfl) (fun _ _ w1 hi _ => ints_same (some am) Bm nm cm2 cm ms hmb w1 ((hS.ints.head hm0.1).below hi.mem.below) (hm0.below hi.mem.below)) ?_
  refine At.to (noF_stable) (noF_fewer) 0 300 [17, 19, 21] 0 ⟨pops B51 [1, 0] 17, [.seq (sub B51 [1, 1])], [(17, .v (.bool true)), (19, .sl (some ak) nk ck2), (21, .sl Bk nk ck)], []⟩ (by kernel_rfl) (by kernel_rfl) ?_
  refine At.call noF_stable 66 [.sl (some ak) nk ck2, .sl Bk nk ck] (.v (.bool true)) (by kernel_rfl) (by kernel_rfl) (by kernel_rfl) (fun _ _ w1 hi _ => keys_same (some ak) Bk nk ck2 ck ks ks' hkb hS.lk hkw w1 ((hS.slK hy.1 fun x hx => (hy.2.2.2 x hx).1).below hi.mem.below) (hy.below hi.mem.below)) ?_
  refine At.to (noF_stable) (noF_fewer) 0 300 [4] 0 ⟨.exit .ret, [], [(4, .v (.bool true))], []⟩ (by kernel_rfl) (by kernel_rfl) ?_
  refine At.ret (by kernel_rfl) (.v (.bool true)) (by kernel_rfl) ?_
  intro ρ w9 hm _
  exact ⟨rfl, hm.below⟩

end Go.Proofs.YtiehnigbcfkcdaaDoor
