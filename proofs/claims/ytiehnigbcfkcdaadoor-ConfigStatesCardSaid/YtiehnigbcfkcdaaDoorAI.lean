import Derived.Test.YtiehnigbcfkcdaaDoorAG
import Derived.Test.YtiehnigbcfkcdaaDoorAH
import Derived.Test.YtiehnigbcfkcdaaDoorAA
set_option linter.unusedSimpArgs false
set_option linter.unusedVariables false
namespace Go.Proofs.YtiehnigbcfkcdaaDoor
open Go.RowKit Go.Sx

theorem keyE_or (k : Int) (key : ByteArray) (dr : Int) (ws : List Wn) : keyE 0 k key dr ws = 0 ∨ keyE 0 k key dr ws = 6 := by
  unfold keyE
  rw [show (jobE 0 != 0) = false from rfl, cond_false]
  cases decide ((key.size : Int) > 256) <;> cases !(cntB dr) <;> cases keyGo k none ws <;> simp
def prK : Option Ky → Ky → Bool
  | none, _ => true
  | some l, x => Op.bytesLess l.key.toList x.key.toList
def stGo (k : Int) : Option Ky → List Ky → Bool
  | _, [] => true
  | p, x :: r => (keyE 0 k x.key x.dr x.ws == 0) && (!(((x.n : Int) == 0) && (x.dr == 0)) && (prK p x && stGo k (some x) r))
def stateE (W S k : Int) (nm : Nat) (ms : List Int) (ks : List Ky) : Int := bif jobE W != 0 then jobE W else bif ((nm : Int) != S) then 6 else bif !(ms.any timeB) then 6 else bif ms.any offT then 6 else bif stGo k none ks then 0 else 6
def prevAtK (ks : List Ky) (i : Nat) : Option Ky := if i = 0 then none else ks[i - 1]?
theorem prevk_pos {ks : List Ky} {i : Nat} {y : Ky} (hi : 0 < i) (hy : ks[i - 1]? = some y) : prevAtK ks i = some y := by
  unfold prevAtK
  rw [if_neg (by omega), hy]
theorem jobE_ne (n : Int) : (jobE n != 0) = (n != 0) := by
  unfold jobE
  by_cases h : n = 0
  · simp [h]
  · simp [h]
def frSt (A : Option Addr) (n c : Nat) (i : Nat) : Fr := [(1, .lp 0 0), (32, .sl A n c), (33, .io .i64 n), (34, .io .i64 (i : Int))]
def locSt (g s k sz sl of gp lt ea : Int) (d : Bool) (Bm : Option Addr) (nm cm : Nat) (Bk : Option Addr) (nk ck : Nat) (_ : Nat) : Go.Sx.Loc := [(stL g s k sz sl of gp lt ea d Bm nm cm Bk nk ck, 58)]
def GSt (k : Int) (n : Nat) (ks : List Ky) (R : Bool) (i : Nat) (ρ : List Nat) (w : World) : Prop := noF ρ w ∧ (i ≤ n ∧ stGo k (prevAtK ks i) (ks.drop i) = R)

noncomputable def B25 : Code := (Tryd.f25.body).getD .skip
set_option maxHeartbeats 4000000 in
set_option maxRecDepth 100000 in
theorem state_any (g s k sz sl of gp lt ea : Int) (d : Bool) (Bm : Option Addr) (nm cm : Nat) (ms : List Int) (Bk : Option Addr) (nk ck : Nat) (ks : List Ky) (hmb : nm ≤ 140737488355320) (hkb : nk ≤ 140737488355320) (w : World) (hm0 : SlI w Bm nm ms) (hk0 : SlK w Bk nk ks) (hkw : ∀ x ∈ ks, x.n ≤ 140737488355320) :
    Calls Tryd.prog 25 #[.agg #[.int .i64 g, .int .i64 s, .int .i64 k, .int .i64 sz, .int .i64 sl, .int .i64 of, .int .i64 gp, .int .i64 lt, .int .i64 ea, .bool d, .slice Bm nm cm, .slice Bk nk ck]] w fun e w' => e = .returned (.int .i64 (stateE (wrongF g s k sz sl of gp lt ea) s k nm ms ks)) ∧ Below w.heap.size w w' := by
  have hl := hm0.1
  refine enter (fn := Tryd.f25) (c := B25) [.agg (stL g s k sz sl of gp lt ea d Bm nm cm Bk nk ck)] Tryd.func25 rfl rfl ?_
  refine At.to (noF_stable) (noF_fewer) 0 200 [1, 8] 1 ⟨pops B25 [1, 0, 0] 2, [.seq (sub B25 [1, 0, 1]), .seq (sub B25 [1, 1])], [(1, .lp 0 0), (8, .agg (cfgL g s k sz sl of gp lt ea d))], [((stL g s k sz sl of gp lt ea d Bm nm cm Bk nk ck), 58)]⟩ (by kernel_rfl) (by kernel_rfl) ?_
  refine At.call (noF_stable) 12 [.agg (cfgL g s k sz sl of gp lt ea d)] (.io .i64 (jobE (wrongF g s k sz sl of gp lt ea))) (by kernel_rfl) (by kernel_rfl) (by kernel_rfl) (fun _ _ w _ _ => check_any (g) (s) (k) (sz) (sl) (of) (gp) (lt) (ea) (d) w) ?_
  refine At.to (noF_stable) (noF_fewer) 0 200 [1, 3, 11] 1 ⟨.code (sub B25 [1, 0, 1, 1]), [.seq (sub B25 [1, 1])], [(1, .lp 0 0), (3, .io .i64 (jobE (wrongF g s k sz sl of gp lt ea))), (11, .bo (jobE (wrongF g s k sz sl of gp lt ea) != 0))], [((stL g s k sz sl of gp lt ea d Bm nm cm Bk nk ck), 58)]⟩ (by kernel_rfl) (by kernel_rfl) ?_
  rcases Bool.eq_false_or_eq_true (jobE (wrongF g s k sz sl of gp lt ea) != 0) with b0 | b0
  · refine At.res 11 (jobE (wrongF g s k sz sl of gp lt ea) != 0) true (by kernel_rfl) b0 ?_
    refine At.to (noF_stable) (noF_fewer) 0 200 [2] 0 ⟨.exit .ret, [], [(2, .io .i64 (jobE (wrongF g s k sz sl of gp lt ea)))], []⟩ (by kernel_rfl) (by kernel_rfl) ?_
    refine At.ret (by kernel_rfl) (.io .i64 (jobE (wrongF g s k sz sl of gp lt ea))) (by kernel_rfl) ?_
    intro ρ w9 hm _
    exact ⟨by simp only [stateE, b0, cond_true] <;> rfl, hm.below⟩
  · refine At.res 11 (jobE (wrongF g s k sz sl of gp lt ea) != 0) false (by kernel_rfl) b0 ?_
    refine At.to (noF_stable) (noF_fewer) 0 200 [1, 20] 1 ⟨pops B25 [1, 1, 0, 0] 8, [.seq (sub B25 [1, 1, 0, 1]), .seq (sub B25 [1, 1, 1])], [(1, .lp 0 0), (20, .bo ((↑nm : Int) != s))], [((stL g s k sz sl of gp lt ea d Bm nm cm Bk nk ck), 58)]⟩ (by kernel_rfl) (by kernel_rfl) ?_
    rcases Bool.eq_false_or_eq_true ((↑nm : Int) != s) with b1 | b1
    · refine At.res 20 ((↑nm : Int) != s) true (by kernel_rfl) b1 ?_
      refine At.to (noF_stable) (noF_fewer) 0 200 [2] 0 ⟨.exit .ret, [], [(2, .v (.int .i64 6))], []⟩ (by kernel_rfl) (by kernel_rfl) ?_
      refine At.ret (by kernel_rfl) (.v (.int .i64 6)) (by kernel_rfl) ?_
      intro ρ w9 hm _
      exact ⟨by simp only [stateE, b0, b1, cond_true, cond_false] <;> rfl, hm.below⟩
    · refine At.res 20 ((↑nm : Int) != s) false (by kernel_rfl) b1 ?_
      refine At.to (noF_stable) (noF_fewer) 0 200 [1, 20, 22] 1 ⟨pops B25 [1, 1, 0, 0] 10, [.seq (sub B25 [1, 1, 0, 1]), .seq (sub B25 [1, 1, 1])], [(1, .lp 0 0), (20, .v (.bool false)), (22, .sl Bm nm cm)], [((stL g s k sz sl of gp lt ea d Bm nm cm Bk nk ck), 58)]⟩ (by kernel_rfl) (by kernel_rfl) ?_
      cases hT : ms.any timeB with
      | false =>
        refine At.call noF_stable 49 [.sl Bm nm cm, .fn (Fn.func 41) []] (.v (.bool false)) (by kernel_rfl) (by kernel_rfl) (by kernel_rfl) (fun ρ _ w1 hi _ => ?_) ?_
        · have hk := contains_time Bm nm cm ms hmb w1 (hm0.below hi.mem.below)
          rw [hT] at hk
          exact hk
        refine At.to (noF_stable) (noF_fewer) 0 200 [2] 0 ⟨.exit .ret, [], [(2, .v (.int .i64 6))], []⟩ (by kernel_rfl) (by kernel_rfl) ?_
        refine At.ret (by kernel_rfl) (.v (.int .i64 6)) (by kernel_rfl) ?_
        intro ρ w9 hm _
        exact ⟨by simp only [stateE, hl, b0, b1, hT, Bool.not_false, Bool.not_true, cond_true, cond_false] <;> rfl, hm.below⟩
      | true =>
        refine At.call noF_stable 49 [.sl Bm nm cm, .fn (Fn.func 41) []] (.v (.bool true)) (by kernel_rfl) (by kernel_rfl) (by kernel_rfl) (fun ρ _ w1 hi _ => ?_) ?_
        · have hk := contains_time Bm nm cm ms hmb w1 (hm0.below hi.mem.below)
          rw [hT] at hk
          exact hk
        refine At.to (noF_stable) (noF_fewer) 0 200 [1, 26, 28] 1 ⟨pops B25 [1, 1, 0, 0] 16, [.seq (sub B25 [1, 1, 0, 1]), .seq (sub B25 [1, 1, 1])], [(1, .lp 0 0), (26, .v (.bool false)), (28, .sl Bm nm cm)], [((stL g s k sz sl of gp lt ea d Bm nm cm Bk nk ck), 58)]⟩ (by kernel_rfl) (by kernel_rfl) ?_
        cases hO : ms.any offT with
        | true =>
          refine At.call noF_stable 49 [.sl Bm nm cm, .fn (Fn.func 50) []] (.v (.bool true)) (by kernel_rfl) (by kernel_rfl) (by kernel_rfl) (fun ρ _ w1 hi _ => ?_) ?_
          · have hk := contains_off Bm nm cm ms hmb w1 (hm0.below hi.mem.below)
            rw [hO] at hk
            exact hk
          refine At.to (noF_stable) (noF_fewer) 0 200 [2] 0 ⟨.exit .ret, [], [(2, .v (.int .i64 6))], []⟩ (by kernel_rfl) (by kernel_rfl) ?_
          refine At.ret (by kernel_rfl) (.v (.int .i64 6)) (by kernel_rfl) ?_
          intro ρ w9 hm _
          exact ⟨by simp only [stateE, hl, b0, b1, hT, hO, Bool.not_false, Bool.not_true, cond_true, cond_false] <;> rfl, hm.below⟩
        | false =>
          refine At.call noF_stable 49 [.sl Bm nm cm, .fn (Fn.func 50) []] (.v (.bool false)) (by kernel_rfl) (by kernel_rfl) (by kernel_rfl) (fun ρ _ w1 hi _ => ?_) ?_
          · have hk := contains_off Bm nm cm ms hmb w1 (hm0.below hi.mem.below)
            rw [hO] at hk
            exact hk
          refine At.to (noF_stable) (noF_fewer) 0 200 [1, 32, 33, 34] 1 ⟨.code (sub B25 [1, 1, 1, 0, 1, 4]), [.block 0, .seq (sub B25 [1, 1, 1, 1])], [(1, .lp 0 0), (32, .sl Bk nk ck), (33, .io .i64 (↑nk : Int)), (34, .v (.int .i64 0))], [((stL g s k sz sl of gp lt ea d Bm nm cm Bk nk ck), 58)]⟩ (by kernel_rfl) (by kernel_rfl) ?_
          have hW0 : wrongF g s k sz sl of gp lt ea = 0 := by
            have h := jobE_ne (wrongF g s k sz sl of gp lt ea)
            rw [h] at b0
            simpa using b0
          have hE : stateE (wrongF g s k sz sl of gp lt ea) s k nm ms ks = (bif stGo k none ks then 0 else 6) := by simp only [stateE, b0, b1, hT, hO, Bool.not_false, Bool.not_true, cond_true, cond_false]
          rw [hE]
          clear hE b0 b1
          generalize hR : stGo k none ks = R
          refine At.canon _ rfl ?_
          refine At.loop (σ := Nat) (sub B25 [1, 1, 1, 0, 1, 4, 4]) (frSt Bk nk ck) (locSt g s k sz sl of gp lt ea d Bm nm cm Bk nk ck) (GSt k nk ks R) (muKy nk) 0 (by kernel_rfl) (by unfold subFr; kernel_rfl) (by kernel_rfl) (fun _ _ _ _ h => ⟨h, Nat.zero_le _, hR⟩) ?_
          clear hR
          intro i
          refine At.pure fun ⟨h1, h2⟩ => ?_
          have hlk := hk0.1
          refine At.to (noF_stable) (noF_fewer) 0 200 [1, 32, 33, 34, 35] 1 ⟨.code (sub B25 [1, 1, 1, 0, 1, 4, 4, 1, 0]), [.seq (sub B25 [1, 1, 1, 0, 1, 4, 4, 1, 1]), .next (Sx.Next w.heap.size w Tryd.f25.ntmps (frSt Bk nk ck) (locSt g s k sz sl of gp lt ea d Bm nm cm Bk nk ck) (GSt k nk ks R) (muKy nk) i), .block 0, .seq (sub B25 [1, 1, 1, 1])], [(1, .lp 0 0), (32, .sl Bk nk ck), (33, .io .i64 (↑nk : Int)), (34, .io .i64 (↑i : Int)), (35, .bo (decide ((↑i : Int) < (↑nk : Int))))], [((stL g s k sz sl of gp lt ea d Bm nm cm Bk nk ck), 58)]⟩ (by kernel_rfl) (by kernel_rfl) ?_
          rcases Bool.eq_false_or_eq_true (decide ((↑i : Int) < (↑nk : Int))) with b0 | b0
          · refine At.res 35 (decide ((↑i : Int) < (↑nk : Int))) true (by kernel_rfl) b0 ?_
            refine At.to (noF_stable) (noF_fewer) 0 200 [1, 32, 33, 34, 36] 1 ⟨pops B25 [1, 1, 1, 0, 1, 4, 4, 1, 1, 0, 4, 0] 1, [.seq (sub B25 [1, 1, 1, 0, 1, 4, 4, 1, 1, 0, 4, 1]), .block 1, .seq (sub B25 [1, 1, 1, 0, 1, 4, 4, 1, 1, 1]), .next (Sx.Next w.heap.size w Tryd.f25.ntmps (frSt Bk nk ck) (locSt g s k sz sl of gp lt ea d Bm nm cm Bk nk ck) (GSt k nk ks R) (muKy nk) i), .block 0, .seq (sub B25 [1, 1, 1, 1])], [(1, .lp 0 0), (32, .sl Bk nk ck), (33, .io .i64 (↑nk : Int)), (34, .io .i64 (↑i : Int)), (36, .io .i64 (↑i : Int))], [((stL g s k sz sl of gp lt ea d Bm nm cm Bk nk ck), 58)]⟩ (by kernel_rfl) (by kernel_rfl) ?_
            have hi : i < nk := by have := of_decide_eq_true b0; omega
            clear b0
            obtain ⟨b, rfl⟩ : ∃ b, Bk = some b := by
              cases Bk with
              | none => have := hk0.2.1 rfl; subst this; simp at hlk; omega
              | some b => exact ⟨b, rfl⟩
            obtain ⟨⟨key, dr, yA, yn, yc, ws⟩, hx⟩ : ∃ x, ks[i]? = some x := ⟨_, List.getElem?_eq_getElem (by omega)⟩
            rw [drop_w hx] at h2
            have hmem := List.mem_of_getElem? hx
            have hyn : yn ≤ 140737488355320 := hkw ⟨key, dr, yA, yn, yc, ws⟩ hmem
            have hyw : SlW w yA yn ws := hk0.2.2.2 ⟨key, dr, yA, yn, yc, ws⟩ hmem
            refine At.idx b nk 3 (i : Int) (by kernel_rfl) (by omega) (by omega) noF_stable ?_
            refine At.lda (b.add ((i : Int).toNat * 3)) 3 (kL ⟨key, dr, yA, yn, yc, ws⟩) (by kernel_rfl) rfl noF_stable (fun ρ w1 hm hf => by rw [Int.toNat_natCast]; exact (hk0.below hm.below).cell hx) ?_
            refine At.to (noF_stable) (noF_fewer) 0 200 [1, 4, 5, 32, 33, 34, 40, 41] 2 ⟨pops B25 [1, 1, 1, 0, 1, 4, 4, 1, 1, 0, 4, 1, 0, 0] 3, [.seq (sub B25 [1, 1, 1, 0, 1, 4, 4, 1, 1, 0, 4, 1, 0, 1]), .seq (sub B25 [1, 1, 1, 0, 1, 4, 4, 1, 1, 0, 4, 1, 1]), .block 1, .seq (sub B25 [1, 1, 1, 0, 1, 4, 4, 1, 1, 1]), .next (Sx.Next w.heap.size w Tryd.f25.ntmps (frSt (some b) nk ck) (locSt g s k sz sl of gp lt ea d Bm nm cm (some b) nk ck) (GSt k nk ks R) (muKy nk) i), .block 0, .seq (sub B25 [1, 1, 1, 1])], [(1, .lp 0 0), (4, .io .i64 (↑i : Int)), (5, .lp 1 0), (32, .sl (some b) nk ck), (33, .io .i64 (↑nk : Int)), (34, .io .i64 (↑i : Int)), (40, .agg (cfgL g s k sz sl of gp lt ea d)), (41, .agg [.so key, .io .i64 dr, .sl yA yn yc])], [([.io .i64 g, .io .i64 s, .io .i64 k, .io .i64 sz, .io .i64 sl, .io .i64 of, .io .i64 gp, .io .i64 lt, .io .i64 ea, .bo d, .sl Bm nm cm, .sl (some b) nk ck], 58), ([.so key, .io .i64 dr, .sl yA yn yc], 50)]⟩ (by kernel_rfl) (by kernel_rfl) ?_
            rcases keyE_or k key dr ws with he | he
            · refine At.call noF_stable 21 [.agg (cfgL g s k sz sl of gp lt ea d), .agg [.so key, .io .i64 dr, .sl yA yn yc]] (.v (.int .i64 0)) (by kernel_rfl) (by kernel_rfl) (by kernel_rfl) (fun ρ _ w1 hi _ => ?_) ?_
              · have hk := key_any g s k sz sl of gp lt ea d key dr yA yn yc ws hyn w1 (hyw.below hi.mem.below)
                rw [hW0, he] at hk
                exact hk
              refine At.to (noF_stable) (noF_fewer) 0 200 [1, 4, 5, 32, 33, 34, 50] 2 ⟨pqops B25 [1, 1, 1, 0, 1, 4, 4, 1, 1, 0, 4, 1, 1, 0] 5, [.seq (sub B25 [1, 1, 1, 0, 1, 4, 4, 1, 1, 0, 4, 1, 1, 1]), .block 1, .seq (sub B25 [1, 1, 1, 0, 1, 4, 4, 1, 1, 1]), .next (Sx.Next w.heap.size w Tryd.f25.ntmps (frSt (some b) nk ck) (locSt g s k sz sl of gp lt ea d Bm nm cm (some b) nk ck) (GSt k nk ks R) (muKy nk) i), .block 0, .seq (sub B25 [1, 1, 1, 1])], [(1, .lp 0 0), (4, .io .i64 (↑i : Int)), (5, .lp 1 0), (32, .sl (some b) nk ck), (33, .io .i64 (↑nk : Int)), (34, .io .i64 (↑i : Int)), (50, .bo ((↑yn : Int) == 0))], [([.io .i64 g, .io .i64 s, .io .i64 k, .io .i64 sz, .io .i64 sl, .io .i64 of, .io .i64 gp, .io .i64 lt, .io .i64 ea, .bo d, .sl Bm nm cm, .sl (some b) nk ck], 58), ([.so key, .io .i64 dr, .sl yA yn yc], 50)]⟩ (by kernel_rfl) (by kernel_rfl) ?_
              rcases Bool.eq_false_or_eq_true ((↑yn : Int) == 0) with b0 | b0
              · refine At.res 50 ((↑yn : Int) == 0) true (by kernel_rfl) b0 ?_
                refine At.to (noF_stable) (noF_fewer) 0 200 [1, 4, 5, 32, 33, 34, 55] 2 ⟨pqops B25 [1, 1, 1, 0, 1, 4, 4, 1, 1, 0, 4, 1, 1, 0] 10, [.seq (sub B25 [1, 1, 1, 0, 1, 4, 4, 1, 1, 0, 4, 1, 1, 1]), .block 1, .seq (sub B25 [1, 1, 1, 0, 1, 4, 4, 1, 1, 1]), .next (Sx.Next w.heap.size w Tryd.f25.ntmps (frSt (some b) nk ck) (locSt g s k sz sl of gp lt ea d Bm nm cm (some b) nk ck) (GSt k nk ks R) (muKy nk) i), .block 0, .seq (sub B25 [1, 1, 1, 1])], [(1, .lp 0 0), (4, .io .i64 (↑i : Int)), (5, .lp 1 0), (32, .sl (some b) nk ck), (33, .io .i64 (↑nk : Int)), (34, .io .i64 (↑i : Int)), (55, .bo (dr == 0))], [([.io .i64 g, .io .i64 s, .io .i64 k, .io .i64 sz, .io .i64 sl, .io .i64 of, .io .i64 gp, .io .i64 lt, .io .i64 ea, .bo d, .sl Bm nm cm, .sl (some b) nk ck], 58), ([.so key, .io .i64 dr, .sl yA yn yc], 50)]⟩ (by kernel_rfl) (by kernel_rfl) ?_
                rcases Bool.eq_false_or_eq_true (dr == 0) with b1 | b1
                · refine At.res 55 (dr == 0) true (by kernel_rfl) b1 ?_
                  refine At.to (noF_stable) (noF_fewer) 0 200 [2] 0 ⟨.exit .ret, [], [(2, .v (.int .i64 6))], []⟩ (by kernel_rfl) (by kernel_rfl) ?_
                  refine At.ret (by kernel_rfl) (.v (.int .i64 6)) (by kernel_rfl) ?_
                  try simp only [Bool.not_eq_true', Bool.not_eq_false'] at *
                  simp only [stGo, prK, *, BEq.rfl, Bool.not_true, Bool.not_false, Bool.true_and, Bool.and_true, Bool.false_and, Bool.and_false] at h2
                  intro ρ w9 hm _
                  exact ⟨by rw [← h2]; rfl, hm.below⟩
                · refine At.res 55 (dr == 0) false (by kernel_rfl) b1 ?_
                  refine At.to (noF_stable) (noF_fewer) 0 200 [1, 4, 5, 32, 33, 34, 55, 58] 2 ⟨pqops B25 [1, 1, 1, 0, 1, 4, 4, 1, 1, 0, 4, 1, 1, 0] 13, [.seq (sub B25 [1, 1, 1, 0, 1, 4, 4, 1, 1, 0, 4, 1, 1, 1]), .block 1, .seq (sub B25 [1, 1, 1, 0, 1, 4, 4, 1, 1, 1]), .next (Sx.Next w.heap.size w Tryd.f25.ntmps (frSt (some b) nk ck) (locSt g s k sz sl of gp lt ea d Bm nm cm (some b) nk ck) (GSt k nk ks R) (muKy nk) i), .block 0, .seq (sub B25 [1, 1, 1, 1])], [(1, .lp 0 0), (4, .io .i64 (↑i : Int)), (5, .lp 1 0), (32, .sl (some b) nk ck), (33, .io .i64 (↑nk : Int)), (34, .io .i64 (↑i : Int)), (55, .v (.bool false)), (58, .bo (decide ((↑i : Int) > 0)))], [([.io .i64 g, .io .i64 s, .io .i64 k, .io .i64 sz, .io .i64 sl, .io .i64 of, .io .i64 gp, .io .i64 lt, .io .i64 ea, .bo d, .sl Bm nm cm, .sl (some b) nk ck], 58), ([.so key, .io .i64 dr, .sl yA yn yc], 50)]⟩ (by kernel_rfl) (by kernel_rfl) ?_
                  rcases Bool.eq_false_or_eq_true (decide ((↑i : Int) > 0)) with b2 | b2
                  · refine At.res 58 (decide ((↑i : Int) > 0)) true (by kernel_rfl) b2 ?_
                    refine At.to (noF_stable) (noF_fewer) 0 200 [1, 5, 32, 33, 34, 55, 58, 60, 62] 2 ⟨pqops B25 [1, 1, 1, 0, 1, 4, 4, 1, 1, 0, 4, 1, 1, 0] 17, [.seq (sub B25 [1, 1, 1, 0, 1, 4, 4, 1, 1, 0, 4, 1, 1, 1]), .block 1, .seq (sub B25 [1, 1, 1, 0, 1, 4, 4, 1, 1, 1]), .next (Sx.Next w.heap.size w Tryd.f25.ntmps (frSt (some b) nk ck) (locSt g s k sz sl of gp lt ea d Bm nm cm (some b) nk ck) (GSt k nk ks R) (muKy nk) i), .block 0, .seq (sub B25 [1, 1, 1, 1])], [(1, .lp 0 0), (5, .lp 1 0), (32, .sl (some b) nk ck), (33, .io .i64 (↑nk : Int)), (34, .io .i64 (↑i : Int)), (55, .v (.bool false)), (58, .v (.bool true)), (60, .sl (some b) nk ck), (62, .io .i64 (IntKind.i64.wrap ((↑i : Int) - 1)))], [([.io .i64 g, .io .i64 s, .io .i64 k, .io .i64 sz, .io .i64 sl, .io .i64 of, .io .i64 gp, .io .i64 lt, .io .i64 ea, .bo d, .sl Bm nm cm, .sl (some b) nk ck], 58), ([.so key, .io .i64 dr, .sl yA yn yc], 50)]⟩ (by kernel_rfl) (by kernel_rfl) ?_
                    have hi0 : 0 < i := by
                      have h := of_decide_eq_true ‹decide ((i : Int) > 0) = true›
                      omega
                    have hw1 : IntKind.i64.wrap ((i : Int) - 1) = ((i - 1 : Nat) : Int) := by
                      rw [wrap63 (by omega) (by omega)]
                      omega
                    rw [hw1]
                    obtain ⟨⟨key1, dr1, yA1, yn1, yc1, ws1⟩, hy⟩ : ∃ y, ks[i - 1]? = some y := ⟨_, List.getElem?_eq_getElem (by omega)⟩
                    rw [prevk_pos hi0 hy] at h2
                    refine At.idx b nk 3 ((i - 1 : Nat) : Int) (by kernel_rfl) (by omega) (by omega) noF_stable ?_
                    refine At.fax (b.add (((i - 1 : Nat) : Int).toNat * 3)) 0 (by kernel_rfl) noF_stable ?_
                    refine At.ldx ((b.add (((i - 1 : Nat) : Int).toNat * 3)).add 0) (.so key1) (by kernel_rfl) noF_stable (fun ρ w1 hm hf => by rw [Int.toNat_natCast]; exact (hk0.below hm.below).cell hy 0 _ rfl) ?_
                    refine At.to (noF_stable) (noF_fewer) 0 200 [1, 32, 33, 34, 70] 1 ⟨.code (sub B25 [1, 1, 1, 0, 1, 4, 4, 1, 1, 0, 4, 1, 1, 1]), [.block 1, .seq (sub B25 [1, 1, 1, 0, 1, 4, 4, 1, 1, 1]), .next (Sx.Next w.heap.size w Tryd.f25.ntmps (frSt (some b) nk ck) (locSt g s k sz sl of gp lt ea d Bm nm cm (some b) nk ck) (GSt k nk ks R) (muKy nk) i), .block 0, .seq (sub B25 [1, 1, 1, 1])], [(1, .lp 0 0), (32, .sl (some b) nk ck), (33, .io .i64 (↑nk : Int)), (34, .io .i64 (↑i : Int)), (70, .bo !Op.bytesLess key1.toList key.toList)], [([.io .i64 g, .io .i64 s, .io .i64 k, .io .i64 sz, .io .i64 sl, .io .i64 of, .io .i64 gp, .io .i64 lt, .io .i64 ea, .bo d, .sl Bm nm cm, .sl (some b) nk ck], 58)]⟩ (by kernel_rfl) (by kernel_rfl) ?_
                    rcases Bool.eq_false_or_eq_true (!Op.bytesLess key1.toList key.toList) with b0 | b0
                    · refine At.res 70 (!Op.bytesLess key1.toList key.toList) true (by kernel_rfl) b0 ?_
                      refine At.to (noF_stable) (noF_fewer) 0 200 [2] 0 ⟨.exit .ret, [], [(2, .v (.int .i64 6))], []⟩ (by kernel_rfl) (by kernel_rfl) ?_
                      refine At.ret (by kernel_rfl) (.v (.int .i64 6)) (by kernel_rfl) ?_
                      try simp only [Bool.not_eq_true', Bool.not_eq_false'] at *
                      simp only [stGo, prK, *, BEq.rfl, Bool.not_true, Bool.not_false, Bool.true_and, Bool.and_true, Bool.false_and, Bool.and_false] at h2
                      intro ρ w9 hm _
                      exact ⟨by rw [← h2]; rfl, hm.below⟩
                    · refine At.res 70 (!Op.bytesLess key1.toList key.toList) false (by kernel_rfl) b0 ?_
                      refine At.to (noF_stable) (noF_fewer) 0 200 [1, 32, 33, 34] 1 ⟨.exit .normal, [.next (Sx.Next w.heap.size w Tryd.f25.ntmps (frSt (some b) nk ck) (locSt g s k sz sl of gp lt ea d Bm nm cm (some b) nk ck) (GSt k nk ks R) (muKy nk) i), .block 0, .seq (sub B25 [1, 1, 1, 1])], [(1, .lp 0 0), (32, .sl (some b) nk ck), (33, .io .i64 (↑nk : Int)), (34, .io .i64 (IntKind.i64.wrap ((↑i : Int) + 1)))], [([.io .i64 g, .io .i64 s, .io .i64 k, .io .i64 sz, .io .i64 sl, .io .i64 of, .io .i64 gp, .io .i64 lt, .io .i64 ea, .bo d, .sl Bm nm cm, .sl (some b) nk ck], 58)]⟩ (by kernel_rfl) (by kernel_rfl) ?_
                      try simp only [Bool.not_eq_true', Bool.not_eq_false'] at *
                      simp only [stGo, prK, *, BEq.rfl, Bool.not_true, Bool.not_false, Bool.true_and, Bool.and_true, Bool.false_and, Bool.and_false] at h2
                      have hw2 : IntKind.i64.wrap ((i : Int) + 1) = ((i + 1 : Nat) : Int) := by
                        rw [wrap63 (by omega) (by omega)]
                        omega
                      rw [hw2]
                      refine At.next (σ := Nat) (i + 1) rfl rfl (by unfold subFr; kernel_rfl) (by kernel_rfl) ?_ ?_
                      · intro ρ a w' hi' hf
                        exact ⟨hf, by omega, by rw [prevk_pos (Nat.succ_pos i) hx]; exact h2⟩
                      · unfold muKy
                        omega
                  · refine At.res 58 (decide ((↑i : Int) > 0)) false (by kernel_rfl) b2 ?_
                    refine At.to (noF_stable) (noF_fewer) 0 200 [1, 32, 33, 34] 1 ⟨.exit .normal, [.next (Sx.Next w.heap.size w Tryd.f25.ntmps (frSt (some b) nk ck) (locSt g s k sz sl of gp lt ea d Bm nm cm (some b) nk ck) (GSt k nk ks R) (muKy nk) i), .block 0, .seq (sub B25 [1, 1, 1, 1])], [(1, .lp 0 0), (32, .sl (some b) nk ck), (33, .io .i64 (↑nk : Int)), (34, .io .i64 (IntKind.i64.wrap ((↑i : Int) + 1)))], [([.io .i64 g, .io .i64 s, .io .i64 k, .io .i64 sz, .io .i64 sl, .io .i64 of, .io .i64 gp, .io .i64 lt, .io .i64 ea, .bo d, .sl Bm nm cm, .sl (some b) nk ck], 58)]⟩ (by kernel_rfl) (by kernel_rfl) ?_
                    have hi0 : i = 0 := by
                      have h := of_decide_eq_false ‹decide ((i : Int) > 0) = false›
                      omega
                    have hp : prevAtK ks i = none := by rw [hi0]; rfl
                    rw [hp] at h2
                    clear hp hi0

                    try simp only [Bool.not_eq_true', Bool.not_eq_false'] at *
                    simp only [stGo, prK, *, BEq.rfl, Bool.not_true, Bool.not_false, Bool.true_and, Bool.and_true, Bool.false_and, Bool.and_false] at h2
                    have hw2 : IntKind.i64.wrap ((i : Int) + 1) = ((i + 1 : Nat) : Int) := by
                      rw [wrap63 (by omega) (by omega)]
                      omega
                    rw [hw2]
                    refine At.next (σ := Nat) (i + 1) rfl rfl (by unfold subFr; kernel_rfl) (by kernel_rfl) ?_ ?_
                    · intro ρ a w' hi' hf
                      exact ⟨hf, by omega, by rw [prevk_pos (Nat.succ_pos i) hx]; exact h2⟩
                    · unfold muKy
                      omega
              · refine At.res 50 ((↑yn : Int) == 0) false (by kernel_rfl) b0 ?_
                refine At.to (noF_stable) (noF_fewer) 0 200 [1, 4, 5, 32, 33, 34, 55, 58] 2 ⟨pqops B25 [1, 1, 1, 0, 1, 4, 4, 1, 1, 0, 4, 1, 1, 0] 13, [.seq (sub B25 [1, 1, 1, 0, 1, 4, 4, 1, 1, 0, 4, 1, 1, 1]), .block 1, .seq (sub B25 [1, 1, 1, 0, 1, 4, 4, 1, 1, 1]), .next (Sx.Next w.heap.size w Tryd.f25.ntmps (frSt (some b) nk ck) (locSt g s k sz sl of gp lt ea d Bm nm cm (some b) nk ck) (GSt k nk ks R) (muKy nk) i), .block 0, .seq (sub B25 [1, 1, 1, 1])], [(1, .lp 0 0), (4, .io .i64 (↑i : Int)), (5, .lp 1 0), (32, .sl (some b) nk ck), (33, .io .i64 (↑nk : Int)), (34, .io .i64 (↑i : Int)), (55, .v (.bool false)), (58, .bo (decide ((↑i : Int) > 0)))], [([.io .i64 g, .io .i64 s, .io .i64 k, .io .i64 sz, .io .i64 sl, .io .i64 of, .io .i64 gp, .io .i64 lt, .io .i64 ea, .bo d, .sl Bm nm cm, .sl (some b) nk ck], 58), ([.so key, .io .i64 dr, .sl yA yn yc], 50)]⟩ (by kernel_rfl) (by kernel_rfl) ?_
                rcases Bool.eq_false_or_eq_true (decide ((↑i : Int) > 0)) with b3 | b3
                · refine At.res 58 (decide ((↑i : Int) > 0)) true (by kernel_rfl) b3 ?_
                  refine At.to (noF_stable) (noF_fewer) 0 200 [1, 5, 32, 33, 34, 55, 58, 60, 62] 2 ⟨pqops B25 [1, 1, 1, 0, 1, 4, 4, 1, 1, 0, 4, 1, 1, 0] 17, [.seq (sub B25 [1, 1, 1, 0, 1, 4, 4, 1, 1, 0, 4, 1, 1, 1]), .block 1, .seq (sub B25 [1, 1, 1, 0, 1, 4, 4, 1, 1, 1]), .next (Sx.Next w.heap.size w Tryd.f25.ntmps (frSt (some b) nk ck) (locSt g s k sz sl of gp lt ea d Bm nm cm (some b) nk ck) (GSt k nk ks R) (muKy nk) i), .block 0, .seq (sub B25 [1, 1, 1, 1])], [(1, .lp 0 0), (5, .lp 1 0), (32, .sl (some b) nk ck), (33, .io .i64 (↑nk : Int)), (34, .io .i64 (↑i : Int)), (55, .v (.bool false)), (58, .v (.bool true)), (60, .sl (some b) nk ck), (62, .io .i64 (IntKind.i64.wrap ((↑i : Int) - 1)))], [([.io .i64 g, .io .i64 s, .io .i64 k, .io .i64 sz, .io .i64 sl, .io .i64 of, .io .i64 gp, .io .i64 lt, .io .i64 ea, .bo d, .sl Bm nm cm, .sl (some b) nk ck], 58), ([.so key, .io .i64 dr, .sl yA yn yc], 50)]⟩ (by kernel_rfl) (by kernel_rfl) ?_
                  have hi0 : 0 < i := by
                    have h := of_decide_eq_true ‹decide ((i : Int) > 0) = true›
                    omega
                  have hw1 : IntKind.i64.wrap ((i : Int) - 1) = ((i - 1 : Nat) : Int) := by
                    rw [wrap63 (by omega) (by omega)]
                    omega
                  rw [hw1]
                  obtain ⟨⟨key1, dr1, yA1, yn1, yc1, ws1⟩, hy⟩ : ∃ y, ks[i - 1]? = some y := ⟨_, List.getElem?_eq_getElem (by omega)⟩
                  rw [prevk_pos hi0 hy] at h2
                  refine At.idx b nk 3 ((i - 1 : Nat) : Int) (by kernel_rfl) (by omega) (by omega) noF_stable ?_
                  refine At.fax (b.add (((i - 1 : Nat) : Int).toNat * 3)) 0 (by kernel_rfl) noF_stable ?_
                  refine At.ldx ((b.add (((i - 1 : Nat) : Int).toNat * 3)).add 0) (.so key1) (by kernel_rfl) noF_stable (fun ρ w1 hm hf => by rw [Int.toNat_natCast]; exact (hk0.below hm.below).cell hy 0 _ rfl) ?_
                  refine At.to (noF_stable) (noF_fewer) 0 200 [1, 32, 33, 34, 70] 1 ⟨.code (sub B25 [1, 1, 1, 0, 1, 4, 4, 1, 1, 0, 4, 1, 1, 1]), [.block 1, .seq (sub B25 [1, 1, 1, 0, 1, 4, 4, 1, 1, 1]), .next (Sx.Next w.heap.size w Tryd.f25.ntmps (frSt (some b) nk ck) (locSt g s k sz sl of gp lt ea d Bm nm cm (some b) nk ck) (GSt k nk ks R) (muKy nk) i), .block 0, .seq (sub B25 [1, 1, 1, 1])], [(1, .lp 0 0), (32, .sl (some b) nk ck), (33, .io .i64 (↑nk : Int)), (34, .io .i64 (↑i : Int)), (70, .bo !Op.bytesLess key1.toList key.toList)], [([.io .i64 g, .io .i64 s, .io .i64 k, .io .i64 sz, .io .i64 sl, .io .i64 of, .io .i64 gp, .io .i64 lt, .io .i64 ea, .bo d, .sl Bm nm cm, .sl (some b) nk ck], 58)]⟩ (by kernel_rfl) (by kernel_rfl) ?_
                  rcases Bool.eq_false_or_eq_true (!Op.bytesLess key1.toList key.toList) with b0 | b0
                  · refine At.res 70 (!Op.bytesLess key1.toList key.toList) true (by kernel_rfl) b0 ?_
                    refine At.to (noF_stable) (noF_fewer) 0 200 [2] 0 ⟨.exit .ret, [], [(2, .v (.int .i64 6))], []⟩ (by kernel_rfl) (by kernel_rfl) ?_
                    refine At.ret (by kernel_rfl) (.v (.int .i64 6)) (by kernel_rfl) ?_
                    try simp only [Bool.not_eq_true', Bool.not_eq_false'] at *
                    simp only [stGo, prK, *, BEq.rfl, Bool.not_true, Bool.not_false, Bool.true_and, Bool.and_true, Bool.false_and, Bool.and_false] at h2
                    intro ρ w9 hm _
                    exact ⟨by rw [← h2]; rfl, hm.below⟩
                  · refine At.res 70 (!Op.bytesLess key1.toList key.toList) false (by kernel_rfl) b0 ?_
                    refine At.to (noF_stable) (noF_fewer) 0 200 [1, 32, 33, 34] 1 ⟨.exit .normal, [.next (Sx.Next w.heap.size w Tryd.f25.ntmps (frSt (some b) nk ck) (locSt g s k sz sl of gp lt ea d Bm nm cm (some b) nk ck) (GSt k nk ks R) (muKy nk) i), .block 0, .seq (sub B25 [1, 1, 1, 1])], [(1, .lp 0 0), (32, .sl (some b) nk ck), (33, .io .i64 (↑nk : Int)), (34, .io .i64 (IntKind.i64.wrap ((↑i : Int) + 1)))], [([.io .i64 g, .io .i64 s, .io .i64 k, .io .i64 sz, .io .i64 sl, .io .i64 of, .io .i64 gp, .io .i64 lt, .io .i64 ea, .bo d, .sl Bm nm cm, .sl (some b) nk ck], 58)]⟩ (by kernel_rfl) (by kernel_rfl) ?_
                    try simp only [Bool.not_eq_true', Bool.not_eq_false'] at *
                    simp only [stGo, prK, *, BEq.rfl, Bool.not_true, Bool.not_false, Bool.true_and, Bool.and_true, Bool.false_and, Bool.and_false] at h2
                    have hw2 : IntKind.i64.wrap ((i : Int) + 1) = ((i + 1 : Nat) : Int) := by
                      rw [wrap63 (by omega) (by omega)]
                      omega
                    rw [hw2]
                    refine At.next (σ := Nat) (i + 1) rfl rfl (by unfold subFr; kernel_rfl) (by kernel_rfl) ?_ ?_
                    · intro ρ a w' hi' hf
                      exact ⟨hf, by omega, by rw [prevk_pos (Nat.succ_pos i) hx]; exact h2⟩
                    · unfold muKy
                      omega
                · refine At.res 58 (decide ((↑i : Int) > 0)) false (by kernel_rfl) b3 ?_
                  refine At.to (noF_stable) (noF_fewer) 0 200 [1, 32, 33, 34] 1 ⟨.exit .normal, [.next (Sx.Next w.heap.size w Tryd.f25.ntmps (frSt (some b) nk ck) (locSt g s k sz sl of gp lt ea d Bm nm cm (some b) nk ck) (GSt k nk ks R) (muKy nk) i), .block 0, .seq (sub B25 [1, 1, 1, 1])], [(1, .lp 0 0), (32, .sl (some b) nk ck), (33, .io .i64 (↑nk : Int)), (34, .io .i64 (IntKind.i64.wrap ((↑i : Int) + 1)))], [([.io .i64 g, .io .i64 s, .io .i64 k, .io .i64 sz, .io .i64 sl, .io .i64 of, .io .i64 gp, .io .i64 lt, .io .i64 ea, .bo d, .sl Bm nm cm, .sl (some b) nk ck], 58)]⟩ (by kernel_rfl) (by kernel_rfl) ?_
                  have hi0 : i = 0 := by
                    have h := of_decide_eq_false ‹decide ((i : Int) > 0) = false›
                    omega
                  have hp : prevAtK ks i = none := by rw [hi0]; rfl
                  rw [hp] at h2
                  clear hp hi0

                  try simp only [Bool.not_eq_true', Bool.not_eq_false'] at *
                  simp only [stGo, prK, *, BEq.rfl, Bool.not_true, Bool.not_false, Bool.true_and, Bool.and_true, Bool.false_and, Bool.and_false] at h2
                  have hw2 : IntKind.i64.wrap ((i : Int) + 1) = ((i + 1 : Nat) : Int) := by
                    rw [wrap63 (by omega) (by omega)]
                    omega
                  rw [hw2]
                  refine At.next (σ := Nat) (i + 1) rfl rfl (by unfold subFr; kernel_rfl) (by kernel_rfl) ?_ ?_
                  · intro ρ a w' hi' hf
                    exact ⟨hf, by omega, by rw [prevk_pos (Nat.succ_pos i) hx]; exact h2⟩
                  · unfold muKy
                    omega
            · refine At.call noF_stable 21 [.agg (cfgL g s k sz sl of gp lt ea d), .agg [.so key, .io .i64 dr, .sl yA yn yc]] (.v (.int .i64 6)) (by kernel_rfl) (by kernel_rfl) (by kernel_rfl) (fun ρ _ w1 hi _ => ?_) ?_
              · have hk := key_any g s k sz sl of gp lt ea d key dr yA yn yc ws hyn w1 (hyw.below hi.mem.below)
                rw [hW0, he] at hk
                exact hk
              refine At.to (noF_stable) (noF_fewer) 0 200 [2] 0 ⟨.exit .ret, [], [(2, .v (.int .i64 6))], []⟩ (by kernel_rfl) (by kernel_rfl) ?_
              refine At.ret (by kernel_rfl) (.v (.int .i64 6)) (by kernel_rfl) ?_
              simp only [stGo, he] at h2
              rw [show ((6 : Int) == 0) = false from rfl, Bool.false_and] at h2
              intro ρ w9 hm _
              exact ⟨by rw [← h2]; rfl, hm.below⟩
          · refine At.res 35 (decide ((↑i : Int) < (↑nk : Int))) false (by kernel_rfl) b0 ?_
            refine At.to (noF_stable) (noF_fewer) 0 200 [2] 0 ⟨.exit .ret, [], [(2, .v (.int .i64 0))], []⟩ (by kernel_rfl) (by kernel_rfl) ?_
            refine At.ret (by kernel_rfl) (.v (.int .i64 0)) (by kernel_rfl) ?_
            have hi : ¬ (i : Int) < nk := of_decide_eq_false b0
            have hd : ks.drop i = [] := List.drop_eq_nil_of_le (by omega)
            rw [hd] at h2
            intro ρ w9 hm _
            exact ⟨by rw [← h2]; rfl, hm.below⟩

end Go.Proofs.YtiehnigbcfkcdaaDoor
