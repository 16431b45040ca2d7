import Derived.Test.YtiehnigbcfkcdaaDoorAI
import Derived.Test.YtiehnigbcfkcdaaDoorAD
set_option linter.unusedSimpArgs false
set_option linter.unusedVariables false
namespace Go.Proofs.YtiehnigbcfkcdaaDoor
open Go.RowKit Go.Sx

def rstateE (W S k : Int) (nm : Nat) (ms : List Int) (ks : List Ky) : Int := bif W != 0 then 4 else bif ((nm : Int) != S) then 6 else bif ms.all timeB then (bif stGo k none ks then 0 else 6) else 6
def frSm (i : Nat) : Fr := [(1, .lp 0 0), (3, .io .i64 (i : Int))]
def GSm (n : Nat) (ms : List Int) (R : Bool) (i : Nat) (ρ : List Nat) (w : World) : Prop := noF ρ w ∧ (i ≤ n ∧ (ms.drop i).all timeB = R)
def frSr (i : Nat) : Fr := [(1, .lp 0 0), (4, .io .i64 (i : Int))]

noncomputable def B26 : Code := (Tryd.f26.body).getD .skip
set_option maxHeartbeats 4000000 in
set_option maxRecDepth 100000 in
theorem rstate_any (g s k sz sl of gp lt ea : Int) (d : Bool) (Bm : Option Addr) (nm cm : Nat) (ms : List Int) (Bk : Option Addr) (nk ck : Nat) (ks : List Ky) (hmb : nm ≤ 140737488355320) (hkb : nk ≤ 140737488355320) (w : World) (hm0 : SlI w Bm nm ms) (hk0 : SlK w Bk nk ks) (hkw : ∀ x ∈ ks, x.n ≤ 140737488355320) :
    Calls Tryd.prog 26 #[.agg #[.int .i64 g, .int .i64 s, .int .i64 k, .int .i64 sz, .int .i64 sl, .int .i64 of, .int .i64 gp, .int .i64 lt, .int .i64 ea, .bool d, .slice Bm nm cm, .slice Bk nk ck]] w fun e w' => e = .returned (.int .i64 (rstateE (wrongF g s k sz sl of gp lt ea) s k nm ms ks)) ∧ Below w.heap.size w w' := by
  have hl := hm0.1
  refine enter (fn := Tryd.f26) (c := B26) [.agg (stL g s k sz sl of gp lt ea d Bm nm cm Bk nk ck)] Tryd.func26 rfl rfl ?_
  refine At.to (noF_stable) (noF_fewer) 0 200 [1, 7] 1 ⟨pops B26 [1, 0, 0] 2, [.seq (sub B26 [1, 0, 1]), .seq (sub B26 [1, 1])], [(1, .lp 0 0), (7, .agg (cfgL g s k sz sl of gp lt ea d))], [((stL g s k sz sl of gp lt ea d Bm nm cm Bk nk ck), 58)]⟩ (by kernel_rfl) (by kernel_rfl) ?_
  cases hW : (wrongF g s k sz sl of gp lt ea != 0) with
  | true =>
    obtain ⟨n, hne⟩ : ∃ n, wrongF g s k sz sl of gp lt ea = n := ⟨_, rfl⟩
    have hb : (n != 0) = true := by rw [← hne]; exact hW
    refine At.call noF_stable 10 [.agg (cfgL g s k sz sl of gp lt ea d)] (.io .i64 n) (by kernel_rfl) (by kernel_rfl) (by kernel_rfl) (fun ρ _ w1 hi _ => ?_) ?_
    · have hk := rwrong_any g s k sz sl of gp lt ea d w1
      rw [← wrong_eq, hne] at hk
      exact hk
    refine At.to (noF_stable) (noF_fewer) 0 200 [1, 9] 1 ⟨.code (sub B26 [1, 0, 1]), [.seq (sub B26 [1, 1])], [(1, .lp 0 0), (9, .bo (n != 0))], [((stL g s k sz sl of gp lt ea d Bm nm cm Bk nk ck), 58)]⟩ (by kernel_rfl) (by kernel_rfl) ?_
    refine At.res 9 (n != 0) true (by kernel_rfl) hb ?_
    refine At.to (noF_stable) (noF_fewer) 0 200 [2] 0 ⟨.exit .ret, [], [(2, .v (.int .i64 4))], []⟩ (by kernel_rfl) (by kernel_rfl) ?_
    refine At.ret (by kernel_rfl) (.v (.int .i64 4)) (by kernel_rfl) ?_
    intro ρ w9 hm _
    exact ⟨by simp only [rstateE, hW, cond_true] <;> rfl, hm.below⟩
  | false =>
    have hW0 : wrongF g s k sz sl of gp lt ea = 0 := by simpa using hW
    refine At.call noF_stable 10 [.agg (cfgL g s k sz sl of gp lt ea d)] (.v (.int .i64 0)) (by kernel_rfl) (by kernel_rfl) (by kernel_rfl) (fun ρ _ w1 hi _ => ?_) ?_
    · have hk := rwrong_any g s k sz sl of gp lt ea d w1
      rw [← wrong_eq, hW0] at hk
      exact hk
    refine At.to (noF_stable) (noF_fewer) 0 200 [1, 16] 1 ⟨.code (sub B26 [1, 1, 0, 1]), [.seq (sub B26 [1, 1, 1])], [(1, .lp 0 0), (16, .bo ((↑nm : Int) != s))], [((stL g s k sz sl of gp lt ea d Bm nm cm Bk nk ck), 58)]⟩ (by kernel_rfl) (by kernel_rfl) ?_
    rcases Bool.eq_false_or_eq_true ((↑nm : Int) != s) with b0 | b0
    · refine At.res 16 ((↑nm : Int) != s) true (by kernel_rfl) b0 ?_
      refine At.to (noF_stable) (noF_fewer) 0 200 [2] 0 ⟨.exit .ret, [], [(2, .v (.int .i64 6))], []⟩ (by kernel_rfl) (by kernel_rfl) ?_
      refine At.ret (by kernel_rfl) (.v (.int .i64 6)) (by kernel_rfl) ?_
      intro ρ w9 hm _
      exact ⟨by simp only [rstateE, hW, b0, cond_true, cond_false] <;> rfl, hm.below⟩
    · refine At.res 16 ((↑nm : Int) != s) false (by kernel_rfl) b0 ?_
      refine At.to (noF_stable) (noF_fewer) 0 200 [1, 3] 1 ⟨.code (sub B26 [1, 1, 1, 0, 1, 4]), [.block 0, .seq (sub B26 [1, 1, 1, 1])], [(1, .lp 0 0), (3, .v (.int .i64 0))], [((stL g s k sz sl of gp lt ea d Bm nm cm Bk nk ck), 58)]⟩ (by kernel_rfl) (by kernel_rfl) ?_
      have hE : rstateE (wrongF g s k sz sl of gp lt ea) s k nm ms ks = (bif ms.all timeB then (bif stGo k none ks then 0 else 6) else 6) := by simp only [rstateE, hW, b0, cond_false]
      rw [hE]
      clear hE b0 hW
      generalize hR1 : ms.all timeB = R1
      refine At.canon _ rfl ?_
      refine At.loop (σ := Nat) (sub B26 [1, 1, 1, 0, 1, 4, 4]) frSm (locSt g s k sz sl of gp lt ea d Bm nm cm Bk nk ck) (GSm nm ms R1) (muKy nm) 0 (by kernel_rfl) (by unfold subFr; kernel_rfl) (by kernel_rfl) (fun _ _ _ _ h => ⟨h, Nat.zero_le _, hR1⟩) ?_
      clear hR1
      intro i
      refine At.pure fun ⟨h1, h2⟩ => ?_
      refine At.to (noF_stable) (noF_fewer) 0 200 [1, 3, 21] 1 ⟨.code (sub B26 [1, 1, 1, 0, 1, 4, 4, 0, 1]), [.seq (sub B26 [1, 1, 1, 0, 1, 4, 4, 1]), .next (Sx.Next w.heap.size w Tryd.f26.ntmps frSm (locSt g s k sz sl of gp lt ea d Bm nm cm Bk nk ck) (GSm nm ms R1) (muKy nm) i), .block 0, .seq (sub B26 [1, 1, 1, 1])], [(1, .lp 0 0), (3, .io .i64 (↑i : Int)), (21, .bo (decide ((↑i : Int) < (↑nm : Int))))], [((stL g s k sz sl of gp lt ea d Bm nm cm Bk nk ck), 58)]⟩ (by kernel_rfl) (by kernel_rfl) ?_
      rcases Bool.eq_false_or_eq_true (decide ((↑i : Int) < (↑nm : Int))) with b0 | b0
      · refine At.res 21 (decide ((↑i : Int) < (↑nm : Int))) true (by kernel_rfl) b0 ?_
        refine At.to (noF_stable) (noF_fewer) 0 200 [1, 3, 25, 26] 1 ⟨pops B26 [1, 1, 1, 0, 1, 4, 4, 1, 0, 4, 0] 3, [.seq (sub B26 [1, 1, 1, 0, 1, 4, 4, 1, 0, 4, 1]), .block 1, .seq (sub B26 [1, 1, 1, 0, 1, 4, 4, 1, 1]), .next (Sx.Next w.heap.size w Tryd.f26.ntmps frSm (locSt g s k sz sl of gp lt ea d Bm nm cm Bk nk ck) (GSm nm ms R1) (muKy nm) i), .block 0, .seq (sub B26 [1, 1, 1, 1])], [(1, .lp 0 0), (3, .io .i64 (↑i : Int)), (25, .sl Bm nm cm), (26, .io .i64 (↑i : Int))], [((stL g s k sz sl of gp lt ea d Bm nm cm Bk nk ck), 58)]⟩ (by kernel_rfl) (by kernel_rfl) ?_
        have hi : i < nm := by have := of_decide_eq_true b0; omega
        clear b0
        obtain ⟨b, rfl⟩ : ∃ b, Bm = some b := by
          cases Bm with
          | none => have := hm0.2.1 rfl; subst this; simp at hl; omega
          | some b => exact ⟨b, rfl⟩
        obtain ⟨x, hx⟩ : ∃ x, ms[i]? = some x := ⟨_, List.getElem?_eq_getElem (by omega)⟩
        rw [drop_w hx, List.all_cons] at h2
        refine At.idx b nm 1 (i : Int) (by kernel_rfl) (by omega) (by omega) noF_stable ?_
        refine At.ldx (b.add ((i : Int).toNat * 1)) (.io .i64 x) (by kernel_rfl) noF_stable (fun ρ w1 hm hf => by rw [Int.toNat_natCast, Nat.mul_one]; exact (hm0.below hm.below).cell hx) ?_
        refine At.to (noF_stable) (noF_fewer) 0 200 [1, 3, 28] 1 ⟨pops B26 [1, 1, 1, 0, 1, 4, 4, 1, 0, 4, 0] 5, [.seq (sub B26 [1, 1, 1, 0, 1, 4, 4, 1, 0, 4, 1]), .block 1, .seq (sub B26 [1, 1, 1, 0, 1, 4, 4, 1, 1]), .next (Sx.Next w.heap.size w Tryd.f26.ntmps frSm (locSt g s k sz sl of gp lt ea d (some b) nm cm Bk nk ck) (GSm nm ms R1) (muKy nm) i), .block 0, .seq (sub B26 [1, 1, 1, 1])], [(1, .lp 0 0), (3, .io .i64 (↑i : Int)), (28, .io .i64 x)], [([.io .i64 g, .io .i64 s, .io .i64 k, .io .i64 sz, .io .i64 sl, .io .i64 of, .io .i64 gp, .io .i64 lt, .io .i64 ea, .bo d, .sl (some b) nm cm, .sl Bk nk ck], 58)]⟩ (by kernel_rfl) (by kernel_rfl) ?_
        refine At.call (noF_stable) 42 [.io .i64 x] (.bo (timeB x)) (by kernel_rfl) (by kernel_rfl) (by kernel_rfl) (fun _ _ w _ _ => time_any (x) w) ?_
        refine At.to (noF_stable) (noF_fewer) 0 200 [1, 3, 30] 1 ⟨.code (sub B26 [1, 1, 1, 0, 1, 4, 4, 1, 0, 4, 1]), [.block 1, .seq (sub B26 [1, 1, 1, 0, 1, 4, 4, 1, 1]), .next (Sx.Next w.heap.size w Tryd.f26.ntmps frSm (locSt g s k sz sl of gp lt ea d (some b) nm cm Bk nk ck) (GSm nm ms R1) (muKy nm) i), .block 0, .seq (sub B26 [1, 1, 1, 1])], [(1, .lp 0 0), (3, .io .i64 (↑i : Int)), (30, .bo !timeB x)], [([.io .i64 g, .io .i64 s, .io .i64 k, .io .i64 sz, .io .i64 sl, .io .i64 of, .io .i64 gp, .io .i64 lt, .io .i64 ea, .bo d, .sl (some b) nm cm, .sl Bk nk ck], 58)]⟩ (by kernel_rfl) (by kernel_rfl) ?_
        rcases Bool.eq_false_or_eq_true (!timeB x) with b0 | b0
        · refine At.res 30 (!timeB x) true (by kernel_rfl) b0 ?_
          refine At.to (noF_stable) (noF_fewer) 0 200 [2] 0 ⟨.exit .ret, [], [(2, .v (.int .i64 6))], []⟩ (by kernel_rfl) (by kernel_rfl) ?_
          refine At.ret (by kernel_rfl) (.v (.int .i64 6)) (by kernel_rfl) ?_
          try simp only [Bool.not_eq_true', Bool.not_eq_false'] at b0
          rw [b0, Bool.false_and] at h2
          intro ρ w9 hm _
          exact ⟨by rw [← h2]; rfl, hm.below⟩
        · refine At.res 30 (!timeB x) false (by kernel_rfl) b0 ?_
          refine At.to (noF_stable) (noF_fewer) 0 200 [1, 3] 1 ⟨.exit .normal, [.next (Sx.Next w.heap.size w Tryd.f26.ntmps frSm (locSt g s k sz sl of gp lt ea d (some b) nm cm Bk nk ck) (GSm nm ms R1) (muKy nm) i), .block 0, .seq (sub B26 [1, 1, 1, 1])], [(1, .lp 0 0), (3, .io .i64 (IntKind.i64.wrap ((↑i : Int) + 1)))], [([.io .i64 g, .io .i64 s, .io .i64 k, .io .i64 sz, .io .i64 sl, .io .i64 of, .io .i64 gp, .io .i64 lt, .io .i64 ea, .bo d, .sl (some b) nm cm, .sl Bk nk ck], 58)]⟩ (by kernel_rfl) (by kernel_rfl) ?_
          try simp only [Bool.not_eq_true', Bool.not_eq_false'] at b0
          rw [b0, Bool.true_and] at h2
          have hw2 : IntKind.i64.wrap ((i : Int) + 1) = ((i + 1 : Nat) : Int) := by
            rw [wrap63 (by omega) (by omega)]
            omega
          rw [hw2]
          refine At.next (σ := Nat) (i + 1) rfl rfl (by unfold subFr; kernel_rfl) (by kernel_rfl) ?_ ?_
          · intro ρ a w' hi' hf
            exact ⟨hf, by omega, h2⟩
          · unfold muKy
            omega
      · refine At.res 21 (decide ((↑i : Int) < (↑nm : Int))) false (by kernel_rfl) b0 ?_
        refine At.to (noF_stable) (noF_fewer) 0 200 [1, 4] 1 ⟨.code (sub B26 [1, 1, 1, 1, 0, 1, 4]), [.block 2, .seq (sub B26 [1, 1, 1, 1, 1])], [(1, .lp 0 0), (4, .v (.int .i64 0))], [((stL g s k sz sl of gp lt ea d Bm nm cm Bk nk ck), 58)]⟩ (by kernel_rfl) (by kernel_rfl) ?_
        have hi : ¬ (i : Int) < nm := of_decide_eq_false b0
        have hd : ms.drop i = [] := List.drop_eq_nil_of_le (by omega)
        rw [hd] at h2
        subst h2
        rw [show (bif ([] : List Int).all timeB then (bif stGo k none ks then (0 : Int) else 6) else 6) = (bif stGo k none ks then 0 else 6) from rfl]
        clear b0 hi hd
        generalize hR : stGo k none ks = R
        refine At.to (noF_stable) (noF_fewer) 0 200 [1, 4] 1 ⟨.code (sub B26 [1, 1, 1, 1, 0, 1, 4]), [.block 2, .seq (sub B26 [1, 1, 1, 1, 1])], [(1, .lp 0 0), (4, .v (.int .i64 0))], [((stL g s k sz sl of gp lt ea d Bm nm cm Bk nk ck), 58)]⟩ (by kernel_rfl) (by kernel_rfl) ?_
        refine At.canon _ rfl ?_
        refine At.loop (σ := Nat) (sub B26 [1, 1, 1, 1, 0, 1, 4, 4]) frSr (locSt g s k sz sl of gp lt ea d Bm nm cm Bk nk ck) (GSt k nk ks R) (muKy nk) 0 (by kernel_rfl) (by unfold subFr; kernel_rfl) (by kernel_rfl) (fun _ _ _ _ h => ⟨h, Nat.zero_le _, hR⟩) ?_
        clear hR
        clear h1
        intro i
        refine At.pure fun ⟨h1, h2⟩ => ?_
        have hlk := hk0.1
        refine At.to (noF_stable) (noF_fewer) 0 200 [1, 4, 35] 1 ⟨.code (sub B26 [1, 1, 1, 1, 0, 1, 4, 4, 0, 1]), [.seq (sub B26 [1, 1, 1, 1, 0, 1, 4, 4, 1]), .next (Sx.Next w.heap.size w Tryd.f26.ntmps frSr (locSt g s k sz sl of gp lt ea d Bm nm cm Bk nk ck) (GSt k nk ks R) (muKy nk) i), .block 2, .seq (sub B26 [1, 1, 1, 1, 1])], [(1, .lp 0 0), (4, .io .i64 (↑i : Int)), (35, .bo (decide ((↑i : Int) < (↑nk : Int))))], [((stL g s k sz sl of gp lt ea d Bm nm cm Bk nk ck), 58)]⟩ (by kernel_rfl) (by kernel_rfl) ?_
        rcases Bool.eq_false_or_eq_true (decide ((↑i : Int) < (↑nk : Int))) with b0 | b0
        · refine At.res 35 (decide ((↑i : Int) < (↑nk : Int))) true (by kernel_rfl) b0 ?_
          refine At.to (noF_stable) (noF_fewer) 0 200 [1, 4, 39, 40] 1 ⟨pops B26 [1, 1, 1, 1, 0, 1, 4, 4, 1, 0, 4, 0] 3, [.seq (sub B26 [1, 1, 1, 1, 0, 1, 4, 4, 1, 0, 4, 1]), .block 3, .seq (sub B26 [1, 1, 1, 1, 0, 1, 4, 4, 1, 1]), .next (Sx.Next w.heap.size w Tryd.f26.ntmps frSr (locSt g s k sz sl of gp lt ea d Bm nm cm Bk nk ck) (GSt k nk ks R) (muKy nk) i), .block 2, .seq (sub B26 [1, 1, 1, 1, 1])], [(1, .lp 0 0), (4, .io .i64 (↑i : Int)), (39, .sl Bk nk ck), (40, .io .i64 (↑i : Int))], [((stL g s k sz sl of gp lt ea d Bm nm cm Bk nk ck), 58)]⟩ (by kernel_rfl) (by kernel_rfl) ?_
          have hi : i < nk := by have := of_decide_eq_true b0; omega
          clear b0
          obtain ⟨b, rfl⟩ : ∃ b, Bk = some b := by
            cases Bk with
            | none => have := hk0.2.1 rfl; subst this; simp at hlk; omega
            | some b => exact ⟨b, rfl⟩
          obtain ⟨⟨key, dr, yA, yn, yc, ws⟩, hx⟩ : ∃ x, ks[i]? = some x := ⟨_, List.getElem?_eq_getElem (by omega)⟩
          rw [drop_w hx] at h2
          have hmem := List.mem_of_getElem? hx
          have hyn : yn ≤ 140737488355320 := hkw ⟨key, dr, yA, yn, yc, ws⟩ hmem
          have hyw : SlW w yA yn ws := hk0.2.2.2 ⟨key, dr, yA, yn, yc, ws⟩ hmem
          refine At.idx b nk 3 (i : Int) (by kernel_rfl) (by omega) (by omega) noF_stable ?_
          refine At.lda (b.add ((i : Int).toNat * 3)) 3 (kL ⟨key, dr, yA, yn, yc, ws⟩) (by kernel_rfl) rfl noF_stable (fun ρ w1 hm hf => by rw [Int.toNat_natCast]; exact (hk0.below hm.below).cell hx) ?_
          refine At.to (noF_stable) (noF_fewer) 0 200 [1, 4, 5, 44, 45] 2 ⟨pqops B26 [1, 1, 1, 1, 0, 1, 4, 4, 1, 0, 4, 1, 0] 3, [.seq (sub B26 [1, 1, 1, 1, 0, 1, 4, 4, 1, 0, 4, 1, 1]), .block 3, .seq (sub B26 [1, 1, 1, 1, 0, 1, 4, 4, 1, 1]), .next (Sx.Next w.heap.size w Tryd.f26.ntmps frSr (locSt g s k sz sl of gp lt ea d Bm nm cm (some b) nk ck) (GSt k nk ks R) (muKy nk) i), .block 2, .seq (sub B26 [1, 1, 1, 1, 1])], [(1, .lp 0 0), (4, .io .i64 (↑i : Int)), (5, .lp 1 0), (44, .agg (cfgL g s k sz sl of gp lt ea d)), (45, .agg [.so key, .io .i64 dr, .sl yA yn yc])], [([.io .i64 g, .io .i64 s, .io .i64 k, .io .i64 sz, .io .i64 sl, .io .i64 of, .io .i64 gp, .io .i64 lt, .io .i64 ea, .bo d, .sl Bm nm cm, .sl (some b) nk ck], 58), ([.so key, .io .i64 dr, .sl yA yn yc], 50)]⟩ (by kernel_rfl) (by kernel_rfl) ?_
          cases hr : rkeyB k key dr ws with
          | true =>
            have he : keyE 0 k key dr ws = 0 := (keys_alike k key dr ws).trans (by rw [hr]; rfl)
            refine At.call noF_stable 22 [.agg (cfgL g s k sz sl of gp lt ea d), .agg [.so key, .io .i64 dr, .sl yA yn yc]] (.v (.bool true)) (by kernel_rfl) (by kernel_rfl) (by kernel_rfl) (fun ρ _ w1 hi _ => ?_) ?_
            · have hk := rkey_any g s k sz sl of gp lt ea d key dr yA yn yc ws hyn w1 (hyw.below hi.mem.below)
              rw [hr] at hk
              exact hk
            refine At.to (noF_stable) (noF_fewer) 0 200 [1, 4, 5, 48, 53] 2 ⟨pqops B26 [1, 1, 1, 1, 0, 1, 4, 4, 1, 0, 4, 1, 0] 11, [.seq (sub B26 [1, 1, 1, 1, 0, 1, 4, 4, 1, 0, 4, 1, 1]), .block 3, .seq (sub B26 [1, 1, 1, 1, 0, 1, 4, 4, 1, 1]), .next (Sx.Next w.heap.size w Tryd.f26.ntmps frSr (locSt g s k sz sl of gp lt ea d Bm nm cm (some b) nk ck) (GSt k nk ks R) (muKy nk) i), .block 2, .seq (sub B26 [1, 1, 1, 1, 1])], [(1, .lp 0 0), (4, .io .i64 (↑i : Int)), (5, .lp 1 0), (48, .v (.bool false)), (53, .bo ((↑yn : Int) == 0))], [([.io .i64 g, .io .i64 s, .io .i64 k, .io .i64 sz, .io .i64 sl, .io .i64 of, .io .i64 gp, .io .i64 lt, .io .i64 ea, .bo d, .sl Bm nm cm, .sl (some b) nk ck], 58), ([.so key, .io .i64 dr, .sl yA yn yc], 50)]⟩ (by kernel_rfl) (by kernel_rfl) ?_
            rcases Bool.eq_false_or_eq_true ((↑yn : Int) == 0) with b0 | b0
            · refine At.res 53 ((↑yn : Int) == 0) true (by kernel_rfl) b0 ?_
              refine At.to (noF_stable) (noF_fewer) 0 200 [1, 4, 5, 59] 2 ⟨pqops B26 [1, 1, 1, 1, 0, 1, 4, 4, 1, 0, 4, 1, 0] 17, [.seq (sub B26 [1, 1, 1, 1, 0, 1, 4, 4, 1, 0, 4, 1, 1]), .block 3, .seq (sub B26 [1, 1, 1, 1, 0, 1, 4, 4, 1, 1]), .next (Sx.Next w.heap.size w Tryd.f26.ntmps frSr (locSt g s k sz sl of gp lt ea d Bm nm cm (some b) nk ck) (GSt k nk ks R) (muKy nk) i), .block 2, .seq (sub B26 [1, 1, 1, 1, 1])], [(1, .lp 0 0), (4, .io .i64 (↑i : Int)), (5, .lp 1 0), (59, .bo (dr == 0))], [([.io .i64 g, .io .i64 s, .io .i64 k, .io .i64 sz, .io .i64 sl, .io .i64 of, .io .i64 gp, .io .i64 lt, .io .i64 ea, .bo d, .sl Bm nm cm, .sl (some b) nk ck], 58), ([.so key, .io .i64 dr, .sl yA yn yc], 50)]⟩ (by kernel_rfl) (by kernel_rfl) ?_
              rcases Bool.eq_false_or_eq_true (dr == 0) with b1 | b1
              · refine At.res 59 (dr == 0) true (by kernel_rfl) b1 ?_
                refine At.to (noF_stable) (noF_fewer) 0 200 [2] 0 ⟨.exit .ret, [], [(2, .v (.int .i64 6))], []⟩ (by kernel_rfl) (by kernel_rfl) ?_
                refine At.ret (by kernel_rfl) (.v (.int .i64 6)) (by kernel_rfl) ?_
                try simp only [Bool.not_eq_true', Bool.not_eq_false'] at *
                simp only [stGo, prK, *, BEq.rfl, Bool.not_true, Bool.not_false, Bool.true_and, Bool.and_true, Bool.false_and, Bool.and_false] at h2
                intro ρ w9 hm _
                exact ⟨by rw [← h2]; rfl, hm.below⟩
              · refine At.res 59 (dr == 0) false (by kernel_rfl) b1 ?_
                refine At.to (noF_stable) (noF_fewer) 0 200 [1, 4, 5, 59, 62] 2 ⟨pqops B26 [1, 1, 1, 1, 0, 1, 4, 4, 1, 0, 4, 1, 0] 20, [.seq (sub B26 [1, 1, 1, 1, 0, 1, 4, 4, 1, 0, 4, 1, 1]), .block 3, .seq (sub B26 [1, 1, 1, 1, 0, 1, 4, 4, 1, 1]), .next (Sx.Next w.heap.size w Tryd.f26.ntmps frSr (locSt g s k sz sl of gp lt ea d Bm nm cm (some b) nk ck) (GSt k nk ks R) (muKy nk) i), .block 2, .seq (sub B26 [1, 1, 1, 1, 1])], [(1, .lp 0 0), (4, .io .i64 (↑i : Int)), (5, .lp 1 0), (59, .v (.bool false)), (62, .bo (decide ((↑i : Int) > 0)))], [([.io .i64 g, .io .i64 s, .io .i64 k, .io .i64 sz, .io .i64 sl, .io .i64 of, .io .i64 gp, .io .i64 lt, .io .i64 ea, .bo d, .sl Bm nm cm, .sl (some b) nk ck], 58), ([.so key, .io .i64 dr, .sl yA yn yc], 50)]⟩ (by kernel_rfl) (by kernel_rfl) ?_
                rcases Bool.eq_false_or_eq_true (decide ((↑i : Int) > 0)) with b2 | b2
                · refine At.res 62 (decide ((↑i : Int) > 0)) true (by kernel_rfl) b2 ?_
                  refine At.to (noF_stable) (noF_fewer) 0 200 [1, 4, 5, 59, 62, 64, 66] 2 ⟨pqops B26 [1, 1, 1, 1, 0, 1, 4, 4, 1, 0, 4, 1, 0] 24, [.seq (sub B26 [1, 1, 1, 1, 0, 1, 4, 4, 1, 0, 4, 1, 1]), .block 3, .seq (sub B26 [1, 1, 1, 1, 0, 1, 4, 4, 1, 1]), .next (Sx.Next w.heap.size w Tryd.f26.ntmps frSr (locSt g s k sz sl of gp lt ea d Bm nm cm (some b) nk ck) (GSt k nk ks R) (muKy nk) i), .block 2, .seq (sub B26 [1, 1, 1, 1, 1])], [(1, .lp 0 0), (4, .io .i64 (↑i : Int)), (5, .lp 1 0), (59, .v (.bool false)), (62, .v (.bool true)), (64, .sl (some b) nk ck), (66, .io .i64 (IntKind.i64.wrap ((↑i : Int) - 1)))], [([.io .i64 g, .io .i64 s, .io .i64 k, .io .i64 sz, .io .i64 sl, .io .i64 of, .io .i64 gp, .io .i64 lt, .io .i64 ea, .bo d, .sl Bm nm cm, .sl (some b) nk ck], 58), ([.so key, .io .i64 dr, .sl yA yn yc], 50)]⟩ (by kernel_rfl) (by kernel_rfl) ?_
                  have hi0 : 0 < i := by
                    have h := of_decide_eq_true ‹decide ((i : Int) > 0) = true›
                    omega
                  have hw1 : IntKind.i64.wrap ((i : Int) - 1) = ((i - 1 : Nat) : Int) := by
                    rw [wrap63 (by omega) (by omega)]
                    omega
                  rw [hw1]
                  obtain ⟨⟨key1, dr1, yA1, yn1, yc1, ws1⟩, hy⟩ : ∃ y, ks[i - 1]? = some y := ⟨_, List.getElem?_eq_getElem (by omega)⟩
                  rw [prevk_pos hi0 hy] at h2
                  refine At.idx b nk 3 ((i - 1 : Nat) : Int) (by kernel_rfl) (by omega) (by omega) noF_stable ?_
                  refine At.fax (b.add (((i - 1 : Nat) : Int).toNat * 3)) 0 (by kernel_rfl) noF_stable ?_
                  refine At.ldx ((b.add (((i - 1 : Nat) : Int).toNat * 3)).add 0) (.so key1) (by kernel_rfl) noF_stable (fun ρ w1 hm hf => by rw [Int.toNat_natCast]; exact (hk0.below hm.below).cell hy 0 _ rfl) ?_
                  refine At.to (noF_stable) (noF_fewer) 0 200 [1, 4, 74] 1 ⟨.code (sub B26 [1, 1, 1, 1, 0, 1, 4, 4, 1, 0, 4, 1, 1]), [.block 3, .seq (sub B26 [1, 1, 1, 1, 0, 1, 4, 4, 1, 1]), .next (Sx.Next w.heap.size w Tryd.f26.ntmps frSr (locSt g s k sz sl of gp lt ea d Bm nm cm (some b) nk ck) (GSt k nk ks R) (muKy nk) i), .block 2, .seq (sub B26 [1, 1, 1, 1, 1])], [(1, .lp 0 0), (4, .io .i64 (↑i : Int)), (74, .bo !Op.bytesLess key1.toList key.toList)], [([.io .i64 g, .io .i64 s, .io .i64 k, .io .i64 sz, .io .i64 sl, .io .i64 of, .io .i64 gp, .io .i64 lt, .io .i64 ea, .bo d, .sl Bm nm cm, .sl (some b) nk ck], 58)]⟩ (by kernel_rfl) (by kernel_rfl) ?_
                  rcases Bool.eq_false_or_eq_true (!Op.bytesLess key1.toList key.toList) with b0 | b0
                  · refine At.res 74 (!Op.bytesLess key1.toList key.toList) true (by kernel_rfl) b0 ?_
                    refine At.to (noF_stable) (noF_fewer) 0 200 [2] 0 ⟨.exit .ret, [], [(2, .v (.int .i64 6))], []⟩ (by kernel_rfl) (by kernel_rfl) ?_
                    refine At.ret (by kernel_rfl) (.v (.int .i64 6)) (by kernel_rfl) ?_
                    try simp only [Bool.not_eq_true', Bool.not_eq_false'] at *
                    simp only [stGo, prK, *, BEq.rfl, Bool.not_true, Bool.not_false, Bool.true_and, Bool.and_true, Bool.false_and, Bool.and_false] at h2
                    intro ρ w9 hm _
                    exact ⟨by rw [← h2]; rfl, hm.below⟩
                  · refine At.res 74 (!Op.bytesLess key1.toList key.toList) false (by kernel_rfl) b0 ?_
                    refine At.to (noF_stable) (noF_fewer) 0 200 [1, 4] 1 ⟨.exit .normal, [.next (Sx.Next w.heap.size w Tryd.f26.ntmps frSr (locSt g s k sz sl of gp lt ea d Bm nm cm (some b) nk ck) (GSt k nk ks R) (muKy nk) i), .block 2, .seq (sub B26 [1, 1, 1, 1, 1])], [(1, .lp 0 0), (4, .io .i64 (IntKind.i64.wrap ((↑i : Int) + 1)))], [([.io .i64 g, .io .i64 s, .io .i64 k, .io .i64 sz, .io .i64 sl, .io .i64 of, .io .i64 gp, .io .i64 lt, .io .i64 ea, .bo d, .sl Bm nm cm, .sl (some b) nk ck], 58)]⟩ (by kernel_rfl) (by kernel_rfl) ?_
                    try simp only [Bool.not_eq_true', Bool.not_eq_false'] at *
                    simp only [stGo, prK, *, BEq.rfl, Bool.not_true, Bool.not_false, Bool.true_and, Bool.and_true, Bool.false_and, Bool.and_false] at h2
                    have hw2 : IntKind.i64.wrap ((i : Int) + 1) = ((i + 1 : Nat) : Int) := by
                      rw [wrap63 (by omega) (by omega)]
                      omega
                    rw [hw2]
                    refine At.next (σ := Nat) (i + 1) rfl rfl (by unfold subFr; kernel_rfl) (by kernel_rfl) ?_ ?_
                    · intro ρ a w' hi' hf
                      exact ⟨hf, by omega, by rw [prevk_pos (Nat.succ_pos i) hx]; exact h2⟩
                    · unfold muKy
                      omega
                · refine At.res 62 (decide ((↑i : Int) > 0)) false (by kernel_rfl) b2 ?_
                  refine At.to (noF_stable) (noF_fewer) 0 200 [1, 4] 1 ⟨.exit .normal, [.next (Sx.Next w.heap.size w Tryd.f26.ntmps frSr (locSt g s k sz sl of gp lt ea d Bm nm cm (some b) nk ck) (GSt k nk ks R) (muKy nk) i), .block 2, .seq (sub B26 [1, 1, 1, 1, 1])], [(1, .lp 0 0), (4, .io .i64 (IntKind.i64.wrap ((↑i : Int) + 1)))], [([.io .i64 g, .io .i64 s, .io .i64 k, .io .i64 sz, .io .i64 sl, .io .i64 of, .io .i64 gp, .io .i64 lt, .io .i64 ea, .bo d, .sl Bm nm cm, .sl (some b) nk ck], 58)]⟩ (by kernel_rfl) (by kernel_rfl) ?_
                  have hi0 : i = 0 := by
                    have h := of_decide_eq_false ‹decide ((i : Int) > 0) = false›
                    omega
                  have hp : prevAtK ks i = none := by rw [hi0]; rfl
                  rw [hp] at h2
                  clear hp hi0

                  try simp only [Bool.not_eq_true', Bool.not_eq_false'] at *
                  simp only [stGo, prK, *, BEq.rfl, Bool.not_true, Bool.not_false, Bool.true_and, Bool.and_true, Bool.false_and, Bool.and_false] at h2
                  have hw2 : IntKind.i64.wrap ((i : Int) + 1) = ((i + 1 : Nat) : Int) := by
                    rw [wrap63 (by omega) (by omega)]
                    omega
                  rw [hw2]
                  refine At.next (σ := Nat) (i + 1) rfl rfl (by unfold subFr; kernel_rfl) (by kernel_rfl) ?_ ?_
                  · intro ρ a w' hi' hf
                    exact ⟨hf, by omega, by rw [prevk_pos (Nat.succ_pos i) hx]; exact h2⟩
                  · unfold muKy
                    omega
            · refine At.res 53 ((↑yn : Int) == 0) false (by kernel_rfl) b0 ?_
              refine At.to (noF_stable) (noF_fewer) 0 200 [1, 4, 5, 59, 62] 2 ⟨pqops B26 [1, 1, 1, 1, 0, 1, 4, 4, 1, 0, 4, 1, 0] 20, [.seq (sub B26 [1, 1, 1, 1, 0, 1, 4, 4, 1, 0, 4, 1, 1]), .block 3, .seq (sub B26 [1, 1, 1, 1, 0, 1, 4, 4, 1, 1]), .next (Sx.Next w.heap.size w Tryd.f26.ntmps frSr (locSt g s k sz sl of gp lt ea d Bm nm cm (some b) nk ck) (GSt k nk ks R) (muKy nk) i), .block 2, .seq (sub B26 [1, 1, 1, 1, 1])], [(1, .lp 0 0), (4, .io .i64 (↑i : Int)), (5, .lp 1 0), (59, .v (.bool false)), (62, .bo (decide ((↑i : Int) > 0)))], [([.io .i64 g, .io .i64 s, .io .i64 k, .io .i64 sz, .io .i64 sl, .io .i64 of, .io .i64 gp, .io .i64 lt, .io .i64 ea, .bo d, .sl Bm nm cm, .sl (some b) nk ck], 58), ([.so key, .io .i64 dr, .sl yA yn yc], 50)]⟩ (by kernel_rfl) (by kernel_rfl) ?_
              rcases Bool.eq_false_or_eq_true (decide ((↑i : Int) > 0)) with b3 | b3
              · refine At.res 62 (decide ((↑i : Int) > 0)) true (by kernel_rfl) b3 ?_
                refine At.to (noF_stable) (noF_fewer) 0 200 [1, 4, 5, 59, 62, 64, 66] 2 ⟨pqops B26 [1, 1, 1, 1, 0, 1, 4, 4, 1, 0, 4, 1, 0] 24, [.seq (sub B26 [1, 1, 1, 1, 0, 1, 4, 4, 1, 0, 4, 1, 1]), .block 3, .seq (sub B26 [1, 1, 1, 1, 0, 1, 4, 4, 1, 1]), .next (Sx.Next w.heap.size w Tryd.f26.ntmps frSr (locSt g s k sz sl of gp lt ea d Bm nm cm (some b) nk ck) (GSt k nk ks R) (muKy nk) i), .block 2, .seq (sub B26 [1, 1, 1, 1, 1])], [(1, .lp 0 0), (4, .io .i64 (↑i : Int)), (5, .lp 1 0), (59, .v (.bool false)), (62, .v (.bool true)), (64, .sl (some b) nk ck), (66, .io .i64 (IntKind.i64.wrap ((↑i : Int) - 1)))], [([.io .i64 g, .io .i64 s, .io .i64 k, .io .i64 sz, .io .i64 sl, .io .i64 of, .io .i64 gp, .io .i64 lt, .io .i64 ea, .bo d, .sl Bm nm cm, .sl (some b) nk ck], 58), ([.so key, .io .i64 dr, .sl yA yn yc], 50)]⟩ (by kernel_rfl) (by kernel_rfl) ?_
                have hi0 : 0 < i := by
                  have h := of_decide_eq_true ‹decide ((i : Int) > 0) = true›
                  omega
                have hw1 : IntKind.i64.wrap ((i : Int) - 1) = ((i - 1 : Nat) : Int) := by
                  rw [wrap63 (by omega) (by omega)]
                  omega
                rw [hw1]
                obtain ⟨⟨key1, dr1, yA1, yn1, yc1, ws1⟩, hy⟩ : ∃ y, ks[i - 1]? = some y := ⟨_, List.getElem?_eq_getElem (by omega)⟩
                rw [prevk_pos hi0 hy] at h2
                refine At.idx b nk 3 ((i - 1 : Nat) : Int) (by kernel_rfl) (by omega) (by omega) noF_stable ?_
                refine At.fax (b.add (((i - 1 : Nat) : Int).toNat * 3)) 0 (by kernel_rfl) noF_stable ?_
                refine At.ldx ((b.add (((i - 1 : Nat) : Int).toNat * 3)).add 0) (.so key1) (by kernel_rfl) noF_stable (fun ρ w1 hm hf => by rw [Int.toNat_natCast]; exact (hk0.below hm.below).cell hy 0 _ rfl) ?_
                refine At.to (noF_stable) (noF_fewer) 0 200 [1, 4, 74] 1 ⟨.code (sub B26 [1, 1, 1, 1, 0, 1, 4, 4, 1, 0, 4, 1, 1]), [.block 3, .seq (sub B26 [1, 1, 1, 1, 0, 1, 4, 4, 1, 1]), .next (Sx.Next w.heap.size w Tryd.f26.ntmps frSr (locSt g s k sz sl of gp lt ea d Bm nm cm (some b) nk ck) (GSt k nk ks R) (muKy nk) i), .block 2, .seq (sub B26 [1, 1, 1, 1, 1])], [(1, .lp 0 0), (4, .io .i64 (↑i : Int)), (74, .bo !Op.bytesLess key1.toList key.toList)], [([.io .i64 g, .io .i64 s, .io .i64 k, .io .i64 sz, .io .i64 sl, .io .i64 of, .io .i64 gp, .io .i64 lt, .io .i64 ea, .bo d, .sl Bm nm cm, .sl (some b) nk ck], 58)]⟩ (by kernel_rfl) (by kernel_rfl) ?_
                rcases Bool.eq_false_or_eq_true (!Op.bytesLess key1.toList key.toList) with b0 | b0
                · refine At.res 74 (!Op.bytesLess key1.toList key.toList) true (by kernel_rfl) b0 ?_
                  refine At.to (noF_stable) (noF_fewer) 0 200 [2] 0 ⟨.exit .ret, [], [(2, .v (.int .i64 6))], []⟩ (by kernel_rfl) (by kernel_rfl) ?_
                  refine At.ret (by kernel_rfl) (.v (.int .i64 6)) (by kernel_rfl) ?_
                  try simp only [Bool.not_eq_true', Bool.not_eq_false'] at *
                  simp only [stGo, prK, *, BEq.rfl, Bool.not_true, Bool.not_false, Bool.true_and, Bool.and_true, Bool.false_and, Bool.and_false] at h2
                  intro ρ w9 hm _
                  exact ⟨by rw [← h2]; rfl, hm.below⟩
                · refine At.res 74 (!Op.bytesLess key1.toList key.toList) false (by kernel_rfl) b0 ?_
                  refine At.to (noF_stable) (noF_fewer) 0 200 [1, 4] 1 ⟨.exit .normal, [.next (Sx.Next w.heap.size w Tryd.f26.ntmps frSr (locSt g s k sz sl of gp lt ea d Bm nm cm (some b) nk ck) (GSt k nk ks R) (muKy nk) i), .block 2, .seq (sub B26 [1, 1, 1, 1, 1])], [(1, .lp 0 0), (4, .io .i64 (IntKind.i64.wrap ((↑i : Int) + 1)))], [([.io .i64 g, .io .i64 s, .io .i64 k, .io .i64 sz, .io .i64 sl, .io .i64 of, .io .i64 gp, .io .i64 lt, .io .i64 ea, .bo d, .sl Bm nm cm, .sl (some b) nk ck], 58)]⟩ (by kernel_rfl) (by kernel_rfl) ?_
                  try simp only [Bool.not_eq_true', Bool.not_eq_false'] at *
                  simp only [stGo, prK, *, BEq.rfl, Bool.not_true, Bool.not_false, Bool.true_and, Bool.and_true, Bool.false_and, Bool.and_false] at h2
                  have hw2 : IntKind.i64.wrap ((i : Int) + 1) = ((i + 1 : Nat) : Int) := by
                    rw [wrap63 (by omega) (by omega)]
                    omega
                  rw [hw2]
                  refine At.next (σ := Nat) (i + 1) rfl rfl (by unfold subFr; kernel_rfl) (by kernel_rfl) ?_ ?_
                  · intro ρ a w' hi' hf
                    exact ⟨hf, by omega, by rw [prevk_pos (Nat.succ_pos i) hx]; exact h2⟩
                  · unfold muKy
                    omega
              · refine At.res 62 (decide ((↑i : Int) > 0)) false (by kernel_rfl) b3 ?_
                refine At.to (noF_stable) (noF_fewer) 0 200 [1, 4] 1 ⟨.exit .normal, [.next (Sx.Next w.heap.size w Tryd.f26.ntmps frSr (locSt g s k sz sl of gp lt ea d Bm nm cm (some b) nk ck) (GSt k nk ks R) (muKy nk) i), .block 2, .seq (sub B26 [1, 1, 1, 1, 1])], [(1, .lp 0 0), (4, .io .i64 (IntKind.i64.wrap ((↑i : Int) + 1)))], [([.io .i64 g, .io .i64 s, .io .i64 k, .io .i64 sz, .io .i64 sl, .io .i64 of, .io .i64 gp, .io .i64 lt, .io .i64 ea, .bo d, .sl Bm nm cm, .sl (some b) nk ck], 58)]⟩ (by kernel_rfl) (by kernel_rfl) ?_
                have hi0 : i = 0 := by
                  have h := of_decide_eq_false ‹decide ((i : Int) > 0) = false›
                  omega
                have hp : prevAtK ks i = none := by rw [hi0]; rfl
                rw [hp] at h2
                clear hp hi0

                try simp only [Bool.not_eq_true', Bool.not_eq_false'] at *
                simp only [stGo, prK, *, BEq.rfl, Bool.not_true, Bool.not_false, Bool.true_and, Bool.and_true, Bool.false_and, Bool.and_false] at h2
                have hw2 : IntKind.i64.wrap ((i : Int) + 1) = ((i + 1 : Nat) : Int) := by
                  rw [wrap63 (by omega) (by omega)]
                  omega
                rw [hw2]
                refine At.next (σ := Nat) (i + 1) rfl rfl (by unfold subFr; kernel_rfl) (by kernel_rfl) ?_ ?_
                · intro ρ a w' hi' hf
                  exact ⟨hf, by omega, by rw [prevk_pos (Nat.succ_pos i) hx]; exact h2⟩
                · unfold muKy
                  omega
          | false =>
            have he : keyE 0 k key dr ws = 6 := (keys_alike k key dr ws).trans (by rw [hr]; rfl)
            refine At.call noF_stable 22 [.agg (cfgL g s k sz sl of gp lt ea d), .agg [.so key, .io .i64 dr, .sl yA yn yc]] (.v (.bool false)) (by kernel_rfl) (by kernel_rfl) (by kernel_rfl) (fun ρ _ w1 hi _ => ?_) ?_
            · have hk := rkey_any g s k sz sl of gp lt ea d key dr yA yn yc ws hyn w1 (hyw.below hi.mem.below)
              rw [hr] at hk
              exact hk
            refine At.to (noF_stable) (noF_fewer) 0 200 [2] 0 ⟨.exit .ret, [], [(2, .v (.int .i64 6))], []⟩ (by kernel_rfl) (by kernel_rfl) ?_
            refine At.ret (by kernel_rfl) (.v (.int .i64 6)) (by kernel_rfl) ?_
            simp only [stGo, he] at h2
            rw [show ((6 : Int) == 0) = false from rfl, Bool.false_and] at h2
            intro ρ w9 hm _
            exact ⟨by rw [← h2]; rfl, hm.below⟩
        · refine At.res 35 (decide ((↑i : Int) < (↑nk : Int))) false (by kernel_rfl) b0 ?_
          refine At.to (noF_stable) (noF_fewer) 0 200 [2] 0 ⟨.exit .ret, [], [(2, .v (.int .i64 0))], []⟩ (by kernel_rfl) (by kernel_rfl) ?_
          refine At.ret (by kernel_rfl) (.v (.int .i64 0)) (by kernel_rfl) ?_
          have hi : ¬ (i : Int) < nk := of_decide_eq_false b0
          have hd : ks.drop i = [] := List.drop_eq_nil_of_le (by omega)
          rw [hd] at h2
          intro ρ w9 hm _
          exact ⟨by rw [← h2]; rfl, hm.below⟩

end Go.Proofs.YtiehnigbcfkcdaaDoor
