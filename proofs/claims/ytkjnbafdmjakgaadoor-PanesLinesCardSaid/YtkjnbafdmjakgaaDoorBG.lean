import Derived.Test.YtkjnbafdmjakgaaDoorBN
import Derived.Test.YtkjnbafdmjakgaaDoorKB
set_option linter.unusedSimpArgs false
set_option linter.unusedVariables false
namespace Go.Proofs.YtkjnbafdmjakgaaDoor
open Go.RowKit Go.Sx

theorem MapF.fewerK {m : Nat} {es : Array MapEntry} {clk : Nat} : FewerK 0 (MapF m es clk) := fun ρ w k _ h => h.fewer k
/-- A map, and a row beside it. -/
def MapR (m : Nat) (es : Array MapEntry) (clk base e size : Nat) (A : Option Addr) (n c : Nat) (xs : List Value) (ρ : List Nat) (w : World) : Prop := MapF m es clk ρ w ∧ Row base e size A n c xs ρ w ∧ base ≤ w.heap.size
theorem MapR.stable {m : Nat} {es : Array MapEntry} {clk base e size : Nat} {A : Option Addr} {n c : Nat} {xs : List Value} : Stable (MapR m es clk base e size A n c xs) := fun ρ w ρ' w' hg hk h => ⟨MapF.stable ρ w ρ' w' hg hk h.1, h.2.1.keep hg hk, Nat.le_trans h.2.2 hk.size⟩
theorem MapR.fewer {m : Nat} {es : Array MapEntry} {clk base e size : Nat} {A : Option Addr} {n c : Nat} {xs : List Value} : FewerK 0 (MapR m es clk base e size A n c xs) := fun ρ w k _ h => ⟨h.1.fewer k, Row.fewer _ _ _ _ _ _ _ ρ w k h.2.1, h.2.2⟩
theorem MapR.set {m : Nat} {es : Array MapEntry} {clk base e size : Nat} {A : Option Addr} {n c : Nat} {xs : List Value} {ρ : List Nat} {w : World} (h : MapR m es clk base e size A n c xs ρ w) {es' : Array MapEntry} {clk' : Nat} : MapR m es' clk' base e size A n c xs ρ { w with heap := w.heap.setIfInBounds m (.map es' clk') } :=
  ⟨h.1.set es' clk', h.2.1.setMap h.1.1 _, by simpa using h.2.2⟩
theorem row_is {base e size n c : Nat} {A : Option Addr} {xs : List Value} {ρ : List Nat} {w : World} (h : Row base e size A n c xs ρ w) (hn : 0 < n) : (∃ a, A = some a) ∧ n ≤ c := by
  rcases h.1.2 with ⟨_, h'⟩ | ⟨g, cap, cur, hv, _, _, hnc, _⟩
  · omega
  · injection hv with hv _ hcc
    exact ⟨⟨_, hv⟩, by omega⟩
/-- The one pane of 'known'. -/
def one : List SV := [.v (.string ⟨#[97]⟩), .v (.int .i64 0), .v (.int .i64 10), .v (.int .i64 3), .v (.int .i64 2), .v (.int .i64 3), .v (.int .i64 6), .v (.int .i64 (-2)), .v (.int .i64 7)]
def oneV : List Value := SV.denL [] one
theorem one_den (ρ : List Nat) : SV.denL ρ one = oneV := rfl
theorem one_cell {w w1 : World} {a j : Nat} {ρ : List Nat} {v : Value} {t : TypeId} (h : w.heap[a]? = some (.cells oneV.toArray t (0, 0))) (hb : Below w.heap.size w w1) (hj : (SV.denL ρ one)[j]? = some v) : w1.cell? (((⟨a, 0, none⟩ : Addr).add ((0 : Int).toNat * 9)).add j) = some v := by
  rw [one_den] at hj
  rw [add_ok, add_ok]
  unfold World.cell?
  rw [hb.block a (Array.getElem?_eq_some_iff.1 h).1, h]
  simpa using hj
theorem row_one {w : World} {base e c j : Nat} {r : Addr} {ρ ρ' : List Nat} {v : Value} (h : Row base e 9 (some r) 1 c oneV ρ w) (hj : (SV.denL ρ' one)[j]? = some v) : w.cell? ((r.add ((0 : Int).toNat * 9)).add j) = some v := by
  rw [one_den] at hj
  have hlt : j < 1 * 9 := by
    have := (List.getElem?_eq_some_iff.1 hj).1
    have hl : oneV.length = 9 := rfl
    omega
  obtain ⟨g, hg, hc⟩ := h.cell (j := j) hlt
  injection hg with hg
  subst hg
  rw [add_ok, add_ok, show 0 + (0 : Int).toNat * 9 + j = j by simp, hc, hj]
section
variable {P : Program} {Q : Exit → Act → World → Prop} {N : Nat} {w0 : World} {ntm : Nat} {F : List Nat → World → Prop}
theorem run_slLx {ρ : List Nat} {fr : Fr} {act : Act} (ha : AInv ntm ρ fr act) {o : Oper} {a : Addr} {n c size : Nat} {l : Int} (hq : slLQ P fr o = some (a, n, c, l, size)) (h0 : 0 ≤ l) (h1 : l ≤ n) (w : World) :
    (execOp act.eval o).run P w = .ok (.value (.slice (if c = l.toNat then some a else some (a.add (l.toNat * size))) (n - l.toNat) (c - l.toNat))) w := by
  obtain ⟨dst, op, ty, pos, after, guard⟩ := o
  unfold slLQ at hq
  simp only at hq
  split at hq
  · rename_i t x lo
    split at hq
    · rename_i e a' n' c' k l' lf hu hx hlo
      obtain ⟨sl, hsl, hll⟩ := Option.bind_eq_some_iff.1 hlo
      have hel : P.underlying t = some (.slice (P.elem t)) := by simp [Program.elem, hu]
      have hel2 : P.elem t = e := by simp [Program.elem, hu]
      split at hq
      · rename_i size' hs
        simp only [Option.some.injEq, Prod.mk.injEq] at hq
        obtain ⟨rfl, rfl, rfl, rfl, rfl⟩ := hq
        have := run_slice_l (P := P) w t (some a') n' c' hel k l' h0 h1
        rw [hel2] at this
        simp [execOp, evalS_sound ha hx, evalS_sound ha hsl, litOf_den hll, SV.den, run_sliceAt_slice w t _ _ _ _ hel, this, run_sizeT hs, sliced, Result.andThen]
      · cases hq
    · cases hq
  · cases hq
/-- The rest of a slice that lies outside, be it empty to its end. -/
theorem At.slLx {s : S} (a : Addr) (n c : Nat) (l : Int) (size : Nat) (r : SV) (hq : slLI P ntm s = some (a, n, c, l, size)) (hF : Stable F) (h0 : 0 ≤ l) (h1 : l ≤ n) (hr : ∀ ρ, r.den ρ = .slice (if c = l.toNat then some a else some (a.add (l.toNat * size))) (n - l.toNat) (c - l.toNat))
    (hk : At P Q N w0 ntm F (s.tail ntm r)) : At P Q N w0 ntm F s := by
  unfold slLI at hq
  split at hq
  · rename_i o ho hd
    exact At.op hF o r ho hd (fun ρ act w hi _ => by rw [hr]; exact run_slLx hi.act hq h0 h1 w) hk
  · cases hq
def appI (ntm : Nat) (s : S) : Option (TypeId × SV × SV) := match s.head?, s.dstOk ntm, s.plain with
  | some o, true, true => appS s.fr o
  | _, _, _ => none
/-- An element put behind nothing, while a map stands beside. -/
theorem At.appM {s : S} {mm : Nat} {es : Array MapEntry} {clk : Nat} (t e size bytes : Nat) (i off k : Nat) (cells : List SV) (ct : TypeId) (news : List Value) (hq : appI ntm s = some (t, .sl none 0 0, .ls i off 1 k)) (ht : elemT P t = some (e, size, bytes)) (hl : s.loc[i]? = some (cells, ct))
    (hle : off + 1 * size ≤ cells.length) (hone : oneL ((cells.drop off).take (1 * size)) = true) (hbytes : (0 + 1) * bytes ≤ 140737488355328) (hN : N ≤ mm) (hnews : ∀ ρ, SV.denL ρ ((cells.drop off).take (1 * size)) = news)
    (h : ∀ x : Option Addr × Nat, At P Q N w0 ntm (MapR mm es clk N e size x.1 1 x.2 news) (s.tail ntm (.sl x.1 1 x.2))) : At P Q N w0 ntm (MapF mm es clk) s := by
  unfold appI at hq
  split at hq
  · rename_i o ho hd hp
    refine At.append o t e size bytes N none 0 0 [] i off 1 k cells ct ho hd hp hq ht hl hle hone hbytes (by decide) (Nat.le_refl _) (MapF mm es clk) (MapF mm es clk) (fun ρ w h => ⟨Row.nil _ _ _ _ _, Nat.le_of_lt (Nat.lt_of_le_of_lt hN (Array.getElem?_eq_some_iff.1 h.1).1), h⟩) (fun ρ w w' h hg => ⟨(hg.block mm (Array.getElem?_eq_some_iff.1 h.1).1 (by simp [Value.ownBlock])).trans h.1, h.2⟩) news hnews (fun x => ?_)
    exact At.mono (fun ρ w h => ⟨h.2.2, h.1, h.2.1⟩) (h x)
  · cases hq
end

noncomputable def B26 : Code := (Tryd.f26.body).getD .skip
set_option maxHeartbeats 20000000 in
set_option maxRecDepth 100000 in
theorem begins_one (a b : Nat) (w : World) (ha : w.heap[a]? = some (.cells oneV.toArray 29 (0, 0))) (hb : w.heap[b]? = some (.cells oneV.toArray 29 (0, 0))) :
    Calls Tryd.prog 26 #[.slice (some ⟨a, 0, none⟩) 1 1, .slice (some ⟨b, 0, none⟩) 1 1] w fun e w' => e = .returned (.bool true) ∧ Below w.heap.size w w' := by
  refine enter (fn := Tryd.f26) (c := B26) [.sl (some ⟨a, 0, none⟩) 1 1, .sl (some ⟨b, 0, none⟩) 1 1] Tryd.func26 rfl rfl ?_
  refine At.to (noF_stable) (noF_fewer) 20 300 [0, 1] 0 ⟨pops B26 [1, 0] 0, [.seq (sub B26 [1, 1])], [(0, .sl (some (Addr.mk a 0 none)) 1 1), (1, .sl (some (Addr.mk b 0 none)) 1 1)], []⟩ (by kernel_rfl) (by kernel_rfl) ?_
  refine At.mkMap (by kernel_rfl) noF_stable (fun m hN => ?_)
  refine At.mono (F' := MapF m #[] 0) (fun ρ w h => h.2) ?_
  refine At.toJ (MapF.stable) MapF.fewerK 20 300 [0, 5, 12, 13, 14, 15] 0 ⟨.code (sub B26 [1, 1, 0, 1, 4, 4, 1, 0]), [.seq (sub B26 [1, 1, 0, 1, 4, 4, 1, 1]), .rounds (sub B26 [1, 1, 0, 1, 4, 4]) 19, .block 0, .seq (sub B26 [1, 1, 1])], [(0, .sl (some (Addr.mk a 0 none)) 1 1), (5, .v (.map (some m))), (12, .sl (some (Addr.mk b 0 none)) 1 1), (13, .io .i64 1), (14, .v (.int .i64 0)), (15, .bo true)], []⟩ (by kernel_rfl) (by kernel_rfl) ?_
  refine At.res 15 (true) true (by kernel_rfl) (by first | assumption | (simp only [*]; done) | (simp [*]; done)) ?_
  refine At.toJ (MapF.stable) MapF.fewerK 20 300 [0, 5, 12, 13, 14] 0 ⟨pops B26 [1, 1, 0, 1, 4, 4, 1, 1, 0, 4, 0] 0, [.seq (sub B26 [1, 1, 0, 1, 4, 4, 1, 1, 0, 4, 1]), .block 1, .seq (sub B26 [1, 1, 0, 1, 4, 4, 1, 1, 1]), .rounds (sub B26 [1, 1, 0, 1, 4, 4]) 19, .block 0, .seq (sub B26 [1, 1, 1])], [(0, .sl (some (Addr.mk a 0 none)) 1 1), (5, .v (.map (some m))), (12, .sl (some (Addr.mk b 0 none)) 1 1), (13, .io .i64 1), (14, .v (.int .i64 0))], []⟩ (by kernel_rfl) (by kernel_rfl) ?_
  refine At.idx ⟨b, 0, none⟩ 1 9 0 (by kernel_rfl) (by decide) (by decide) MapF.stable ?_
  refine At.lda ((⟨b, 0, none⟩ : Addr).add ((0 : Int).toNat * 9)) 9 one (by kernel_rfl) rfl MapF.stable (fun ρ w1 hm' hf j v hj => one_cell hb hm'.below hj) ?_
  refine At.toJ (MapF.stable) MapF.fewerK 20 300 [0, 5, 7, 12, 13, 14] 1 ⟨.any (opsOf (sub B26 [1, 1, 0, 1, 4, 4, 1, 1, 0, 4, 1])) 11 [], [.block 1, .seq (sub B26 [1, 1, 0, 1, 4, 4, 1, 1, 1]), .rounds (sub B26 [1, 1, 0, 1, 4, 4]) 19, .block 0, .seq (sub B26 [1, 1, 1])], [(0, .sl (some (Addr.mk a 0 none)) 1 1), (5, .v (.map (some m))), (7, .lp 0 0), (12, .sl (some (Addr.mk b 0 none)) 1 1), (13, .io .i64 1), (14, .v (.int .i64 0))], [([.v (.string (ByteArray.mk #[97])), .v (.int .i64 0), .v (.int .i64 10), .v (.int .i64 3), .v (.int .i64 2), .v (.int .i64 3), .v (.int .i64 6), .v (.int .i64 (-2)), .v (.int .i64 7)], 29)]⟩ (by kernel_rfl) (by kernel_rfl) ?_
  refine At.cutN (σ := Option Addr × Nat) (fun x => [(0, .sl (some ⟨a, 0, none⟩) 1 1), (5, .v (.map (some m))), (13, .io .i64 1), (14, .v (.int .i64 0))]) (fun _ => []) (fun x => MapR m #[{ key := .string ⟨#[97]⟩, val := .slice x.1 1 x.2, born := 0 }] 1 w.heap.size 29 9 x.1 1 x.2 oneV) rfl ?_ (fun x => ?_)
  · refine At.purify0 (fun e a w h => h.1) 20 ?_
    refine At.takeLoad (fun e a w h => h.1) 5 (.v (.string ⟨#[97]⟩)) [6, 9, 10] (by kernel_rfl) (by kernel_rfl) (by kernel_rfl) ?_
    refine At.takeLk (fun e a w h => h.1) 6 (.v (.slice none 0 0)) [9, 10] m (.v (.string ⟨#[97]⟩)) (.slice none 0 0) ⟨#[97]⟩ #[] 0 none (by kernel_rfl) (by kernel_rfl) (by kernel_rfl) (fun _ => rfl) rfl (fun _ => rfl) (fun ρ w h => h) ?_
    refine At.takeLoad (fun e a w h => h.1) 7 (.agg one) [8, 9, 10] (by kernel_rfl) (by kernel_rfl) (by kernel_rfl) ?_
    refine At.purify0 (fun e a w h => h.1) 20 ?_
    refine At.toJ (MapF.stable) MapF.fewerK 20 300 [0, 5, 13, 14, 18, 19, 24, 25] 1 ⟨.any (opsOf (sub B26 [1, 1, 0, 1, 4, 4, 1, 1, 0, 4, 1])) 4 [7, 6, 5, 4, 3, 1, 0], [], [(0, .sl (some (Addr.mk a 0 none)) 1 1), (5, .v (.map (some m))), (13, .io .i64 1), (14, .v (.int .i64 0)), (18, .v (.map (some m))), (19, .lp 0 0), (24, .v (.slice none 0 0)), (25, .agg [.v (.string (ByteArray.mk #[97])), .v (.int .i64 0), .v (.int .i64 10), .v (.int .i64 3), .v (.int .i64 2), .v (.int .i64 3), .v (.int .i64 6), .v (.int .i64 (-2)), .v (.int .i64 7)])], [([.v (.string (ByteArray.mk #[97])), .v (.int .i64 0), .v (.int .i64 10), .v (.int .i64 3), .v (.int .i64 2), .v (.int .i64 3), .v (.int .i64 6), .v (.int .i64 (-2)), .v (.int .i64 7)], 29)]⟩ (by kernel_rfl) (by kernel_rfl) ?_
    refine At.fork [2, 8] rfl (by kernel_rfl) rfl (allOf.cons ?_ (allOf.cons ?_ allOf.nil))
    · refine At.toJ (MapF.stable) MapF.fewerK 20 300 [0, 5, 13, 14, 18, 20, 24, 26] 2 ⟨.ops (opsOf (sub B26 [1, 1, 0, 1, 4, 4, 1, 1, 0, 4, 1])) (((opsOf (sub B26 [1, 1, 0, 1, 4, 4, 1, 1, 0, 4, 1])).toList.drop 9).take 1), [.any (opsOf (sub B26 [1, 1, 0, 1, 4, 4, 1, 1, 0, 4, 1])) 1 [9, 8, 2, 7, 6, 5, 4, 3, 1, 0]], [(0, .sl (some (Addr.mk a 0 none)) 1 1), (5, .v (.map (some m))), (13, .io .i64 1), (14, .v (.int .i64 0)), (18, .v (.map (some m))), (20, .v (.string (ByteArray.mk #[97]))), (24, .v (.slice none 0 0)), (26, .ls 1 0 1 1)], [([.v (.string (ByteArray.mk #[97])), .v (.int .i64 0), .v (.int .i64 10), .v (.int .i64 3), .v (.int .i64 2), .v (.int .i64 3), .v (.int .i64 6), .v (.int .i64 (-2)), .v (.int .i64 7)], 29), ([.v (.string (ByteArray.mk #[97])), .v (.int .i64 0), .v (.int .i64 10), .v (.int .i64 3), .v (.int .i64 2), .v (.int .i64 3), .v (.int .i64 6), .v (.int .i64 (-2)), .v (.int .i64 7)], 29)]⟩ (by kernel_rfl) (by kernel_rfl) ?_
      refine At.appM 35 29 9 80 1 0 1 one 29 oneV (by kernel_rfl) (by kernel_rfl) rfl (by decide) (by kernel_rfl) (by decide) hN (fun _ => rfl) (fun x => ?_)
      refine At.toJ (MapR.stable) MapR.fewer 20 300 [0, 5, 13, 14, 18, 20, 27] 0 ⟨.ops (opsOf (sub B26 [1, 1, 0, 1, 4, 4, 1, 1, 0, 4, 1])) (((opsOf (sub B26 [1, 1, 0, 1, 4, 4, 1, 1, 0, 4, 1])).toList.drop 10).take 1), [.any (opsOf (sub B26 [1, 1, 0, 1, 4, 4, 1, 1, 0, 4, 1])) 0 [10, 9, 8, 2, 7, 6, 5, 4, 3, 1, 0]], [(0, .sl (some (Addr.mk a 0 none)) 1 1), (5, .v (.map (some m))), (13, .io .i64 1), (14, .v (.int .i64 0)), (18, .v (.map (some m))), (20, .v (.string (ByteArray.mk #[97]))), (27, .sl x.fst 1 x.snd)], []⟩ (by kernel_rfl) (by kernel_rfl) ?_
      refine At.mapPut m (.v (.string ⟨#[97]⟩)) (.sl x.1 1 x.2) ⟨#[97]⟩ (.slice x.1 1 x.2) [] 0 #[{ key := .string ⟨#[97]⟩, val := .slice x.1 1 x.2, born := 0 }] 1 (by kernel_rfl) (fun _ => rfl) (fun _ => rfl) rfl hN (fun ρ w h => h.1) (fun ρ w h => MapR.set h) ?_
      refine At.toJ (MapR.stable) MapR.fewer 20 300 [0, 5, 13, 14] 0 ⟨.exit .normal, [], [(0, .sl (some (Addr.mk a 0 none)) 1 1), (5, .v (.map (some m))), (13, .io .i64 1), (14, .v (.int .i64 0))], []⟩ (by kernel_rfl) (by kernel_rfl) ?_
      exact At.fin x rfl rfl (by unfold subFr; kernel_rfl) rfl (fun _ _ _ _ h => h)
    · refine At.toJ (MapF.stable) MapF.fewerK 20 300 [0, 5, 13, 14, 18, 19, 24, 26] 2 ⟨.any (opsOf (sub B26 [1, 1, 0, 1, 4, 4, 1, 1, 0, 4, 1])) 3 [8, 7, 6, 5, 4, 3, 1, 0], [], [(0, .sl (some (Addr.mk a 0 none)) 1 1), (5, .v (.map (some m))), (13, .io .i64 1), (14, .v (.int .i64 0)), (18, .v (.map (some m))), (19, .lp 0 0), (24, .v (.slice none 0 0)), (26, .ls 1 0 1 1)], [([.v (.string (ByteArray.mk #[97])), .v (.int .i64 0), .v (.int .i64 10), .v (.int .i64 3), .v (.int .i64 2), .v (.int .i64 3), .v (.int .i64 6), .v (.int .i64 (-2)), .v (.int .i64 7)], 29), ([.v (.string (ByteArray.mk #[97])), .v (.int .i64 0), .v (.int .i64 10), .v (.int .i64 3), .v (.int .i64 2), .v (.int .i64 3), .v (.int .i64 6), .v (.int .i64 (-2)), .v (.int .i64 7)], 29)]⟩ (by kernel_rfl) (by kernel_rfl) ?_
      refine At.fork [2, 9] rfl (by kernel_rfl) rfl (allOf.cons ?_ (allOf.cons ?_ allOf.nil))
      · refine At.toJ (MapF.stable) MapF.fewerK 20 300 [0, 5, 13, 14, 18, 20, 24, 26] 2 ⟨.ops (opsOf (sub B26 [1, 1, 0, 1, 4, 4, 1, 1, 0, 4, 1])) (((opsOf (sub B26 [1, 1, 0, 1, 4, 4, 1, 1, 0, 4, 1])).toList.drop 9).take 1), [.any (opsOf (sub B26 [1, 1, 0, 1, 4, 4, 1, 1, 0, 4, 1])) 1 [9, 2, 8, 7, 6, 5, 4, 3, 1, 0]], [(0, .sl (some (Addr.mk a 0 none)) 1 1), (5, .v (.map (some m))), (13, .io .i64 1), (14, .v (.int .i64 0)), (18, .v (.map (some m))), (20, .v (.string (ByteArray.mk #[97]))), (24, .v (.slice none 0 0)), (26, .ls 1 0 1 1)], [([.v (.string (ByteArray.mk #[97])), .v (.int .i64 0), .v (.int .i64 10), .v (.int .i64 3), .v (.int .i64 2), .v (.int .i64 3), .v (.int .i64 6), .v (.int .i64 (-2)), .v (.int .i64 7)], 29), ([.v (.string (ByteArray.mk #[97])), .v (.int .i64 0), .v (.int .i64 10), .v (.int .i64 3), .v (.int .i64 2), .v (.int .i64 3), .v (.int .i64 6), .v (.int .i64 (-2)), .v (.int .i64 7)], 29)]⟩ (by kernel_rfl) (by kernel_rfl) ?_
        refine At.appM 35 29 9 80 1 0 1 one 29 oneV (by kernel_rfl) (by kernel_rfl) rfl (by decide) (by kernel_rfl) (by decide) hN (fun _ => rfl) (fun x => ?_)
        refine At.toJ (MapR.stable) MapR.fewer 20 300 [0, 5, 13, 14, 18, 20, 27] 0 ⟨.ops (opsOf (sub B26 [1, 1, 0, 1, 4, 4, 1, 1, 0, 4, 1])) (((opsOf (sub B26 [1, 1, 0, 1, 4, 4, 1, 1, 0, 4, 1])).toList.drop 10).take 1), [.any (opsOf (sub B26 [1, 1, 0, 1, 4, 4, 1, 1, 0, 4, 1])) 0 [10, 9, 2, 8, 7, 6, 5, 4, 3, 1, 0]], [(0, .sl (some (Addr.mk a 0 none)) 1 1), (5, .v (.map (some m))), (13, .io .i64 1), (14, .v (.int .i64 0)), (18, .v (.map (some m))), (20, .v (.string (ByteArray.mk #[97]))), (27, .sl x.fst 1 x.snd)], []⟩ (by kernel_rfl) (by kernel_rfl) ?_
        refine At.mapPut m (.v (.string ⟨#[97]⟩)) (.sl x.1 1 x.2) ⟨#[97]⟩ (.slice x.1 1 x.2) [] 0 #[{ key := .string ⟨#[97]⟩, val := .slice x.1 1 x.2, born := 0 }] 1 (by kernel_rfl) (fun _ => rfl) (fun _ => rfl) rfl hN (fun ρ w h => h.1) (fun ρ w h => MapR.set h) ?_
        refine At.toJ (MapR.stable) MapR.fewer 20 300 [0, 5, 13, 14] 0 ⟨.exit .normal, [], [(0, .sl (some (Addr.mk a 0 none)) 1 1), (5, .v (.map (some m))), (13, .io .i64 1), (14, .v (.int .i64 0))], []⟩ (by kernel_rfl) (by kernel_rfl) ?_
        exact At.fin x rfl rfl (by unfold subFr; kernel_rfl) rfl (fun _ _ _ _ h => h)
      · refine At.toJ (MapF.stable) MapF.fewerK 20 300 [0, 5, 13, 14, 18, 19, 24, 26] 2 ⟨.ops (opsOf (sub B26 [1, 1, 0, 1, 4, 4, 1, 1, 0, 4, 1])) (((opsOf (sub B26 [1, 1, 0, 1, 4, 4, 1, 1, 0, 4, 1])).toList.drop 9).take 1), [.any (opsOf (sub B26 [1, 1, 0, 1, 4, 4, 1, 1, 0, 4, 1])) 2 [9, 8, 7, 6, 5, 4, 3, 1, 0]], [(0, .sl (some (Addr.mk a 0 none)) 1 1), (5, .v (.map (some m))), (13, .io .i64 1), (14, .v (.int .i64 0)), (18, .v (.map (some m))), (19, .lp 0 0), (24, .v (.slice none 0 0)), (26, .ls 1 0 1 1)], [([.v (.string (ByteArray.mk #[97])), .v (.int .i64 0), .v (.int .i64 10), .v (.int .i64 3), .v (.int .i64 2), .v (.int .i64 3), .v (.int .i64 6), .v (.int .i64 (-2)), .v (.int .i64 7)], 29), ([.v (.string (ByteArray.mk #[97])), .v (.int .i64 0), .v (.int .i64 10), .v (.int .i64 3), .v (.int .i64 2), .v (.int .i64 3), .v (.int .i64 6), .v (.int .i64 (-2)), .v (.int .i64 7)], 29)]⟩ (by kernel_rfl) (by kernel_rfl) ?_
        refine At.appM 35 29 9 80 1 0 1 one 29 oneV (by kernel_rfl) (by kernel_rfl) rfl (by decide) (by kernel_rfl) (by decide) hN (fun _ => rfl) (fun x => ?_)
        refine At.toJ (MapR.stable) MapR.fewer 20 300 [0, 5, 13, 14, 18, 20, 27] 0 ⟨.ops (opsOf (sub B26 [1, 1, 0, 1, 4, 4, 1, 1, 0, 4, 1])) (((opsOf (sub B26 [1, 1, 0, 1, 4, 4, 1, 1, 0, 4, 1])).toList.drop 10).take 1), [.any (opsOf (sub B26 [1, 1, 0, 1, 4, 4, 1, 1, 0, 4, 1])) 0 [10, 2, 9, 8, 7, 6, 5, 4, 3, 1, 0]], [(0, .sl (some (Addr.mk a 0 none)) 1 1), (5, .v (.map (some m))), (13, .io .i64 1), (14, .v (.int .i64 0)), (18, .v (.map (some m))), (20, .v (.string (ByteArray.mk #[97]))), (27, .sl x.fst 1 x.snd)], []⟩ (by kernel_rfl) (by kernel_rfl) ?_
        refine At.mapPut m (.v (.string ⟨#[97]⟩)) (.sl x.1 1 x.2) ⟨#[97]⟩ (.slice x.1 1 x.2) [] 0 #[{ key := .string ⟨#[97]⟩, val := .slice x.1 1 x.2, born := 0 }] 1 (by kernel_rfl) (fun _ => rfl) (fun _ => rfl) rfl hN (fun ρ w h => h.1) (fun ρ w h => MapR.set h) ?_
        refine At.toJ (MapR.stable) MapR.fewer 20 300 [0, 5, 13, 14] 0 ⟨.exit .normal, [], [(0, .sl (some (Addr.mk a 0 none)) 1 1), (5, .v (.map (some m))), (13, .io .i64 1), (14, .v (.int .i64 0))], []⟩ (by kernel_rfl) (by kernel_rfl) ?_
        exact At.fin x rfl rfl (by unfold subFr; kernel_rfl) rfl (fun _ _ _ _ h => h)
  · obtain ⟨A, c⟩ := x
    dsimp only
    refine At.mono (F' := fun ρ w1 => MapR m #[{ key := .string ⟨#[97]⟩, val := .slice A 1 c, born := 0 }] 1 w.heap.size 29 9 A 1 c oneV ρ w1 ∧ ((∃ r, A = some r) ∧ 1 ≤ c)) (fun ρ w1 h => ⟨h, row_is h.2.1 (by decide)⟩) (At.pure ?_)
    rintro ⟨⟨r, rfl⟩, hc⟩
    refine At.toJ (MapR.stable) MapR.fewer 20 300 [0, 5, 13, 14, 15] 0 ⟨.code (sub B26 [1, 1, 0, 1, 4, 4, 1, 0]), [.seq (sub B26 [1, 1, 0, 1, 4, 4, 1, 1]), .rounds (sub B26 [1, 1, 0, 1, 4, 4]) 18, .block 0, .seq (sub B26 [1, 1, 1])], [(0, .sl (some (Addr.mk a 0 none)) 1 1), (5, .v (.map (some m))), (13, .io .i64 1), (14, .v (.int .i64 1)), (15, .bo false)], []⟩ (by kernel_rfl) (by kernel_rfl) ?_
    refine At.res 15 (false) false (by kernel_rfl) (by first | assumption | (simp only [*]; done) | (simp [*]; done)) ?_
    refine At.toJ (MapR.stable) MapR.fewer 20 300 [5, 29, 30, 31, 32] 0 ⟨.code (sub B26 [1, 1, 1, 0, 1, 4, 4, 1, 0]), [.seq (sub B26 [1, 1, 1, 0, 1, 4, 4, 1, 1]), .rounds (sub B26 [1, 1, 1, 0, 1, 4, 4]) 19, .block 2, .seq (sub B26 [1, 1, 1, 1])], [(5, .v (.map (some m))), (29, .sl (some (Addr.mk a 0 none)) 1 1), (30, .io .i64 1), (31, .v (.int .i64 0)), (32, .bo true)], []⟩ (by kernel_rfl) (by kernel_rfl) ?_
    refine At.res 32 (true) true (by kernel_rfl) (by first | assumption | (simp only [*]; done) | (simp [*]; done)) ?_
    refine At.toJ (MapR.stable) MapR.fewer 20 300 [5, 29, 30, 31] 0 ⟨pops B26 [1, 1, 1, 0, 1, 4, 4, 1, 1, 0, 4, 0] 0, [.seq (sub B26 [1, 1, 1, 0, 1, 4, 4, 1, 1, 0, 4, 1]), .block 3, .seq (sub B26 [1, 1, 1, 0, 1, 4, 4, 1, 1, 1]), .rounds (sub B26 [1, 1, 1, 0, 1, 4, 4]) 19, .block 2, .seq (sub B26 [1, 1, 1, 1])], [(5, .v (.map (some m))), (29, .sl (some (Addr.mk a 0 none)) 1 1), (30, .io .i64 1), (31, .v (.int .i64 0))], []⟩ (by kernel_rfl) (by kernel_rfl) ?_
    refine At.idx ⟨a, 0, none⟩ 1 9 0 (by kernel_rfl) (by decide) (by decide) MapR.stable ?_
    refine At.lda ((⟨a, 0, none⟩ : Addr).add ((0 : Int).toNat * 9)) 9 one (by kernel_rfl) rfl MapR.stable (fun ρ w1 hm' hf j v hj => one_cell ha hm'.below hj) ?_
    refine At.toJ (MapR.stable) MapR.fewer 20 300 [5, 9, 29, 30, 31, 35, 37] 1 ⟨pops B26 [1, 1, 1, 0, 1, 4, 4, 1, 1, 0, 4, 1, 0] 3, [.seq (sub B26 [1, 1, 1, 0, 1, 4, 4, 1, 1, 0, 4, 1, 1]), .block 3, .seq (sub B26 [1, 1, 1, 0, 1, 4, 4, 1, 1, 1]), .rounds (sub B26 [1, 1, 1, 0, 1, 4, 4]) 19, .block 2, .seq (sub B26 [1, 1, 1, 1])], [(5, .v (.map (some m))), (9, .lp 0 0), (29, .sl (some (Addr.mk a 0 none)) 1 1), (30, .io .i64 1), (31, .v (.int .i64 0)), (35, .v (.map (some m))), (37, .v (.string (ByteArray.mk #[97])))], [([.v (.string (ByteArray.mk #[97])), .v (.int .i64 0), .v (.int .i64 10), .v (.int .i64 3), .v (.int .i64 2), .v (.int .i64 3), .v (.int .i64 6), .v (.int .i64 (-2)), .v (.int .i64 7)], 29)]⟩ (by kernel_rfl) (by kernel_rfl) ?_
    refine At.lk m (.v (.string ⟨#[97]⟩)) (.slice none 0 0) ⟨#[97]⟩ #[{ key := .string ⟨#[97]⟩, val := .slice (some r) 1 c, born := 0 }] 1 (some (0, .slice (some r) 1 c)) (.sl (some r) 1 c) (by kernel_rfl) (fun _ => rfl) (by kernel_rfl) (fun _ => rfl) MapR.stable (fun ρ w h => h.1) ?_
    refine At.toJ (MapR.stable) MapR.fewer 20 300 [5, 9, 10, 29, 30, 31, 42] 1 ⟨pqops B26 [1, 1, 1, 0, 1, 4, 4, 1, 1, 0, 4, 1, 1, 0, 0] 4, [.seq (sub B26 [1, 1, 1, 0, 1, 4, 4, 1, 1, 0, 4, 1, 1, 0, 1]), .seq (sub B26 [1, 1, 1, 0, 1, 4, 4, 1, 1, 0, 4, 1, 1, 1]), .block 3, .seq (sub B26 [1, 1, 1, 0, 1, 4, 4, 1, 1, 1]), .rounds (sub B26 [1, 1, 1, 0, 1, 4, 4]) 19, .block 2, .seq (sub B26 [1, 1, 1, 1])], [(5, .v (.map (some m))), (9, .lp 0 0), (10, .sl (some r) 1 c), (29, .sl (some (Addr.mk a 0 none)) 1 1), (30, .io .i64 1), (31, .v (.int .i64 0)), (42, .bo false)], [([.v (.string (ByteArray.mk #[97])), .v (.int .i64 0), .v (.int .i64 10), .v (.int .i64 3), .v (.int .i64 2), .v (.int .i64 3), .v (.int .i64 6), .v (.int .i64 (-2)), .v (.int .i64 7)], 29)]⟩ (by kernel_rfl) (by kernel_rfl) ?_
    refine At.res 42 (false) false (by kernel_rfl) (by first | assumption | (simp only [*]; done) | (simp [*]; done)) ?_
    refine At.toJ (MapR.stable) MapR.fewer 20 300 [5, 9, 10, 29, 30, 31, 42, 43] 1 ⟨pqops B26 [1, 1, 1, 0, 1, 4, 4, 1, 1, 0, 4, 1, 1, 0, 0] 5, [.seq (sub B26 [1, 1, 1, 0, 1, 4, 4, 1, 1, 0, 4, 1, 1, 0, 1]), .seq (sub B26 [1, 1, 1, 0, 1, 4, 4, 1, 1, 0, 4, 1, 1, 1]), .block 3, .seq (sub B26 [1, 1, 1, 0, 1, 4, 4, 1, 1, 1]), .rounds (sub B26 [1, 1, 1, 0, 1, 4, 4]) 19, .block 2, .seq (sub B26 [1, 1, 1, 1])], [(5, .v (.map (some m))), (9, .lp 0 0), (10, .sl (some r) 1 c), (29, .sl (some (Addr.mk a 0 none)) 1 1), (30, .io .i64 1), (31, .v (.int .i64 0)), (42, .v (.bool false)), (43, .sl (some r) 1 c)], [([.v (.string (ByteArray.mk #[97])), .v (.int .i64 0), .v (.int .i64 10), .v (.int .i64 3), .v (.int .i64 2), .v (.int .i64 3), .v (.int .i64 6), .v (.int .i64 (-2)), .v (.int .i64 7)], 29)]⟩ (by kernel_rfl) (by kernel_rfl) ?_
    refine At.idx r 1 9 0 (by kernel_rfl) (by decide) (by decide) MapR.stable ?_
    refine At.lda (r.add ((0 : Int).toNat * 9)) 9 one (by kernel_rfl) rfl MapR.stable (fun ρ w1 hm' hf j v hj => row_one hf.2.1 hj) ?_
    refine At.toJ (MapR.stable) MapR.fewer 20 300 [5, 29, 30, 31, 49, 51, 52] 0 ⟨.qops (opsOf (sub B26 [1, 1, 1, 0, 1, 4, 4, 1, 1, 0, 4, 1, 1, 1])) (((opsOf (sub B26 [1, 1, 1, 0, 1, 4, 4, 1, 1, 0, 4, 1, 1, 1])).toList.take 5).drop 4), [.tail (opsOf (sub B26 [1, 1, 1, 0, 1, 4, 4, 1, 1, 0, 4, 1, 1, 1])) ((opsOf (sub B26 [1, 1, 1, 0, 1, 4, 4, 1, 1, 0, 4, 1, 1, 1])).toList.drop 5), .block 3, .seq (sub B26 [1, 1, 1, 0, 1, 4, 4, 1, 1, 1]), .rounds (sub B26 [1, 1, 1, 0, 1, 4, 4]) 19, .block 2, .seq (sub B26 [1, 1, 1, 1])], [(5, .v (.map (some m))), (29, .sl (some (Addr.mk a 0 none)) 1 1), (30, .io .i64 1), (31, .v (.int .i64 0)), (49, .v (.map (some m))), (51, .v (.string (ByteArray.mk #[97]))), (52, .sl (some r) 1 c)], []⟩ (by kernel_rfl) (by kernel_rfl) ?_
    refine At.slLx r 1 c 1 9 (.sl (if c = 1 then some r else some (r.add 9)) 0 (c - 1)) (by kernel_rfl) MapR.stable (by decide) (by decide) (fun _ => by by_cases h : c = 1 <;> simp [SV.den, h]) ?_
    refine At.toJ (MapR.stable) MapR.fewer 20 300 [5, 29, 30, 31, 49, 51, 53] 0 ⟨pops B26 [1, 1, 1, 0, 1, 4, 4, 1, 1, 0, 4, 1, 1, 1] 5, [.block 3, .seq (sub B26 [1, 1, 1, 0, 1, 4, 4, 1, 1, 1]), .rounds (sub B26 [1, 1, 1, 0, 1, 4, 4]) 19, .block 2, .seq (sub B26 [1, 1, 1, 1])], [(5, .v (.map (some m))), (29, .sl (some (Addr.mk a 0 none)) 1 1), (30, .io .i64 1), (31, .v (.int .i64 0)), (49, .v (.map (some m))), (51, .v (.string (ByteArray.mk #[97]))), (53, .sl (if c = 1 then some r else some (r.add 9)) 0 (c - 1))], []⟩ (by kernel_rfl) (by kernel_rfl) ?_
    refine At.mapPut m (.v (.string ⟨#[97]⟩)) (.sl (if c = 1 then some r else some (r.add 9)) 0 (c - 1)) ⟨#[97]⟩ (.slice (if c = 1 then some r else some (r.add 9)) 0 (c - 1)) [{ key := .string ⟨#[97]⟩, val := .slice (some r) 1 c, born := 0 }] 1 #[{ key := .string ⟨#[97]⟩, val := .slice (if c = 1 then some r else some (r.add 9)) 0 (c - 1), born := 0 }] 1 (by kernel_rfl) (fun _ => rfl) (fun _ => rfl) (by kernel_rfl) hN (fun ρ w h => h.1) (fun ρ w h => MapR.set h) ?_
    refine At.toJ (MapR.stable) MapR.fewer 20 300 [5, 29, 30, 31, 32] 0 ⟨.code (sub B26 [1, 1, 1, 0, 1, 4, 4, 1, 0]), [.seq (sub B26 [1, 1, 1, 0, 1, 4, 4, 1, 1]), .rounds (sub B26 [1, 1, 1, 0, 1, 4, 4]) 18, .block 2, .seq (sub B26 [1, 1, 1, 1])], [(5, .v (.map (some m))), (29, .sl (some (Addr.mk a 0 none)) 1 1), (30, .io .i64 1), (31, .v (.int .i64 1)), (32, .bo false)], []⟩ (by kernel_rfl) (by kernel_rfl) ?_
    refine At.res 32 (false) false (by kernel_rfl) (by first | assumption | (simp only [*]; done) | (simp [*]; done)) ?_
    refine At.toJ (MapR.stable) MapR.fewer 20 300 [4] 0 ⟨.exit .ret, [], [(4, .v (.bool true))], []⟩ (by kernel_rfl) (by kernel_rfl) ?_
    refine At.ret (by kernel_rfl) (.v (.bool true)) (by kernel_rfl) ?_
    intro ρ w9 hm' hf
    exact ⟨rfl, hm'.below⟩

end Go.Proofs.YtkjnbafdmjakgaaDoor
