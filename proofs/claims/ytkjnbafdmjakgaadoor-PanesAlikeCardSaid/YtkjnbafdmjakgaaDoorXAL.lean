/- Joined texts: BG, BI, BJ, BK, BS, CG, CH, TN, TO. -/
import Derived.Test.YtkjnbafdmjakgaaDoorXAG
import Derived.Test.YtkjnbafdmjakgaaDoorXAD
import Derived.Test.YtkjnbafdmjakgaaDoorXAF
import Derived.Test.YtkjnbafdmjakgaaDoorXAI
import Derived.Test.YtkjnbafdmjakgaaDoorXAK
set_option linter.unusedSimpArgs false
set_option linter.unusedVariables false
namespace Go.Sx
open Go
def zAL0 : List SV := [.v (.string (ByteArray.mk #[97])), .v (.int .i64 0), .v (.int .i64 10), .v (.int .i64 3), .v (.int .i64 2), .v (.int .i64 3), .v (.int .i64 6), .v (.int .i64 (-2)), .v (.int .i64 7)]
def pAL1 : List Nat := [1, 1, 1, 0, 1, 4, 4, 1, 1, 0, 4, 1, 1, 0, 1]
def pAL2 : List Nat := [1, 1, 1, 0, 1, 4, 4, 1, 1, 0, 4, 1, 1, 1]
def pAL3 : List Nat := [1, 1, 0, 1, 4, 4, 1, 1, 0, 4, 1]
def pAL4 : List Nat := [1, 1, 1, 0, 1, 4, 4, 1, 1, 1]
def pAL5 : List Nat := [1, 1, 0, 1, 4, 4, 1, 0, 4, 1]
def pAL6 : List Nat := [1, 1, 0, 1, 4, 4, 1, 1]
def pAL7 : List Nat := [1, 1, 1, 0, 1, 4, 4]
def pAL8 : List Nat := [1, 1, 0, 1, 4, 4]
def pAL9 : List Nat := [1, 1, 1, 1]
def pAL10 : List Nat := [1, 1, 1]
end Go.Sx
section
--@BG
namespace Go.Proofs.YtkjnbafdmjakgaaDoor
open Go.RowKit Go.Sx
theorem MapF.fewerK {m : Nat} {es : Array MapEntry} {clk : Nat} : FewerK 0 (MapF m es clk) := fun ρ w k _ h => h.fewer k
/-- A map, and a row beside it. -/
def MapR (m : Nat) (es : Array MapEntry) (clk base e size : Nat) (A : Option Addr) (n c : Nat) (xs : List Value) (ρ : List Nat) (w : World) : Prop := MapF m es clk ρ w ∧ Row base e size A n c xs ρ w ∧ base ≤ w.heap.size
theorem MapR.stable {m : Nat} {es : Array MapEntry} {clk base e size : Nat} {A : Option Addr} {n c : Nat} {xs : List Value} : Stable (MapR m es clk base e size A n c xs) := fun ρ w ρ' w' hg hk h => ⟨MapF.stable ρ w ρ' w' hg hk h.1, h.2.1.keep hg hk, Nat.le_trans h.2.2 hk.size⟩
theorem MapR.fewer {m : Nat} {es : Array MapEntry} {clk base e size : Nat} {A : Option Addr} {n c : Nat} {xs : List Value} : FewerK 0 (MapR m es clk base e size A n c xs) := fun ρ w k _ h => ⟨h.1.fewer k, Row.fewer _ _ _ _ _ _ _ ρ w k h.2.1, h.2.2⟩
theorem MapR.set {m : Nat} {es : Array MapEntry} {clk base e size : Nat} {A : Option Addr} {n c : Nat} {xs : List Value} {ρ : List Nat} {w : World} (h : MapR m es clk base e size A n c xs ρ w) {es' : Array MapEntry} {clk' : Nat} : MapR m es' clk' base e size A n c xs ρ { w with heap := w.heap.setIfInBounds m (.map es' clk') } :=
 ⟨h.1.set es' clk', h.2.1.setMap h.1.1 _, by simpa using h.2.2⟩
theorem row_is {base e size n c : Nat} {A : Option Addr} {xs : List Value} {ρ : List Nat} {w : World} (h : Row base e size A n c xs ρ w) (hn : 0 < n) : (∃ a, A = some a) ∧ n ≤ c := by
 rcases h.1.2 with ⟨_, h'⟩ | ⟨g, cap, cur, hv, _, _, hnc, _⟩
 ·omega
 ·injection hv with hv _ hcc
  exact ⟨⟨_, hv⟩, by omega⟩
/-- The one pane of 'known'. -/
def one : List SV := [.v (.string ⟨#[97]⟩), .v (.int .i64 0), .v (.int .i64 10), .v (.int .i64 3), .v (.int .i64 2), .v (.int .i64 3), .v (.int .i64 6), .v (.int .i64 (-2)), .v (.int .i64 7)]
def oneV : List Value := SV.denL [] one
theorem one_den (ρ : List Nat) : SV.denL ρ one = oneV := rfl
theorem one_cell {w w1 : World} {a j : Nat} {ρ : List Nat} {v : Value} {t : TypeId} (h : w.heap[a]? = some (.cells oneV.toArray t (0, 0))) (hb : Below w.heap.size w w1) (hj : (SV.denL ρ one)[j]? = some v) : w1.cell? (((⟨a, 0, none⟩ : Addr).add ((0 : Int).toNat * 9)).add j) = some v := by
 rw [one_den] at hj
 rw [add_ok, add_ok]
 unfold World.cell?
 rw [hb.block a (Array.getElem?_eq_some_iff.1 h).1, h]
 simpa using hj
theorem row_one {w : World} {base e c j : Nat} {r : Addr} {ρ ρ' : List Nat} {v : Value} (h : Row base e 9 (some r) 1 c oneV ρ w) (hj : (SV.denL ρ' one)[j]? = some v) : w.cell? ((r.add ((0 : Int).toNat * 9)).add j) = some v := by
 rw [one_den] at hj
 have hlt : j < 1 * 9 := by
  have := (List.getElem?_eq_some_iff.1 hj).1
  have hl : oneV.length = 9 := rfl
  omega
 obtain ⟨g, hg, hc⟩ := h.cell (j := j) hlt
 injection hg with hg
 subst hg
 rw [add_ok, add_ok, show 0 + (0 : Int).toNat * 9 + j = j by simp, hc, hj]
section
variable {P : Program} {Q : Exit → Act → World → Prop} {N : Nat} {w0 : World} {ntm : Nat} {F : List Nat → World → Prop}
theorem run_slLx {ρ : List Nat} {fr : Fr} {act : Act} (ha : AInv ntm ρ fr act) {o : Oper} {a : Addr} {n c size : Nat} {l : Int} (hq : slLQ P fr o = some (a, n, c, l, size)) (h0 : 0 ≤ l) (h1 : l ≤ n) (w : World) :
  (execOp act.eval o).run P w = .ok (.value (.slice (if c = l.toNat then some a else some (a.add (l.toNat * size))) (n - l.toNat) (c - l.toNat))) w := by
 obtain ⟨dst, op, ty, pos, after, guard⟩ := o
 unfold slLQ at hq
 simp only at hq
 split at hq
 ·rename_i t x lo
  split at hq
  ·rename_i e a' n' c' k l' lf hu hx hlo
   obtain ⟨sl, hsl, hll⟩ := Option.bind_eq_some_iff.1 hlo
   have hel : P.underlying t = some (.slice (P.elem t)) := by simp [Program.elem, hu]
   have hel2 : P.elem t = e := by simp [Program.elem, hu]
   split at hq
   ·rename_i size' hs
    simp only [Option.some.injEq, Prod.mk.injEq] at hq
    obtain ⟨rfl, rfl, rfl, rfl, rfl⟩ := hq
    have := run_slice_l (P := P) w t (some a') n' c' hel k l' h0 h1
    rw [hel2] at this
    simp [execOp, evalS_sound ha hx, evalS_sound ha hsl, litOf_den hll, SV.den, run_sliceAt_slice w t _ _ _ _ hel, this, run_sizeT hs, sliced, Result.andThen]
   ·cases hq
  ·cases hq
 ·cases hq
/-- The rest of a slice that lies outside, be it empty to its end. -/
theorem At.slLx {s : S} (a : Addr) (n c : Nat) (l : Int) (size : Nat) (r : SV) (hq : slLI P ntm s = some (a, n, c, l, size)) (hF : Stable F) (h0 : 0 ≤ l) (h1 : l ≤ n) (hr : ∀ ρ, r.den ρ = .slice (if c = l.toNat then some a else some (a.add (l.toNat * size))) (n - l.toNat) (c - l.toNat))
  (hk : At P Q N w0 ntm F (s.tail ntm r)) : At P Q N w0 ntm F s := by
 unfold slLI at hq
 split at hq
 ·rename_i o ho hd
  exact At.op hF o r ho hd (fun ρ act w hi _ => by rw [hr]; exact run_slLx hi.act hq h0 h1 w) hk
 ·cases hq
def appI (ntm : Nat) (s : S) : Option (TypeId × SV × SV) := match s.head?, s.dstOk ntm, s.plain with
 | some o, true, true => appS s.fr o
 | _, _, _ => none
/-- An element put behind nothing, while a map stands beside. -/
theorem At.appM {s : S} {mm : Nat} {es : Array MapEntry} {clk : Nat} (t e size bytes : Nat) (i off k : Nat) (cells : List SV) (ct : TypeId) (news : List Value) (hq : appI ntm s = some (t, .sl none 0 0, .ls i off 1 k)) (ht : elemT P t = some (e, size, bytes)) (hl : s.loc[i]? = some (cells, ct))
  (hle : off + 1 * size ≤ cells.length) (hone : oneL ((cells.drop off).take (1 * size)) = true) (hbytes : (0 + 1) * bytes ≤ 140737488355328) (hN : N ≤ mm) (hnews : ∀ ρ, SV.denL ρ ((cells.drop off).take (1 * size)) = news)
  (h : ∀ x : Option Addr × Nat, At P Q N w0 ntm (MapR mm es clk N e size x.1 1 x.2 news) (s.tail ntm (.sl x.1 1 x.2))) : At P Q N w0 ntm (MapF mm es clk) s := by
 unfold appI at hq
 split at hq
 ·rename_i o ho hd hp
  refine At.append o t e size bytes N none 0 0 [] i off 1 k cells ct ho hd hp hq ht hl hle hone hbytes (by decide) (Nat.le_refl _) (MapF mm es clk) (MapF mm es clk) (fun ρ w h => ⟨Row.nil _ _ _ _ _, Nat.le_of_lt (Nat.lt_of_le_of_lt hN (Array.getElem?_eq_some_iff.1 h.1).1), h⟩) (fun ρ w w' h hg => ⟨(hg.block mm (Array.getElem?_eq_some_iff.1 h.1).1 (by simp [Value.ownBlock])).trans h.1, h.2⟩) news hnews (fun x => ?_)
  exact At.mono (fun ρ w h => ⟨h.2.2, h.1, h.2.1⟩) (h x)
 ·cases hq
end
noncomputable def B26 : Code := (Tryd.f26.body).getD .skip
set_option maxHeartbeats 20000000 in
set_option maxRecDepth 100000 in
theorem begins_one (a b : Nat) (w : World) (ha : w.heap[a]? = some (.cells oneV.toArray 29 (0, 0))) (hb : w.heap[b]? = some (.cells oneV.toArray 29 (0, 0))) :
  Calls Tryd.prog 26 #[.slice (some ⟨a, 0, none⟩) 1 1, .slice (some ⟨b, 0, none⟩) 1 1] w fun e w' => e = .returned (.bool true) ∧ Below w.heap.size w w' := by
 refine enter (fn := Tryd.f26) (c := B26) [.sl (some ⟨a, 0, none⟩) 1 1, .sl (some ⟨b, 0, none⟩) 1 1] Tryd.func26 rfl rfl ?_
 refine At.to (noF_stable) (noF_fewer) 20 300 [0, 1] 0 ⟨pops B26 [1, 0] 0, [.seq (sub B26 [1, 1])], [(0, .sl (some (Addr.mk a 0 none)) 1 1), (1, .sl (some (Addr.mk b 0 none)) 1 1)], []⟩ (by kernel_rfl) (by kernel_rfl) ?_
 refine At.mkMap (by kernel_rfl) noF_stable (fun m hN => ?_)
 refine At.mono (F' := MapF m #[] 0) (fun ρ w h => h.2) ?_
 refine At.toJ (MapF.stable) MapF.fewerK 20 300 [0, 5, 12, 13, 14, 15] 0 ⟨.code (sub B26 [1, 1, 0, 1, 4, 4, 1, 0]), [.seq (sub B26 pAL6), .rounds (sub B26 pAL8) 19, .block 0, .seq (sub B26 pAL10)], [(0, .sl (some (Addr.mk a 0 none)) 1 1), (5, .v (.map (some m))), (12, .sl (some (Addr.mk b 0 none)) 1 1), (13, .io .i64 1), (14, .v (.int .i64 0)), (15, .bo true)], []⟩ (by kernel_rfl) (by kernel_rfl) ?_
 refine At.res 15 (true) true (by kernel_rfl) (by first | assumption | (simp only [*]; done) | (simp [*]; done)) ?_
 refine At.toJ (MapF.stable) MapF.fewerK 20 300 [0, 5, 12, 13, 14] 0 ⟨pops B26 [1, 1, 0, 1, 4, 4, 1, 1, 0, 4, 0] 0, [.seq (sub B26 pAL3), .block 1, .seq (sub B26 [1, 1, 0, 1, 4, 4, 1, 1, 1]), .rounds (sub B26 pAL8) 19, .block 0, .seq (sub B26 pAL10)], [(0, .sl (some (Addr.mk a 0 none)) 1 1), (5, .v (.map (some m))), (12, .sl (some (Addr.mk b 0 none)) 1 1), (13, .io .i64 1), (14, .v (.int .i64 0))], []⟩ (by kernel_rfl) (by kernel_rfl) ?_
 refine At.idx ⟨b, 0, none⟩ 1 9 0 (by kernel_rfl) (by decide) (by decide) MapF.stable ?_
 refine At.lda ((⟨b, 0, none⟩ : Addr).add ((0 : Int).toNat * 9)) 9 one (by kernel_rfl) rfl MapF.stable (fun ρ w1 hm' hf j v hj => one_cell hb hm'.below hj) ?_
 refine At.toJ (MapF.stable) MapF.fewerK 20 300 [0, 5, 7, 12, 13, 14] 1 ⟨.any (opsOf (sub B26 pAL3)) 11 [], [.block 1, .seq (sub B26 [1, 1, 0, 1, 4, 4, 1, 1, 1]), .rounds (sub B26 pAL8) 19, .block 0, .seq (sub B26 pAL10)], [(0, .sl (some (Addr.mk a 0 none)) 1 1), (5, .v (.map (some m))), (7, .lp 0 0), (12, .sl (some (Addr.mk b 0 none)) 1 1), (13, .io .i64 1), (14, .v (.int .i64 0))], [(zAL0, 29)]⟩ (by kernel_rfl) (by kernel_rfl) ?_
 refine At.cutN (σ := Option Addr × Nat) (fun x => [(0, .sl (some ⟨a, 0, none⟩) 1 1), (5, .v (.map (some m))), (13, .io .i64 1), (14, .v (.int .i64 0))]) (fun _ => []) (fun x => MapR m #[{ key := .string ⟨#[97]⟩, val := .slice x.1 1 x.2, born := 0 }] 1 w.heap.size 29 9 x.1 1 x.2 oneV) rfl ?_ (fun x => ?_)
 ·refine At.purify0 (fun e a w h => h.1) 20 ?_
  refine At.takeLoad (fun e a w h => h.1) 5 (.v (.string ⟨#[97]⟩)) [6, 9, 10] (by kernel_rfl) (by kernel_rfl) (by kernel_rfl) ?_
  refine At.takeLk (fun e a w h => h.1) 6 (.v (.slice none 0 0)) [9, 10] m (.v (.string ⟨#[97]⟩)) (.slice none 0 0) ⟨#[97]⟩ #[] 0 none (by kernel_rfl) (by kernel_rfl) (by kernel_rfl) (fun _ => rfl) rfl (fun _ => rfl) (fun ρ w h => h) ?_
  refine At.takeLoad (fun e a w h => h.1) 7 (.agg one) [8, 9, 10] (by kernel_rfl) (by kernel_rfl) (by kernel_rfl) ?_
  refine At.purify0 (fun e a w h => h.1) 20 ?_
  refine At.toJ (MapF.stable) MapF.fewerK 20 300 [0, 5, 13, 14, 18, 19, 24, 25] 1 ⟨.any (opsOf (sub B26 pAL3)) 4 [7, 6, 5, 4, 3, 1, 0], [], [(0, .sl (some (Addr.mk a 0 none)) 1 1), (5, .v (.map (some m))), (13, .io .i64 1), (14, .v (.int .i64 0)), (18, .v (.map (some m))), (19, .lp 0 0), (24, .v (.slice none 0 0)), (25, .agg zAL0)], [(zAL0, 29)]⟩ (by kernel_rfl) (by kernel_rfl) ?_
  refine At.fork [2, 8] rfl (by kernel_rfl) rfl (allOf.cons ?_ (allOf.cons ?_ allOf.nil))
  ·refine At.toJ (MapF.stable) MapF.fewerK 20 300 [0, 5, 13, 14, 18, 20, 24, 26] 2 ⟨.ops (opsOf (sub B26 pAL3)) (((opsOf (sub B26 pAL3)).toList.drop 9).take 1), [.any (opsOf (sub B26 pAL3)) 1 [9, 8, 2, 7, 6, 5, 4, 3, 1, 0]], [(0, .sl (some (Addr.mk a 0 none)) 1 1), (5, .v (.map (some m))), (13, .io .i64 1), (14, .v (.int .i64 0)), (18, .v (.map (some m))), (20, .v (.string (ByteArray.mk #[97]))), (24, .v (.slice none 0 0)), (26, .ls 1 0 1 1)], [(zAL0, 29), (zAL0, 29)]⟩ (by kernel_rfl) (by kernel_rfl) ?_
   refine At.appM 35 29 9 80 1 0 1 one 29 oneV (by kernel_rfl) (by kernel_rfl) rfl (by decide) (by kernel_rfl) (by decide) hN (fun _ => rfl) (fun x => ?_)
   refine At.toJ (MapR.stable) MapR.fewer 20 300 [0, 5, 13, 14, 18, 20, 27] 0 ⟨.ops (opsOf (sub B26 pAL3)) (((opsOf (sub B26 pAL3)).toList.drop 10).take 1), [.any (opsOf (sub B26 pAL3)) 0 [10, 9, 8, 2, 7, 6, 5, 4, 3, 1, 0]], [(0, .sl (some (Addr.mk a 0 none)) 1 1), (5, .v (.map (some m))), (13, .io .i64 1), (14, .v (.int .i64 0)), (18, .v (.map (some m))), (20, .v (.string (ByteArray.mk #[97]))), (27, .sl x.fst 1 x.snd)], []⟩ (by kernel_rfl) (by kernel_rfl) ?_
   refine At.mapPut m (.v (.string ⟨#[97]⟩)) (.sl x.1 1 x.2) ⟨#[97]⟩ (.slice x.1 1 x.2) [] 0 #[{ key := .string ⟨#[97]⟩, val := .slice x.1 1 x.2, born := 0 }] 1 (by kernel_rfl) (fun _ => rfl) (fun _ => rfl) rfl hN (fun ρ w h => h.1) (fun ρ w h => MapR.set h) ?_
   refine At.toJ (MapR.stable) MapR.fewer 20 300 [0, 5, 13, 14] 0 ⟨.exit .normal, [], [(0, .sl (some (Addr.mk a 0 none)) 1 1), (5, .v (.map (some m))), (13, .io .i64 1), (14, .v (.int .i64 0))], []⟩ (by kernel_rfl) (by kernel_rfl) ?_
   exact At.fin x rfl rfl (by unfold subFr; kernel_rfl) rfl (fun _ _ _ _ h => h)
  ·refine At.toJ (MapF.stable) MapF.fewerK 20 300 [0, 5, 13, 14, 18, 19, 24, 26] 2 ⟨.any (opsOf (sub B26 pAL3)) 3 [8, 7, 6, 5, 4, 3, 1, 0], [], [(0, .sl (some (Addr.mk a 0 none)) 1 1), (5, .v (.map (some m))), (13, .io .i64 1), (14, .v (.int .i64 0)), (18, .v (.map (some m))), (19, .lp 0 0), (24, .v (.slice none 0 0)), (26, .ls 1 0 1 1)], [(zAL0, 29), (zAL0, 29)]⟩ (by kernel_rfl) (by kernel_rfl) ?_
   refine At.fork [2, 9] rfl (by kernel_rfl) rfl (allOf.cons ?_ (allOf.cons ?_ allOf.nil))
   ·refine At.toJ (MapF.stable) MapF.fewerK 20 300 [0, 5, 13, 14, 18, 20, 24, 26] 2 ⟨.ops (opsOf (sub B26 pAL3)) (((opsOf (sub B26 pAL3)).toList.drop 9).take 1), [.any (opsOf (sub B26 pAL3)) 1 [9, 2, 8, 7, 6, 5, 4, 3, 1, 0]], [(0, .sl (some (Addr.mk a 0 none)) 1 1), (5, .v (.map (some m))), (13, .io .i64 1), (14, .v (.int .i64 0)), (18, .v (.map (some m))), (20, .v (.string (ByteArray.mk #[97]))), (24, .v (.slice none 0 0)), (26, .ls 1 0 1 1)], [(zAL0, 29), (zAL0, 29)]⟩ (by kernel_rfl) (by kernel_rfl) ?_
    refine At.appM 35 29 9 80 1 0 1 one 29 oneV (by kernel_rfl) (by kernel_rfl) rfl (by decide) (by kernel_rfl) (by decide) hN (fun _ => rfl) (fun x => ?_)
    refine At.toJ (MapR.stable) MapR.fewer 20 300 [0, 5, 13, 14, 18, 20, 27] 0 ⟨.ops (opsOf (sub B26 pAL3)) (((opsOf (sub B26 pAL3)).toList.drop 10).take 1), [.any (opsOf (sub B26 pAL3)) 0 [10, 9, 2, 8, 7, 6, 5, 4, 3, 1, 0]], [(0, .sl (some (Addr.mk a 0 none)) 1 1), (5, .v (.map (some m))), (13, .io .i64 1), (14, .v (.int .i64 0)), (18, .v (.map (some m))), (20, .v (.string (ByteArray.mk #[97]))), (27, .sl x.fst 1 x.snd)], []⟩ (by kernel_rfl) (by kernel_rfl) ?_
    refine At.mapPut m (.v (.string ⟨#[97]⟩)) (.sl x.1 1 x.2) ⟨#[97]⟩ (.slice x.1 1 x.2) [] 0 #[{ key := .string ⟨#[97]⟩, val := .slice x.1 1 x.2, born := 0 }] 1 (by kernel_rfl) (fun _ => rfl) (fun _ => rfl) rfl hN (fun ρ w h => h.1) (fun ρ w h => MapR.set h) ?_
    refine At.toJ (MapR.stable) MapR.fewer 20 300 [0, 5, 13, 14] 0 ⟨.exit .normal, [], [(0, .sl (some (Addr.mk a 0 none)) 1 1), (5, .v (.map (some m))), (13, .io .i64 1), (14, .v (.int .i64 0))], []⟩ (by kernel_rfl) (by kernel_rfl) ?_
    exact At.fin x rfl rfl (by unfold subFr; kernel_rfl) rfl (fun _ _ _ _ h => h)
   ·refine At.toJ (MapF.stable) MapF.fewerK 20 300 [0, 5, 13, 14, 18, 19, 24, 26] 2 ⟨.ops (opsOf (sub B26 pAL3)) (((opsOf (sub B26 pAL3)).toList.drop 9).take 1), [.any (opsOf (sub B26 pAL3)) 2 [9, 8, 7, 6, 5, 4, 3, 1, 0]], [(0, .sl (some (Addr.mk a 0 none)) 1 1), (5, .v (.map (some m))), (13, .io .i64 1), (14, .v (.int .i64 0)), (18, .v (.map (some m))), (19, .lp 0 0), (24, .v (.slice none 0 0)), (26, .ls 1 0 1 1)], [(zAL0, 29), (zAL0, 29)]⟩ (by kernel_rfl) (by kernel_rfl) ?_
    refine At.appM 35 29 9 80 1 0 1 one 29 oneV (by kernel_rfl) (by kernel_rfl) rfl (by decide) (by kernel_rfl) (by decide) hN (fun _ => rfl) (fun x => ?_)
    refine At.toJ (MapR.stable) MapR.fewer 20 300 [0, 5, 13, 14, 18, 20, 27] 0 ⟨.ops (opsOf (sub B26 pAL3)) (((opsOf (sub B26 pAL3)).toList.drop 10).take 1), [.any (opsOf (sub B26 pAL3)) 0 [10, 2, 9, 8, 7, 6, 5, 4, 3, 1, 0]], [(0, .sl (some (Addr.mk a 0 none)) 1 1), (5, .v (.map (some m))), (13, .io .i64 1), (14, .v (.int .i64 0)), (18, .v (.map (some m))), (20, .v (.string (ByteArray.mk #[97]))), (27, .sl x.fst 1 x.snd)], []⟩ (by kernel_rfl) (by kernel_rfl) ?_
    refine At.mapPut m (.v (.string ⟨#[97]⟩)) (.sl x.1 1 x.2) ⟨#[97]⟩ (.slice x.1 1 x.2) [] 0 #[{ key := .string ⟨#[97]⟩, val := .slice x.1 1 x.2, born := 0 }] 1 (by kernel_rfl) (fun _ => rfl) (fun _ => rfl) rfl hN (fun ρ w h => h.1) (fun ρ w h => MapR.set h) ?_
    refine At.toJ (MapR.stable) MapR.fewer 20 300 [0, 5, 13, 14] 0 ⟨.exit .normal, [], [(0, .sl (some (Addr.mk a 0 none)) 1 1), (5, .v (.map (some m))), (13, .io .i64 1), (14, .v (.int .i64 0))], []⟩ (by kernel_rfl) (by kernel_rfl) ?_
    exact At.fin x rfl rfl (by unfold subFr; kernel_rfl) rfl (fun _ _ _ _ h => h)
 ·obtain ⟨A, c⟩ := x
  dsimp only
  refine At.mono (F' := fun ρ w1 => MapR m #[{ key := .string ⟨#[97]⟩, val := .slice A 1 c, born := 0 }] 1 w.heap.size 29 9 A 1 c oneV ρ w1 ∧ ((∃ r, A = some r) ∧ 1 ≤ c)) (fun ρ w1 h => ⟨h, row_is h.2.1 (by decide)⟩) (At.pure ?_)
  rintro ⟨⟨r, rfl⟩, hc⟩
  refine At.toJ (MapR.stable) MapR.fewer 20 300 [0, 5, 13, 14, 15] 0 ⟨.code (sub B26 [1, 1, 0, 1, 4, 4, 1, 0]), [.seq (sub B26 pAL6), .rounds (sub B26 pAL8) 18, .block 0, .seq (sub B26 pAL10)], [(0, .sl (some (Addr.mk a 0 none)) 1 1), (5, .v (.map (some m))), (13, .io .i64 1), (14, .v (.int .i64 1)), (15, .bo false)], []⟩ (by kernel_rfl) (by kernel_rfl) ?_
  refine At.res 15 (false) false (by kernel_rfl) (by first | assumption | (simp only [*]; done) | (simp [*]; done)) ?_
  refine At.toJ (MapR.stable) MapR.fewer 20 300 [5, 29, 30, 31, 32] 0 ⟨.code (sub B26 [1, 1, 1, 0, 1, 4, 4, 1, 0]), [.seq (sub B26 [1, 1, 1, 0, 1, 4, 4, 1, 1]), .rounds (sub B26 pAL7) 19, .block 2, .seq (sub B26 pAL9)], [(5, .v (.map (some m))), (29, .sl (some (Addr.mk a 0 none)) 1 1), (30, .io .i64 1), (31, .v (.int .i64 0)), (32, .bo true)], []⟩ (by kernel_rfl) (by kernel_rfl) ?_
  refine At.res 32 (true) true (by kernel_rfl) (by first | assumption | (simp only [*]; done) | (simp [*]; done)) ?_
  refine At.toJ (MapR.stable) MapR.fewer 20 300 [5, 29, 30, 31] 0 ⟨pops B26 [1, 1, 1, 0, 1, 4, 4, 1, 1, 0, 4, 0] 0, [.seq (sub B26 [1, 1, 1, 0, 1, 4, 4, 1, 1, 0, 4, 1]), .block 3, .seq (sub B26 pAL4), .rounds (sub B26 pAL7) 19, .block 2, .seq (sub B26 pAL9)], [(5, .v (.map (some m))), (29, .sl (some (Addr.mk a 0 none)) 1 1), (30, .io .i64 1), (31, .v (.int .i64 0))], []⟩ (by kernel_rfl) (by kernel_rfl) ?_
  refine At.idx ⟨a, 0, none⟩ 1 9 0 (by kernel_rfl) (by decide) (by decide) MapR.stable ?_
  refine At.lda ((⟨a, 0, none⟩ : Addr).add ((0 : Int).toNat * 9)) 9 one (by kernel_rfl) rfl MapR.stable (fun ρ w1 hm' hf j v hj => one_cell ha hm'.below hj) ?_
  refine At.toJ (MapR.stable) MapR.fewer 20 300 [5, 9, 29, 30, 31, 35, 37] 1 ⟨pops B26 [1, 1, 1, 0, 1, 4, 4, 1, 1, 0, 4, 1, 0] 3, [.seq (sub B26 [1, 1, 1, 0, 1, 4, 4, 1, 1, 0, 4, 1, 1]), .block 3, .seq (sub B26 pAL4), .rounds (sub B26 pAL7) 19, .block 2, .seq (sub B26 pAL9)], [(5, .v (.map (some m))), (9, .lp 0 0), (29, .sl (some (Addr.mk a 0 none)) 1 1), (30, .io .i64 1), (31, .v (.int .i64 0)), (35, .v (.map (some m))), (37, .v (.string (ByteArray.mk #[97])))], [(zAL0, 29)]⟩ (by kernel_rfl) (by kernel_rfl) ?_
  refine At.lk m (.v (.string ⟨#[97]⟩)) (.slice none 0 0) ⟨#[97]⟩ #[{ key := .string ⟨#[97]⟩, val := .slice (some r) 1 c, born := 0 }] 1 (some (0, .slice (some r) 1 c)) (.sl (some r) 1 c) (by kernel_rfl) (fun _ => rfl) (by kernel_rfl) (fun _ => rfl) MapR.stable (fun ρ w h => h.1) ?_
  refine At.toJ (MapR.stable) MapR.fewer 20 300 [5, 9, 10, 29, 30, 31, 42] 1 ⟨pqops B26 [1, 1, 1, 0, 1, 4, 4, 1, 1, 0, 4, 1, 1, 0, 0] 4, [.seq (sub B26 pAL1), .seq (sub B26 pAL2), .block 3, .seq (sub B26 pAL4), .rounds (sub B26 pAL7) 19, .block 2, .seq (sub B26 pAL9)], [(5, .v (.map (some m))), (9, .lp 0 0), (10, .sl (some r) 1 c), (29, .sl (some (Addr.mk a 0 none)) 1 1), (30, .io .i64 1), (31, .v (.int .i64 0)), (42, .bo false)], [(zAL0, 29)]⟩ (by kernel_rfl) (by kernel_rfl) ?_
  refine At.res 42 (false) false (by kernel_rfl) (by first | assumption | (simp only [*]; done) | (simp [*]; done)) ?_
  refine At.toJ (MapR.stable) MapR.fewer 20 300 [5, 9, 10, 29, 30, 31, 42, 43] 1 ⟨pqops B26 [1, 1, 1, 0, 1, 4, 4, 1, 1, 0, 4, 1, 1, 0, 0] 5, [.seq (sub B26 pAL1), .seq (sub B26 pAL2), .block 3, .seq (sub B26 pAL4), .rounds (sub B26 pAL7) 19, .block 2, .seq (sub B26 pAL9)], [(5, .v (.map (some m))), (9, .lp 0 0), (10, .sl (some r) 1 c), (29, .sl (some (Addr.mk a 0 none)) 1 1), (30, .io .i64 1), (31, .v (.int .i64 0)), (42, .v (.bool false)), (43, .sl (some r) 1 c)], [(zAL0, 29)]⟩ (by kernel_rfl) (by kernel_rfl) ?_
  refine At.idx r 1 9 0 (by kernel_rfl) (by decide) (by decide) MapR.stable ?_
  refine At.lda (r.add ((0 : Int).toNat * 9)) 9 one (by kernel_rfl) rfl MapR.stable (fun ρ w1 hm' hf j v hj => row_one hf.2.1 hj) ?_
  refine At.toJ (MapR.stable) MapR.fewer 20 300 [5, 29, 30, 31, 49, 51, 52] 0 ⟨.qops (opsOf (sub B26 pAL2)) (((opsOf (sub B26 pAL2)).toList.take 5).drop 4), [.tail (opsOf (sub B26 pAL2)) ((opsOf (sub B26 pAL2)).toList.drop 5), .block 3, .seq (sub B26 pAL4), .rounds (sub B26 pAL7) 19, .block 2, .seq (sub B26 pAL9)], [(5, .v (.map (some m))), (29, .sl (some (Addr.mk a 0 none)) 1 1), (30, .io .i64 1), (31, .v (.int .i64 0)), (49, .v (.map (some m))), (51, .v (.string (ByteArray.mk #[97]))), (52, .sl (some r) 1 c)], []⟩ (by kernel_rfl) (by kernel_rfl) ?_
  refine At.slLx r 1 c 1 9 (.sl (if c = 1 then some r else some (r.add 9)) 0 (c - 1)) (by kernel_rfl) MapR.stable (by decide) (by decide) (fun _ => by by_cases h : c = 1 <;> simp [SV.den, h]) ?_
  refine At.toJ (MapR.stable) MapR.fewer 20 300 [5, 29, 30, 31, 49, 51, 53] 0 ⟨pops B26 pAL2 5, [.block 3, .seq (sub B26 pAL4), .rounds (sub B26 pAL7) 19, .block 2, .seq (sub B26 pAL9)], [(5, .v (.map (some m))), (29, .sl (some (Addr.mk a 0 none)) 1 1), (30, .io .i64 1), (31, .v (.int .i64 0)), (49, .v (.map (some m))), (51, .v (.string (ByteArray.mk #[97]))), (53, .sl (if c = 1 then some r else some (r.add 9)) 0 (c - 1))], []⟩ (by kernel_rfl) (by kernel_rfl) ?_
  refine At.mapPut m (.v (.string ⟨#[97]⟩)) (.sl (if c = 1 then some r else some (r.add 9)) 0 (c - 1)) ⟨#[97]⟩ (.slice (if c = 1 then some r else some (r.add 9)) 0 (c - 1)) [{ key := .string ⟨#[97]⟩, val := .slice (some r) 1 c, born := 0 }] 1 #[{ key := .string ⟨#[97]⟩, val := .slice (if c = 1 then some r else some (r.add 9)) 0 (c - 1), born := 0 }] 1 (by kernel_rfl) (fun _ => rfl) (fun _ => rfl) (by kernel_rfl) hN (fun ρ w h => h.1) (fun ρ w h => MapR.set h) ?_
  refine At.toJ (MapR.stable) MapR.fewer 20 300 [5, 29, 30, 31, 32] 0 ⟨.code (sub B26 [1, 1, 1, 0, 1, 4, 4, 1, 0]), [.seq (sub B26 [1, 1, 1, 0, 1, 4, 4, 1, 1]), .rounds (sub B26 pAL7) 18, .block 2, .seq (sub B26 pAL9)], [(5, .v (.map (some m))), (29, .sl (some (Addr.mk a 0 none)) 1 1), (30, .io .i64 1), (31, .v (.int .i64 1)), (32, .bo false)], []⟩ (by kernel_rfl) (by kernel_rfl) ?_
  refine At.res 32 (false) false (by kernel_rfl) (by first | assumption | (simp only [*]; done) | (simp [*]; done)) ?_
  refine At.toJ (MapR.stable) MapR.fewer 20 300 [4] 0 ⟨.exit .ret, [], [(4, .v (.bool true))], []⟩ (by kernel_rfl) (by kernel_rfl) ?_
  refine At.ret (by kernel_rfl) (.v (.bool true)) (by kernel_rfl) ?_
  intro ρ w9 hm' hf
  exact ⟨rfl, hm'.below⟩
end Go.Proofs.YtkjnbafdmjakgaaDoor
end
section
--@BI
namespace Go.Proofs.YtkjnbafdmjakgaaDoor
open Go.RowKit Go.Sx
theorem blk {w w1 : World} {a : Nat} {o : Obj} (hb : Below w.heap.size w w1) (h : w.heap[a]? = some o) : w1.heap[a]? = some o := by
 rw [hb.block a (Array.getElem?_eq_some_iff.1 h).1]
 exact h
theorem itoa_10 : Lib.itoa 10 = [49, 48] := by
 unfold Lib.itoa
 rw [if_neg (by decide), show (10 : Int).toNat = 10 from rfl, Lib.decDigits, dif_neg (by decide), Lib.decDigits_one (by decide)]
 rfl
theorem itoa_d (n : Nat) (h : n < 10) : Lib.itoa (n : Int) = [UInt8.ofNat (48 + n)] := by
 unfold Lib.itoa
 rw [if_neg (by omega), Int.toNat_natCast, Lib.decDigits_one h]
theorem itoa_m2 : Lib.itoa (-2) = [45, 50] := by
 unfold Lib.itoa
 rw [if_pos (by decide), show (-2 : Int).natAbs = 2 from rfl, Lib.decDigits_one (by decide)]
 rfl
theorem known_line : lineB [97] 0 10 3 2 3 6 (-2) 7 = [34, 97, 34, 32, 108, 97, 116, 101, 32, 48, 32, 49, 48, 32, 50, 32, 51, 32, 54, 32, 45, 50, 32, 55] := by
 unfold lineB
 simp only [List.flatMap_cons, List.flatMap_nil, itoa_10, itoa_m2, show Lib.itoa 0 = [48] from itoa_d 0 (by decide), show Lib.itoa 2 = [50] from itoa_d 2 (by decide), show Lib.itoa 3 = [51] from itoa_d 3 (by decide), show Lib.itoa 6 = [54] from itoa_d 6 (by decide), show Lib.itoa 7 = [55] from itoa_d 7 (by decide)]
 decide
theorem known_parse : parseK [34, 97, 34, 32, 108, 97, 116, 101, 32, 48, 32, 49, 48, 32, 50, 32, 51, 32, 54, 32, 45, 50, 32, 55] = some ⟨[97], 0, 10, 3, 2, 3, 6, -2, 7⟩ := by
 have hk : keyK [34, 97, 34, 32, 108, 97, 116, 101, 32, 48, 32, 49, 48, 32, 50, 32, 51, 32, 54, 32, 45, 50, 32, 55] = some ([97], [32, 108, 97, 116, 101, 32, 48, 32, 49, 48, 32, 50, 32, 51, 32, 54, 32, 45, 50, 32, 55]) := (keyK_iff _ _ _).2 (by decide)
 have hp : pcs [] [32, 108, 97, 116, 101, 32, 48, 32, 49, 48, 32, 50, 32, 51, 32, 54, 32, 45, 50, 32, 55] = [[], [108, 97, 116, 101], [48], [49, 48], [50], [51], [54], [45, 50], [55]] := by decide
 have n0 : numK [48] = some 0 := (numK_iff _ _).2 ⟨(itoa_d 0 (by decide)).symm, by unfold in64; omega⟩
 have n1 : numK [49, 48] = some 10 := (numK_iff _ _).2 ⟨itoa_10.symm, by unfold in64; omega⟩
 have n2 : numK [50] = some 2 := (numK_iff _ _).2 ⟨(itoa_d 2 (by decide)).symm, by unfold in64; omega⟩
 have n3 : numK [51] = some 3 := (numK_iff _ _).2 ⟨(itoa_d 3 (by decide)).symm, by unfold in64; omega⟩
 have n6 : numK [54] = some 6 := (numK_iff _ _).2 ⟨(itoa_d 6 (by decide)).symm, by unfold in64; omega⟩
 have nm : numK [45, 50] = some (-2) := (numK_iff _ _).2 ⟨itoa_m2.symm, by unfold in64; omega⟩
 have n7 : numK [55] = some 7 := (numK_iff _ _).2 ⟨(itoa_d 7 (by decide)).symm, by unfold in64; omega⟩
 unfold parseK
 rw [hk]
 simp only
 rw [hp]
 simp only [parseP]
 rw [if_neg (by decide)]
 simp only [List.mapM_cons, List.mapM_nil, n0, n1, n2, n3, n6, nm, n7]
 rfl
noncomputable def B25 : Code := (Tryd.f25.body).getD .skip
set_option maxHeartbeats 20000000 in
set_option maxRecDepth 100000 in
theorem alike_one (a b : Nat) (w : World) (ha : w.heap[a]? = some (.cells oneV.toArray 29 (0, 0))) (hb : w.heap[b]? = some (.cells oneV.toArray 29 (0, 0))) :
  Calls Tryd.prog 25 #[.slice (some ⟨a, 0, none⟩) 1 1, .slice (some ⟨b, 0, none⟩) 1 1] w fun e w' => e = .returned (.bool true) ∧ Below w.heap.size w w' := by
 refine enter (fn := Tryd.f25) (c := B25) [.sl (some ⟨a, 0, none⟩) 1 1, .sl (some ⟨b, 0, none⟩) 1 1] Tryd.func25 rfl rfl ?_
 refine At.to (noF_stable) (noF_fewer) 20 300 [0, 1, 10] 0 ⟨pops B25 [1, 0] 6, [.seq (sub B25 [1, 1])], [(0, .sl (some (Addr.mk a 0 none)) 1 1), (1, .sl (some (Addr.mk b 0 none)) 1 1), (10, .bo true)], []⟩ (by kernel_rfl) (by kernel_rfl) ?_
 refine At.res 10 (true) true (by kernel_rfl) (by first | assumption | (simp only [*]; done) | (simp [*]; done)) ?_
 refine At.to (noF_stable) (noF_fewer) 20 300 [10, 11, 12] 0 ⟨pops B25 [1, 0] 8, [.seq (sub B25 [1, 1])], [(10, .v (.bool true)), (11, .sl (some (Addr.mk a 0 none)) 1 1), (12, .sl (some (Addr.mk b 0 none)) 1 1)], []⟩ (by kernel_rfl) (by kernel_rfl) ?_
 refine At.call noF_stable 26 [.sl (some ⟨a, 0, none⟩) 1 1, .sl (some ⟨b, 0, none⟩) 1 1] (.v (.bool true)) (by kernel_rfl) (by kernel_rfl) (by kernel_rfl) (fun _ _ w1 hi _ => begins_one a b w1 (blk hi.mem.below ha) (blk hi.mem.below hb)) ?_
 refine At.to (noF_stable) (noF_fewer) 20 300 [4] 0 ⟨.exit .ret, [], [(4, .v (.bool true))], []⟩ (by kernel_rfl) (by kernel_rfl) ?_
 refine At.ret (by kernel_rfl) (.v (.bool true)) (by kernel_rfl) ?_
 intro ρ w9 hm' hf
 exact ⟨rfl, hm'.below⟩
noncomputable def B7 : Code := (Tryd.f7.body).getD .skip
set_option maxHeartbeats 20000000 in
set_option maxRecDepth 100000 in
theorem known_any (w : World) (htp : Lib.TabIs Tryd.prog w "internal/strconv.uint64pow10" .u64 Lib.pow10Tab)
  {tp1 tp2 : TypeId} {q1 q2 : Value} (hs1 : w.var? Tryd.prog "strconv.ErrSyntax" = some #[.iface tp1 q1]) (hs2 : w.var? Tryd.prog "strconv.ErrRange" = some #[.iface tp2 q2]) {m : Int} (hm : w.cell? ⟨3, 0, none⟩ = some (.int .i64 m)) :
  Calls Tryd.prog 7 #[] w fun e w' => e = .returned (.bool true) ∧ Below w.heap.size w w' := by
 refine enter (fn := Tryd.f7) (c := B7) [] Tryd.func7 rfl rfl ?_
 refine At.to (noF_stable) (noF_fewer) 20 300 [1, 10] 1 ⟨pops B7 [1, 1, 0] 1, [.seq (sub B7 pAL10)], [(1, .lp 0 0), (10, .agg zAL0)], [(zAL0, 29)]⟩ (by kernel_rfl) (by kernel_rfl) ?_
 refine At.call noF_stable 15 [.agg one] (.tup [.v (.string ⟨#[34, 97, 34, 32, 108, 97, 116, 101, 32, 48, 32, 49, 48, 32, 50, 32, 51, 32, 54, 32, 45, 50, 32, 55]⟩), .v (.int .i64 0)]) (by kernel_rfl) (by kernel_rfl) (by kernel_rfl) (fun _ _ w1 hi _ => (line_ok [97] 0 10 3 2 3 6 (-2) 7 (by decide) (.inr (.inr rfl)) (by unfold in64; omega) (by unfold in64; omega) (by unfold in64; omega) (by unfold in64; omega) (by unfold in64; omega) (by unfold in64; omega) (by unfold in64; omega) w1 (tab_below htp hi.mem.below rfl)).mono fun e w2 h => ⟨h.1.trans (by rw [known_line]; rfl), h.2⟩) ?_
 refine At.to (noF_stable) (noF_fewer) 20 300 [1, 2, 3, 15] 1 ⟨pops B7 [1, 1, 1, 0] 1, [.seq (sub B7 pAL9)], [(1, .lp 0 0), (2, .v (.string (ByteArray.mk #[34, 97, 34, 32, 108, 97, 116, 101, 32, 48, 32, 49, 48, 32, 50, 32, 51, 32, 54, 32, 45, 50, 32, 55]))), (3, .v (.int .i64 0)), (15, .v (.string (ByteArray.mk #[34, 97, 34, 32, 108, 97, 116, 101, 32, 48, 32, 49, 48, 32, 50, 32, 51, 32, 54, 32, 45, 50, 32, 55])))], [(zAL0, 29)]⟩ (by kernel_rfl) (by kernel_rfl) ?_
 refine At.call noF_stable 8 [.v (.string ⟨#[34, 97, 34, 32, 108, 97, 116, 101, 32, 48, 32, 49, 48, 32, 50, 32, 51, 32, 54, 32, 45, 50, 32, 55]⟩)] (.tup [.agg one, .v (.int .i64 0)]) (by kernel_rfl) (by kernel_rfl) (by kernel_rfl) (fun _ _ w1 hi _ => (parse_any [34, 97, 34, 32, 108, 97, 116, 101, 32, 48, 32, 49, 48, 32, 50, 32, 51, 32, 54, 32, 45, 50, 32, 55] (by decide) w1 (tab_below htp hi.mem.below rfl) (var_below hs1 hi.mem.below) (var_below hs2 hi.mem.below) (cell_below hm hi.mem.below)).mono fun e w2 h => ⟨h.1.trans (by rw [known_parse]; rfl), h.2⟩) ?_
 refine At.to (noF_stable) (noF_fewer) 20 300 [34, 36, 38] 4 ⟨pops B7 [1, 1, 1, 1, 0] 20, [.seq (sub B7 [1, 1, 1, 1, 1])], [(34, .v (.bool true)), (36, .ls 2 0 1 1), (38, .ls 3 0 1 1)], [(zAL0, 29), (zAL0, 29), (zAL0, 29), (zAL0, 29)]⟩ (by kernel_rfl) (by kernel_rfl) ?_
 refine At.call noF_stable 25 [.ls 2 0 1 1, .ls 3 0 1 1] (.v (.bool true)) (by kernel_rfl) (by kernel_rfl) (by kernel_rfl) (fun ρ _ w1 hi _ => alike_one (nth ρ 2) (nth ρ 3) w1 (hi.mem.cells 2 one 29 rfl) (hi.mem.cells 3 one 29 rfl)) ?_
 refine At.to (noF_stable) (noF_fewer) 20 300 [0] 0 ⟨.exit .ret, [], [(0, .v (.bool true))], []⟩ (by kernel_rfl) (by kernel_rfl) ?_
 refine At.ret (by kernel_rfl) (.v (.bool true)) (by kernel_rfl) ?_
 intro ρ w9 hm' hf
 exact ⟨rfl, hm'.below⟩
end Go.Proofs.YtkjnbafdmjakgaaDoor
end
section
--@BJ
namespace Go.Proofs.YtkjnbafdmjakgaaDoor
open Go.RowKit Go.Sx
end Go.Proofs.YtkjnbafdmjakgaaDoor
end
section
--@BK
namespace Go.Proofs.YtkjnbafdmjakgaaDoor
open Go.RowKit Go.Sx
theorem pv_len : ∀ ps : List Pn, (pv ps).length = ps.length * 9
 | [] => rfl
 | p :: ps => by
  rw [show pv (p :: ps) = p.cells ++ pv ps by simp [pv], List.length_append, pv_len ps, cells_len, List.length_cons]
  omega
abbrev Rw := Option Addr × Nat × Nat × List Value
def Rw.own (x : Rw) : Option Nat := (Value.slice x.1 x.2.1 x.2.2.1).ownBlock
/-- PRows of panes, each in memory of its own. -/
def PRows (b : Nat) (L : List Rw) (ρ : List Nat) (w : World) : Prop := (∀ x ∈ L, Row b 29 9 x.1 x.2.1 x.2.2.1 x.2.2.2 ρ w) ∧ L.Pairwise fun x y => ∀ g, x.own = some g → y.own ≠ some g
theorem PRows.none (b : Nat) (ρ : List Nat) (w : World) : PRows b [] ρ w := ⟨fun x h => (by cases h), List.Pairwise.nil⟩
theorem PRows.stable {b : Nat} {L : List Rw} : Stable (PRows b L) := fun ρ w ρ' w' hg hk h => ⟨fun x hx => (h.1 x hx).keep hg hk, h.2⟩
theorem PRows.fewer {b : Nat} {L : List Rw} : FewerK 0 (PRows b L) := fun ρ w k _ h => ⟨fun x hx => Row.fewer _ _ _ _ _ _ _ ρ w k (h.1 x hx), h.2⟩
theorem own_base {w : World} {b b' e size n : Nat} {v : Value} {xs : List Value} (h : w.ownsRow b e size v n xs) (hb : b' ≤ b) : w.ownsRow b' e size v n xs := by
 refine ⟨h.1, ?_⟩
 rcases h.2 with h2 | ⟨g, cap, cur, hv, hg, h3⟩
 ·exact .inl h2
 ·exact .inr ⟨g, cap, cur, hv, Nat.le_trans hb hg, h3⟩
/-- What a change of other blocks leaves of a row. -/
theorem Row.chg {b e size : Nat} {A : Option Addr} {n c : Nat} {xs : List Value} {ρ : List Nat} {w w' : World} {ok : Nat → Prop} (h : Row b e size A n c xs ρ w) (hc : Chg ok w w') (ho : ∀ g, (Value.slice A n c).ownBlock = some g → ¬ ok g) : Row b e size A n c xs ρ w' := by
 have hlt := h.1.lt
 refine ⟨⟨h.1.1, ?_⟩, h.2⟩
 rcases h.1.2 with h2 | ⟨g, cap, cur, hv, hb, hcur, hr⟩
 ·exact .inl h2
 ·have hg : (Value.slice A n c).ownBlock = some g := by rw [hv]; rfl
  exact .inr ⟨g, cap, cur, hv, hb, by rw [hc.block g (hlt g hg).2 (ho g hg)]; exact hcur, hr⟩
section
variable {P : Program} {Q : Exit → Act → World → Prop} {N : Nat} {w0 : World} {ntm : Nat}
/-- A call that makes one more row. -/
theorem At.rowCall {s : S} {L : List Rw} (g : FuncId) (vs : List SV) (xs : List Value) (rv : Option Addr → Nat → Nat → SV) (hc : s.call? = some (g, vs)) (hb : bodied P g = true) (hd : s.dstOk ntm = true) (hq : (match s.pc with | .ops .. => true | _ => false) = true)
  (hr : ∀ ρ w, WInv N w0 ρ s.loc w → Calls P g (SV.denL ρ vs).toArray w fun e w' => ∃ A n c, e = .returned ((rv A n c).den ρ) ∧ RowF w (fun _ => False) [] w.heap.size 29 9 A n c xs [] w')
  (h : ∀ A n c, At P Q N w0 ntm (PRows N ((A, n, c, xs) :: L)) (s.tail ntm (rv A n c))) : At P Q N w0 ntm (PRows N L) s := by
 refine At.callx (X := Option Addr × Nat × Nat) PRows.stable g vs (fun x => rv x.1 x.2.1 x.2.2) (fun x ρ w => PRows N ((x.1, x.2.1, x.2.2, xs) :: L) ρ w) (fun x => PRows.stable) hc hb hd hq (fun ρ a w hi hf => (hr ρ w hi.mem).mono ?_) (fun x => At.mono (fun ρ w h => h.2) (h x.1 x.2.1 x.2.2))
 rintro e w' ⟨A, n, c, rfl, ⟨⟨h1, h2⟩, h3, h4⟩⟩
 have hbel : Below w.heap.size w w' := ⟨h3.1.os, h3.1.tape, h3.1.output, h3.1.size, fun k hk => h3.1.block k hk (fun h => h)⟩
 have hnew : ∀ g, (Value.slice A n c).ownBlock = some g → w.heap.size ≤ g := fun g hg => (h4 g hg).resolve_left fun h => h
 refine ⟨(A, n, c), rfl, hbel, fun x hx => ?_, List.pairwise_cons.2 ⟨fun y hy g hg => ?_, hf.2⟩⟩
 ·rcases List.mem_cons.1 hx with rfl | hx
  ·refine ⟨own_base h1.1 hi.mem.hN, fun g hg hm => ?_⟩
   have h5 := hnew g hg
   have h6 := (hi.mem.ge g hm).2
   omega
  ·exact (hf.1 x hx).keep (Grow.refl _ _) (Keep.of_below hbel)
 ·intro he
  have h5 := hnew g hg
  have h6 := ((hf.1 y hy).1.lt g he).2
  omega
end
noncomputable def B3 : Code := (Tryd.f3.body).getD .skip
end Go.Proofs.YtkjnbafdmjakgaaDoor
end
section
--@BS
namespace Go.Proofs.YtkjnbafdmjakgaaDoor
open Go.RowKit Go.Sx
theorem add_add (a : Addr) (n m : Nat) : (a.add n).add m = a.add (n + m) := by
 unfold Addr.add
 by_cases hn : n = 0
 ·subst hn; simp
 ·by_cases hm : m = 0
  ·subst hm; simp
  ·simp [hn, hm]; omega
theorem src_low {w w' : World} {a : Addr} {xs : List Value} (h : Src w a xs) (hb : Below w.heap.size w w') : Src w' a xs := fun j u hj => cell_below (h j u hj) hb
/-- A slice of panes that was handed in. -/
def SlP (w : World) (A : Option Addr) (n : Nat) (ls : List Pn) : Prop := ls.length = n ∧ (A = none → ls = []) ∧ ∀ a, A = some a → Src w a (pv ls)
theorem SlP.cell {w w1 : World} {a : Addr} {n : Nat} {ls : List Pn} (h : SlP w (some a) n ls) (hb : Below w.heap.size w w1) {i j : Nat} {p : Pn} {ρ : List Nat} {v : Value} (hp : ls[i]? = some p)
  (hj : (SV.denL ρ (paneL (mkB p.key) p.st p.en p.kd p.nt p.ct p.sm p.mn p.mx))[j]? = some v) : w1.cell? ((a.add ((i : Int).toNat * 9)).add j) = some v := by
 rw [Int.toNat_natCast, add_add]
 exact src_low (h.2.2 a rfl) hb _ _ (pv_at hp hj)
theorem SlP.some {w : World} {A : Option Addr} {n : Nat} {ls : List Pn} (h : SlP w A n ls) (hn : 0 < n) : ∃ a, A = some a := by
 cases A with
 | none => have := h.1; rw [h.2.1 rfl] at this; simp at this; omega
 | some a => exact ⟨a, rfl⟩
theorem PRows.one {b n c : Nat} {A : Option Addr} {xs : List Value} {ρ : List Nat} {w : World} (h : Row b 29 9 A n c xs ρ w) : PRows b [(A, n, c, xs)] ρ w :=
 ⟨fun x hx => by rw [List.mem_singleton.1 hx]; exact h, List.pairwise_singleton _ _⟩
end Go.Proofs.YtkjnbafdmjakgaaDoor
end
section
--@CG
namespace Go.Proofs.YtkjnbafdmjakgaaDoor
open Go.RowKit Go.Sx
theorem SlP.below {w w' : World} {A : Option Addr} {n : Nat} {ps : List Pn} (h : SlP w A n ps) (hb : Below w.heap.size w w') : SlP w' A n ps := ⟨h.1, h.2.1, fun a ha => src_low (h.2.2 a ha) hb⟩
set_option maxHeartbeats 20000000 in
set_option maxRecDepth 100000 in
theorem same_sl {A B : Option Addr} {n m c d : Nat} {ps qs : List Pn} (w : World) (hA : SlP w A n ps) (hB : SlP w B m qs) (hbig : n ≤ 1048576) :
  Calls Tryd.prog 12 #[.slice A n c, .slice B m d] w fun e w' => e = .returned (.bool (decide (ps = qs))) ∧ Below w.heap.size w w' := by
 refine enter (fn := Tryd.f12) (c := B12) [.sl A n c, .sl B m d] Tryd.func12 rfl rfl ?_
 refine At.to (noF_stable) (noF_fewer) 0 300 [0, 1, 10] 0 ⟨.code (sub B12 [1, 0, 1]), [.seq (sub B12 [1, 1])], [(0, .sl A n c), (1, .sl B m d), (10, .bo ((↑n : Int) != (↑m : Int)))], []⟩ (by kernel_rfl) (by kernel_rfl) ?_
 rcases Bool.eq_false_or_eq_true ((↑n : Int) != (↑m : Int)) with b0 | b0
 ·refine At.res 10 ((↑n : Int) != (↑m : Int)) true (by kernel_rfl) b0 ?_
  refine At.to (noF_stable) (noF_fewer) 0 300 [4] 0 ⟨.exit .ret, [], [(4, .v (.bool false))], []⟩ (by kernel_rfl) (by kernel_rfl) ?_
  refine At.ret (by kernel_rfl) (.v (.bool false)) (by kernel_rfl) ?_
  have hne : n ≠ m := fun e => by simp [e] at b0
  intro ρ w9 hm' hf
  exact ⟨by rw [show decide (ps = qs) = false from decide_eq_false fun e => hne (by rw [← hA.1, ← hB.1, e])]; rfl, hm'.below⟩
 ·refine At.res 10 ((↑n : Int) != (↑m : Int)) false (by kernel_rfl) b0 ?_
  refine At.to (noF_stable) (noF_fewer) 0 300 [0, 1, 5] 0 ⟨.code (sub B12 [1, 1, 0, 1, 4]), [.block 0, .seq (sub B12 pAL10)], [(0, .sl A n c), (1, .sl B m d), (5, .v (.int .i64 0))], []⟩ (by kernel_rfl) (by kernel_rfl) ?_
  have hnm : n = m := Int.ofNat.inj (show (n : Int) = (m : Int) by simpa using b0)
  clear b0
  subst hnm
  refine At.canon _ rfl ?_
  refine At.loop (σ := Nat) (sub B12 pAL8) (frS A B n c d) locS (fun i _ _ => i ≤ n ∧ ∀ k, k < i → ps[k]? = qs[k]?) (fun i => n - i) 0 (by kernel_rfl) (by unfold subFr; kernel_rfl) (by kernel_rfl) (fun _ _ _ _ h => ⟨Nat.zero_le _, fun k hk => absurd hk (Nat.not_lt_zero k)⟩) ?_
  intro i
  refine At.mono (F' := fun ρ w => noF ρ w ∧ (i ≤ n ∧ ∀ k, k < i → ps[k]? = qs[k]?)) (fun ρ w h => ⟨trivial, h⟩) ?_
  refine At.pure fun ⟨h1, h2⟩ => ?_
  refine At.to (noF_stable) (noF_fewer) 0 300 [0, 1, 5, 14] 0 ⟨.code (sub B12 [1, 1, 0, 1, 4, 4, 0, 1]), [.seq (sub B12 [1, 1, 0, 1, 4, 4, 1]), .next (Sx.Next w.heap.size w Tryd.f12.ntmps (frS A B n c d) locS (fun i x x_1 => i ≤ n ∧ ∀ (k : Nat), k < i → ps[k]? = qs[k]?) (fun i => n - i) i), .block 0, .seq (sub B12 pAL10)], [(0, .sl A n c), (1, .sl B n d), (5, .io .i64 (↑i : Int)), (14, .bo (decide ((↑i : Int) < (↑n : Int))))], []⟩ (by kernel_rfl) (by kernel_rfl) ?_
  rcases Bool.eq_false_or_eq_true (decide ((↑i : Int) < (↑n : Int))) with b0 | b0
  ·refine At.res 14 (decide ((↑i : Int) < (↑n : Int))) true (by kernel_rfl) b0 ?_
   refine At.to (noF_stable) (noF_fewer) 0 300 [0, 1, 5, 17, 18] 0 ⟨pqops B12 [1, 1, 0, 1, 4, 4, 1, 0, 4, 0] 2, [.seq (sub B12 pAL5), .block 1, .seq (sub B12 pAL6), .next (Sx.Next w.heap.size w Tryd.f12.ntmps (frS A B n c d) locS (fun i x x_1 => i ≤ n ∧ ∀ (k : Nat), k < i → ps[k]? = qs[k]?) (fun i => n - i) i), .block 0, .seq (sub B12 pAL10)], [(0, .sl A n c), (1, .sl B n d), (5, .io .i64 (↑i : Int)), (17, .sl A n c), (18, .io .i64 (↑i : Int))], []⟩ (by kernel_rfl) (by kernel_rfl) ?_
   have hi : i < n := by have := of_decide_eq_true b0; omega
   clear b0
   obtain ⟨p, hp⟩ : ∃ p, ps[i]? = some p := ⟨_, List.getElem?_eq_getElem (by rw [hA.1]; exact hi)⟩
   obtain ⟨q, hq⟩ : ∃ q, qs[i]? = some q := ⟨_, List.getElem?_eq_getElem (by rw [hB.1]; exact hi)⟩
   obtain ⟨a, rfl⟩ := hA.some (by omega)
   obtain ⟨b, rfl⟩ := hB.some (by omega)
   refine At.idx a n 9 (i : Int) (by kernel_rfl) (by omega) (by omega) noF_stable ?_
   refine At.lda (a.add ((i : Int).toNat * 9)) 9 (paneL (mkB p.key) p.st p.en p.kd p.nt p.ct p.sm p.mn p.mx) (by kernel_rfl) rfl noF_stable (fun ρ w1 hm' hf j v hj => hA.cell hm'.below hp hj) ?_
   refine At.to (noF_stable) (noF_fewer) 0 300 [0, 1, 5, 20, 21, 22] 0 ⟨pqops B12 [1, 1, 0, 1, 4, 4, 1, 0, 4, 0] 6, [.seq (sub B12 pAL5), .block 1, .seq (sub B12 pAL6), .next (Sx.Next w.heap.size w Tryd.f12.ntmps (frS (some a) (some b) n c d) locS (fun i x x_1 => i ≤ n ∧ ∀ (k : Nat), k < i → ps[k]? = qs[k]?) (fun i => n - i) i), .block 0, .seq (sub B12 pAL10)], [(0, .sl (some a) n c), (1, .sl (some b) n d), (5, .io .i64 (↑i : Int)), (20, .agg [.so (mkB p.key), .io .i64 p.st, .io .i64 p.en, .io .i64 p.kd, .io .i64 p.nt, .io .i64 p.ct, .io .i64 p.sm, .io .i64 p.mn, .io .i64 p.mx]), (21, .sl (some b) n d), (22, .io .i64 (↑i : Int))], []⟩ (by kernel_rfl) (by kernel_rfl) ?_
   refine At.idx b n 9 (i : Int) (by kernel_rfl) (by omega) (by omega) noF_stable ?_
   refine At.lda (b.add ((i : Int).toNat * 9)) 9 (paneL (mkB q.key) q.st q.en q.kd q.nt q.ct q.sm q.mn q.mx) (by kernel_rfl) rfl noF_stable (fun ρ w1 hm' hf j v hj => hB.cell hm'.below hq hj) ?_
   refine At.to (noF_stable) (noF_fewer) 0 300 [0, 1, 5, 25] 0 ⟨.code (sub B12 pAL5), [.block 1, .seq (sub B12 pAL6), .next (Sx.Next w.heap.size w Tryd.f12.ntmps (frS (some a) (some b) n c d) locS (fun i x x_1 => i ≤ n ∧ ∀ (k : Nat), k < i → ps[k]? = qs[k]?) (fun i => n - i) i), .block 0, .seq (sub B12 pAL10)], [(0, .sl (some a) n c), (1, .sl (some b) n d), (5, .io .i64 (↑i : Int)), (25, .bo !((mkB p.key).toList == (mkB q.key).toList && (p.st == q.st && (p.en == q.en && true) && (p.kd == q.kd && (p.nt == q.nt && (p.ct == q.ct && (p.sm == q.sm && (p.mn == q.mn && (p.mx == q.mx && true))) && true))))))], []⟩ (by kernel_rfl) (by kernel_rfl) ?_
   rcases Bool.eq_false_or_eq_true (!((mkB p.key).toList == (mkB q.key).toList && (p.st == q.st && (p.en == q.en && true) && (p.kd == q.kd && (p.nt == q.nt && (p.ct == q.ct && (p.sm == q.sm && (p.mn == q.mn && (p.mx == q.mx && true))) && true)))))) with b0 | b0
   ·refine At.res 25 (!((mkB p.key).toList == (mkB q.key).toList && (p.st == q.st && (p.en == q.en && true) && (p.kd == q.kd && (p.nt == q.nt && (p.ct == q.ct && (p.sm == q.sm && (p.mn == q.mn && (p.mx == q.mx && true))) && true)))))) true (by kernel_rfl) b0 ?_
    refine At.to (noF_stable) (noF_fewer) 0 300 [4] 0 ⟨.exit .ret, [], [(4, .v (.bool false))], []⟩ (by kernel_rfl) (by kernel_rfl) ?_
    refine At.ret (by kernel_rfl) (.v (.bool false)) (by kernel_rfl) ?_
    rw [pane_beq] at b0
    have hne : p ≠ q := by simpa using b0
    intro ρ w9 hm' hf
    exact ⟨by rw [show decide (ps = qs) = false from decide_eq_false fun e => hne (by rw [e, hq] at hp; exact (Option.some.inj hp).symm)]; rfl, hm'.below⟩
   ·refine At.res 25 (!((mkB p.key).toList == (mkB q.key).toList && (p.st == q.st && (p.en == q.en && true) && (p.kd == q.kd && (p.nt == q.nt && (p.ct == q.ct && (p.sm == q.sm && (p.mn == q.mn && (p.mx == q.mx && true))) && true)))))) false (by kernel_rfl) b0 ?_
    refine At.to (noF_stable) (noF_fewer) 0 300 [0, 1, 5] 0 ⟨.exit .normal, [.next (Sx.Next w.heap.size w Tryd.f12.ntmps (frS (some a) (some b) n c d) locS (fun i x x_1 => i ≤ n ∧ ∀ (k : Nat), k < i → ps[k]? = qs[k]?) (fun i => n - i) i), .block 0, .seq (sub B12 pAL10)], [(0, .sl (some a) n c), (1, .sl (some b) n d), (5, .io .i64 (IntKind.i64.wrap ((↑i : Int) + 1)))], []⟩ (by kernel_rfl) (by kernel_rfl) ?_
    rw [pane_beq] at b0
    have heq : p = q := by simpa using b0
    subst heq
    have hw3 : IntKind.i64.wrap ((i : Int) + 1) = ((i + 1 : Nat) : Int) := by
     rw [wrap63 (by omega) (by omega)]
     omega
    rw [hw3]
    refine At.next (σ := Nat) (i + 1) rfl rfl (by unfold subFr; kernel_rfl) (by kernel_rfl) ?_ ?_
    ·intro ρ a' w' hi' hf
     refine ⟨by omega, fun k hk => ?_⟩
     by_cases hki : k = i
     ·subst hki
      rw [hp, hq]
     ·exact h2 k (by omega)
    ·show n - (i + 1) < n - i
     omega
  ·refine At.res 14 (decide ((↑i : Int) < (↑n : Int))) false (by kernel_rfl) b0 ?_
   refine At.to (noF_stable) (noF_fewer) 0 300 [4] 0 ⟨.exit .ret, [], [(4, .v (.bool true))], []⟩ (by kernel_rfl) (by kernel_rfl) ?_
   refine At.ret (by kernel_rfl) (.v (.bool true)) (by kernel_rfl) ?_
   have hi : ¬ (i : Int) < (n : Int) := of_decide_eq_false b0
   have ha := hA.1
   have hb := hB.1
   intro ρ w9 hm' hf
   exact ⟨by rw [show decide (ps = qs) = true from decide_eq_true (List.ext_getElem? fun k => if hk : k < i then h2 k hk else by rw [List.getElem?_eq_none (by omega), List.getElem?_eq_none (by omega)])]; rfl, hm'.below⟩
section
variable {P : Program} {Q : Exit → Act → World → Prop} {N : Nat} {w0 : World} {ntm : Nat}
end
end Go.Proofs.YtkjnbafdmjakgaaDoor
end
section
--@CH
namespace Go.Proofs.YtkjnbafdmjakgaaDoor
open Go.RowKit Go.Sx
theorem pv_one (ls : List Pn) : ∀ u ∈ pv ls, u.oneCell' = true := by
 intro u hu
 obtain ⟨p, _, hp⟩ := List.mem_flatMap.1 hu
 simp only [Pn.cells, List.mem_cons, List.not_mem_nil, or_false] at hp
 rcases hp with rfl | rfl | rfl | rfl | rfl | rfl | rfl | rfl | rfl <;> rfl
section
variable {w : World} {base nl c : Nat} {ls : List Pn}
end
end Go.Proofs.YtkjnbafdmjakgaaDoor
end
section
--@TN
namespace Go.Proofs.YtkjnbafdmjakgaaDoor
open Go.RowKit Go.Sx
noncomputable def B56 : Code := (Tryd.f56.body).getD .skip
set_option maxHeartbeats 20000000 in
set_option maxRecDepth 100000 in
theorem clone_pn {a : Addr} {n c : Nat} {ps : List Pn} (w : World) (hl : ps.length = n) (ha : a.block < w.heap.size) (hsrc : Go.Sx.Src w a (pv ps)) (hn : n ≤ 1000000) :
  Calls Tryd.prog 56 #[.slice (some a) n c] w fun e w' => ∃ A' c', e = .returned (.slice A' n c') ∧ RowF w (fun _ => False) [] w.heap.size 29 9 A' n c' (pv ps) [] w' := by
 refine enter (fn := Tryd.f56) (c := B56) [.sl (some a) n c] Tryd.func56 rfl rfl ?_
 refine At.to (noF_stable) (noF_fewer) 0 300 [0, 4] 0 ⟨.code (sub B56 [1, 0, 1]), [.seq (sub B56 [1, 1])], [(0, .sl (some a) n c), (4, .bo false)], []⟩ (by kernel_rfl) (by kernel_rfl) ?_
 refine At.res 4 (false) false (by kernel_rfl) (by first | assumption | (simp only [*]; done) | (simp [*]; done)) ?_
 refine At.to (noF_stable) (noF_fewer) 0 300 [5, 6] 1 ⟨pops B56 [1, 1, 0] 2, [.seq (sub B56 [1, 0, 1, 2, 1])], [(5, .ls 0 0 0 0), (6, .sl (some a) n c)], [([], 29)]⟩ (by kernel_rfl) (by kernel_rfl) ?_
 refine At.appNew [] 29 9 80 a n c (pv ps) (by kernel_rfl) rfl ha hsrc (by rw [pv_len, hl]) (pv_one ps) (by omega) (by simp only [maxLen]; omega) ?_
 intro A1 c1
 refine At.toJ (RowF.stable) RowF.fewer 0 300 [2] 0 ⟨.exit .ret, [], [(2, .sl A1 n c1)], []⟩ (by kernel_rfl) (by kernel_rfl) ?_
 refine At.ret (by kernel_rfl) (.sl A1 n c1) (by kernel_rfl) ?_
 intro ρ w9 hm hf
 exact ⟨A1, c1, rfl, RowF.fewer _ _ 0 (Nat.zero_le _) hf⟩
end Go.Proofs.YtkjnbafdmjakgaaDoor
end
section
--@TO
namespace Go.Proofs.YtkjnbafdmjakgaaDoor
open Go.RowKit Go.Sx
section
variable {κ ν : Type} {kw : κ → List Value} {vw : ν → List Value}
/-- What holds between two rounds: rows, trees, the mark, the record; which the local blocks are. -/
def BF (kw : κ → List Value) (vw : ν → List Value) (N : Nat) (ρ1 : List Nat) (D : Nat) (o : Obj) (L : List Sx.Rw) (T : List (Fc κ ν)) (ρ : List Nat) (w : World) : Prop :=
 KF kw vw N [D, D + 1] L T ρ w ∧ (Rec D (.deferred (some [])) ρ w ∧ (Rec (D + 1) o ρ w ∧ Tk ρ1 ρ w))
variable {N : Nat} {ρ1 : List Nat} {D : Nat} {o : Obj} {L : List Sx.Rw} {T : List (Fc κ ν)}
theorem BF.stable : Stable (BF kw vw N ρ1 D o L T) := KF.stable.and (Rec.stable.and (Rec.stable.and Tk.stable))
theorem BF.fewer : FewerK ρ1.length (BF kw vw N ρ1 D o L T) := FewerK.and2 (FewerK.up KF.fewer) (FewerK.and2 (FewerK.up Rec.fewer) (FewerK.and2 (FewerK.up Rec.fewer) Tk.fewer))
theorem Stable.andP {F : List Nat → World → Prop} {p : Prop} (h : Stable F) : Stable (fun ρ w => F ρ w ∧ p) := fun ρ w ρ' w' hg hk hf => ⟨h ρ w ρ' w' hg hk hf.1, hf.2⟩
theorem BF.more2 {x : Sx.Rw} {e size n c : Nat} {A : Option Addr} {xs : List Value} {ρ : List Nat} {w w' w0 : World} {loc : Sx.Loc} (h : BF kw vw N ρ1 D o (x :: L) T ρ w) (hm : WInv N w0 ρ loc w) (hb : Below w.heap.size w w') (hr : Row w.heap.size e size A n c xs [] w') : BF kw vw N ρ1 D o (x :: ⟨e, size, A, n, c, xs⟩ :: L) T ρ w' := by
 have hs := (Rec.stable.and (Rec.stable.and Tk.stable)) ρ w ρ w' (Grow.refl _ _) (Keep.of_below hb) h.2
 exact ⟨(KF.more hm h.1 hb hr).perm (List.Perm.swap ..) (fun f hf => hf), hs⟩
theorem Rec.grown {D : Nat} {o : Obj} {ρ : List Nat} {w w' : World} {row : Option Nat} (h : Rec D o ρ w) (hg : w.grownBy w' row) (hn : row ≠ some D) : Rec D o ρ w' := ⟨(hg.block D (Array.getElem?_eq_some_iff.1 h.1).1 (fun e => hn e.symm)).trans h.1, h.2⟩
theorem row_not {x : Sx.Rw} {N : Nat} {ρ : List Nat} {w : World} (h : Row N x.e x.size x.A x.n x.c x.xs ρ w) {D : Nat} {o : Obj} (hD : w.heap[D]? = some o) (ho : ∀ c t f, o ≠ .cells c t f) : x.own ≠ some D := fun e => by
 obtain ⟨cur, hc⟩ := row_own h e
 rw [hD] at hc
 injection hc with hc
 exact ho _ _ _ hc
theorem BF.grown {x y : Sx.Rw} {ρ : List Nat} {w w' : World} (h : BF kw vw N ρ1 D o (x :: L) T ρ w) (hy : Row N y.e y.size y.A y.n y.c y.xs ρ w') (hg : w.grownBy w' x.own) (ho : y.own = x.own ∨ y.own = some w.heap.size ∨ y.own = none) (hoc : ∀ c t f, o ≠ .cells c t f) : BF kw vw N ρ1 D o (y :: L) T ρ w' := by
 obtain ⟨h1, h2, h3, h4⟩ := h
 have hrow := h1.1.1 x (List.mem_cons_self ..)
 exact ⟨h1.grown hy hg ho, Rec.grown h2 hg (row_not hrow h2.1 (fun _ _ _ => by simp)), Rec.grown h3 hg (row_not hrow h3.1 hoc), h4⟩
theorem BF.perm {L' : List Sx.Rw} {T' : List (Fc κ ν)} {ρ : List Nat} {w : World} (h : BF kw vw N ρ1 D o L T ρ w) (hp : L'.Perm L) (hT : ∀ f ∈ T', f ∈ T) : BF kw vw N ρ1 D o L' T' ρ w := ⟨h.1.perm hp hT, h.2⟩
theorem BF.putObj {ρ : List Nat} {w : World} (h : BF kw vw N ρ1 D o L T ρ w) (ho : ∀ c t f, o ≠ .cells c t f) (o' : Obj) : BF kw vw N ρ1 D o' L T ρ (w.putObj (D + 1) o') := by
 obtain ⟨h1, h2, h3, h4⟩ := h
 have hlt := (Array.getElem?_eq_some_iff.1 h3.1).1
 refine ⟨h1.putObj h3.1 ho (by simp) o', ⟨?_, h2.2⟩, ⟨World.putObj_heap_same hlt, h3.2⟩, h4⟩
 rw [World.putObj_heap_other (by omega)]
 exact h2.1
end
theorem row_nn {base n c m : Nat} {A : Option Addr} {ps : List Pn} {ρ : List Nat} {w : World} (h : Row base 29 9 A n c (pv ps) ρ w) (hm : ps.length = m) : n = m := by
 have := h.1.1
 rw [pv_len] at this
 omega
theorem src_low2 {w : World} {a : Addr} {ps : List Pn} (h : Go.Sx.Src w a (pv ps)) (hp : 0 < ps.length) : a.block < w.heap.size := by
 obtain ⟨p, r, rfl⟩ : ∃ p r, ps = p :: r := by
  cases ps with
  | nil => simp at hp
  | cons p r => exact ⟨p, r, rfl⟩
 have h1 := h 0 (.string (mkB p.key)) rfl
 have hblk : (a.add 0).block = a.block := by unfold Addr.add; split <;> rfl
 unfold World.cell? at h1
 rw [hblk] at h1
 rcases Nat.lt_or_ge a.block w.heap.size with h2 | h2
 ·exact h2
 ·rw [Array.getElem?_eq_none h2] at h1
  cases h1
def locK (mb : Nat) (A : Option Addr) (n c : Nat) : Sx.Loc := [([.sl A n c], 54), ([.v (.pointer (some ⟨mb, 0, none⟩))], 97), ([.v (.bool false)], 4), ([.fn (.func 77) []], 42)]
def frKB (k : List UInt8) (s : SlV) : Fr := [(8, .lp 0 0), (9, .so (mkB k)), (10, .sl s.A s.n s.c)]
noncomputable def B23 : Code := (Tryd.f23.body).getD .skip
noncomputable def BKa : Code := match sub B23 [1, 1, 1, 1, 0, 1, 4] with | .rangeFunc _ _ a _ => a | _ => .skip
noncomputable def BKb : Code := match sub B23 [1, 1, 1, 1, 0, 1, 4] with | .rangeFunc _ _ _ b => b | _ => .skip
set_option maxHeartbeats 20000000 in
set_option maxRecDepth 100000 in
theorem kbody [Md] {N : Nat} {w0 : World} {ρ1 : List Nat} (h4 : ρ1.length = 4) {D mb l : Nat} {o : Obj} (hoc : ∀ c t f, o ≠ .cells c t f) {L : List Sx.Rw} {T : List (Fc (List UInt8) SlV)} {R : Ending → World → Prop} (k : List UInt8) (s : SlV) (ps : List Pn) (A : Option Addr) (n c : Nat) (xs : List Value)
  (hs : (⟨29, 9, s.A, s.n, s.c, pv ps⟩ : Sx.Rw) ∈ L) (hsn : ps.length = s.n) (hp : 0 < ps.length) (hs2 : s.n ≤ 100000) (hn : n ≤ 100000)
  (hend : ∀ (A' : Option Addr) (c' : Nat) (B : Option Addr) (d : Nat) (ρ' : List Nat) (w' : World), WInv N w0 ρ' (locK mb A' (n + 1) c') w' → BF kw1 vw1 N ρ1 D o (⟨57, 2, A', n + 1, c', xs ++ [.string (mkB k), .slice B s.n d]⟩ :: ⟨29, 9, B, s.n, d, pv ps⟩ :: L) T ρ' w' →
   ∃ r, w'.heap[l]? = some (.loop r) ∧ R (.returned (.bool true)) (w'.putObj l (.loop { r with state := .ready, pending := none }))) :
  At Tryd.prog (roundPost Tryd.prog l R) N w0 Tryd.f23.ntmps (BF kw1 vw1 N ρ1 D o (⟨57, 2, A, n, c, xs⟩ :: L) T) ⟨.code BKb, [], frKB k s, locK mb A n c⟩ := by
 have h4 : ∀ {L : List Sx.Rw}, FewerK 4 (BF kw1 vw1 N ρ1 D o L T) := h4 ▸ BF.fewer
 refine At.toJ (BF.stable) h4 0 300 [8, 9, 10] 4 ⟨.any (opsOf (sub BKb [4])) 8 [], [.block 3], [(8, .lp 0 0), (9, .so (mkB k)), (10, .sl s.A s.n s.c)], [([.sl A n c], 54), ([.v (.pointer (some (Addr.mk mb 0 none)))], 97), ([.v (.bool false)], 4), ([.fn (Fn.func 77) []], 42)]⟩ (by kernel_rfl) (by kernel_rfl) ?_
 refine At.cutN (σ := Option Addr × Nat × Option Addr × Nat) (fun x => [(8, .lp 0 0)]) (fun x => locK mb x.1 (n + 1) x.2.1) (fun x => BF kw1 vw1 N ρ1 D o (⟨57, 2, x.1, n + 1, x.2.1, xs ++ [.string (mkB k), .slice x.2.2.1 s.n x.2.2.2]⟩ :: ⟨29, 9, x.2.2.1, s.n, x.2.2.2, pv ps⟩ :: L) T) rfl ?_ (fun x => ?_)
 ·refine At.purify0 (fun e a w h => h.1) 20 ?_
  refine At.toJ (BF.stable) h4 0 300 [8, 9, 10, 39, 40] 4 ⟨.any (opsOf (sub BKb [4])) 6 [2, 1], [], [(8, .lp 0 0), (9, .so (mkB k)), (10, .sl s.A s.n s.c), (39, .so (mkB k)), (40, .sl s.A s.n s.c)], [([.sl A n c], 54), ([.v (.pointer (some (Addr.mk mb 0 none)))], 97), ([.v (.bool false)], 4), ([.fn (Fn.func 77) []], 42)]⟩ (by kernel_rfl) (by kernel_rfl) ?_
  refine At.fork [0, 3] rfl (by kernel_rfl) rfl (allOf.cons ?_ (allOf.cons ?_ allOf.nil))
  ·refine At.toJ (BF.stable) h4 0 300 [8, 9, 10, 38, 39, 40] 4 ⟨.ops (opsOf (sub BKb [4])) (((opsOf (sub BKb [4])).toList.drop 3).take 1), [.any (opsOf (sub BKb [4])) 4 [3, 0, 2, 1]], [(8, .lp 0 0), (9, .so (mkB k)), (10, .sl s.A s.n s.c), (38, .sl A n c), (39, .so (mkB k)), (40, .sl s.A s.n s.c)], [([.sl A n c], 54), ([.v (.pointer (some (Addr.mk mb 0 none)))], 97), ([.v (.bool false)], 4), ([.fn (Fn.func 77) []], 42)]⟩ (by kernel_rfl) (by kernel_rfl) ?_
   refine At.rowCallX (e := 29) (size := 9) (F' := fun B m d ρ w1 => BF kw1 vw1 N ρ1 D o (⟨57, 2, A, n, c, xs⟩ :: ⟨29, 9, B, m, d, pv ps⟩ :: L) T ρ w1 ∧ m = s.n) 56 [.sl s.A s.n s.c] (pv ps) (fun B m d => .sl B m d) BF.stable (fun B m d => Stable.andP BF.stable) (by kernel_rfl) (by kernel_rfl) (by kernel_rfl) (by kernel_rfl) (fun ρ w1 hm hf => ?_) (fun ρ w1 w2 B m d hm hf hb hr => ⟨hf.more2 hm hb hr, row_nn hr hsn⟩) (fun B m d => At.pure fun hmd => ?_)
   ·obtain ⟨a, ha⟩ := hf.1.1.some (List.mem_cons_of_mem _ hs) (show 0 < s.n by omega)
    have hsrc := hf.1.1.src (List.mem_cons_of_mem _ hs) ha
    simp only at ha hsrc
    rw [ha]
    refine (clone_pn (a := a) (c := s.c) w1 hsn (src_low2 hsrc hp) hsrc (by omega)).mono ?_
    rintro e w2 ⟨B, d, rfl, h2⟩
    exact ⟨B, s.n, d, rfl, h2⟩
   subst hmd
   refine At.toJ (BF.stable) h4 0 300 [8, 9, 10, 38, 43] 5 ⟨.ops (opsOf (sub BKb [4])) (((opsOf (sub BKb [4])).toList.drop 6).take 1), [.any (opsOf (sub BKb [4])) 1 [6, 5, 4, 3, 0, 2, 1]], [(8, .lp 0 0), (9, .so (mkB k)), (10, .sl s.A s.n s.c), (38, .sl A n c), (43, .ls 4 0 1 1)], [([.sl A n c], 54), ([.v (.pointer (some (Addr.mk mb 0 none)))], 97), ([.v (.bool false)], 4), ([.fn (Fn.func 77) []], 42), ([.so (mkB k), .sl B s.n d], 57)]⟩ (by kernel_rfl) (by kernel_rfl) ?_
   refine At.appVX (F' := fun A' c' => BF kw1 vw1 N ρ1 D o (⟨57, 2, A', n + 1, c', xs ++ [.string (mkB k), .slice B s.n d]⟩ :: ⟨29, 9, B, s.n, d, pv ps⟩ :: L) T) 54 57 2 40 A n c 1 [.so (mkB k), .sl B s.n d] xs [.string (mkB k), .slice B s.n d] (by kernel_rfl) (fun _ => rfl) (by omega) (by simp only [maxLen]; omega) (fun ρ w1 hf => hf.1.1.1 _ (List.mem_cons_self ..)) (fun ρ w1 w2 A' c' hm hf hr hg ho => hf.grown (y := ⟨57, 2, A', n + 1, c', xs ++ [.string (mkB k), .slice B s.n d]⟩) hr hg (ho.imp id .inl) hoc) (fun A' c' => ?_)
   refine At.toJ (BF.stable) h4 0 300 [8, 9, 10] 4 ⟨.exit .normal, [], [(8, .lp 0 0), (9, .so (mkB k)), (10, .sl s.A s.n s.c)], [([.sl A' (n + 1) c'], 54), ([.v (.pointer (some (Addr.mk mb 0 none)))], 97), ([.v (.bool false)], 4), ([.fn (Fn.func 77) []], 42)]⟩ (by kernel_rfl) (by kernel_rfl) ?_
   exact At.fin (A', c', B, d) rfl rfl (by unfold subFr; kernel_rfl) rfl (fun _ _ _ _ h => h)
  ·refine At.toJ (BF.stable) h4 0 300 [8, 9, 10, 39, 40] 4 ⟨.ops (opsOf (sub BKb [4])) (((opsOf (sub BKb [4])).toList.drop 3).take 1), [.any (opsOf (sub BKb [4])) 5 [3, 2, 1]], [(8, .lp 0 0), (9, .so (mkB k)), (10, .sl s.A s.n s.c), (39, .so (mkB k)), (40, .sl s.A s.n s.c)], [([.sl A n c], 54), ([.v (.pointer (some (Addr.mk mb 0 none)))], 97), ([.v (.bool false)], 4), ([.fn (Fn.func 77) []], 42)]⟩ (by kernel_rfl) (by kernel_rfl) ?_
   refine At.rowCallX (e := 29) (size := 9) (F' := fun B m d ρ w1 => BF kw1 vw1 N ρ1 D o (⟨57, 2, A, n, c, xs⟩ :: ⟨29, 9, B, m, d, pv ps⟩ :: L) T ρ w1 ∧ m = s.n) 56 [.sl s.A s.n s.c] (pv ps) (fun B m d => .sl B m d) BF.stable (fun B m d => Stable.andP BF.stable) (by kernel_rfl) (by kernel_rfl) (by kernel_rfl) (by kernel_rfl) (fun ρ w1 hm hf => ?_) (fun ρ w1 w2 B m d hm hf hb hr => ⟨hf.more2 hm hb hr, row_nn hr hsn⟩) (fun B m d => At.pure fun hmd => ?_)
   ·obtain ⟨a, ha⟩ := hf.1.1.some (List.mem_cons_of_mem _ hs) (show 0 < s.n by omega)
    have hsrc := hf.1.1.src (List.mem_cons_of_mem _ hs) ha
    simp only at ha hsrc
    rw [ha]
    refine (clone_pn (a := a) (c := s.c) w1 hsn (src_low2 hsrc hp) hsrc (by omega)).mono ?_
    rintro e w2 ⟨B, d, rfl, h2⟩
    exact ⟨B, s.n, d, rfl, h2⟩
   subst hmd
   refine At.toJ (BF.stable) h4 0 300 [8, 9, 10, 39, 41] 4 ⟨.any (opsOf (sub BKb [4])) 5 [3, 2, 1], [], [(8, .lp 0 0), (9, .so (mkB k)), (10, .sl s.A s.n s.c), (39, .so (mkB k)), (41, .sl B s.n d)], [([.sl A n c], 54), ([.v (.pointer (some (Addr.mk mb 0 none)))], 97), ([.v (.bool false)], 4), ([.fn (Fn.func 77) []], 42)]⟩ (by kernel_rfl) (by kernel_rfl) ?_
   refine At.fork [0, 4] rfl (by kernel_rfl) rfl (allOf.cons ?_ (allOf.cons ?_ allOf.nil))
   ·refine At.toJ (BF.stable) h4 0 300 [8, 9, 10, 38, 43] 5 ⟨.ops (opsOf (sub BKb [4])) (((opsOf (sub BKb [4])).toList.drop 6).take 1), [.any (opsOf (sub BKb [4])) 1 [6, 5, 4, 0, 3, 2, 1]], [(8, .lp 0 0), (9, .so (mkB k)), (10, .sl s.A s.n s.c), (38, .sl A n c), (43, .ls 4 0 1 1)], [([.sl A n c], 54), ([.v (.pointer (some (Addr.mk mb 0 none)))], 97), ([.v (.bool false)], 4), ([.fn (Fn.func 77) []], 42), ([.so (mkB k), .sl B s.n d], 57)]⟩ (by kernel_rfl) (by kernel_rfl) ?_
    refine At.appVX (F' := fun A' c' => BF kw1 vw1 N ρ1 D o (⟨57, 2, A', n + 1, c', xs ++ [.string (mkB k), .slice B s.n d]⟩ :: ⟨29, 9, B, s.n, d, pv ps⟩ :: L) T) 54 57 2 40 A n c 1 [.so (mkB k), .sl B s.n d] xs [.string (mkB k), .slice B s.n d] (by kernel_rfl) (fun _ => rfl) (by omega) (by simp only [maxLen]; omega) (fun ρ w1 hf => hf.1.1.1 _ (List.mem_cons_self ..)) (fun ρ w1 w2 A' c' hm hf hr hg ho => hf.grown (y := ⟨57, 2, A', n + 1, c', xs ++ [.string (mkB k), .slice B s.n d]⟩) hr hg (ho.imp id .inl) hoc) (fun A' c' => ?_)
    refine At.toJ (BF.stable) h4 0 300 [8, 9, 10] 4 ⟨.exit .normal, [], [(8, .lp 0 0), (9, .so (mkB k)), (10, .sl s.A s.n s.c)], [([.sl A' (n + 1) c'], 54), ([.v (.pointer (some (Addr.mk mb 0 none)))], 97), ([.v (.bool false)], 4), ([.fn (Fn.func 77) []], 42)]⟩ (by kernel_rfl) (by kernel_rfl) ?_
    exact At.fin (A', c', B, d) rfl rfl (by unfold subFr; kernel_rfl) rfl (fun _ _ _ _ h => h)
   ·refine At.toJ (BF.stable) h4 0 300 [8, 9, 10, 42] 4 ⟨.any (opsOf (sub BKb [4])) 4 [4, 3, 2, 1], [], [(8, .lp 0 0), (9, .so (mkB k)), (10, .sl s.A s.n s.c), (42, .agg [.so (mkB k), .sl B s.n d])], [([.sl A n c], 54), ([.v (.pointer (some (Addr.mk mb 0 none)))], 97), ([.v (.bool false)], 4), ([.fn (Fn.func 77) []], 42)]⟩ (by kernel_rfl) (by kernel_rfl) ?_
    refine At.fork [0, 5] rfl (by kernel_rfl) rfl (allOf.cons ?_ (allOf.cons ?_ allOf.nil))
    ·refine At.toJ (BF.stable) h4 0 300 [8, 9, 10, 38, 43] 5 ⟨.ops (opsOf (sub BKb [4])) (((opsOf (sub BKb [4])).toList.drop 6).take 1), [.any (opsOf (sub BKb [4])) 1 [6, 5, 0, 4, 3, 2, 1]], [(8, .lp 0 0), (9, .so (mkB k)), (10, .sl s.A s.n s.c), (38, .sl A n c), (43, .ls 4 0 1 1)], [([.sl A n c], 54), ([.v (.pointer (some (Addr.mk mb 0 none)))], 97), ([.v (.bool false)], 4), ([.fn (Fn.func 77) []], 42), ([.so (mkB k), .sl B s.n d], 57)]⟩ (by kernel_rfl) (by kernel_rfl) ?_
     refine At.appVX (F' := fun A' c' => BF kw1 vw1 N ρ1 D o (⟨57, 2, A', n + 1, c', xs ++ [.string (mkB k), .slice B s.n d]⟩ :: ⟨29, 9, B, s.n, d, pv ps⟩ :: L) T) 54 57 2 40 A n c 1 [.so (mkB k), .sl B s.n d] xs [.string (mkB k), .slice B s.n d] (by kernel_rfl) (fun _ => rfl) (by omega) (by simp only [maxLen]; omega) (fun ρ w1 hf => hf.1.1.1 _ (List.mem_cons_self ..)) (fun ρ w1 w2 A' c' hm hf hr hg ho => hf.grown (y := ⟨57, 2, A', n + 1, c', xs ++ [.string (mkB k), .slice B s.n d]⟩) hr hg (ho.imp id .inl) hoc) (fun A' c' => ?_)
     refine At.toJ (BF.stable) h4 0 300 [8, 9, 10] 4 ⟨.exit .normal, [], [(8, .lp 0 0), (9, .so (mkB k)), (10, .sl s.A s.n s.c)], [([.sl A' (n + 1) c'], 54), ([.v (.pointer (some (Addr.mk mb 0 none)))], 97), ([.v (.bool false)], 4), ([.fn (Fn.func 77) []], 42)]⟩ (by kernel_rfl) (by kernel_rfl) ?_
     exact At.fin (A', c', B, d) rfl rfl (by unfold subFr; kernel_rfl) rfl (fun _ _ _ _ h => h)
    ·refine At.toJ (BF.stable) h4 0 300 [8, 9, 10, 38, 43] 5 ⟨.ops (opsOf (sub BKb [4])) (((opsOf (sub BKb [4])).toList.drop 6).take 1), [.any (opsOf (sub BKb [4])) 1 [6, 0, 5, 4, 3, 2, 1]], [(8, .lp 0 0), (9, .so (mkB k)), (10, .sl s.A s.n s.c), (38, .sl A n c), (43, .ls 4 0 1 1)], [([.sl A n c], 54), ([.v (.pointer (some (Addr.mk mb 0 none)))], 97), ([.v (.bool false)], 4), ([.fn (Fn.func 77) []], 42), ([.so (mkB k), .sl B s.n d], 57)]⟩ (by kernel_rfl) (by kernel_rfl) ?_
     refine At.appVX (F' := fun A' c' => BF kw1 vw1 N ρ1 D o (⟨57, 2, A', n + 1, c', xs ++ [.string (mkB k), .slice B s.n d]⟩ :: ⟨29, 9, B, s.n, d, pv ps⟩ :: L) T) 54 57 2 40 A n c 1 [.so (mkB k), .sl B s.n d] xs [.string (mkB k), .slice B s.n d] (by kernel_rfl) (fun _ => rfl) (by omega) (by simp only [maxLen]; omega) (fun ρ w1 hf => hf.1.1.1 _ (List.mem_cons_self ..)) (fun ρ w1 w2 A' c' hm hf hr hg ho => hf.grown (y := ⟨57, 2, A', n + 1, c', xs ++ [.string (mkB k), .slice B s.n d]⟩) hr hg (ho.imp id .inl) hoc) (fun A' c' => ?_)
     refine At.toJ (BF.stable) h4 0 300 [8, 9, 10] 4 ⟨.exit .normal, [], [(8, .lp 0 0), (9, .so (mkB k)), (10, .sl s.A s.n s.c)], [([.sl A' (n + 1) c'], 54), ([.v (.pointer (some (Addr.mk mb 0 none)))], 97), ([.v (.bool false)], 4), ([.fn (Fn.func 77) []], 42)]⟩ (by kernel_rfl) (by kernel_rfl) ?_
     exact At.fin (A', c', B, d) rfl rfl (by unfold subFr; kernel_rfl) rfl (fun _ _ _ _ h => h)
 ·obtain ⟨A', c', B, d⟩ := x
  dsimp only
  refine At.toJ (BF.stable) h4 0 300 [8] 4 ⟨.exit .normal, [], [(8, .lp 0 0)], [([.sl A' (n + 1) c'], 54), ([.v (.pointer (some (Addr.mk mb 0 none)))], 97), ([.v (.bool false)], 4), ([.fn (Fn.func 77) []], 42)]⟩ (by kernel_rfl) (by kernel_rfl) ?_
  exact At.rndEnd none rfl rfl rfl fun ρ' w' hm' hf => hend A' c' B d ρ' w' hm' hf
end Go.Proofs.YtkjnbafdmjakgaaDoor
end
