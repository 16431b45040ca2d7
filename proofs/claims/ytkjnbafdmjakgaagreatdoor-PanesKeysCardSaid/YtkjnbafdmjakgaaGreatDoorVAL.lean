/- Joined texts: BG, BI, BJ, BK, BS, CG, CH, TN, TO. -/
import Derived.Test.YtkjnbafdmjakgaaGreatDoorVAK
set_option linter.unusedSimpArgs false
set_option linter.unusedVariables false
namespace Go.Sx
open Go
def zAL0 : List SV := [.v (.string (ByteArray.mk #[103, 111, 110, 101])), .v (.int .i64 0), .v (.int .i64 0), .v (.int .i64 0), .v (.int .i64 0), .v (.int .i64 0), .v (.int .i64 0), .v (.int .i64 0), .v (.int .i64 0)]
def zAL1 : List SV := [.v (.string (ByteArray.mk #[97])), .v (.int .i64 0), .v (.int .i64 10), .v (.int .i64 3), .v (.int .i64 2), .v (.int .i64 3), .v (.int .i64 6), .v (.int .i64 (-2)), .v (.int .i64 7)]
def zAL2 : List SV := [.v (.string (ByteArray.mk #[])), .v (.int .i64 0), .v (.int .i64 0), .v (.int .i64 0), .v (.int .i64 4242), .v (.int .i64 0), .v (.int .i64 0), .v (.int .i64 0), .v (.int .i64 0)]
def pAL3 : List Nat := [1, 1, 1, 0, 1, 4, 4, 1, 1, 0, 4, 1, 1, 0, 1]
def pAL4 : List Nat := [1, 1, 1, 0, 1, 4, 4, 1, 1, 0, 4, 1, 1, 1]
def pAL5 : List Nat := [1, 1, 0, 1, 4, 4, 1, 1, 0, 4, 1]
def pAL6 : List Nat := [1, 1, 1, 0, 1, 4, 4, 1, 1, 1]
def pAL7 : List Nat := [1, 1, 0, 1, 4, 4, 1, 0, 4, 1]
def pAL8 : List Nat := [1, 1, 0, 1, 4, 4, 1, 1]
def pAL9 : List Nat := [1, 1, 1, 0, 1, 4, 4]
def pAL10 : List Nat := [1, 1, 0, 1, 4, 4]
def pAL11 : List Nat := [1, 1, 1, 1]
def pAL12 : List Nat := [1, 1, 1]
end Go.Sx
section
namespace Go.Proofs.YtkjnbafdmjakgaaGreatDoor
open Go.RowKit Go.Sx
theorem MapF.fewerK {m : Nat} {es : Array MapEntry} {clk : Nat} : FewerK 0 (MapF m es clk) := fun ρ w k _ h => h.fewer k
def MapR (m : Nat) (es : Array MapEntry) (clk base e size : Nat) (A : Option Addr) (n c : Nat) (xs : List Value) (ρ : List Nat) (w : World) : Prop := MapF m es clk ρ w ∧ Row base e size A n c xs ρ w ∧ base ≤ w.heap.size
theorem MapR.stable {m : Nat} {es : Array MapEntry} {clk base e size : Nat} {A : Option Addr} {n c : Nat} {xs : List Value} : Stable (MapR m es clk base e size A n c xs) := fun ρ w ρ' w' hg hk h => ⟨MapF.stable ρ w ρ' w' hg hk h.1, h.2.1.keep hg hk, Nat.le_trans h.2.2 hk.size⟩
theorem MapR.fewer {m : Nat} {es : Array MapEntry} {clk base e size : Nat} {A : Option Addr} {n c : Nat} {xs : List Value} : FewerK 0 (MapR m es clk base e size A n c xs) := fun ρ w k _ h => ⟨h.1.fewer k, Row.fewer _ _ _ _ _ _ _ ρ w k h.2.1, h.2.2⟩
theorem MapR.set {m : Nat} {es : Array MapEntry} {clk base e size : Nat} {A : Option Addr} {n c : Nat} {xs : List Value} {ρ : List Nat} {w : World} (h : MapR m es clk base e size A n c xs ρ w) {es' : Array MapEntry} {clk' : Nat} : MapR m es' clk' base e size A n c xs ρ { w with heap := w.heap.setIfInBounds m (.map es' clk') } :=
 ⟨h.1.set es' clk', h.2.1.setMap h.1.1 _, by simpa using h.2.2⟩
theorem row_is {base e size n c : Nat} {A : Option Addr} {xs : List Value} {ρ : List Nat} {w : World} (h : Row base e size A n c xs ρ w) (hn : 0 < n) : (∃ a, A = some a) ∧ n ≤ c := by
 rcases h.1.2 with ⟨_, h'⟩ | ⟨g, cap, cur, hv, _, _, hnc, _⟩
 ·omega
 injection hv with hv _ hcc
 exact ⟨⟨_, hv⟩, by omega⟩
def one : List SV := [.v (.string ⟨#[97]⟩), .v (.int .i64 0), .v (.int .i64 10), .v (.int .i64 3), .v (.int .i64 2), .v (.int .i64 3), .v (.int .i64 6), .v (.int .i64 (-2)), .v (.int .i64 7)]
def oneV : List Value := SV.denL [] one
theorem one_den (ρ : List Nat) : SV.denL ρ one = oneV := rfl
theorem one_cell {w w1 : World} {a j : Nat} {ρ : List Nat} {v : Value} {t : TypeId} (h : w.heap[a]? = some (.cells oneV.toArray t (0, 0))) (hb : Below w.heap.size w w1) (hj : (SV.denL ρ one)[j]? = some v) : w1.cell? (((⟨a, 0, none⟩ : Addr).add ((0 : Int).toNat * 9)).add j) = some v := by
 rw [one_den] at hj
 rw [add_ok, add_ok]
 unfold World.cell?
 rw [hb.block a (Array.getElem?_eq_some_iff.1 h).1, h]
 simpa using hj
theorem row_one {w : World} {base e c j : Nat} {r : Addr} {ρ ρ' : List Nat} {v : Value} (h : Row base e 9 (some r) 1 c oneV ρ w) (hj : (SV.denL ρ' one)[j]? = some v) : w.cell? ((r.add ((0 : Int).toNat * 9)).add j) = some v := by
 rw [one_den] at hj
 have hlt : j < 1 * 9 := by
  have := (List.getElem?_eq_some_iff.1 hj).1
  have hl : oneV.length = 9 := rfl
  omega
 obtain ⟨g, hg, hc⟩ := h.cell (j := j) hlt
 injection hg with hg
 subst hg
 rw [add_ok, add_ok, show 0 + (0 : Int).toNat * 9 + j = j by simp, hc, hj]
section
variable {P : Program} {Q : Exit → Act → World → Prop} {N : Nat} {w0 : World} {ntm : Nat} {F : List Nat → World → Prop}
theorem run_slLx {ρ : List Nat} {fr : Fr} {act : Act} (ha : AInv ntm ρ fr act) {o : Oper} {a : Addr} {n c size : Nat} {l : Int} (hq : slLQ P fr o = some (a, n, c, l, size)) (h0 : 0 ≤ l) (h1 : l ≤ n) (w : World) :
  (execOp act.eval o).run P w = .ok (.value (.slice (if c = l.toNat then some a else some (a.add (l.toNat * size))) (n - l.toNat) (c - l.toNat))) w := by
 obtain ⟨dst, op, ty, pos, after, guard⟩ := o
 unfold slLQ at hq
 simp only at hq
 split at hq
 ·rename_i t x lo
  split at hq
  ·rename_i e a' n' c' k l' lf hu hx hlo
   obtain ⟨sl, hsl, hll⟩ := Option.bind_eq_some_iff.1 hlo
   have hel : P.underlying t = some (.slice (P.elem t)) := by simp [Program.elem, hu]
   have hel2 : P.elem t = e := by simp [Program.elem, hu]
   split at hq
   ·rename_i size' hs
    simp only [Option.some.injEq, Prod.mk.injEq] at hq
    obtain ⟨rfl, rfl, rfl, rfl, rfl⟩ := hq
    have := run_slice_l (P := P) w t (some a') n' c' hel k l' h0 h1
    rw [hel2] at this
    simp [execOp, evalS_sound ha hx, evalS_sound ha hsl, litOf_den hll, SV.den, run_sliceAt_slice w t _ _ _ _ hel, this, run_sizeT hs, sliced, Result.andThen]
   cases hq
  cases hq
 cases hq
theorem At.slLx {s : S} (a : Addr) (n c : Nat) (l : Int) (size : Nat) (r : SV) (hq : slLI P ntm s = some (a, n, c, l, size)) (hF : Stable F) (h0 : 0 ≤ l) (h1 : l ≤ n) (hr : ∀ ρ, r.den ρ = .slice (if c = l.toNat then some a else some (a.add (l.toNat * size))) (n - l.toNat) (c - l.toNat))
  (hk : At P Q N w0 ntm F (s.tail ntm r)) : At P Q N w0 ntm F s := by
 unfold slLI at hq
 split at hq
 ·rename_i o ho hd
  exact At.op hF o r ho hd (fun ρ act w hi _ => by rw [hr]; exact run_slLx hi.act hq h0 h1 w) hk
 cases hq
def appI (ntm : Nat) (s : S) : Option (TypeId × SV × SV) := match s.head?, s.dstOk ntm, s.plain with
 | some o, true, true => appS s.fr o
 | _, _, _ => none
theorem At.appM {s : S} {mm : Nat} {es : Array MapEntry} {clk : Nat} (t e size bytes : Nat) (i off k : Nat) (cells : List SV) (ct : TypeId) (news : List Value) (hq : appI ntm s = some (t, .sl none 0 0, .ls i off 1 k)) (ht : elemT P t = some (e, size, bytes)) (hl : s.loc[i]? = some (cells, ct))
  (hle : off + 1 * size ≤ cells.length) (hone : oneL ((cells.drop off).take (1 * size)) = true) (hbytes : (0 + 1) * bytes ≤ 140737488355328) (hN : N ≤ mm) (hnews : ∀ ρ, SV.denL ρ ((cells.drop off).take (1 * size)) = news)
  (h : ∀ x : Option Addr × Nat, At P Q N w0 ntm (MapR mm es clk N e size x.1 1 x.2 news) (s.tail ntm (.sl x.1 1 x.2))) : At P Q N w0 ntm (MapF mm es clk) s := by
 unfold appI at hq
 split at hq
 ·rename_i o ho hd hp
  refine At.append o t e size bytes N none 0 0 [] i off 1 k cells ct ho hd hp hq ht hl hle hone hbytes (by decide) (Nat.le_refl _) (MapF mm es clk) (MapF mm es clk) (fun ρ w h => ⟨Row.nil _ _ _ _ _, Nat.le_of_lt (Nat.lt_of_le_of_lt hN (Array.getElem?_eq_some_iff.1 h.1).1), h⟩) (fun ρ w w' h hg => ⟨(hg.block mm (Array.getElem?_eq_some_iff.1 h.1).1 (by simp [Value.ownBlock])).trans h.1, h.2⟩) news hnews (fun x => ?_)
  exact At.mono (fun ρ w h => ⟨h.2.2, h.1, h.2.1⟩) (h x)
 cases hq
end
noncomputable def B15 : Code := (Tryz.f15.body).getD .skip
set_option maxHeartbeats 20000000 in
set_option maxRecDepth 100000 in
theorem begins_one (a b : Nat) (w : World) (ha : w.heap[a]? = some (.cells oneV.toArray 40 (0, 0))) (hb : w.heap[b]? = some (.cells oneV.toArray 40 (0, 0))) :
  Calls Tryz.prog 15 #[.slice (some ⟨a, 0, none⟩) 1 1, .slice (some ⟨b, 0, none⟩) 1 1] w fun e w' => e = .returned (.bool true) ∧ Below w.heap.size w w' := by
 refine enter (fn := Tryz.f15) (c := B15) [.sl (some ⟨a, 0, none⟩) 1 1, .sl (some ⟨b, 0, none⟩) 1 1] Tryz.func15 rfl rfl ?_
 refine zM [0, 1] 0 ⟨pops B15 [1, 0] 0, [.seq (sub B15 [1, 1])], [(0, .sl (some (Addr.mk a 0 none)) 1 1), (1, .sl (some (Addr.mk b 0 none)) 1 1)], []⟩ ?_
 refine At.mkMap (by kernel_rfl) noF_stable (fun m hN => ?_)
 refine At.mono (F' := MapF m #[] 0) (fun ρ w h => h.2) ?_
 refine zU MapF.stable MapF.fewerK [0, 5, 12, 13, 14, 15] 0 ⟨.code (sub B15 [1, 1, 0, 1, 4, 4, 1, 0]), [.seq (sub B15 pAL8), .rounds (sub B15 pAL10) 19, .block 0, .seq (sub B15 pAL12)], [(0, .sl (some (Addr.mk a 0 none)) 1 1), (5, .v (.map (some m))), (12, .sl (some (Addr.mk b 0 none)) 1 1), (13, .io .i64 1), (14, .v (.int .i64 0)), (15, .bo true)], []⟩ ?_
 refine At.res 15 (true) true (by kernel_rfl) (by first | assumption | (simp only [*]; done) | (simp [*]; done)) ?_
 refine zU MapF.stable MapF.fewerK [0, 5, 12, 13, 14] 0 ⟨pops B15 [1, 1, 0, 1, 4, 4, 1, 1, 0, 4, 0] 0, [.seq (sub B15 pAL5), .block 1, .seq (sub B15 [1, 1, 0, 1, 4, 4, 1, 1, 1]), .rounds (sub B15 pAL10) 19, .block 0, .seq (sub B15 pAL12)], [(0, .sl (some (Addr.mk a 0 none)) 1 1), (5, .v (.map (some m))), (12, .sl (some (Addr.mk b 0 none)) 1 1), (13, .io .i64 1), (14, .v (.int .i64 0))], []⟩ ?_
 refine At.idx ⟨b, 0, none⟩ 1 9 0 (by kernel_rfl) (by decide) (by decide) MapF.stable ?_
 refine At.lda ((⟨b, 0, none⟩ : Addr).add ((0 : Int).toNat * 9)) 9 one (by kernel_rfl) rfl MapF.stable (fun ρ w1 hm' hf j v hj => one_cell hb hm'.below hj) ?_
 refine zU MapF.stable MapF.fewerK [0, 5, 7, 12, 13, 14] 1 ⟨.any (opsOf (sub B15 pAL5)) 11 [], [.block 1, .seq (sub B15 [1, 1, 0, 1, 4, 4, 1, 1, 1]), .rounds (sub B15 pAL10) 19, .block 0, .seq (sub B15 pAL12)], [(0, .sl (some (Addr.mk a 0 none)) 1 1), (5, .v (.map (some m))), (7, .lp 0 0), (12, .sl (some (Addr.mk b 0 none)) 1 1), (13, .io .i64 1), (14, .v (.int .i64 0))], [(zAL1, 40)]⟩ ?_
 refine At.cutN (σ := Option Addr × Nat) (fun x => [(0, .sl (some ⟨a, 0, none⟩) 1 1), (5, .v (.map (some m))), (13, .io .i64 1), (14, .v (.int .i64 0))]) (fun _ => []) (fun x => MapR m #[{ key := .string ⟨#[97]⟩, val := .slice x.1 1 x.2, born := 0 }] 1 w.heap.size 40 9 x.1 1 x.2 oneV) rfl ?_ (fun x => ?_)
 ·refine At.purify0 (fun e a w h => h.1) 20 ?_
  refine At.takeLoad (fun e a w h => h.1) 5 (.v (.string ⟨#[97]⟩)) [6, 9, 10] (by kernel_rfl) (by kernel_rfl) (by kernel_rfl) ?_
  refine At.takeLk (fun e a w h => h.1) 6 (.v (.slice none 0 0)) [9, 10] m (.v (.string ⟨#[97]⟩)) (.slice none 0 0) ⟨#[97]⟩ #[] 0 none (by kernel_rfl) (by kernel_rfl) (by kernel_rfl) (fun _ => rfl) rfl (fun _ => rfl) (fun ρ w h => h) ?_
  refine At.takeLoad (fun e a w h => h.1) 7 (.agg one) [8, 9, 10] (by kernel_rfl) (by kernel_rfl) (by kernel_rfl) ?_
  refine At.purify0 (fun e a w h => h.1) 20 ?_
  refine zU MapF.stable MapF.fewerK [0, 5, 13, 14, 18, 19, 24, 25] 1 ⟨.any (opsOf (sub B15 pAL5)) 4 [7, 6, 5, 4, 3, 1, 0], [], [(0, .sl (some (Addr.mk a 0 none)) 1 1), (5, .v (.map (some m))), (13, .io .i64 1), (14, .v (.int .i64 0)), (18, .v (.map (some m))), (19, .lp 0 0), (24, .v (.slice none 0 0)), (25, .agg zAL1)], [(zAL1, 40)]⟩ ?_
  refine At.fork [2, 8] rfl (by kernel_rfl) rfl (allOf.cons ?_ (allOf.cons ?_ allOf.nil))
  ·refine zU MapF.stable MapF.fewerK [0, 5, 13, 14, 18, 20, 24, 26] 2 ⟨.ops (opsOf (sub B15 pAL5)) (((opsOf (sub B15 pAL5)).toList.drop 9).take 1), [.any (opsOf (sub B15 pAL5)) 1 [9, 8, 2, 7, 6, 5, 4, 3, 1, 0]], [(0, .sl (some (Addr.mk a 0 none)) 1 1), (5, .v (.map (some m))), (13, .io .i64 1), (14, .v (.int .i64 0)), (18, .v (.map (some m))), (20, .v (.string (ByteArray.mk #[97]))), (24, .v (.slice none 0 0)), (26, .ls 1 0 1 1)], [(zAL1, 40), (zAL1, 40)]⟩ ?_
   refine At.appM 22 40 9 80 1 0 1 one 40 oneV (by kernel_rfl) (by kernel_rfl) rfl (by decide) (by kernel_rfl) (by decide) hN (fun _ => rfl) (fun x => ?_)
   refine zU MapR.stable MapR.fewer [0, 5, 13, 14, 18, 20, 27] 0 ⟨.ops (opsOf (sub B15 pAL5)) (((opsOf (sub B15 pAL5)).toList.drop 10).take 1), [.any (opsOf (sub B15 pAL5)) 0 [10, 9, 8, 2, 7, 6, 5, 4, 3, 1, 0]], [(0, .sl (some (Addr.mk a 0 none)) 1 1), (5, .v (.map (some m))), (13, .io .i64 1), (14, .v (.int .i64 0)), (18, .v (.map (some m))), (20, .v (.string (ByteArray.mk #[97]))), (27, .sl x.fst 1 x.snd)], []⟩ ?_
   refine At.mapPut m (.v (.string ⟨#[97]⟩)) (.sl x.1 1 x.2) ⟨#[97]⟩ (.slice x.1 1 x.2) [] 0 #[{ key := .string ⟨#[97]⟩, val := .slice x.1 1 x.2, born := 0 }] 1 (by kernel_rfl) (fun _ => rfl) (fun _ => rfl) rfl hN (fun ρ w h => h.1) (fun ρ w h => MapR.set h) ?_
   refine zU MapR.stable MapR.fewer [0, 5, 13, 14] 0 ⟨.exit .normal, [], [(0, .sl (some (Addr.mk a 0 none)) 1 1), (5, .v (.map (some m))), (13, .io .i64 1), (14, .v (.int .i64 0))], []⟩ ?_
   exact At.fin x rfl rfl (by unfold subFr; kernel_rfl) rfl (fun _ _ _ _ h => h)
  refine zU MapF.stable MapF.fewerK [0, 5, 13, 14, 18, 19, 24, 26] 2 ⟨.any (opsOf (sub B15 pAL5)) 3 [8, 7, 6, 5, 4, 3, 1, 0], [], [(0, .sl (some (Addr.mk a 0 none)) 1 1), (5, .v (.map (some m))), (13, .io .i64 1), (14, .v (.int .i64 0)), (18, .v (.map (some m))), (19, .lp 0 0), (24, .v (.slice none 0 0)), (26, .ls 1 0 1 1)], [(zAL1, 40), (zAL1, 40)]⟩ ?_
  refine At.fork [2, 9] rfl (by kernel_rfl) rfl (allOf.cons ?_ (allOf.cons ?_ allOf.nil))
  ·refine zU MapF.stable MapF.fewerK [0, 5, 13, 14, 18, 20, 24, 26] 2 ⟨.ops (opsOf (sub B15 pAL5)) (((opsOf (sub B15 pAL5)).toList.drop 9).take 1), [.any (opsOf (sub B15 pAL5)) 1 [9, 2, 8, 7, 6, 5, 4, 3, 1, 0]], [(0, .sl (some (Addr.mk a 0 none)) 1 1), (5, .v (.map (some m))), (13, .io .i64 1), (14, .v (.int .i64 0)), (18, .v (.map (some m))), (20, .v (.string (ByteArray.mk #[97]))), (24, .v (.slice none 0 0)), (26, .ls 1 0 1 1)], [(zAL1, 40), (zAL1, 40)]⟩ ?_
   refine At.appM 22 40 9 80 1 0 1 one 40 oneV (by kernel_rfl) (by kernel_rfl) rfl (by decide) (by kernel_rfl) (by decide) hN (fun _ => rfl) (fun x => ?_)
   refine zU MapR.stable MapR.fewer [0, 5, 13, 14, 18, 20, 27] 0 ⟨.ops (opsOf (sub B15 pAL5)) (((opsOf (sub B15 pAL5)).toList.drop 10).take 1), [.any (opsOf (sub B15 pAL5)) 0 [10, 9, 2, 8, 7, 6, 5, 4, 3, 1, 0]], [(0, .sl (some (Addr.mk a 0 none)) 1 1), (5, .v (.map (some m))), (13, .io .i64 1), (14, .v (.int .i64 0)), (18, .v (.map (some m))), (20, .v (.string (ByteArray.mk #[97]))), (27, .sl x.fst 1 x.snd)], []⟩ ?_
   refine At.mapPut m (.v (.string ⟨#[97]⟩)) (.sl x.1 1 x.2) ⟨#[97]⟩ (.slice x.1 1 x.2) [] 0 #[{ key := .string ⟨#[97]⟩, val := .slice x.1 1 x.2, born := 0 }] 1 (by kernel_rfl) (fun _ => rfl) (fun _ => rfl) rfl hN (fun ρ w h => h.1) (fun ρ w h => MapR.set h) ?_
   refine zU MapR.stable MapR.fewer [0, 5, 13, 14] 0 ⟨.exit .normal, [], [(0, .sl (some (Addr.mk a 0 none)) 1 1), (5, .v (.map (some m))), (13, .io .i64 1), (14, .v (.int .i64 0))], []⟩ ?_
   exact At.fin x rfl rfl (by unfold subFr; kernel_rfl) rfl (fun _ _ _ _ h => h)
  refine zU MapF.stable MapF.fewerK [0, 5, 13, 14, 18, 19, 24, 26] 2 ⟨.ops (opsOf (sub B15 pAL5)) (((opsOf (sub B15 pAL5)).toList.drop 9).take 1), [.any (opsOf (sub B15 pAL5)) 2 [9, 8, 7, 6, 5, 4, 3, 1, 0]], [(0, .sl (some (Addr.mk a 0 none)) 1 1), (5, .v (.map (some m))), (13, .io .i64 1), (14, .v (.int .i64 0)), (18, .v (.map (some m))), (19, .lp 0 0), (24, .v (.slice none 0 0)), (26, .ls 1 0 1 1)], [(zAL1, 40), (zAL1, 40)]⟩ ?_
  refine At.appM 22 40 9 80 1 0 1 one 40 oneV (by kernel_rfl) (by kernel_rfl) rfl (by decide) (by kernel_rfl) (by decide) hN (fun _ => rfl) (fun x => ?_)
  refine zU MapR.stable MapR.fewer [0, 5, 13, 14, 18, 20, 27] 0 ⟨.ops (opsOf (sub B15 pAL5)) (((opsOf (sub B15 pAL5)).toList.drop 10).take 1), [.any (opsOf (sub B15 pAL5)) 0 [10, 2, 9, 8, 7, 6, 5, 4, 3, 1, 0]], [(0, .sl (some (Addr.mk a 0 none)) 1 1), (5, .v (.map (some m))), (13, .io .i64 1), (14, .v (.int .i64 0)), (18, .v (.map (some m))), (20, .v (.string (ByteArray.mk #[97]))), (27, .sl x.fst 1 x.snd)], []⟩ ?_
  refine At.mapPut m (.v (.string ⟨#[97]⟩)) (.sl x.1 1 x.2) ⟨#[97]⟩ (.slice x.1 1 x.2) [] 0 #[{ key := .string ⟨#[97]⟩, val := .slice x.1 1 x.2, born := 0 }] 1 (by kernel_rfl) (fun _ => rfl) (fun _ => rfl) rfl hN (fun ρ w h => h.1) (fun ρ w h => MapR.set h) ?_
  refine zU MapR.stable MapR.fewer [0, 5, 13, 14] 0 ⟨.exit .normal, [], [(0, .sl (some (Addr.mk a 0 none)) 1 1), (5, .v (.map (some m))), (13, .io .i64 1), (14, .v (.int .i64 0))], []⟩ ?_
  exact At.fin x rfl rfl (by unfold subFr; kernel_rfl) rfl (fun _ _ _ _ h => h)
 obtain ⟨A, c⟩ := x
 dsimp only
 refine At.mono (F' := fun ρ w1 => MapR m #[{ key := .string ⟨#[97]⟩, val := .slice A 1 c, born := 0 }] 1 w.heap.size 40 9 A 1 c oneV ρ w1 ∧ ((∃ r, A = some r) ∧ 1 ≤ c)) (fun ρ w1 h => ⟨h, row_is h.2.1 (by decide)⟩) (At.pure ?_)
 rintro ⟨⟨r, rfl⟩, hc⟩
 refine zU MapR.stable MapR.fewer [0, 5, 13, 14, 15] 0 ⟨.code (sub B15 [1, 1, 0, 1, 4, 4, 1, 0]), [.seq (sub B15 pAL8), .rounds (sub B15 pAL10) 18, .block 0, .seq (sub B15 pAL12)], [(0, .sl (some (Addr.mk a 0 none)) 1 1), (5, .v (.map (some m))), (13, .io .i64 1), (14, .v (.int .i64 1)), (15, .bo false)], []⟩ ?_
 refine At.res 15 (false) false (by kernel_rfl) (by first | assumption | (simp only [*]; done) | (simp [*]; done)) ?_
 refine zU MapR.stable MapR.fewer [5, 29, 30, 31, 32] 0 ⟨.code (sub B15 [1, 1, 1, 0, 1, 4, 4, 1, 0]), [.seq (sub B15 [1, 1, 1, 0, 1, 4, 4, 1, 1]), .rounds (sub B15 pAL9) 19, .block 2, .seq (sub B15 pAL11)], [(5, .v (.map (some m))), (29, .sl (some (Addr.mk a 0 none)) 1 1), (30, .io .i64 1), (31, .v (.int .i64 0)), (32, .bo true)], []⟩ ?_
 refine At.res 32 (true) true (by kernel_rfl) (by first | assumption | (simp only [*]; done) | (simp [*]; done)) ?_
 refine zU MapR.stable MapR.fewer [5, 29, 30, 31] 0 ⟨pops B15 [1, 1, 1, 0, 1, 4, 4, 1, 1, 0, 4, 0] 0, [.seq (sub B15 [1, 1, 1, 0, 1, 4, 4, 1, 1, 0, 4, 1]), .block 3, .seq (sub B15 pAL6), .rounds (sub B15 pAL9) 19, .block 2, .seq (sub B15 pAL11)], [(5, .v (.map (some m))), (29, .sl (some (Addr.mk a 0 none)) 1 1), (30, .io .i64 1), (31, .v (.int .i64 0))], []⟩ ?_
 refine At.idx ⟨a, 0, none⟩ 1 9 0 (by kernel_rfl) (by decide) (by decide) MapR.stable ?_
 refine At.lda ((⟨a, 0, none⟩ : Addr).add ((0 : Int).toNat * 9)) 9 one (by kernel_rfl) rfl MapR.stable (fun ρ w1 hm' hf j v hj => one_cell ha hm'.below hj) ?_
 refine zU MapR.stable MapR.fewer [5, 9, 29, 30, 31, 35, 37] 1 ⟨pops B15 [1, 1, 1, 0, 1, 4, 4, 1, 1, 0, 4, 1, 0] 3, [.seq (sub B15 [1, 1, 1, 0, 1, 4, 4, 1, 1, 0, 4, 1, 1]), .block 3, .seq (sub B15 pAL6), .rounds (sub B15 pAL9) 19, .block 2, .seq (sub B15 pAL11)], [(5, .v (.map (some m))), (9, .lp 0 0), (29, .sl (some (Addr.mk a 0 none)) 1 1), (30, .io .i64 1), (31, .v (.int .i64 0)), (35, .v (.map (some m))), (37, .v (.string (ByteArray.mk #[97])))], [(zAL1, 40)]⟩ ?_
 refine At.lk m (.v (.string ⟨#[97]⟩)) (.slice none 0 0) ⟨#[97]⟩ #[{ key := .string ⟨#[97]⟩, val := .slice (some r) 1 c, born := 0 }] 1 (some (0, .slice (some r) 1 c)) (.sl (some r) 1 c) (by kernel_rfl) (fun _ => rfl) (by kernel_rfl) (fun _ => rfl) MapR.stable (fun ρ w h => h.1) ?_
 refine zU MapR.stable MapR.fewer [5, 9, 10, 29, 30, 31, 42] 1 ⟨pqops B15 [1, 1, 1, 0, 1, 4, 4, 1, 1, 0, 4, 1, 1, 0, 0] 4, [.seq (sub B15 pAL3), .seq (sub B15 pAL4), .block 3, .seq (sub B15 pAL6), .rounds (sub B15 pAL9) 19, .block 2, .seq (sub B15 pAL11)], [(5, .v (.map (some m))), (9, .lp 0 0), (10, .sl (some r) 1 c), (29, .sl (some (Addr.mk a 0 none)) 1 1), (30, .io .i64 1), (31, .v (.int .i64 0)), (42, .bo false)], [(zAL1, 40)]⟩ ?_
 refine At.res 42 (false) false (by kernel_rfl) (by first | assumption | (simp only [*]; done) | (simp [*]; done)) ?_
 refine zU MapR.stable MapR.fewer [5, 9, 10, 29, 30, 31, 42, 43] 1 ⟨pqops B15 [1, 1, 1, 0, 1, 4, 4, 1, 1, 0, 4, 1, 1, 0, 0] 5, [.seq (sub B15 pAL3), .seq (sub B15 pAL4), .block 3, .seq (sub B15 pAL6), .rounds (sub B15 pAL9) 19, .block 2, .seq (sub B15 pAL11)], [(5, .v (.map (some m))), (9, .lp 0 0), (10, .sl (some r) 1 c), (29, .sl (some (Addr.mk a 0 none)) 1 1), (30, .io .i64 1), (31, .v (.int .i64 0)), (42, .v (.bool false)), (43, .sl (some r) 1 c)], [(zAL1, 40)]⟩ ?_
 refine At.idx r 1 9 0 (by kernel_rfl) (by decide) (by decide) MapR.stable ?_
 refine At.lda (r.add ((0 : Int).toNat * 9)) 9 one (by kernel_rfl) rfl MapR.stable (fun ρ w1 hm' hf j v hj => row_one hf.2.1 hj) ?_
 refine zU MapR.stable MapR.fewer [5, 29, 30, 31, 49, 51, 52] 0 ⟨.qops (opsOf (sub B15 pAL4)) (((opsOf (sub B15 pAL4)).toList.take 5).drop 4), [.tail (opsOf (sub B15 pAL4)) ((opsOf (sub B15 pAL4)).toList.drop 5), .block 3, .seq (sub B15 pAL6), .rounds (sub B15 pAL9) 19, .block 2, .seq (sub B15 pAL11)], [(5, .v (.map (some m))), (29, .sl (some (Addr.mk a 0 none)) 1 1), (30, .io .i64 1), (31, .v (.int .i64 0)), (49, .v (.map (some m))), (51, .v (.string (ByteArray.mk #[97]))), (52, .sl (some r) 1 c)], []⟩ ?_
 refine At.slLx r 1 c 1 9 (.sl (if c = 1 then some r else some (r.add 9)) 0 (c - 1)) (by kernel_rfl) MapR.stable (by decide) (by decide) (fun _ => by by_cases h : c = 1 <;> simp [SV.den, h]) ?_
 refine zU MapR.stable MapR.fewer [5, 29, 30, 31, 49, 51, 53] 0 ⟨pops B15 pAL4 5, [.block 3, .seq (sub B15 pAL6), .rounds (sub B15 pAL9) 19, .block 2, .seq (sub B15 pAL11)], [(5, .v (.map (some m))), (29, .sl (some (Addr.mk a 0 none)) 1 1), (30, .io .i64 1), (31, .v (.int .i64 0)), (49, .v (.map (some m))), (51, .v (.string (ByteArray.mk #[97]))), (53, .sl (if c = 1 then some r else some (r.add 9)) 0 (c - 1))], []⟩ ?_
 refine At.mapPut m (.v (.string ⟨#[97]⟩)) (.sl (if c = 1 then some r else some (r.add 9)) 0 (c - 1)) ⟨#[97]⟩ (.slice (if c = 1 then some r else some (r.add 9)) 0 (c - 1)) [{ key := .string ⟨#[97]⟩, val := .slice (some r) 1 c, born := 0 }] 1 #[{ key := .string ⟨#[97]⟩, val := .slice (if c = 1 then some r else some (r.add 9)) 0 (c - 1), born := 0 }] 1 (by kernel_rfl) (fun _ => rfl) (fun _ => rfl) (by kernel_rfl) hN (fun ρ w h => h.1) (fun ρ w h => MapR.set h) ?_
 refine zU MapR.stable MapR.fewer [5, 29, 30, 31, 32] 0 ⟨.code (sub B15 [1, 1, 1, 0, 1, 4, 4, 1, 0]), [.seq (sub B15 [1, 1, 1, 0, 1, 4, 4, 1, 1]), .rounds (sub B15 pAL9) 18, .block 2, .seq (sub B15 pAL11)], [(5, .v (.map (some m))), (29, .sl (some (Addr.mk a 0 none)) 1 1), (30, .io .i64 1), (31, .v (.int .i64 1)), (32, .bo false)], []⟩ ?_
 refine At.res 32 (false) false (by kernel_rfl) (by first | assumption | (simp only [*]; done) | (simp [*]; done)) ?_
 refine zU MapR.stable MapR.fewer [4] 0 ⟨.exit .ret, [], [(4, .v (.bool true))], []⟩ ?_
 refine zE (.v (.bool true)) ?_
 intro ρ w9 hm' hf
 exact ⟨rfl, hm'.below⟩
end Go.Proofs.YtkjnbafdmjakgaaGreatDoor
end
section
namespace Go.Proofs.YtkjnbafdmjakgaaGreatDoor
open Go.RowKit Go.Sx
theorem blk {w w1 : World} {a : Nat} {o : Obj} (hb : Below w.heap.size w w1) (h : w.heap[a]? = some o) : w1.heap[a]? = some o := by
 rw [hb.block a (Array.getElem?_eq_some_iff.1 h).1]
 exact h
theorem itoa_10 : Lib.itoa 10 = [49, 48] := by
 unfold Lib.itoa
 rw [if_neg (by decide), show (10 : Int).toNat = 10 from rfl, Lib.decDigits, dif_neg (by decide), Lib.decDigits_one (by decide)]
 rfl
theorem itoa_d (n : Nat) (h : n < 10) : Lib.itoa (n : Int) = [UInt8.ofNat (48 + n)] := by
 unfold Lib.itoa
 rw [if_neg (by omega), Int.toNat_natCast, Lib.decDigits_one h]
theorem itoa_m2 : Lib.itoa (-2) = [45, 50] := by
 unfold Lib.itoa
 rw [if_pos (by decide), show (-2 : Int).natAbs = 2 from rfl, Lib.decDigits_one (by decide)]
 rfl
theorem known_line : lineB [97] 0 10 3 2 3 6 (-2) 7 = [34, 97, 34, 32, 108, 97, 116, 101, 32, 48, 32, 49, 48, 32, 50, 32, 51, 32, 54, 32, 45, 50, 32, 55] := by
 unfold lineB
 simp only [List.flatMap_cons, List.flatMap_nil, itoa_10, itoa_m2, show Lib.itoa 0 = [48] from itoa_d 0 (by decide), show Lib.itoa 2 = [50] from itoa_d 2 (by decide), show Lib.itoa 3 = [51] from itoa_d 3 (by decide), show Lib.itoa 6 = [54] from itoa_d 6 (by decide), show Lib.itoa 7 = [55] from itoa_d 7 (by decide)]
 decide
theorem known_parse : parseK [34, 97, 34, 32, 108, 97, 116, 101, 32, 48, 32, 49, 48, 32, 50, 32, 51, 32, 54, 32, 45, 50, 32, 55] = some ⟨[97], 0, 10, 3, 2, 3, 6, -2, 7⟩ := by
 have hk : keyK [34, 97, 34, 32, 108, 97, 116, 101, 32, 48, 32, 49, 48, 32, 50, 32, 51, 32, 54, 32, 45, 50, 32, 55] = some ([97], [32, 108, 97, 116, 101, 32, 48, 32, 49, 48, 32, 50, 32, 51, 32, 54, 32, 45, 50, 32, 55]) := (keyK_iff _ _ _).2 (by decide)
 have hp : pcs [] [32, 108, 97, 116, 101, 32, 48, 32, 49, 48, 32, 50, 32, 51, 32, 54, 32, 45, 50, 32, 55] = [[], [108, 97, 116, 101], [48], [49, 48], [50], [51], [54], [45, 50], [55]] := by decide
 have n0 : numK [48] = some 0 := (numK_iff _ _).2 ⟨(itoa_d 0 (by decide)).symm, by unfold in64; omega⟩
 have n1 : numK [49, 48] = some 10 := (numK_iff _ _).2 ⟨itoa_10.symm, by unfold in64; omega⟩
 have n2 : numK [50] = some 2 := (numK_iff _ _).2 ⟨(itoa_d 2 (by decide)).symm, by unfold in64; omega⟩
 have n3 : numK [51] = some 3 := (numK_iff _ _).2 ⟨(itoa_d 3 (by decide)).symm, by unfold in64; omega⟩
 have n6 : numK [54] = some 6 := (numK_iff _ _).2 ⟨(itoa_d 6 (by decide)).symm, by unfold in64; omega⟩
 have nm : numK [45, 50] = some (-2) := (numK_iff _ _).2 ⟨itoa_m2.symm, by unfold in64; omega⟩
 have n7 : numK [55] = some 7 := (numK_iff _ _).2 ⟨(itoa_d 7 (by decide)).symm, by unfold in64; omega⟩
 unfold parseK
 rw [hk]
 simp only
 rw [hp]
 simp only [parseP]
 rw [if_neg (by decide)]
 simp only [List.mapM_cons, List.mapM_nil, n0, n1, n2, n3, n6, nm, n7]
 rfl
noncomputable def B16 : Code := (Tryz.f16.body).getD .skip
set_option maxHeartbeats 20000000 in
set_option maxRecDepth 100000 in
theorem alike_one (a b : Nat) (w : World) (ha : w.heap[a]? = some (.cells oneV.toArray 40 (0, 0))) (hb : w.heap[b]? = some (.cells oneV.toArray 40 (0, 0))) :
  Calls Tryz.prog 16 #[.slice (some ⟨a, 0, none⟩) 1 1, .slice (some ⟨b, 0, none⟩) 1 1] w fun e w' => e = .returned (.bool true) ∧ Below w.heap.size w w' := by
 refine enter (fn := Tryz.f16) (c := B16) [.sl (some ⟨a, 0, none⟩) 1 1, .sl (some ⟨b, 0, none⟩) 1 1] Tryz.func16 rfl rfl ?_
 refine zM [0, 1, 10] 0 ⟨pops B16 [1, 0] 6, [.seq (sub B16 [1, 1])], [(0, .sl (some (Addr.mk a 0 none)) 1 1), (1, .sl (some (Addr.mk b 0 none)) 1 1), (10, .bo true)], []⟩ ?_
 refine At.res 10 (true) true (by kernel_rfl) (by first | assumption | (simp only [*]; done) | (simp [*]; done)) ?_
 refine zM [10, 11, 12] 0 ⟨pops B16 [1, 0] 8, [.seq (sub B16 [1, 1])], [(10, .v (.bool true)), (11, .sl (some (Addr.mk a 0 none)) 1 1), (12, .sl (some (Addr.mk b 0 none)) 1 1)], []⟩ ?_
 refine zC noF_stable 15 [.sl (some ⟨a, 0, none⟩) 1 1, .sl (some ⟨b, 0, none⟩) 1 1] (.v (.bool true)) (fun _ _ w1 hi _ => begins_one a b w1 (blk hi.mem.below ha) (blk hi.mem.below hb)) ?_
 refine zM [4] 0 ⟨.exit .ret, [], [(4, .v (.bool true))], []⟩ ?_
 refine zE (.v (.bool true)) ?_
 intro ρ w9 hm' hf
 exact ⟨rfl, hm'.below⟩
noncomputable def B4 : Code := (Tryz.f4.body).getD .skip
set_option maxHeartbeats 20000000 in
set_option maxRecDepth 100000 in
theorem known_any (w : World) (htp : Lib.TabIs Tryz.prog w "internal/strconv.uint64pow10" .u64 Lib.pow10Tab)
  {tp1 tp2 : TypeId} {q1 q2 : Value} (hs1 : w.var? Tryz.prog "strconv.ErrSyntax" = some #[.iface tp1 q1]) (hs2 : w.var? Tryz.prog "strconv.ErrRange" = some #[.iface tp2 q2]) {m : Int} (hm : w.cell? ⟨3, 0, none⟩ = some (.int .i64 m)) :
  Calls Tryz.prog 4 #[] w fun e w' => e = .returned (.bool true) ∧ Below w.heap.size w w' := by
 refine enter (fn := Tryz.f4) (c := B4) [] Tryz.func4 rfl rfl ?_
 refine zM [1, 10] 1 ⟨pops B4 [1, 1, 0] 1, [.seq (sub B4 pAL12)], [(1, .lp 0 0), (10, .agg zAL1)], [(zAL1, 40)]⟩ ?_
 refine zC noF_stable 19 [.agg one] (.tup [.v (.string ⟨#[34, 97, 34, 32, 108, 97, 116, 101, 32, 48, 32, 49, 48, 32, 50, 32, 51, 32, 54, 32, 45, 50, 32, 55]⟩), .v (.int .i64 0)]) (fun _ _ w1 hi _ => (line_ok [97] 0 10 3 2 3 6 (-2) 7 (by decide) (.inr (.inr rfl)) (by unfold in64; omega) (by unfold in64; omega) (by unfold in64; omega) (by unfold in64; omega) (by unfold in64; omega) (by unfold in64; omega) (by unfold in64; omega) w1 (tab_below htp hi.mem.below rfl)).mono fun e w2 h => ⟨h.1.trans (by rw [known_line]; rfl), h.2⟩) ?_
 refine zM [1, 2, 3, 15] 1 ⟨pops B4 [1, 1, 1, 0] 1, [.seq (sub B4 pAL11)], [(1, .lp 0 0), (2, .v (.string (ByteArray.mk #[34, 97, 34, 32, 108, 97, 116, 101, 32, 48, 32, 49, 48, 32, 50, 32, 51, 32, 54, 32, 45, 50, 32, 55]))), (3, .v (.int .i64 0)), (15, .v (.string (ByteArray.mk #[34, 97, 34, 32, 108, 97, 116, 101, 32, 48, 32, 49, 48, 32, 50, 32, 51, 32, 54, 32, 45, 50, 32, 55])))], [(zAL1, 40)]⟩ ?_
 refine zC noF_stable 20 [.v (.string ⟨#[34, 97, 34, 32, 108, 97, 116, 101, 32, 48, 32, 49, 48, 32, 50, 32, 51, 32, 54, 32, 45, 50, 32, 55]⟩)] (.tup [.agg one, .v (.int .i64 0)]) (fun _ _ w1 hi _ => (parse_any [34, 97, 34, 32, 108, 97, 116, 101, 32, 48, 32, 49, 48, 32, 50, 32, 51, 32, 54, 32, 45, 50, 32, 55] (by decide) w1 (tab_below htp hi.mem.below rfl) (var_below hs1 hi.mem.below) (var_below hs2 hi.mem.below) (cell_below hm hi.mem.below)).mono fun e w2 h => ⟨h.1.trans (by rw [known_parse]; rfl), h.2⟩) ?_
 refine zM [34, 36, 38] 4 ⟨pops B4 [1, 1, 1, 1, 0] 20, [.seq (sub B4 [1, 1, 1, 1, 1])], [(34, .v (.bool true)), (36, .ls 2 0 1 1), (38, .ls 3 0 1 1)], [(zAL1, 40), (zAL1, 40), (zAL1, 40), (zAL1, 40)]⟩ ?_
 refine zC noF_stable 16 [.ls 2 0 1 1, .ls 3 0 1 1] (.v (.bool true)) (fun ρ _ w1 hi _ => alike_one (nth ρ 2) (nth ρ 3) w1 (hi.mem.cells 2 one 40 rfl) (hi.mem.cells 3 one 40 rfl)) ?_
 refine zM [0] 0 ⟨.exit .ret, [], [(0, .v (.bool true))], []⟩ ?_
 refine zE (.v (.bool true)) ?_
 intro ρ w9 hm' hf
 exact ⟨rfl, hm'.below⟩
end Go.Proofs.YtkjnbafdmjakgaaGreatDoor
end
section
namespace Go.Proofs.YtkjnbafdmjakgaaGreatDoor
open Go.RowKit Go.Sx
def gone : List SV := [.v (.string ⟨#[103, 111, 110, 101]⟩), .v (.int .i64 0), .v (.int .i64 0), .v (.int .i64 0), .v (.int .i64 0), .v (.int .i64 0), .v (.int .i64 0), .v (.int .i64 0), .v (.int .i64 0)]
def ownOf (A : Option Addr) (n c k : Nat) : Prop := (Value.slice A n c).ownBlock = some k
def frJ (A : Option Addr) (n c : Nat) : Nat × List Value → Fr
 | (i, _) => [(0, .sl A n c), (2, .io .i64 (i : Int))]
def locJ (_ : Nat × List Value) : Sx.Loc := []
def GJ (w : World) (base : Nat) (A : Option Addr) (n c : Nat) (x : Nat × List Value) (ρ : List Nat) (w1 : World) : Prop := RowF w (ownOf A n c) [] base 40 9 A n c x.2 ρ w1 ∧ x.1 ≤ n
def frJ2 : Option Addr × Nat × Nat × Nat × List Value → Fr
 | (A', n', c', i, _) => [(0, .sl A' n' c'), (3, .io .i64 (i : Int))]
def locJ2 (_ : Option Addr × Nat × Nat × Nat × List Value) : Sx.Loc := []
def GJ2 (w : World) (base : Nat) (A : Option Addr) (n c : Nat) : Option Addr × Nat × Nat × Nat × List Value → List Nat → World → Prop
 | (A', n', c', i, zs), ρ, w1 => RowF w (ownOf A n c) [] base 40 9 A' n' c' zs ρ w1 ∧ (i ≤ 20 ∧ n' = n + i)
noncomputable def B18 : Code := (Tryz.f18.body).getD .skip
set_option maxHeartbeats 20000000 in
set_option maxRecDepth 100000 in
theorem spoilt_any {A : Option Addr} {n c base : Nat} {xs : List Value} (w : World) (h : w.ownsRow base 40 9 (.slice A n c) n xs) (hb : base ≤ w.heap.size) (hn : n ≤ 1048576) :
  Calls Tryz.prog 18 #[.slice A n c] w fun e w' => e = .returned (.tuple #[]) ∧ Chg (ownOf A n c) w w' := by
 refine enterF (N := base) (F := RowF w (ownOf A n c) [] base 40 9 A n c xs) (fn := Tryz.f18) (c := B18) [.sl A n c] Tryz.func18 rfl rfl hb ⟨⟨⟨h, by simp⟩, hb⟩, FrameR.start _ [] (by simp), fun g hg => .inl hg⟩ ?_
 refine zF [0, 2] 0 ⟨.code (sub B18 [0, 1, 4]), [.block 0, .seq (sub B18 [1])], [(0, .sl A n c), (2, .v (.int .i64 0))], []⟩ ?_
 refine At.canon _ rfl ?_
 refine At.loop (σ := Nat × List Value) (sub B18 [0, 1, 4, 4]) (frJ A n c) locJ (GJ w base A n c) (fun x => n - x.1) (0, xs) (by kernel_rfl) (by unfold subFr; kernel_rfl) (by kernel_rfl) (fun _ _ _ _ h => ⟨h, Nat.zero_le _⟩) ?_
 rintro ⟨i, ys⟩
 refine At.pure fun h1 => ?_
 simp only at h1
 dsimp only
 refine zTq RowF.stable RowF.fewer [0, 2, 7] 0 ?_
 rcases Bool.eq_false_or_eq_true (decide ((↑i : Int) < (↑n : Int))) with b0 | b0
 ·refine zR 7 b0 ?_
  refine zF [0, 2, 10, 11, 12] 0 ⟨pops B18 [0, 1, 4, 4, 1, 0, 4] 3, [.block 1, .seq (sub B18 [0, 1, 4, 4, 1, 1]), .next (Sx.Next base w Tryz.f18.ntmps (frJ A n c) locJ (GJ w base A n c) (fun x => n - x.fst) (i, ys)), .block 0, .seq (sub B18 [1])], [(0, .sl A n c), (2, .io .i64 (↑i : Int)), (10, .sl A n c), (11, .io .i64 (↑i : Int)), (12, .agg zAL0)], []⟩ ?_
  have hi : i < n := by have := of_decide_eq_true b0; omega
  clear b0
  refine At.mono (F' := fun ρ w1 => RowF w (ownOf A n c) [] base 40 9 A n c ys ρ w1 ∧ ∃ a, A = some a) (fun ρ w1 h => ⟨h, (row_is h.1.1 (by omega)).1⟩) (At.pure ?_)
  rintro ⟨a, rfl⟩
  refine At.idx a n 9 (i : Int) (by kernel_rfl) (by omega) (by omega) RowF.stable ?_
  refine At.stRowN (i * 9) (a.add ((i : Int).toNat * 9)) gone (by kernel_rfl) (by rw [Int.toNat_natCast]) (by show i * 9 + 9 ≤ n * 9; omega) (Nat.le_refl _) (fun zs => ?_)
  refine zF [0, 2] 0 ⟨.exit .normal, [.next (Sx.Next base w Tryz.f18.ntmps (frJ (some a) n c) locJ (GJ w base (some a) n c) (fun x => n - x.fst) (i, ys)), .block 0, .seq (sub B18 [1])], [(0, .sl (some a) n c), (2, .io .i64 (IntKind.i64.wrap ((↑i : Int) + 1)))], []⟩ ?_
  have hw3 : IntKind.i64.wrap ((i : Int) + 1) = ((i + 1 : Nat) : Int) := by
   rw [wrap63 (by omega) (by omega)]
   omega
  rw [hw3]
  refine At.next (σ := Nat × List Value) (i + 1, zs) rfl rfl (by unfold subFr; kernel_rfl) (by kernel_rfl) ?_ ?_
  ·intro ρ a' w' hi' hf
   exact ⟨hf, by simp only; omega⟩
  simp only
  omega
 refine zR 7 b0 ?_
 refine zF [0, 3] 0 ⟨.code (sub B18 [1, 1, 4]), [.block 2], [(0, .sl A n c), (3, .v (.int .i64 0))], []⟩ ?_
 clear b0
 refine At.canon _ rfl ?_
 refine At.loop (σ := Option Addr × Nat × Nat × Nat × List Value) (sub B18 [1, 1, 4, 4]) frJ2 locJ2 (GJ2 w base A n c) (fun x => 20 - x.2.2.2.1) (A, n, c, 0, ys) (by kernel_rfl) (by unfold subFr; kernel_rfl) (by kernel_rfl) (fun _ _ _ _ h => ⟨h, Nat.zero_le _, rfl⟩) ?_
 rintro ⟨A', n', c', i, zs⟩
 refine At.pure fun ⟨h2, h3⟩ => ?_
 dsimp only
 refine zTq RowF.stable RowF.fewer [0, 3, 15] 0 ?_
 rcases Bool.eq_false_or_eq_true (decide ((↑i : Int) < 20)) with b0 | b0
 ·refine zR 15 b0 ?_
  let kn0 : K := .next (Sx.Next base w Tryz.f18.ntmps frJ2 locJ2 (GJ2 w base A n c) (fun x => 20 - x.snd.snd.snd.fst) (A', n', c', i, zs))
  refine zF [3, 18, 20] 1 ⟨pops B18 [1, 1, 4, 4, 1, 0, 4] 3, [.block 3, .seq (sub B18 [1, 1, 4, 4, 1, 1]), kn0, .block 2], [(3, .io .i64 (↑i : Int)), (18, .sl A' n' c'), (20, .ls 0 0 1 1)], [(zAL0, 40)]⟩ ?_
  refine At.app (22) (40) (9) (80) (A') (n') (c') (1) (zAL0) _ _ _ _ ([.string (ByteArray.mk #[103, 111, 110, 101]), .int .i64 0, .int .i64 0, .int .i64 0, .int .i64 0, .int .i64 0, .int .i64 0, .int .i64 0, .int .i64 0]) (by kernel_rfl) (fun ρ => by kernel_rfl) (by first | omega | (simp only [Go.maxLen]; omega)) (by first | omega | (simp only [Go.maxLen]; omega)) (by first | omega | (simp only [Go.maxLen]; omega)) fun A1 c1 => ?_
  refine zF [0, 3] 0 ⟨.exit .normal, [kn0, .block 2], [(0, .sl A1 (n' + 1) c1), (3, .io .i64 (IntKind.i64.wrap ((↑i : Int) + 1)))], []⟩ ?_
  have hi20 : i < 20 := by have := of_decide_eq_true b0; omega
  have hw3 : IntKind.i64.wrap ((i : Int) + 1) = ((i + 1 : Nat) : Int) := by
   rw [wrap63 (by omega) (by omega)]
   omega
  rw [hw3]
  refine At.next (σ := Option Addr × Nat × Nat × Nat × List Value) (A1, n' + 1, c1, i + 1, zs ++ [.string ⟨#[103, 111, 110, 101]⟩, .int .i64 0, .int .i64 0, .int .i64 0, .int .i64 0, .int .i64 0, .int .i64 0, .int .i64 0, .int .i64 0]) rfl rfl (by unfold subFr; kernel_rfl) (by kernel_rfl) ?_ ?_
  ·intro ρ a' w' hi' hf
   exact ⟨hf, by omega, by omega⟩
  show 20 - (i + 1) < 20 - i
  omega
 refine zR 15 b0 ?_
 refine zF [0, 3] 0 ⟨.exit .normal, [], [(0, .sl A' n' c'), (3, .io .i64 (↑i : Int))], []⟩ ?_
 refine zE (.tup []) ?_
 intro ρ w9 hm' hf
 exact ⟨rfl, hf.2.1.1⟩
end Go.Proofs.YtkjnbafdmjakgaaGreatDoor
end
section
namespace Go.Proofs.YtkjnbafdmjakgaaGreatDoor
open Go.RowKit Go.Sx
theorem pv_len : ∀ ps : List Pn, (pv ps).length = ps.length * 9
 | [] => rfl
 | p :: ps => by
  rw [show pv (p :: ps) = p.cells ++ pv ps by simp [pv], List.length_append, pv_len ps, cells_len, List.length_cons]
  omega
section
variable {P : Program} {Q : Exit → Act → World → Prop} {N : Nat} {w0 : World} {ntm : Nat}
end
noncomputable def B3 : Code := (Tryz.f3.body).getD .skip
end Go.Proofs.YtkjnbafdmjakgaaGreatDoor
end
section
namespace Go.Proofs.YtkjnbafdmjakgaaGreatDoor
open Go.RowKit Go.Sx
theorem add_add (a : Addr) (n m : Nat) : (a.add n).add m = a.add (n + m) := by
 unfold Addr.add
 by_cases hn : n = 0
 ·subst hn; simp
 by_cases hm : m = 0
 ·subst hm; simp
 simp [hn, hm]; omega
theorem src_low {w w' : World} {a : Addr} {xs : List Value} (h : Src w a xs) (hb : Below w.heap.size w w') : Src w' a xs := fun j u hj => cell_below (h j u hj) hb
def SlP (w : World) (A : Option Addr) (n : Nat) (ls : List Pn) : Prop := ls.length = n ∧ (A = none → ls = []) ∧ ∀ a, A = some a → Src w a (pv ls)
theorem SlP.cell {w w1 : World} {a : Addr} {n : Nat} {ls : List Pn} (h : SlP w (some a) n ls) (hb : Below w.heap.size w w1) {i j : Nat} {p : Pn} {ρ : List Nat} {v : Value} (hp : ls[i]? = some p)
  (hj : (SV.denL ρ (paneL (mkB p.key) p.st p.en p.kd p.nt p.ct p.sm p.mn p.mx))[j]? = some v) : w1.cell? ((a.add ((i : Int).toNat * 9)).add j) = some v := by
 rw [Int.toNat_natCast, add_add]
 exact src_low (h.2.2 a rfl) hb _ _ (pv_at hp hj)
theorem SlP.some {w : World} {A : Option Addr} {n : Nat} {ls : List Pn} (h : SlP w A n ls) (hn : 0 < n) : ∃ a, A = some a := by
 cases A with
 | none => have := h.1; rw [h.2.1 rfl] at this; simp at this; omega
 | some a => exact ⟨a, rfl⟩
end Go.Proofs.YtkjnbafdmjakgaaGreatDoor
end
section
namespace Go.Proofs.YtkjnbafdmjakgaaGreatDoor
open Go.RowKit Go.Sx
theorem row_sl {w : World} {base n c : Nat} {A : Option Addr} {ps : List Pn} (h : w.ownsRow base 40 9 (.slice A n c) n (pv ps)) : SlP w A n ps := by
 have hl := h.1
 rw [pv_len] at hl
 refine ⟨by omega, fun e => ?_, fun a ha j u hj => ?_⟩
 ·rcases h.2 with ⟨_, h0⟩ | ⟨g, cap, cur, hv, _⟩
  ·exact List.length_eq_zero_iff.1 (by omega)
  rw [e] at hv; injection hv with hv _ _; cases hv
 subst ha
 have hlt := (List.getElem?_eq_some_iff.1 hj).1
 rw [h.1] at hlt
 have ha : a = ⟨a.block, 0, none⟩ := by
  rcases h.2 with ⟨h', _⟩ | ⟨g, cap, cur, hv, _⟩
  ·cases h'
  injection hv with hv _ _
  injection hv with hv
  rw [hv]
 generalize hg : a.block = g at ha
 subst ha
 rw [add_ok, Nat.zero_add]
 exact (h.cellAt j hlt).trans hj
theorem SlP.below {w w' : World} {A : Option Addr} {n : Nat} {ps : List Pn} (h : SlP w A n ps) (hb : Below w.heap.size w w') : SlP w' A n ps := ⟨h.1, h.2.1, fun a ha => src_low (h.2.2 a ha) hb⟩
set_option maxHeartbeats 20000000 in
set_option maxRecDepth 100000 in
theorem same_sl {A B : Option Addr} {n m c d : Nat} {ps qs : List Pn} (w : World) (hA : SlP w A n ps) (hB : SlP w B m qs) (hbig : n ≤ 1048576) :
  Calls Tryz.prog 13 #[.slice A n c, .slice B m d] w fun e w' => e = .returned (.bool (decide (ps = qs))) ∧ Below w.heap.size w w' := by
 refine enter (fn := Tryz.f13) (c := B13) [.sl A n c, .sl B m d] Tryz.func13 rfl rfl ?_
 refine zNq [0, 1, 10] 0 ?_
 rcases Bool.eq_false_or_eq_true ((↑n : Int) != (↑m : Int)) with b0 | b0
 ·refine zR 10 b0 ?_
  refine zN [4] 0 ⟨.exit .ret, [], [(4, .v (.bool false))], []⟩ ?_
  refine zE (.v (.bool false)) ?_
  have hne : n ≠ m := fun e => by simp [e] at b0
  intro ρ w9 hm' hf
  exact ⟨by rw [show decide (ps = qs) = false from decide_eq_false fun e => hne (by rw [← hA.1, ← hB.1, e])]; rfl, hm'.below⟩
 refine zR 10 b0 ?_
 refine zN [0, 1, 5] 0 ⟨.code (sub B13 [1, 1, 0, 1, 4]), [.block 0, .seq (sub B13 pAL12)], [(0, .sl A n c), (1, .sl B m d), (5, .v (.int .i64 0))], []⟩ ?_
 have hnm : n = m := Int.ofNat.inj (show (n : Int) = (m : Int) by simpa using b0)
 clear b0
 subst hnm
 refine At.canon _ rfl ?_
 refine At.loop (σ := Nat) (sub B13 pAL10) (frS A B n c d) locS (fun i _ _ => i ≤ n ∧ ∀ k, k < i → ps[k]? = qs[k]?) (fun i => n - i) 0 (by kernel_rfl) (by unfold subFr; kernel_rfl) (by kernel_rfl) (fun _ _ _ _ h => ⟨Nat.zero_le _, fun k hk => absurd hk (Nat.not_lt_zero k)⟩) ?_
 intro i
 refine At.mono (F' := fun ρ w => noF ρ w ∧ (i ≤ n ∧ ∀ k, k < i → ps[k]? = qs[k]?)) (fun ρ w h => ⟨trivial, h⟩) ?_
 refine At.pure fun ⟨h1, h2⟩ => ?_
 refine zNq [0, 1, 5, 14] 0 ?_
 rcases Bool.eq_false_or_eq_true (decide ((↑i : Int) < (↑n : Int))) with b0 | b0
 ·refine zR 14 b0 ?_
  refine zN [0, 1, 5, 17, 18] 0 ⟨pqops B13 [1, 1, 0, 1, 4, 4, 1, 0, 4, 0] 2, [.seq (sub B13 pAL7), .block 1, .seq (sub B13 pAL8), .next (Sx.Next w.heap.size w Tryz.f13.ntmps (frS A B n c d) locS (fun i x x_1 => i ≤ n ∧ ∀ (k : Nat), k < i → ps[k]? = qs[k]?) (fun i => n - i) i), .block 0, .seq (sub B13 pAL12)], [(0, .sl A n c), (1, .sl B n d), (5, .io .i64 (↑i : Int)), (17, .sl A n c), (18, .io .i64 (↑i : Int))], []⟩ ?_
  have hi : i < n := by have := of_decide_eq_true b0; omega
  clear b0
  obtain ⟨p, hp⟩ : ∃ p, ps[i]? = some p := ⟨_, List.getElem?_eq_getElem (by rw [hA.1]; exact hi)⟩
  obtain ⟨q, hq⟩ : ∃ q, qs[i]? = some q := ⟨_, List.getElem?_eq_getElem (by rw [hB.1]; exact hi)⟩
  obtain ⟨a, rfl⟩ := hA.some (by omega)
  obtain ⟨b, rfl⟩ := hB.some (by omega)
  refine At.idx a n 9 (i : Int) (by kernel_rfl) (by omega) (by omega) noF_stable ?_
  refine At.lda (a.add ((i : Int).toNat * 9)) 9 (paneL (mkB p.key) p.st p.en p.kd p.nt p.ct p.sm p.mn p.mx) (by kernel_rfl) rfl noF_stable (fun ρ w1 hm' hf j v hj => hA.cell hm'.below hp hj) ?_
  let kn0 : K := .next (Sx.Next w.heap.size w Tryz.f13.ntmps (frS (some a) (some b) n c d) locS (fun i x x_1 => i ≤ n ∧ ∀ (k : Nat), k < i → ps[k]? = qs[k]?) (fun i => n - i) i)
  refine zN [0, 1, 5, 20, 21, 22] 0 ⟨pqops B13 [1, 1, 0, 1, 4, 4, 1, 0, 4, 0] 6, [.seq (sub B13 pAL7), .block 1, .seq (sub B13 pAL8), kn0, .block 0, .seq (sub B13 pAL12)], [(0, .sl (some a) n c), (1, .sl (some b) n d), (5, .io .i64 (↑i : Int)), (20, .agg [.so (mkB p.key), .io .i64 p.st, .io .i64 p.en, .io .i64 p.kd, .io .i64 p.nt, .io .i64 p.ct, .io .i64 p.sm, .io .i64 p.mn, .io .i64 p.mx]), (21, .sl (some b) n d), (22, .io .i64 (↑i : Int))], []⟩ ?_
  refine At.idx b n 9 (i : Int) (by kernel_rfl) (by omega) (by omega) noF_stable ?_
  refine At.lda (b.add ((i : Int).toNat * 9)) 9 (paneL (mkB q.key) q.st q.en q.kd q.nt q.ct q.sm q.mn q.mx) (by kernel_rfl) rfl noF_stable (fun ρ w1 hm' hf j v hj => hB.cell hm'.below hq hj) ?_
  refine zNq [0, 1, 5, 25] 0 ?_
  rcases Bool.eq_false_or_eq_true (!((mkB p.key).toList == (mkB q.key).toList && (p.st == q.st && (p.en == q.en && true) && (p.kd == q.kd && (p.nt == q.nt && (p.ct == q.ct && (p.sm == q.sm && (p.mn == q.mn && (p.mx == q.mx && true))) && true)))))) with b0 | b0
  ·refine zR 25 b0 ?_
   refine zN [4] 0 ⟨.exit .ret, [], [(4, .v (.bool false))], []⟩ ?_
   refine zE (.v (.bool false)) ?_
   rw [pane_beq] at b0
   have hne : p ≠ q := by simpa using b0
   intro ρ w9 hm' hf
   exact ⟨by rw [show decide (ps = qs) = false from decide_eq_false fun e => hne (by rw [e, hq] at hp; exact (Option.some.inj hp).symm)]; rfl, hm'.below⟩
  refine zR 25 b0 ?_
  refine zN [0, 1, 5] 0 ⟨.exit .normal, [kn0, .block 0, .seq (sub B13 pAL12)], [(0, .sl (some a) n c), (1, .sl (some b) n d), (5, .io .i64 (IntKind.i64.wrap ((↑i : Int) + 1)))], []⟩ ?_
  rw [pane_beq] at b0
  have heq : p = q := by simpa using b0
  subst heq
  have hw3 : IntKind.i64.wrap ((i : Int) + 1) = ((i + 1 : Nat) : Int) := by
   rw [wrap63 (by omega) (by omega)]
   omega
  rw [hw3]
  refine At.next (σ := Nat) (i + 1) rfl rfl (by unfold subFr; kernel_rfl) (by kernel_rfl) ?_ ?_
  ·intro ρ a' w' hi' hf
   refine ⟨by omega, fun k hk => ?_⟩
   by_cases hki : k = i
   ·subst hki
    rw [hp, hq]
   exact h2 k (by omega)
  show n - (i + 1) < n - i
  omega
 refine zR 14 b0 ?_
 refine zN [4] 0 ⟨.exit .ret, [], [(4, .v (.bool true))], []⟩ ?_
 refine zE (.v (.bool true)) ?_
 have hi : ¬ (i : Int) < (n : Int) := of_decide_eq_false b0
 have ha := hA.1
 have hb := hB.1
 intro ρ w9 hm' hf
 exact ⟨by rw [show decide (ps = qs) = true from decide_eq_true (List.ext_getElem? fun k => if hk : k < i then h2 k hk else by rw [List.getElem?_eq_none (by omega), List.getElem?_eq_none (by omega)])]; rfl, hm'.below⟩
section
variable {P : Program} {Q : Exit → Act → World → Prop} {N : Nat} {w0 : World} {ntm : Nat}
end
end Go.Proofs.YtkjnbafdmjakgaaGreatDoor
end
section
namespace Go.Proofs.YtkjnbafdmjakgaaGreatDoor
open Go.RowKit Go.Sx
def markV : List Value := [.string ⟨#[]⟩, .int .i64 0, .int .i64 0, .int .i64 0, .int .i64 4242, .int .i64 0, .int .i64 0, .int .i64 0, .int .i64 0]
theorem add0 (a : Addr) : a.add 0 = a := by simp [Addr.add]
theorem map_add0 (A : Option Addr) : A.map (fun a => a.add 0) = A := by cases A <;> simp [Addr.add]
theorem pv_one (ls : List Pn) : ∀ u ∈ pv ls, u.oneCell' = true := by
 intro u hu
 obtain ⟨p, _, hp⟩ := List.mem_flatMap.1 hu
 simp only [Pn.cells, List.mem_cons, List.not_mem_nil, or_false] at hp
 rcases hp with rfl | rfl | rfl | rfl | rfl | rfl | rfl | rfl | rfl <;> rfl
section
variable {w : World} {base nl c : Nat} {ls : List Pn}
theorem row_cap {A : Option Addr} (h : w.ownsRow base 40 9 (.slice A (nl + 1) c) (nl + 1) (pv ls ++ markV)) : nl + 1 ≤ c := by
 rcases h.2 with ⟨_, h'⟩ | ⟨g, cap, cur, hv, _, _, hnc, _⟩
 ·omega
 injection hv with _ _ hcc
 omega
theorem own_head {A : Option Addr} (h : w.ownsRow base 40 9 (.slice A (nl + 1) c) (nl + 1) (pv ls ++ markV)) : w.ownsRow base 40 9 (.slice A nl c) nl (pv ls) := by
 have hl : (pv ls).length = nl * 9 := by
  have := h.1
  rw [List.length_append, show markV.length = 9 from rfl] at this
  omega
 refine ⟨hl, ?_⟩
 rcases h.2 with ⟨_, h'⟩ | ⟨g, cap, cur, hv, hb, hg, hnc, hcm, hsz, ht⟩
 ·omega
 injection hv with h1 _ h2
 subst h1 h2
 refine .inr ⟨g, c, cur, rfl, hb, hg, by omega, hcm, hsz, ?_⟩
 have := congrArg (List.take (nl * 9)) ht
 rw [List.take_take, Nat.min_eq_left (by omega), List.take_left' hl] at this
 exact this
theorem row_head {A : Option Addr} (h : w.ownsRow base 40 9 (.slice A (nl + 1) c) (nl + 1) (pv ls ++ markV)) : SlP w A nl ls := row_sl (own_head h)
theorem row_mark {a : Addr} (h : w.ownsRow base 40 9 (.slice (some a) (nl + 1) c) (nl + 1) (pv ls ++ markV)) (hl : ls.length = nl) : w.cell? ((a.add ((nl : Int).toNat * 9)).add 4) = some (.int .i64 4242) := by
 have ha : a = ⟨a.block, 0, none⟩ := by
  rcases h.2 with ⟨h', _⟩ | ⟨g, cap, cur, hv, _⟩
  ·cases h'
  injection hv with hv _ _
  injection hv with hv
  rw [hv]
 generalize hg : a.block = g at ha
 subst ha
 rw [add_ok, add_ok, Int.toNat_natCast, Nat.zero_add, h.cellAt (nl * 9 + 4) (by omega), List.getElem?_append_right (by rw [pv_len]; omega), pv_len, hl, Nat.add_sub_cancel_left]
 rfl
end
noncomputable def B5 : Code := (Tryz.f5.body).getD .skip
set_option maxHeartbeats 20000000 in
set_option maxRecDepth 100000 in
theorem lent_any {Al : Option Addr} {nl cl : Nat} {ls : List Pn} (w : World) (hl : SlP w Al nl ls) (hbig : nl ≤ 200) :
  Calls Tryz.prog 5 #[.slice Al nl cl] w fun e w' => ∃ A c, e = .returned (.slice A nl c) ∧ RowF w (fun _ => False) [] w.heap.size 40 9 A (nl + 1) c (pv ls ++ markV) [] w' := by
 refine enterF (N := w.heap.size) (F := RowF w (fun _ => False) [] w.heap.size 40 9 none 0 0 []) (fn := Tryz.f5) (c := B5) [.sl Al nl cl] Tryz.func5 rfl rfl (Nat.le_refl _) ⟨⟨⟨World.ownsRow_nil _ _ _ _, by simp [Value.ownBlock]⟩, Nat.le_refl _⟩, FrameR.start _ [] (by simp), by simp [Value.ownBlock]⟩ ?_
 refine zG [0, 3] 0 ⟨pops B5 [1, 0] 1, [.seq (sub B5 [1, 1])], [(0, .sl Al nl cl), (3, .sl Al nl cl)], []⟩ ?_
 refine At.appAny 40 9 80 none 0 0 Al nl cl (fun _ => False) [] w.heap.size [] (pv ls) (by kernel_rfl) (by rw [pv_len, hl.1]) (pv_one ls) (fun e => by rw [← hl.1, hl.2.1 e]; rfl) (fun b hb ρ w1 hm => src_low (hl.2.2 b hb) hm.below) (by omega) (by simp only [maxLen]; omega) (Nat.le_refl _) (fun A' c' => ?_)
 rw [Nat.zero_add, List.nil_append]
 refine zG [0, 4, 6] 1 ⟨pops B5 [1, 0] 4, [.seq (sub B5 [1, 1])], [(0, .sl Al nl cl), (4, .sl A' nl c'), (6, .ls 0 0 1 1)], [(zAL2, 40)]⟩ ?_
 refine At.app (22) (40) (9) (80) (A') (nl) (c') (1) (zAL2) _ _ _ _ ([.string (ByteArray.mk #[]), .int .i64 0, .int .i64 0, .int .i64 0, .int .i64 4242, .int .i64 0, .int .i64 0, .int .i64 0, .int .i64 0]) (by kernel_rfl) (fun ρ => by kernel_rfl) (by first | omega | (simp only [Go.maxLen]; omega)) (by first | omega | (simp only [Go.maxLen]; omega)) (by first | omega | (simp only [Go.maxLen]; omega)) fun A0 c0 => ?_
 refine zG [7, 9] 0 ⟨pops B5 [1, 0] 7, [.seq (sub B5 [1, 1])], [(7, .sl A0 (nl + 1) c0), (9, .io .i64 (↑nl : Int))], []⟩ ?_
 refine At.slx A0 (nl + 1) c0 none (nl : Int) 9 (.sl A0 nl c0) (by kernel_rfl) RowF.stable (by decide) (by simp) (fun ρ w1 _ hf => ⟨by have := (row_is hf.1.1 (by omega)).2; omega, by simp [SV.den, map_add0]⟩) ?_
 refine zG [2] 0 ⟨.exit .ret, [], [(2, .sl A0 nl c0)], []⟩ ?_
 refine zE (.sl A0 nl c0) ?_
 intro ρ w9 hm' hf
 exact ⟨A0, c0, rfl, RowF.fewer _ _ 0 (Nat.zero_le _) hf⟩
noncomputable def B17 : Code := (Tryz.f17.body).getD .skip
set_option maxHeartbeats 20000000 in
set_option maxRecDepth 100000 in
theorem kept_any {A Al : Option Addr} {nl c cl base : Nat} {ls : List Pn} (w : World) (hm : w.ownsRow base 40 9 (.slice A (nl + 1) c) (nl + 1) (pv ls ++ markV)) (hl : SlP w Al nl ls) (hbig : nl ≤ 200) :
  Calls Tryz.prog 17 #[.slice A nl c, .slice Al nl cl] w fun e w' => e = .returned (.bool true) ∧ Below w.heap.size w w' := by
 obtain ⟨a, rfl⟩ := row_some hm (by omega)
 refine enter (fn := Tryz.f17) (c := B17) [.sl (some a) nl c, .sl Al nl cl] Tryz.func17 rfl rfl ?_
 refine zM [0, 1, 5, 6] 0 ⟨pops B17 [1, 0] 2, [.seq (sub B17 [1, 1])], [(0, .sl (some a) nl c), (1, .sl Al nl cl), (5, .sl (some a) nl c), (6, .sl Al nl cl)], []⟩ ?_
 refine zC noF_stable 13 [.sl (some a) nl c, .sl Al nl cl] (.v (.bool true)) (fun _ _ w1 hi _ => (same_sl w1 ((row_head hm).below hi.mem.below) (hl.below hi.mem.below) (by omega)).mono fun e w2 h => ⟨h.1.trans (by rw [decide_eq_true rfl]; rfl), h.2⟩) ?_
 refine zM [1, 8, 9, 12] 0 ⟨pops B17 [1, 0] 8, [.seq (sub B17 [1, 1])], [(1, .sl Al nl cl), (8, .v (.bool true)), (9, .sl (some a) nl c), (12, .io .i64 (IntKind.i64.wrap ((↑nl : Int) + 1)))], []⟩ ?_
 have hw3 : IntKind.i64.wrap ((nl : Int) + 1) = ((nl + 1 : Nat) : Int) := by
  rw [wrap63 (by omega) (by omega)]
  omega
 rw [hw3]
 refine At.slx (some a) nl c none ((nl + 1 : Nat) : Int) 9 (.sl (some a) (nl + 1) c) (by kernel_rfl) noF_stable (by decide) (by simp; omega) (fun ρ w1 _ hf => ⟨by have := row_cap hm; omega, by simp [SV.den, add0]⟩) ?_
 refine zM [8, 13, 15] 0 ⟨pops B17 [1, 0] 11, [.seq (sub B17 [1, 1])], [(8, .v (.bool true)), (13, .sl (some a) (nl + 1) c), (15, .io .i64 (↑nl : Int))], []⟩ ?_
 refine At.idx a (nl + 1) 9 (nl : Int) (by kernel_rfl) (by omega) (by omega) noF_stable ?_
 refine At.fax (a.add ((nl : Int).toNat * 9)) 4 (by kernel_rfl) noF_stable ?_
 refine At.ldx ((a.add ((nl : Int).toNat * 9)).add 4) (.v (.int .i64 4242)) (by kernel_rfl) noF_stable (fun ρ w1 hm' hf => cell_below (row_mark hm (by have := hl.1; omega)) hm'.below) ?_
 refine zM [4] 0 ⟨.exit .ret, [], [(4, .v (.bool true))], []⟩ ?_
 refine zE (.v (.bool true)) ?_
 intro ρ w9 hm' hf
 exact ⟨rfl, hm'.below⟩
end Go.Proofs.YtkjnbafdmjakgaaGreatDoor
end
section
namespace Go.Proofs.YtkjnbafdmjakgaaGreatDoor
open Go.RowKit Go.Sx
noncomputable def B25 : Code := (Tryz.f25.body).getD .skip
set_option maxHeartbeats 20000000 in
set_option maxRecDepth 100000 in
theorem clone_pn {a : Addr} {n c : Nat} {ps : List Pn} (w : World) (hl : ps.length = n) (ha : a.block < w.heap.size) (hsrc : Go.Sx.Src w a (pv ps)) (hn : n ≤ 1000000) :
  Calls Tryz.prog 25 #[.slice (some a) n c] w fun e w' => ∃ A' c', e = .returned (.slice A' n c') ∧ RowF w (fun _ => False) [] w.heap.size 40 9 A' n c' (pv ps) [] w' := by
 refine enter (fn := Tryz.f25) (c := B25) [.sl (some a) n c] Tryz.func25 rfl rfl ?_
 refine zNq [0, 4] 0 ?_
 refine At.res 4 (false) false (by kernel_rfl) (by first | assumption | (simp only [*]; done) | (simp [*]; done)) ?_
 refine zN [5, 6] 1 ⟨pops B25 [1, 1, 0] 2, [.seq (sub B25 [1, 0, 1, 2, 1])], [(5, .ls 0 0 0 0), (6, .sl (some a) n c)], [([], 40)]⟩ ?_
 refine At.appNew [] 40 9 80 a n c (pv ps) (by kernel_rfl) rfl ha hsrc (by rw [pv_len, hl]) (pv_one ps) (by omega) (by simp only [maxLen]; omega) ?_
 intro A1 c1
 refine zF [2] 0 ⟨.exit .ret, [], [(2, .sl A1 n c1)], []⟩ ?_
 refine zE (.sl A1 n c1) ?_
 intro ρ w9 hm hf
 exact ⟨A1, c1, rfl, RowF.fewer _ _ 0 (Nat.zero_le _) hf⟩
end Go.Proofs.YtkjnbafdmjakgaaGreatDoor
end
section
namespace Go.Proofs.YtkjnbafdmjakgaaGreatDoor
open Go.RowKit Go.Sx
section
variable {κ ν : Type} {kw : κ → List Value} {vw : ν → List Value}
def BF (kw : κ → List Value) (vw : ν → List Value) (N : Nat) (ρ1 : List Nat) (D : Nat) (o : Obj) (L : List Sx.Rw) (T : List (Fc κ ν)) (ρ : List Nat) (w : World) : Prop :=
 KF kw vw N [D, D + 1] L T ρ w ∧ (Rec D (.deferred (some [])) ρ w ∧ (Rec (D + 1) o ρ w ∧ Tk ρ1 ρ w))
variable {N : Nat} {ρ1 : List Nat} {D : Nat} {o : Obj} {L : List Sx.Rw} {T : List (Fc κ ν)}
theorem BF.stable : Stable (BF kw vw N ρ1 D o L T) := KF.stable.and (Rec.stable.and (Rec.stable.and Tk.stable))
theorem BF.fewer : FewerK ρ1.length (BF kw vw N ρ1 D o L T) := FewerK.and2 (FewerK.up KF.fewer) (FewerK.and2 (FewerK.up Rec.fewer) (FewerK.and2 (FewerK.up Rec.fewer) Tk.fewer))
theorem Stable.andP {F : List Nat → World → Prop} {p : Prop} (h : Stable F) : Stable (fun ρ w => F ρ w ∧ p) := fun ρ w ρ' w' hg hk hf => ⟨h ρ w ρ' w' hg hk hf.1, hf.2⟩
theorem BF.more2 {x : Sx.Rw} {e size n c : Nat} {A : Option Addr} {xs : List Value} {ρ : List Nat} {w w' w0 : World} {loc : Sx.Loc} (h : BF kw vw N ρ1 D o (x :: L) T ρ w) (hm : WInv N w0 ρ loc w) (hb : Below w.heap.size w w') (hr : Row w.heap.size e size A n c xs [] w') : BF kw vw N ρ1 D o (x :: ⟨e, size, A, n, c, xs⟩ :: L) T ρ w' := by
 have hs := (Rec.stable.and (Rec.stable.and Tk.stable)) ρ w ρ w' (Grow.refl _ _) (Keep.of_below hb) h.2
 exact ⟨(KF.more hm h.1 hb hr).perm (List.Perm.swap ..) (fun f hf => hf), hs⟩
theorem Rec.grown {D : Nat} {o : Obj} {ρ : List Nat} {w w' : World} {row : Option Nat} (h : Rec D o ρ w) (hg : w.grownBy w' row) (hn : row ≠ some D) : Rec D o ρ w' := ⟨(hg.block D (Array.getElem?_eq_some_iff.1 h.1).1 (fun e => hn e.symm)).trans h.1, h.2⟩
theorem row_not {x : Sx.Rw} {N : Nat} {ρ : List Nat} {w : World} (h : Row N x.e x.size x.A x.n x.c x.xs ρ w) {D : Nat} {o : Obj} (hD : w.heap[D]? = some o) (ho : ∀ c t f, o ≠ .cells c t f) : x.own ≠ some D := fun e => by
 obtain ⟨cur, hc⟩ := row_own h e
 rw [hD] at hc
 injection hc with hc
 exact ho _ _ _ hc
theorem BF.grown {x y : Sx.Rw} {ρ : List Nat} {w w' : World} (h : BF kw vw N ρ1 D o (x :: L) T ρ w) (hy : Row N y.e y.size y.A y.n y.c y.xs ρ w') (hg : w.grownBy w' x.own) (ho : y.own = x.own ∨ y.own = some w.heap.size ∨ y.own = none) (hoc : ∀ c t f, o ≠ .cells c t f) : BF kw vw N ρ1 D o (y :: L) T ρ w' := by
 obtain ⟨h1, h2, h3, h4⟩ := h
 have hrow := h1.1.1 x (List.mem_cons_self ..)
 exact ⟨h1.grown hy hg ho, Rec.grown h2 hg (row_not hrow h2.1 (fun _ _ _ => by simp)), Rec.grown h3 hg (row_not hrow h3.1 hoc), h4⟩
theorem BF.perm {L' : List Sx.Rw} {T' : List (Fc κ ν)} {ρ : List Nat} {w : World} (h : BF kw vw N ρ1 D o L T ρ w) (hp : L'.Perm L) (hT : ∀ f ∈ T', f ∈ T) : BF kw vw N ρ1 D o L' T' ρ w := ⟨h.1.perm hp hT, h.2⟩
theorem BF.putObj {ρ : List Nat} {w : World} (h : BF kw vw N ρ1 D o L T ρ w) (ho : ∀ c t f, o ≠ .cells c t f) (o' : Obj) : BF kw vw N ρ1 D o' L T ρ (w.putObj (D + 1) o') := by
 obtain ⟨h1, h2, h3, h4⟩ := h
 have hlt := (Array.getElem?_eq_some_iff.1 h3.1).1
 refine ⟨h1.putObj h3.1 ho (by simp) o', ⟨?_, h2.2⟩, ⟨World.putObj_heap_same hlt, h3.2⟩, h4⟩
 rw [World.putObj_heap_other (by omega)]
 exact h2.1
end
theorem row_nn {base n c m : Nat} {A : Option Addr} {ps : List Pn} {ρ : List Nat} {w : World} (h : Row base 40 9 A n c (pv ps) ρ w) (hm : ps.length = m) : n = m := by
 have := h.1.1
 rw [pv_len] at this
 omega
theorem src_low2 {w : World} {a : Addr} {ps : List Pn} (h : Go.Sx.Src w a (pv ps)) (hp : 0 < ps.length) : a.block < w.heap.size := by
 obtain ⟨p, r, rfl⟩ : ∃ p r, ps = p :: r := by
  cases ps with
  | nil => simp at hp
  | cons p r => exact ⟨p, r, rfl⟩
 have h1 := h 0 (.string (mkB p.key)) rfl
 have hblk : (a.add 0).block = a.block := by unfold Addr.add; split <;> rfl
 unfold World.cell? at h1
 rw [hblk] at h1
 rcases Nat.lt_or_ge a.block w.heap.size with h2 | h2
 ·exact h2
 rw [Array.getElem?_eq_none h2] at h1
 cases h1
def locK (mb : Nat) (A : Option Addr) (n c : Nat) : Sx.Loc := [([.sl A n c], 25), ([.v (.pointer (some ⟨mb, 0, none⟩))], 46), ([.v (.bool false)], 4), ([.fn (.func 46) []], 96)]
def frKB (k : List UInt8) (s : SlV) : Fr := [(8, .lp 0 0), (9, .so (mkB k)), (10, .sl s.A s.n s.c)]
noncomputable def B6 : Code := (Tryz.f6.body).getD .skip
noncomputable def BKa : Code := match sub B6 [1, 1, 1, 1, 0, 1, 4] with | .rangeFunc _ _ a _ => a | _ => .skip
noncomputable def BKb : Code := match sub B6 [1, 1, 1, 1, 0, 1, 4] with | .rangeFunc _ _ _ b => b | _ => .skip
set_option maxHeartbeats 20000000 in
set_option maxRecDepth 100000 in
theorem kbody [Md] {N : Nat} {w0 : World} {ρ1 : List Nat} (h4 : ρ1.length = 4) {D mb l : Nat} {o : Obj} (hoc : ∀ c t f, o ≠ .cells c t f) {L : List Sx.Rw} {T : List (Fc (List UInt8) SlV)} {R : Ending → World → Prop} (k : List UInt8) (s : SlV) (ps : List Pn) (A : Option Addr) (n c : Nat) (xs : List Value)
  (hs : (⟨40, 9, s.A, s.n, s.c, pv ps⟩ : Sx.Rw) ∈ L) (hsn : ps.length = s.n) (hp : 0 < ps.length) (hs2 : s.n ≤ 100000) (hn : n ≤ 100000)
  (hend : ∀ (A' : Option Addr) (c' : Nat) (B : Option Addr) (d : Nat) (ρ' : List Nat) (w' : World), WInv N w0 ρ' (locK mb A' (n + 1) c') w' → BF kw1 vw1 N ρ1 D o (⟨32, 2, A', n + 1, c', xs ++ [.string (mkB k), .slice B s.n d]⟩ :: ⟨40, 9, B, s.n, d, pv ps⟩ :: L) T ρ' w' →
   ∃ r, w'.heap[l]? = some (.loop r) ∧ R (.returned (.bool true)) (w'.putObj l (.loop { r with state := .ready, pending := none }))) :
  At Tryz.prog (roundPost Tryz.prog l R) N w0 Tryz.f6.ntmps (BF kw1 vw1 N ρ1 D o (⟨32, 2, A, n, c, xs⟩ :: L) T) ⟨.code BKb, [], frKB k s, locK mb A n c⟩ := by
 have h4 : ∀ {L : List Sx.Rw}, FewerK 4 (BF kw1 vw1 N ρ1 D o L T) := h4 ▸ BF.fewer
 refine zT BF.stable h4 [8, 9, 10] 4 ⟨.any (opsOf (sub BKb [4])) 8 [], [.block 3], [(8, .lp 0 0), (9, .so (mkB k)), (10, .sl s.A s.n s.c)], [([.sl A n c], 25), ([.v (.pointer (some (Addr.mk mb 0 none)))], 46), ([.v (.bool false)], 4), ([.fn (Fn.func 46) []], 96)]⟩ ?_
 refine At.cutN (σ := Option Addr × Nat × Option Addr × Nat) (fun x => [(8, .lp 0 0)]) (fun x => locK mb x.1 (n + 1) x.2.1) (fun x => BF kw1 vw1 N ρ1 D o (⟨32, 2, x.1, n + 1, x.2.1, xs ++ [.string (mkB k), .slice x.2.2.1 s.n x.2.2.2]⟩ :: ⟨40, 9, x.2.2.1, s.n, x.2.2.2, pv ps⟩ :: L) T) rfl ?_ (fun x => ?_)
 ·refine At.purify0 (fun e a w h => h.1) 20 ?_
  refine zT BF.stable h4 [8, 9, 10, 39, 40] 4 ⟨.any (opsOf (sub BKb [4])) 6 [2, 1], [], [(8, .lp 0 0), (9, .so (mkB k)), (10, .sl s.A s.n s.c), (39, .so (mkB k)), (40, .sl s.A s.n s.c)], [([.sl A n c], 25), ([.v (.pointer (some (Addr.mk mb 0 none)))], 46), ([.v (.bool false)], 4), ([.fn (Fn.func 46) []], 96)]⟩ ?_
  refine At.fork [0, 3] rfl (by kernel_rfl) rfl (allOf.cons ?_ (allOf.cons ?_ allOf.nil))
  ·refine zT BF.stable h4 [8, 9, 10, 38, 39, 40] 4 ⟨.ops (opsOf (sub BKb [4])) (((opsOf (sub BKb [4])).toList.drop 3).take 1), [.any (opsOf (sub BKb [4])) 4 [3, 0, 2, 1]], [(8, .lp 0 0), (9, .so (mkB k)), (10, .sl s.A s.n s.c), (38, .sl A n c), (39, .so (mkB k)), (40, .sl s.A s.n s.c)], [([.sl A n c], 25), ([.v (.pointer (some (Addr.mk mb 0 none)))], 46), ([.v (.bool false)], 4), ([.fn (Fn.func 46) []], 96)]⟩ ?_
   refine At.rowCallX (e := 40) (size := 9) (F' := fun B m d ρ w1 => BF kw1 vw1 N ρ1 D o (⟨32, 2, A, n, c, xs⟩ :: ⟨40, 9, B, m, d, pv ps⟩ :: L) T ρ w1 ∧ m = s.n) 25 [.sl s.A s.n s.c] (pv ps) (fun B m d => .sl B m d) BF.stable (fun B m d => Stable.andP BF.stable) (by kernel_rfl) (by kernel_rfl) (by kernel_rfl) (by kernel_rfl) (fun ρ w1 hm hf => ?_) (fun ρ w1 w2 B m d hm hf hb hr => ⟨hf.more2 hm hb hr, row_nn hr hsn⟩) (fun B m d => At.pure fun hmd => ?_)
   ·obtain ⟨a, ha⟩ := hf.1.1.some (List.mem_cons_of_mem _ hs) (show 0 < s.n by omega)
    have hsrc := hf.1.1.src (List.mem_cons_of_mem _ hs) ha
    simp only at ha hsrc
    rw [ha]
    refine (clone_pn (a := a) (c := s.c) w1 hsn (src_low2 hsrc hp) hsrc (by omega)).mono ?_
    rintro e w2 ⟨B, d, rfl, h2⟩
    exact ⟨B, s.n, d, rfl, h2⟩
   subst hmd
   refine zT BF.stable h4 [8, 9, 10, 38, 43] 5 ⟨.ops (opsOf (sub BKb [4])) (((opsOf (sub BKb [4])).toList.drop 6).take 1), [.any (opsOf (sub BKb [4])) 1 [6, 5, 4, 3, 0, 2, 1]], [(8, .lp 0 0), (9, .so (mkB k)), (10, .sl s.A s.n s.c), (38, .sl A n c), (43, .ls 4 0 1 1)], [([.sl A n c], 25), ([.v (.pointer (some (Addr.mk mb 0 none)))], 46), ([.v (.bool false)], 4), ([.fn (Fn.func 46) []], 96), ([.so (mkB k), .sl B s.n d], 32)]⟩ ?_
   refine At.appVX (F' := fun A' c' => BF kw1 vw1 N ρ1 D o (⟨32, 2, A', n + 1, c', xs ++ [.string (mkB k), .slice B s.n d]⟩ :: ⟨40, 9, B, s.n, d, pv ps⟩ :: L) T) 25 32 2 40 A n c 1 [.so (mkB k), .sl B s.n d] xs [.string (mkB k), .slice B s.n d] (by kernel_rfl) (fun _ => rfl) (by omega) (by simp only [maxLen]; omega) (fun ρ w1 hf => hf.1.1.1 _ (List.mem_cons_self ..)) (fun ρ w1 w2 A' c' hm hf hr hg ho => hf.grown (y := ⟨32, 2, A', n + 1, c', xs ++ [.string (mkB k), .slice B s.n d]⟩) hr hg (ho.imp id .inl) hoc) (fun A' c' => ?_)
   refine zT BF.stable h4 [8, 9, 10] 4 ⟨.exit .normal, [], [(8, .lp 0 0), (9, .so (mkB k)), (10, .sl s.A s.n s.c)], [([.sl A' (n + 1) c'], 25), ([.v (.pointer (some (Addr.mk mb 0 none)))], 46), ([.v (.bool false)], 4), ([.fn (Fn.func 46) []], 96)]⟩ ?_
   exact At.fin (A', c', B, d) rfl rfl (by unfold subFr; kernel_rfl) rfl (fun _ _ _ _ h => h)
  refine zT BF.stable h4 [8, 9, 10, 39, 40] 4 ⟨.ops (opsOf (sub BKb [4])) (((opsOf (sub BKb [4])).toList.drop 3).take 1), [.any (opsOf (sub BKb [4])) 5 [3, 2, 1]], [(8, .lp 0 0), (9, .so (mkB k)), (10, .sl s.A s.n s.c), (39, .so (mkB k)), (40, .sl s.A s.n s.c)], [([.sl A n c], 25), ([.v (.pointer (some (Addr.mk mb 0 none)))], 46), ([.v (.bool false)], 4), ([.fn (Fn.func 46) []], 96)]⟩ ?_
  refine At.rowCallX (e := 40) (size := 9) (F' := fun B m d ρ w1 => BF kw1 vw1 N ρ1 D o (⟨32, 2, A, n, c, xs⟩ :: ⟨40, 9, B, m, d, pv ps⟩ :: L) T ρ w1 ∧ m = s.n) 25 [.sl s.A s.n s.c] (pv ps) (fun B m d => .sl B m d) BF.stable (fun B m d => Stable.andP BF.stable) (by kernel_rfl) (by kernel_rfl) (by kernel_rfl) (by kernel_rfl) (fun ρ w1 hm hf => ?_) (fun ρ w1 w2 B m d hm hf hb hr => ⟨hf.more2 hm hb hr, row_nn hr hsn⟩) (fun B m d => At.pure fun hmd => ?_)
  ·obtain ⟨a, ha⟩ := hf.1.1.some (List.mem_cons_of_mem _ hs) (show 0 < s.n by omega)
   have hsrc := hf.1.1.src (List.mem_cons_of_mem _ hs) ha
   simp only at ha hsrc
   rw [ha]
   refine (clone_pn (a := a) (c := s.c) w1 hsn (src_low2 hsrc hp) hsrc (by omega)).mono ?_
   rintro e w2 ⟨B, d, rfl, h2⟩
   exact ⟨B, s.n, d, rfl, h2⟩
  subst hmd
  refine zT BF.stable h4 [8, 9, 10, 39, 41] 4 ⟨.any (opsOf (sub BKb [4])) 5 [3, 2, 1], [], [(8, .lp 0 0), (9, .so (mkB k)), (10, .sl s.A s.n s.c), (39, .so (mkB k)), (41, .sl B s.n d)], [([.sl A n c], 25), ([.v (.pointer (some (Addr.mk mb 0 none)))], 46), ([.v (.bool false)], 4), ([.fn (Fn.func 46) []], 96)]⟩ ?_
  refine At.fork [0, 4] rfl (by kernel_rfl) rfl (allOf.cons ?_ (allOf.cons ?_ allOf.nil))
  ·refine zT BF.stable h4 [8, 9, 10, 38, 43] 5 ⟨.ops (opsOf (sub BKb [4])) (((opsOf (sub BKb [4])).toList.drop 6).take 1), [.any (opsOf (sub BKb [4])) 1 [6, 5, 4, 0, 3, 2, 1]], [(8, .lp 0 0), (9, .so (mkB k)), (10, .sl s.A s.n s.c), (38, .sl A n c), (43, .ls 4 0 1 1)], [([.sl A n c], 25), ([.v (.pointer (some (Addr.mk mb 0 none)))], 46), ([.v (.bool false)], 4), ([.fn (Fn.func 46) []], 96), ([.so (mkB k), .sl B s.n d], 32)]⟩ ?_
   refine At.appVX (F' := fun A' c' => BF kw1 vw1 N ρ1 D o (⟨32, 2, A', n + 1, c', xs ++ [.string (mkB k), .slice B s.n d]⟩ :: ⟨40, 9, B, s.n, d, pv ps⟩ :: L) T) 25 32 2 40 A n c 1 [.so (mkB k), .sl B s.n d] xs [.string (mkB k), .slice B s.n d] (by kernel_rfl) (fun _ => rfl) (by omega) (by simp only [maxLen]; omega) (fun ρ w1 hf => hf.1.1.1 _ (List.mem_cons_self ..)) (fun ρ w1 w2 A' c' hm hf hr hg ho => hf.grown (y := ⟨32, 2, A', n + 1, c', xs ++ [.string (mkB k), .slice B s.n d]⟩) hr hg (ho.imp id .inl) hoc) (fun A' c' => ?_)
   refine zT BF.stable h4 [8, 9, 10] 4 ⟨.exit .normal, [], [(8, .lp 0 0), (9, .so (mkB k)), (10, .sl s.A s.n s.c)], [([.sl A' (n + 1) c'], 25), ([.v (.pointer (some (Addr.mk mb 0 none)))], 46), ([.v (.bool false)], 4), ([.fn (Fn.func 46) []], 96)]⟩ ?_
   exact At.fin (A', c', B, d) rfl rfl (by unfold subFr; kernel_rfl) rfl (fun _ _ _ _ h => h)
  refine zT BF.stable h4 [8, 9, 10, 42] 4 ⟨.any (opsOf (sub BKb [4])) 4 [4, 3, 2, 1], [], [(8, .lp 0 0), (9, .so (mkB k)), (10, .sl s.A s.n s.c), (42, .agg [.so (mkB k), .sl B s.n d])], [([.sl A n c], 25), ([.v (.pointer (some (Addr.mk mb 0 none)))], 46), ([.v (.bool false)], 4), ([.fn (Fn.func 46) []], 96)]⟩ ?_
  refine At.fork [0, 5] rfl (by kernel_rfl) rfl (allOf.cons ?_ (allOf.cons ?_ allOf.nil))
  ·refine zT BF.stable h4 [8, 9, 10, 38, 43] 5 ⟨.ops (opsOf (sub BKb [4])) (((opsOf (sub BKb [4])).toList.drop 6).take 1), [.any (opsOf (sub BKb [4])) 1 [6, 5, 0, 4, 3, 2, 1]], [(8, .lp 0 0), (9, .so (mkB k)), (10, .sl s.A s.n s.c), (38, .sl A n c), (43, .ls 4 0 1 1)], [([.sl A n c], 25), ([.v (.pointer (some (Addr.mk mb 0 none)))], 46), ([.v (.bool false)], 4), ([.fn (Fn.func 46) []], 96), ([.so (mkB k), .sl B s.n d], 32)]⟩ ?_
   refine At.appVX (F' := fun A' c' => BF kw1 vw1 N ρ1 D o (⟨32, 2, A', n + 1, c', xs ++ [.string (mkB k), .slice B s.n d]⟩ :: ⟨40, 9, B, s.n, d, pv ps⟩ :: L) T) 25 32 2 40 A n c 1 [.so (mkB k), .sl B s.n d] xs [.string (mkB k), .slice B s.n d] (by kernel_rfl) (fun _ => rfl) (by omega) (by simp only [maxLen]; omega) (fun ρ w1 hf => hf.1.1.1 _ (List.mem_cons_self ..)) (fun ρ w1 w2 A' c' hm hf hr hg ho => hf.grown (y := ⟨32, 2, A', n + 1, c', xs ++ [.string (mkB k), .slice B s.n d]⟩) hr hg (ho.imp id .inl) hoc) (fun A' c' => ?_)
   refine zT BF.stable h4 [8, 9, 10] 4 ⟨.exit .normal, [], [(8, .lp 0 0), (9, .so (mkB k)), (10, .sl s.A s.n s.c)], [([.sl A' (n + 1) c'], 25), ([.v (.pointer (some (Addr.mk mb 0 none)))], 46), ([.v (.bool false)], 4), ([.fn (Fn.func 46) []], 96)]⟩ ?_
   exact At.fin (A', c', B, d) rfl rfl (by unfold subFr; kernel_rfl) rfl (fun _ _ _ _ h => h)
  refine zT BF.stable h4 [8, 9, 10, 38, 43] 5 ⟨.ops (opsOf (sub BKb [4])) (((opsOf (sub BKb [4])).toList.drop 6).take 1), [.any (opsOf (sub BKb [4])) 1 [6, 0, 5, 4, 3, 2, 1]], [(8, .lp 0 0), (9, .so (mkB k)), (10, .sl s.A s.n s.c), (38, .sl A n c), (43, .ls 4 0 1 1)], [([.sl A n c], 25), ([.v (.pointer (some (Addr.mk mb 0 none)))], 46), ([.v (.bool false)], 4), ([.fn (Fn.func 46) []], 96), ([.so (mkB k), .sl B s.n d], 32)]⟩ ?_
  refine At.appVX (F' := fun A' c' => BF kw1 vw1 N ρ1 D o (⟨32, 2, A', n + 1, c', xs ++ [.string (mkB k), .slice B s.n d]⟩ :: ⟨40, 9, B, s.n, d, pv ps⟩ :: L) T) 25 32 2 40 A n c 1 [.so (mkB k), .sl B s.n d] xs [.string (mkB k), .slice B s.n d] (by kernel_rfl) (fun _ => rfl) (by omega) (by simp only [maxLen]; omega) (fun ρ w1 hf => hf.1.1.1 _ (List.mem_cons_self ..)) (fun ρ w1 w2 A' c' hm hf hr hg ho => hf.grown (y := ⟨32, 2, A', n + 1, c', xs ++ [.string (mkB k), .slice B s.n d]⟩) hr hg (ho.imp id .inl) hoc) (fun A' c' => ?_)
  refine zT BF.stable h4 [8, 9, 10] 4 ⟨.exit .normal, [], [(8, .lp 0 0), (9, .so (mkB k)), (10, .sl s.A s.n s.c)], [([.sl A' (n + 1) c'], 25), ([.v (.pointer (some (Addr.mk mb 0 none)))], 46), ([.v (.bool false)], 4), ([.fn (Fn.func 46) []], 96)]⟩ ?_
  exact At.fin (A', c', B, d) rfl rfl (by unfold subFr; kernel_rfl) rfl (fun _ _ _ _ h => h)
 obtain ⟨A', c', B, d⟩ := x
 dsimp only
 refine zT BF.stable h4 [8] 4 ⟨.exit .normal, [], [(8, .lp 0 0)], [([.sl A' (n + 1) c'], 25), ([.v (.pointer (some (Addr.mk mb 0 none)))], 46), ([.v (.bool false)], 4), ([.fn (Fn.func 46) []], 96)]⟩ ?_
 exact At.rndEnd none rfl rfl rfl fun ρ' w' hm' hf => hend A' c' B d ρ' w' hm' hf
end Go.Proofs.YtkjnbafdmjakgaaGreatDoor
end
