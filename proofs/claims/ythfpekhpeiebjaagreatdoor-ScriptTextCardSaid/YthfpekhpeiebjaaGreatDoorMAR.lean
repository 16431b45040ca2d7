/- Joined texts: VT. -/
import Derived.Test.YthfpekhpeiebjaaGreatDoorMAQ
set_option linter.unusedSimpArgs false
set_option linter.unusedVariables false
namespace Go.Sx
open Go
def cfAR (g s k sz sl of gp lt ea : Int) (d : Bool) : List SV := [.io .i64 g, .io .i64 s, .io .i64 k, .io .i64 sz, .io .i64 sl, .io .i64 of, .io .i64 gp, .io .i64 lt, .io .i64 ea, .bo d]
def cwAR (g s k sz sl of gp lt ea : Int) (d : Bool) (wk : Int) (A : Option Addr) (n c : Nat) : List SV := [.io .i64 g, .io .i64 s, .io .i64 k, .io .i64 sz, .io .i64 sl, .io .i64 of, .io .i64 gp, .io .i64 lt, .io .i64 ea, .bo d, .io .i64 wk, .sl A n c]
def zAR0 : List SV := [.v (.int .i64 0), .v (.int .i64 0), .v (.int .i64 0), .v (.int .i64 0), .v (.int .i64 0), .v (.int .i64 0), .v (.int .i64 0), .v (.int .i64 0), .v (.int .i64 0), .v (.bool false), .v (.int .i64 0), .v (.slice none 0 0)]
def zAR1 : List SV := [.io .i64 0, .io .i64 0, .io .i64 0, .io .i64 0, .io .i64 0, .io .i64 0, .io .i64 0, .io .i64 0, .io .i64 0, .bo false, .io .i64 0, .sl none 0 0]
def pAR2 : List Nat := [1, 1, 1, 1, 1, 1, 1, 1, 1, 1, 1, 1, 0, 1, 4, 4, 1, 0, 4, 1, 4, 1, 3, 1, 2, 0, 1]
def pAR3 : List Nat := [1, 1, 1, 1, 1, 1, 1, 1, 1, 1, 1, 1, 0, 1, 4, 4, 1, 0, 4, 1, 4, 1, 3, 1, 2, 1]
def pAR4 : List Nat := [1, 1, 1, 1, 1, 1, 1, 1, 1, 1, 1, 1, 0, 1, 4, 4, 1, 0, 4, 1, 4, 1, 2, 0, 1]
def pAR5 : List Nat := [1, 1, 1, 1, 1, 1, 1, 1, 1, 1, 1, 1, 0, 1, 4, 4, 1, 0, 4, 1, 4, 1, 2, 1]
def pAR6 : List Nat := [1, 1, 1, 1, 1, 1, 1, 1, 1, 1, 1, 1, 1, 1, 1, 1, 1, 0, 1, 4]
def pAR7 : List Nat := [1, 1, 1, 1, 1, 1, 1, 1, 1, 1, 1, 1, 1, 1, 1, 1, 1, 1, 1, 0]
def pAR8 : List Nat := [1, 1, 1, 1, 1, 1, 1, 1, 1, 1, 1, 1, 1, 1, 1, 1, 1, 1, 1]
def pAR9 : List Nat := [1, 1, 1, 1, 1, 1, 1, 1, 1, 1, 1, 1, 1, 1, 1, 1, 1, 1]
def pAR10 : List Nat := [1, 1, 1, 1, 1, 1, 1, 1, 1, 1, 1, 1, 0, 1, 4, 4, 1, 1]
def pAR11 : List Nat := [1, 1, 1, 1, 1, 1, 1, 1, 1, 1, 1, 1, 1, 1, 1, 1, 0, 0]
def pAR12 : List Nat := [1, 1, 1, 1, 1, 1, 1, 1, 1, 1, 1, 1, 1, 1, 1, 1, 0, 1]
def pAR13 : List Nat := [1, 1, 1, 1, 1, 1, 1, 1, 1, 1, 1, 1, 1, 1, 1, 1, 1]
def pAR14 : List Nat := [1, 1, 1, 1, 1, 1, 1, 1, 1, 1, 1, 1, 1, 0, 1]
def pAR15 : List Nat := [1, 1, 1, 1, 1, 1, 1, 1, 1, 1, 1, 1, 1]
def pAR16 : List Nat := [1, 1, 1, 1, 1, 1, 1, 1, 1, 1, 0, 0]
def pAR17 : List Nat := [1, 1, 1, 1, 1, 1, 1, 1, 1, 1, 0, 1]
def pAR18 : List Nat := [1, 1, 1, 1, 1, 1, 1, 1, 1, 1, 1]
def pAR19 : List Nat := [1, 1, 1, 1, 1, 1, 1, 1, 1, 0]
def pAR20 : List Nat := [1, 1, 1, 1, 1, 1, 1, 1, 1, 1]
end Go.Sx
section
namespace Go.Proofs.YthfpekhpeiebjaaGreatDoor
open Go.RowKit Go.Sx
theorem filter_at (f : St → Bool) : ∀ {xs : List St} {i : Nat} {x : St}, xs[i]? = some x → f x = true → (xs.filter f)[((xs.take i).filter f).length]? = some x
 | [], i, x, h, _ => by simp at h
 | y :: xs, 0, x, h, hf => by
  simp only [List.getElem?_cons_zero, Option.some.injEq] at h
  subst h
  simp [List.filter_cons, hf]
 | y :: xs, i + 1, x, h, hf => by
  rw [List.getElem?_cons_succ] at h
  have ih := filter_at f h hf
  rw [List.take_succ_cons, List.filter_cons, List.filter_cons]
  split
  ·rw [List.length_cons, List.getElem?_cons_succ]
   exact ih
  exact ih
theorem filter_take (f : St → Bool) {xs : List St} {i : Nat} {x : St} (h : xs[i]? = some x) : (xs.take (i + 1)).filter f = (xs.take i).filter f ++ if f x = true then [x] else [] := by
 rw [List.take_add_one, h, List.filter_append]
 congr 1
 simp [List.filter_cons]
theorem items_at {xs : List St} {i : Nat} {x : St} (h : xs[i]? = some x) (hf : keepsitems x = true) : (itemsOf xs)[(itemsOf (xs.take i)).length]? = some x := filter_at _ h hf
theorem picks_at {xs : List St} {i : Nat} {x : St} (h : xs[i]? = some x) (hf : keepspicks x = true) : (picksOf xs)[(picksOf (xs.take i)).length]? = some x := filter_at _ h hf
theorem items_take {xs : List St} {i : Nat} {x : St} (h : xs[i]? = some x) : itemsOf (xs.take (i + 1)) = itemsOf (xs.take i) ++ if keepsitems x = true then [x] else [] := filter_take _ h
theorem picks_take {xs : List St} {i : Nat} {x : St} (h : xs[i]? = some x) : picksOf (xs.take (i + 1)) = picksOf (xs.take i) ++ if keepspicks x = true then [x] else [] := filter_take _ h
theorem it_at {kd ik : Int} {key : List UInt8} {ti v src wk wks bit mask : Int} (j : Nat) {u : Value} (h : (St.it ⟨kd, ik, key, ti, v, src, wk, wks, bit, mask⟩)[j]? = some u) : (St.w ⟨kd, ik, key, ti, v, src, wk, wks, bit, mask⟩)[1 + j]? = some u := by
 have hj := (List.getElem?_eq_some_iff.1 h).1
 simp only [St.it, List.length_cons, List.length_nil] at hj
 have : j = 0 ∨ j = 1 ∨ j = 2 ∨ j = 3 ∨ j = 4 := by omega
 rcases this with rfl | rfl | rfl | rfl | rfl <;> exact h
theorem St.it_len (x : St) : x.it.length = 5 := by cases x; rfl
theorem flat_at (f : St → List Value) (k : Nat) (hk : ∀ x, (f x).length = k) : ∀ {l : List St} {p : Nat} {x : St}, l[p]? = some x → ∀ {j : Nat} {v : Value}, (f x)[j]? = some v → (l.flatMap f)[p * k + j]? = some v
 | [], p, x, h, j, v, _ => by simp at h
 | y :: l, 0, x, h, j, v, hj => by
  simp only [List.getElem?_cons_zero, Option.some.injEq] at h
  subst h
  rw [List.flatMap_cons, Nat.zero_mul, Nat.zero_add, List.getElem?_append_left (List.getElem?_eq_some_iff.1 hj).1]
  exact hj
 | y :: l, p + 1, x, h, j, v, hj => by
  rw [List.getElem?_cons_succ] at h
  rw [List.flatMap_cons, List.getElem?_append_right (by rw [hk, Nat.succ_mul]; omega), hk, show (p + 1) * k + j - k = p * k + j by rw [Nat.succ_mul]; omega]
  exact flat_at f k hk h hj
theorem src_it {w : World} {ya : Addr} {l : List St} (h : Src w ya (itW l)) {p : Nat} {x : St} (hx : l[p]? = some x) (j : Nat) (v : Value) (hj : x.it[j]? = some v) : w.cell? ((ya.add ((p : Int).toNat * 5)).add j) = some v := by
 rw [Int.toNat_natCast, Addr.add_add]
 exact h _ _ (flat_at St.it 5 St.it_len hx hj)
structure L3S where
 i : Nat
 p : Nat
 q : Nat
structure V7 where
 c : Cf
 wk : Int
 zs : List St
 m : Nat
 A1 : Option Addr
 k1 : Nat
 A2 : Option Addr
 k2 : Nat
def scB (c : Cf) (wk : Int) (A : Option Addr) (n cap : Nat) : List SV := [.io .i64 c.g, .io .i64 c.s, .io .i64 c.k, .io .i64 c.sz, .io .i64 c.sl, .io .i64 c.of, .io .i64 c.gp, .io .i64 c.lt, .io .i64 c.ea, .bo c.d, .io .i64 wk, .sl A n cap]
def GoodT (c : Cf) (wk : Int) (n : Nat) (xs : List St) (x : V7) : Prop :=
 ((chkP c wk xs).2 = 0 ∧ ∃ A1 c1 A2 c2, x = ⟨c, wk, xs, n, A1, c1, A2, c2⟩) ∨ (¬ (chkP c wk xs).2 = 0 ∧ x = ⟨cf0, 0, [], 0, none, 0, none, 0⟩)
def goneS : List SV := [.v (.int .i64 0), .v (.int .i64 0), .v (.string ⟨#[]⟩), .v (.int .i64 0), .v (.int .i64 0), .v (.int .i64 0), .v (.int .i64 0), .v (.int .i64 0), .v (.int .i64 99), .v (.int .u32 0)]
def goneI : List SV := [.v (.int .i64 0), .v (.string ⟨#[]⟩), .v (.int .i64 0), .v (.int .i64 0), .v (.int .i64 0)]
theorem good_len {c : Cf} {wk : Int} {n : Nat} {xs : List St} {x : V7} (hl : n = xs.length) (h : GoodT c wk n xs x) : x.m = x.zs.length := by
 rcases h with ⟨_, A1, c1, A2, c2, rfl⟩ | ⟨_, rfl⟩
 ·exact hl
 rfl
theorem good_le {c : Cf} {wk : Int} {n : Nat} {xs : List St} {x : V7} (h : GoodT c wk n xs x) : x.m ≤ n := by
 rcases h with ⟨_, A1, c1, A2, c2, rfl⟩ | ⟨_, rfl⟩
 ·exact Nat.le_refl _
 exact Nat.zero_le _
theorem perm4 {α : Type} (a b c d : α) : [c, a, b, d].Perm [a, b, c, d] := (List.Perm.swap a c [b, d]).trans ((List.Perm.swap b c [d]).cons a)
theorem sls_nil {w : World} : SlS w none 0 [] := ⟨rfl, fun _ => rfl, fun a h => (by cases h)⟩
theorem rws_sls {b n c : Nat} {A : Option Addr} {L : List Rw} {zs : List St} {ρ : List Nat} {w : World} (h : Rws b L ρ w) (hx : (⟨41, 10, A, n, c, stW zs⟩ : Rw) ∈ L) (hl : n = zs.length) : SlS w A n zs :=
 ⟨hl, fun e => (by
  have h1 := (h.isNil hx e).1
  exact List.eq_nil_of_length_eq_zero (by simp only at h1; omega)), fun a ha => h.src hx ha⟩
theorem FTs {F G H : List Nat → World → Prop} (h1 : Stable F) (h2 : Stable G) (h3 : Stable H) : Stable (fun ρ w => F ρ w ∧ G ρ w ∧ H ρ w) :=
 fun ρ w ρ' w' hg hk h => ⟨h1 ρ w ρ' w' hg hk h.1, h2 ρ w ρ' w' hg hk h.2.1, h3 ρ w ρ' w' hg hk h.2.2⟩
theorem FTf {F G H : List Nat → World → Prop} (h1 : FewerK 0 F) (h2 : FewerK 0 G) (h3 : FewerK 0 H) : FewerK 0 (fun ρ w => F ρ w ∧ G ρ w ∧ H ρ w) :=
 fun ρ w k hk h => ⟨h1 ρ w k hk h.1, h2 ρ w k hk h.2.1, h3 ρ w k hk h.2.2⟩
theorem FTy {b : Nat} {L1 L2 L3 : List Rw} : Stable (fun ρ w => Rws b L1 ρ w ∧ Rws b L2 ρ w ∧ Rws b L3 ρ w) := FTs Rws.stable Rws.stable Rws.stable
theorem FTx {b : Nat} {L1 L2 L3 : List Rw} : FewerK 0 (fun ρ w => Rws b L1 ρ w ∧ Rws b L2 ρ w ∧ Rws b L3 ρ w) := FTf Rws.fewer Rws.fewer Rws.fewer
theorem rws_cons {w w' : World} {N : Nat} {ρ : List Nat} {loc : Sx.Loc} {w0 : World} {L : List Rw} {e size n c : Nat} {A : Option Addr} {xs : List Value} (hm : WInv N w0 ρ loc w) (hf : Rws N L ρ w) (h : RowF w (fun _ => False) [] w.heap.size e size A n c xs [] w') : Rws N (⟨e, size, A, n, c, xs⟩ :: L) ρ w' := by
 obtain ⟨h6, hb⟩ := rws_new hm h
 obtain ⟨⟨h1, h2⟩, h3, h4⟩ := h
 refine ⟨fun x hx => ?_, List.pairwise_cons.2 ⟨fun y hy g hg => ?_, hf.2⟩⟩
 ·rcases List.mem_cons.1 hx with rfl | hx
  ·exact h6.1 _ (.head _)
  exact (hf.1 x hx).keep (Grow.refl _ _) (Keep.of_below hb)
 intro he
 have h5 : w.heap.size ≤ g := (h4 g hg).resolve_left fun h => h
 have h6 := ((hf.1 y hy).1.lt g he).2
 omega
theorem At.drawnE2 {P : Program} {Q : Exit → Act → World → Prop} {N : Nat} {w0 : World} {ntm : Nat} {F : List Nat → World → Prop} {X Y : Type} {s : S} {all : Array Oper} {g : Nat} {dn : List Nat} (kn : List (Nat × Kn)) (js : List Nat) (fr' : Fr) (j t : Nat) (r : X → SV) (G : X → List Nat → World → Prop) (j2 t2 : Nat) (r2 : Y → SV) (G2 : Y → List Nat → World → Prop) (hpc : s.pc = .any all g dn) (hok : okK ntm all g (listedOf all.size dn) kn = true) (hjs : pendL all.size (listedOf all.size dn) = js) (hF : Stable F) (hkn : knSts kn)
  (hst : allOf js fun i => StepK P N w0 ntm F all (listedOf all.size dn) kn (drops ((unl all (listedOf all.size dn)).filterMap (·.dst)) s.fr) s.loc i)
  (hsub : subFr fr' (eqFr all (listedOf all.size dn) kn js (drops ((unl all (listedOf all.size dn)).filterMap (·.dst)) s.fr))) (hj : ((all[j]?).bind fun o => match (listedOf all.size dn).getD j true with | false => o.dst | true => none) = some t) (hkj : knOf kn j = some (.ex X r G)) (hj2 : ((all[j2]?).bind fun o => match (listedOf all.size dn).getD j2 true with | false => o.dst | true => none) = some t2) (hkj2 : knOf kn j2 = some (.ex Y r2 G2))
  (h : ∀ x y, At P Q N w0 ntm (fun ρ w => F ρ w ∧ G x ρ w ∧ G2 y ρ w) ⟨.exit .normal, s.ks, (t, r x) :: (t2, r2 y) :: fr', s.loc⟩) : At P Q N w0 ntm F s :=
 At.drawnY (Y := X × Y) kn js (fun x => (t, r x.1) :: (t2, r2 x.2) :: fr') (fun x ρ w => F ρ w ∧ G x.1 ρ w ∧ G2 x.2 ρ w) hpc hok hjs hF hkn hst (fun ρ a w ha hd hf => by
  obtain ⟨o, ho, hm⟩ := Option.bind_eq_some_iff.1 hj
  obtain ⟨o2, ho2, hm2⟩ := Option.bind_eq_some_iff.1 hj2
  split at hm
  ·rename_i h0
   split at hm2
   ·rename_i h02
    obtain ⟨v, hv, x, rfl, hx⟩ := hd j o t _ ho h0 (by have := (Array.getElem?_eq_some_iff.1 ho).1; simp [this]) hm hkj
    obtain ⟨v2, hv2, y, rfl, hy⟩ := hd j2 o2 t2 _ ho2 h02 (by have := (Array.getElem?_eq_some_iff.1 ho2).1; simp [this]) hm2 hkj2
    exact ⟨(x, y), ((ha.sub hsub).moreK hv2).moreK hv, hf, hx, hy⟩
   cases hm2
  cases hm) (fun y => h y.1 y.2)
theorem lent_sls {b n c : Nat} {M : Addr} {L : List Rw} {xs : List St} {ρ : List Nat} {w : World} (h : Rws b L ρ w) (hx : (⟨41, 10, some M, n + 1, c, stW xs ++ markW⟩ : Rw) ∈ L) (hl : n = xs.length) : SlS w (some M) n xs :=
 ⟨hl, fun e => (by cases e), fun a ha => src_pre (h.src hx ha)⟩
theorem lent_mark {b n c : Nat} {M : Addr} {L : List Rw} {xs : List St} {ρ : List Nat} {w : World} (h : Rws b L ρ w) (hx : (⟨41, 10, some M, n + 1, c, stW xs ++ markW⟩ : Rw) ∈ L) (hl : n = xs.length) : w.cell? ((M.add ((n : Int).toNat * 10)).add 8) = some (.int .i64 4242) := by
 have h1 := h.src hx rfl (n * 10 + 8) (.int .i64 4242) (by
  show (stW xs ++ markW)[n * 10 + 8]? = _
  rw [List.getElem?_append_right (by rw [stW_len]; omega), stW_len, hl, show xs.length * 10 + 8 - xs.length * 10 = 8 by omega]
  rfl)
 rw [Int.toNat_natCast]
 rw [← h1, Addr.add_add]
noncomputable def B7 : Code := (Tryz.f7.body).getD .skip
set_option maxHeartbeats 20000000 in
set_option maxRecDepth 100000 in
theorem text_true (g s k sz sl of gp lt ea : Int) (d : Bool) (wk : Int) (A : Option Addr) (n cap : Nat) (xs : List St) (w : World) (hw : Wd w) (hS : SlS w A n xs) (hok : ∀ x ∈ xs, x.ok) :
  Calls Tryz.prog 7 #[.agg #[.int .i64 g, .int .i64 s, .int .i64 k, .int .i64 sz, .int .i64 sl, .int .i64 of, .int .i64 gp, .int .i64 lt, .int .i64 ea, .bool d, .int .i64 wk, .slice A n cap]] w fun e w' => e = .returned (.bool true) ∧ Below w.heap.size w w' := by
 have hl := hS.1
 refine enterF (N := w.heap.size) (F := Rws w.heap.size []) (fn := Tryz.f7) (c := B7) [.agg (cwAR g s k sz sl of gp lt ea d wk A n cap)] Tryz.func7 rfl rfl (Nat.le_refl _) (Rws.none _ _ _) ?_
 refine zTq Rws.stable Rws.fewer [1, 27] 1 ?_
 rcases Bool.eq_false_or_eq_true (decide ((↑n : Int) > 300)) with b0 | b0
 ·refine zR 27 b0 ?_
  refine zT Rws.stable Rws.fewer [] 0 ⟨pops B7 [1, 0, 1, 2, 0] 0, [.seq (sub B7 [1, 0, 1, 2, 1]), .seq (sub B7 [1, 1])], [], []⟩ ?_
  refine zC Rws.stable 8 [] (.v (.bool true)) (fun _ _ w1 hi _ => known_true w1 (hw.below hi.mem.below)) ?_
  refine zT Rws.stable Rws.fewer [2] 0 ⟨.exit .ret, [], [(2, .v (.bool true))], []⟩ ?_
  refine zE (.v (.bool true)) ?_
  intro ρ w9 hm' hf
  exact ⟨rfl, hm'.below⟩
 refine zR 27 b0 ?_
 refine zT Rws.stable Rws.fewer [1, 29] 1 ⟨pops B7 [1, 1, 0] 1, [.seq (sub B7 [1, 1, 1])], [(1, .lp 0 0), (29, .agg (cwAR g s k sz sl of gp lt ea d wk A n cap))], [((cwAR g s k sz sl of gp lt ea d wk A n cap), 28)]⟩ ?_
 have hn : n ≤ 300 := by
  have := of_decide_eq_false b0
  omega
 clear b0
 refine At.rowCall (e := 41) (size := 10) 21 [.agg (cwAR g s k sz sl of gp lt ea d wk A n cap)] (stW xs ++ markW) (fun A' n' c' => .agg (cwAR g s k sz sl of gp lt ea d wk A' n c')) (by kernel_rfl) (by kernel_rfl) (by kernel_rfl) rfl (fun ρ w1 hm hf => (lent_any g s k sz sl of gp lt ea d wk A n cap xs w1 (hS.below hm.below) (by omega)).mono fun e w2 h => h) (fun M0 nM cM hlM => ?_)
 obtain rfl : nM = n + 1 := by
  rw [List.length_append, stW_len, show markW.length = 10 from rfl] at hlM
  omega
 refine At.mono (F' := fun ρ w1 => Rws w.heap.size [⟨41, 10, M0, n + 1, cM, stW xs ++ markW⟩] ρ w1 ∧ ((∃ a, M0 = some a) ∧ n + 1 ≤ cM)) (fun ρ w1 h => ⟨h, h.some (.head _) (Nat.succ_pos n), h.cap (.head _)⟩) ?_
 refine At.pure fun ⟨⟨M, hM⟩, hcM⟩ => ?_
 subst hM
 refine zT Rws.stable Rws.fewer [1, 3, 32] 2 ⟨pops B7 [1, 1, 1, 0] 1, [.seq (sub B7 [1, 1, 1, 1])], [(1, .lp 0 0), (3, .lp 1 0), (32, .agg (cwAR g s k sz sl of gp lt ea d wk (some M) n cM))], [((cwAR g s k sz sl of gp lt ea d wk A n cap), 28), ((cwAR g s k sz sl of gp lt ea d wk (some M) n cM), 28)]⟩ ?_
 refine zC Rws.stable 13 [.agg (cwAR g s k sz sl of gp lt ea d wk (some M) n cM)] (.tup [.io .i64 (chkP ⟨g, s, k, sz, sl, of, gp, lt, ea, d⟩ wk xs).1, .io .i64 (chkP ⟨g, s, k, sz, sl, of, gp, lt, ea, d⟩ wk xs).2]) (fun _ _ w1 hi hf => check_go g s k sz sl of gp lt ea d wk (some M) n cM xs w1 (lent_sls hf (.head _) hl) (by omega)) ?_
 refine zT Rws.stable Rws.fewer [1, 3, 4, 5, 37] 2 ⟨pops B7 [1, 1, 1, 1, 0] 1, [.seq (sub B7 [1, 1, 1, 1, 1])], [(1, .lp 0 0), (3, .lp 1 0), (4, .io .i64 (chkP (Cf.mk g s k sz sl of gp lt ea d) wk xs).fst), (5, .io .i64 (chkP (Cf.mk g s k sz sl of gp lt ea d) wk xs).snd), (37, .agg (cwAR g s k sz sl of gp lt ea d wk A n cap))], [((cwAR g s k sz sl of gp lt ea d wk A n cap), 28), ((cwAR g s k sz sl of gp lt ea d wk (some M) n cM), 28)]⟩ ?_
 refine zC Rws.stable 22 [.agg (cwAR g s k sz sl of gp lt ea d wk A n cap)] (.tup [.io .i64 (chkP ⟨g, s, k, sz, sl, of, gp, lt, ea, d⟩ wk xs).1, .io .i64 (chkP ⟨g, s, k, sz, sl, of, gp, lt, ea, d⟩ wk xs).2]) (fun _ _ w1 hi hf => rcheck_go g s k sz sl of gp lt ea d wk A n cap xs w1 (hS.below hi.mem.below) (by omega)) ?_
 refine zT Rws.stable Rws.fewer [1, 3, 4, 5, 6, 7, 42] 2 ⟨pops B7 [1, 1, 1, 1, 1, 0] 1, [.seq (sub B7 [1, 1, 1, 1, 1, 1])], [(1, .lp 0 0), (3, .lp 1 0), (4, .io .i64 (chkP (Cf.mk g s k sz sl of gp lt ea d) wk xs).fst), (5, .io .i64 (chkP (Cf.mk g s k sz sl of gp lt ea d) wk xs).snd), (6, .io .i64 (chkP (Cf.mk g s k sz sl of gp lt ea d) wk xs).fst), (7, .io .i64 (chkP (Cf.mk g s k sz sl of gp lt ea d) wk xs).snd), (42, .agg (cwAR g s k sz sl of gp lt ea d wk (some M) n cM))], [((cwAR g s k sz sl of gp lt ea d wk A n cap), 28), ((cwAR g s k sz sl of gp lt ea d wk (some M) n cM), 28)]⟩ ?_
 refine zC Rws.stable 12 [.agg (cwAR g s k sz sl of gp lt ea d wk (some M) n cM)] (.tup [.so (mkB (textP ⟨g, s, k, sz, sl, of, gp, lt, ea, d⟩ wk xs).1), .io .i64 (textP ⟨g, s, k, sz, sl, of, gp, lt, ea, d⟩ wk xs).2]) (fun _ _ w1 hi hf => text_go g s k sz sl of gp lt ea d wk (some M) n cM xs w1 (hw.below hi.mem.below) (lent_sls hf (.head _) hl) (by omega) hok) ?_
 refine zT Rws.stable Rws.fewer [1, 3, 4, 5, 6, 7, 8, 9, 47] 2 ⟨pops B7 [1, 1, 1, 1, 1, 1, 0] 1, [.seq (sub B7 [1, 1, 1, 1, 1, 1, 1])], [(1, .lp 0 0), (3, .lp 1 0), (4, .io .i64 (chkP (Cf.mk g s k sz sl of gp lt ea d) wk xs).fst), (5, .io .i64 (chkP (Cf.mk g s k sz sl of gp lt ea d) wk xs).snd), (6, .io .i64 (chkP (Cf.mk g s k sz sl of gp lt ea d) wk xs).fst), (7, .io .i64 (chkP (Cf.mk g s k sz sl of gp lt ea d) wk xs).snd), (8, .so (mkB (textP (Cf.mk g s k sz sl of gp lt ea d) wk xs).fst)), (9, .io .i64 (textP (Cf.mk g s k sz sl of gp lt ea d) wk xs).snd), (47, .agg (cwAR g s k sz sl of gp lt ea d wk A n cap))], [((cwAR g s k sz sl of gp lt ea d wk A n cap), 28), ((cwAR g s k sz sl of gp lt ea d wk (some M) n cM), 28)]⟩ ?_
 refine zC Rws.stable 23 [.agg (cwAR g s k sz sl of gp lt ea d wk A n cap)] (.tup [.so (mkB (textP ⟨g, s, k, sz, sl, of, gp, lt, ea, d⟩ wk xs).1), .io .i64 (textP ⟨g, s, k, sz, sl, of, gp, lt, ea, d⟩ wk xs).2]) (fun _ _ w1 hi hf => rtext_go g s k sz sl of gp lt ea d wk A n cap xs w1 (hS.below hi.mem.below) (by omega) hok) ?_
 refine zT Rws.stable Rws.fewer [1, 3, 4, 5, 6, 7, 8, 9, 10, 11, 53, 55, 57] 2 ⟨pops B7 [1, 1, 1, 1, 1, 1, 1, 0] 6, [.seq (sub B7 [1, 1, 1, 1, 1, 1, 1, 1])], [(1, .lp 0 0), (3, .lp 1 0), (4, .io .i64 (chkP (Cf.mk g s k sz sl of gp lt ea d) wk xs).fst), (5, .io .i64 (chkP (Cf.mk g s k sz sl of gp lt ea d) wk xs).snd), (6, .io .i64 (chkP (Cf.mk g s k sz sl of gp lt ea d) wk xs).fst), (7, .io .i64 (chkP (Cf.mk g s k sz sl of gp lt ea d) wk xs).snd), (8, .so (mkB (textP (Cf.mk g s k sz sl of gp lt ea d) wk xs).fst)), (9, .io .i64 (textP (Cf.mk g s k sz sl of gp lt ea d) wk xs).snd), (10, .so (mkB (textP (Cf.mk g s k sz sl of gp lt ea d) wk xs).fst)), (11, .io .i64 (textP (Cf.mk g s k sz sl of gp lt ea d) wk xs).snd), (53, .agg (cfAR g s k sz sl of gp lt ea d)), (55, .io .i64 wk), (57, .sl (some M) n cM)], [((cwAR g s k sz sl of gp lt ea d wk A n cap), 28), ((cwAR g s k sz sl of gp lt ea d wk (some M) n cM), 28)]⟩ ?_
 refine At.join (σ := V7) (fun x ρ w1 => Rws w.heap.size [⟨41, 10, x.A2, x.m, x.k2, stW x.zs⟩, ⟨41, 10, x.A1, x.m, x.k1, stW x.zs⟩, ⟨41, 10, some M, n + 1, cM, stW xs ++ markW⟩] ρ w1 ∧ GoodT ⟨g, s, k, sz, sl, of, gp, lt, ea, d⟩ wk n xs x) (fun x => ⟨.any (opsOf (sub B7 pAR19)) 6 [], [.seq (sub B7 pAR20)], [(1, .lp 0 0), (3, .lp 1 0), (4, .io .i64 (chkP ⟨g, s, k, sz, sl, of, gp, lt, ea, d⟩ wk xs).1), (5, .io .i64 (chkP ⟨g, s, k, sz, sl, of, gp, lt, ea, d⟩ wk xs).2), (6, .io .i64 (chkP ⟨g, s, k, sz, sl, of, gp, lt, ea, d⟩ wk xs).1), (7, .io .i64 (chkP ⟨g, s, k, sz, sl, of, gp, lt, ea, d⟩ wk xs).2), (8, .so (mkB (textP ⟨g, s, k, sz, sl, of, gp, lt, ea, d⟩ wk xs).1)), (9, .io .i64 (textP ⟨g, s, k, sz, sl, of, gp, lt, ea, d⟩ wk xs).2), (10, .so (mkB (textP ⟨g, s, k, sz, sl, of, gp, lt, ea, d⟩ wk xs).1)), (11, .io .i64 (textP ⟨g, s, k, sz, sl, of, gp, lt, ea, d⟩ wk xs).2), (12, .lp 2 0), (13, .io .i64 (chkP ⟨g, s, k, sz, sl, of, gp, lt, ea, d⟩ wk xs).2), (14, .lp 3 0)], [((cwAR g s k sz sl of gp lt ea d wk A n cap), 28), ((cwAR g s k sz sl of gp lt ea d wk (some M) n cM), 28), (scB x.c x.wk x.A1 x.m x.k1, 28), (scB x.c x.wk x.A2 x.m x.k2, 28)]⟩) (fun rest => ?_) (fun x => ?_)
 ·by_cases hc : (chkP ⟨g, s, k, sz, sl, of, gp, lt, ea, d⟩ wk xs).2 = 0
  ·refine At.rowCall (e := 41) (size := 10) 15 [.agg (cfAR g s k sz sl of gp lt ea d), .io .i64 wk, .sl (some M) n cM] (stW xs) (fun A' n' c' => .tup [.agg (cwAR g s k sz sl of gp lt ea d wk A' n' c'), .io .i64 (chkP ⟨g, s, k, sz, sl, of, gp, lt, ea, d⟩ wk xs).2]) (by kernel_rfl) (by kernel_rfl) (by kernel_rfl) rfl (fun ρ w1 hm hf => (put_go g s k sz sl of gp lt ea d wk (some M) n cM xs w1 (lent_sls hf (.head _) hl) (by omega)).mono fun e w2 h => by
    unfold putE at h
    rw [if_pos hc] at h
    obtain ⟨A', c', h1, h2⟩ := h
    refine ⟨A', _, c', h1.trans ?_, h2⟩
    show Ending.returned (.tuple #[_, .int .i64 0]) = Ending.returned (.tuple #[_, .int .i64 (chkP ⟨g, s, k, sz, sl, of, gp, lt, ea, d⟩ wk xs).2])
    rw [hc]
    rfl) (fun A1 nA c1 hlA => ?_)
   obtain rfl : n = nA := by rw [stW_len] at hlA; omega
   refine zT Rws.stable Rws.fewer [1, 3, 4, 5, 6, 7, 8, 9, 10, 11, 12, 13, 63, 65, 67] 3 ⟨pops B7 [1, 1, 1, 1, 1, 1, 1, 1, 0] 6, [.seq (sub B7 [1, 1, 1, 1, 1, 1, 1, 1, 1])], [(1, .lp 0 0), (3, .lp 1 0), (4, .io .i64 (chkP (Cf.mk g s k sz sl of gp lt ea d) wk xs).fst), (5, .io .i64 (chkP (Cf.mk g s k sz sl of gp lt ea d) wk xs).snd), (6, .io .i64 (chkP (Cf.mk g s k sz sl of gp lt ea d) wk xs).fst), (7, .io .i64 (chkP (Cf.mk g s k sz sl of gp lt ea d) wk xs).snd), (8, .so (mkB (textP (Cf.mk g s k sz sl of gp lt ea d) wk xs).fst)), (9, .io .i64 (textP (Cf.mk g s k sz sl of gp lt ea d) wk xs).snd), (10, .so (mkB (textP (Cf.mk g s k sz sl of gp lt ea d) wk xs).fst)), (11, .io .i64 (textP (Cf.mk g s k sz sl of gp lt ea d) wk xs).snd), (12, .lp 2 0), (13, .io .i64 (chkP (Cf.mk g s k sz sl of gp lt ea d) wk xs).snd), (63, .agg (cfAR g s k sz sl of gp lt ea d)), (65, .io .i64 wk), (67, .sl (some M) n cM)], [((cwAR g s k sz sl of gp lt ea d wk A n cap), 28), ((cwAR g s k sz sl of gp lt ea d wk (some M) n cM), 28), ((cwAR g s k sz sl of gp lt ea d wk A1 n c1), 28)]⟩ ?_
   refine At.rowCall (e := 41) (size := 10) 15 [.agg (cfAR g s k sz sl of gp lt ea d), .io .i64 wk, .sl (some M) n cM] (stW xs) (fun A' n' c' => .tup [.agg (cwAR g s k sz sl of gp lt ea d wk A' n' c'), .io .i64 (chkP ⟨g, s, k, sz, sl, of, gp, lt, ea, d⟩ wk xs).2]) (by kernel_rfl) (by kernel_rfl) (by kernel_rfl) rfl (fun ρ w1 hm hf => (put_go g s k sz sl of gp lt ea d wk (some M) n cM xs w1 (lent_sls hf (.tail _ (.head _)) hl) (by omega)).mono fun e w2 h => by
    unfold putE at h
    rw [if_pos hc] at h
    obtain ⟨A', c', h1, h2⟩ := h
    refine ⟨A', _, c', h1.trans ?_, h2⟩
    show Ending.returned (.tuple #[_, .int .i64 0]) = Ending.returned (.tuple #[_, .int .i64 (chkP ⟨g, s, k, sz, sl, of, gp, lt, ea, d⟩ wk xs).2])
    rw [hc]
    rfl) (fun A2 nA c2 hlA => ?_)
   obtain rfl : n = nA := by rw [stW_len] at hlA; omega
   refine zT Rws.stable Rws.fewer [1, 3, 4, 5, 6, 7, 8, 9, 10, 11, 12, 13, 14] 4 ⟨.any (opsOf (sub B7 pAR19)) 6 [], [.seq (sub B7 pAR20)], [(1, .lp 0 0), (3, .lp 1 0), (4, .io .i64 (chkP (Cf.mk g s k sz sl of gp lt ea d) wk xs).fst), (5, .io .i64 (chkP (Cf.mk g s k sz sl of gp lt ea d) wk xs).snd), (6, .io .i64 (chkP (Cf.mk g s k sz sl of gp lt ea d) wk xs).fst), (7, .io .i64 (chkP (Cf.mk g s k sz sl of gp lt ea d) wk xs).snd), (8, .so (mkB (textP (Cf.mk g s k sz sl of gp lt ea d) wk xs).fst)), (9, .io .i64 (textP (Cf.mk g s k sz sl of gp lt ea d) wk xs).snd), (10, .so (mkB (textP (Cf.mk g s k sz sl of gp lt ea d) wk xs).fst)), (11, .io .i64 (textP (Cf.mk g s k sz sl of gp lt ea d) wk xs).snd), (12, .lp 2 0), (13, .io .i64 (chkP (Cf.mk g s k sz sl of gp lt ea d) wk xs).snd), (14, .lp 3 0)], [((cwAR g s k sz sl of gp lt ea d wk A n cap), 28), ((cwAR g s k sz sl of gp lt ea d wk (some M) n cM), 28), ((cwAR g s k sz sl of gp lt ea d wk A1 n c1), 28), ((cwAR g s k sz sl of gp lt ea d wk A2 n c2), 28)]⟩ ?_
   exact At.mono (fun ρ w1 h => ⟨h, .inl ⟨hc, A1, c1, A2, c2, rfl⟩⟩) (rest ⟨⟨g, s, k, sz, sl, of, gp, lt, ea, d⟩, wk, xs, n, A1, c1, A2, c2⟩)
  refine At.call Rws.stable 15 [.agg (cfAR g s k sz sl of gp lt ea d), .io .i64 wk, .sl (some M) n cM] (.tup [.agg zAR0, .io .i64 (chkP ⟨g, s, k, sz, sl, of, gp, lt, ea, d⟩ wk xs).2]) (by kernel_rfl) (by kernel_rfl) (by kernel_rfl) (fun ρ a w1 hi hf => (put_go g s k sz sl of gp lt ea d wk (some M) n cM xs w1 (lent_sls hf (.head _) hl) (by omega)).mono fun e w2 h => by
   unfold putE at h
   rw [if_neg hc] at h
   exact h) ?_
  refine zT Rws.stable Rws.fewer [1, 3, 4, 5, 6, 7, 8, 9, 10, 11, 12, 13, 63, 65, 67] 3 ⟨pops B7 [1, 1, 1, 1, 1, 1, 1, 1, 0] 6, [.seq (sub B7 [1, 1, 1, 1, 1, 1, 1, 1, 1])], [(1, .lp 0 0), (3, .lp 1 0), (4, .io .i64 (chkP (Cf.mk g s k sz sl of gp lt ea d) wk xs).fst), (5, .io .i64 (chkP (Cf.mk g s k sz sl of gp lt ea d) wk xs).snd), (6, .io .i64 (chkP (Cf.mk g s k sz sl of gp lt ea d) wk xs).fst), (7, .io .i64 (chkP (Cf.mk g s k sz sl of gp lt ea d) wk xs).snd), (8, .so (mkB (textP (Cf.mk g s k sz sl of gp lt ea d) wk xs).fst)), (9, .io .i64 (textP (Cf.mk g s k sz sl of gp lt ea d) wk xs).snd), (10, .so (mkB (textP (Cf.mk g s k sz sl of gp lt ea d) wk xs).fst)), (11, .io .i64 (textP (Cf.mk g s k sz sl of gp lt ea d) wk xs).snd), (12, .lp 2 0), (13, .io .i64 (chkP (Cf.mk g s k sz sl of gp lt ea d) wk xs).snd), (63, .agg (cfAR g s k sz sl of gp lt ea d)), (65, .io .i64 wk), (67, .sl (some M) n cM)], [((cwAR g s k sz sl of gp lt ea d wk A n cap), 28), ((cwAR g s k sz sl of gp lt ea d wk (some M) n cM), 28), (zAR0, 28)]⟩ ?_
  refine At.call Rws.stable 15 [.agg (cfAR g s k sz sl of gp lt ea d), .io .i64 wk, .sl (some M) n cM] (.tup [.agg zAR0, .io .i64 (chkP ⟨g, s, k, sz, sl, of, gp, lt, ea, d⟩ wk xs).2]) (by kernel_rfl) (by kernel_rfl) (by kernel_rfl) (fun ρ a w1 hi hf => (put_go g s k sz sl of gp lt ea d wk (some M) n cM xs w1 (lent_sls hf (.head _) hl) (by omega)).mono fun e w2 h => by
   unfold putE at h
   rw [if_neg hc] at h
   exact h) ?_
  refine zT Rws.stable Rws.fewer [1, 3, 4, 5, 6, 7, 8, 9, 10, 11, 12, 13, 14] 4 ⟨.any (opsOf (sub B7 pAR19)) 6 [], [.seq (sub B7 pAR20)], [(1, .lp 0 0), (3, .lp 1 0), (4, .io .i64 (chkP (Cf.mk g s k sz sl of gp lt ea d) wk xs).fst), (5, .io .i64 (chkP (Cf.mk g s k sz sl of gp lt ea d) wk xs).snd), (6, .io .i64 (chkP (Cf.mk g s k sz sl of gp lt ea d) wk xs).fst), (7, .io .i64 (chkP (Cf.mk g s k sz sl of gp lt ea d) wk xs).snd), (8, .so (mkB (textP (Cf.mk g s k sz sl of gp lt ea d) wk xs).fst)), (9, .io .i64 (textP (Cf.mk g s k sz sl of gp lt ea d) wk xs).snd), (10, .so (mkB (textP (Cf.mk g s k sz sl of gp lt ea d) wk xs).fst)), (11, .io .i64 (textP (Cf.mk g s k sz sl of gp lt ea d) wk xs).snd), (12, .lp 2 0), (13, .io .i64 (chkP (Cf.mk g s k sz sl of gp lt ea d) wk xs).snd), (14, .lp 3 0)], [((cwAR g s k sz sl of gp lt ea d wk A n cap), 28), ((cwAR g s k sz sl of gp lt ea d wk (some M) n cM), 28), (zAR0, 28), (zAR0, 28)]⟩ ?_
  refine At.canL _ rfl ?_
  refine At.slLoc _ rfl ?_
  exact At.mono (fun ρ w1 h => ⟨(h.nil 41 10).nil 41 10, .inr ⟨hc, rfl⟩⟩) (rest ⟨cf0, 0, [], 0, none, 0, none, 0⟩)
 refine At.pure fun hgd => ?_
 refine At.drawnE2 (X := (Option Addr × Nat)) (Y := (Option Addr × Nat)) [(0, .eq (.agg (cwAR g s k sz sl of gp lt ea d wk (some M) n cM))), (1, .ex (Option Addr × Nat) (fun y => .sl y.1 (itemsOf xs).length y.2) (fun y ρ w1 => Rws w.heap.size (⟨38, 5, y.1, (itemsOf xs).length, y.2, itW (itemsOf xs)⟩ :: [⟨41, 10, x.A2, x.m, x.k2, stW x.zs⟩, ⟨41, 10, x.A1, x.m, x.k1, stW x.zs⟩, ⟨41, 10, some M, n + 1, cM, stW xs ++ markW⟩]) ρ w1)), (2, .eq (.agg (cwAR g s k sz sl of gp lt ea d wk (some M) n cM))), (3, .ex (Option Addr × Nat) (fun y => .sl y.1 (picksOf xs).length y.2) (fun y ρ w1 => Rws w.heap.size (⟨3, 1, y.1, (picksOf xs).length, y.2, pkW (picksOf xs)⟩ :: [⟨41, 10, x.A2, x.m, x.k2, stW x.zs⟩, ⟨41, 10, x.A1, x.m, x.k1, stW x.zs⟩, ⟨41, 10, some M, n + 1, cM, stW xs ++ markW⟩]) ρ w1)), (4, .ex (Option Addr × Nat) (fun y => .sl y.1 (itemsOf xs).length y.2) (fun y ρ w1 => Rws w.heap.size (⟨38, 5, y.1, (itemsOf xs).length, y.2, itW (itemsOf xs)⟩ :: [⟨41, 10, x.A2, x.m, x.k2, stW x.zs⟩, ⟨41, 10, x.A1, x.m, x.k1, stW x.zs⟩, ⟨41, 10, some M, n + 1, cM, stW xs ++ markW⟩]) ρ w1)), (5, .ex (Option Addr × Nat) (fun y => .sl y.1 (picksOf xs).length y.2) (fun y ρ w1 => Rws w.heap.size (⟨3, 1, y.1, (picksOf xs).length, y.2, pkW (picksOf xs)⟩ :: [⟨41, 10, x.A2, x.m, x.k2, stW x.zs⟩, ⟨41, 10, x.A1, x.m, x.k1, stW x.zs⟩, ⟨41, 10, some M, n + 1, cM, stW xs ++ markW⟩]) ρ w1))] [0, 1, 2, 3, 4, 5] [(1, .lp 0 0), (3, .lp 1 0), (4, .io .i64 (chkP ⟨g, s, k, sz, sl, of, gp, lt, ea, d⟩ wk xs).1), (5, .io .i64 (chkP ⟨g, s, k, sz, sl, of, gp, lt, ea, d⟩ wk xs).2), (6, .io .i64 (chkP ⟨g, s, k, sz, sl, of, gp, lt, ea, d⟩ wk xs).1), (7, .io .i64 (chkP ⟨g, s, k, sz, sl, of, gp, lt, ea, d⟩ wk xs).2), (8, .so (mkB (textP ⟨g, s, k, sz, sl, of, gp, lt, ea, d⟩ wk xs).1)), (9, .io .i64 (textP ⟨g, s, k, sz, sl, of, gp, lt, ea, d⟩ wk xs).2), (10, .so (mkB (textP ⟨g, s, k, sz, sl, of, gp, lt, ea, d⟩ wk xs).1)), (11, .io .i64 (textP ⟨g, s, k, sz, sl, of, gp, lt, ea, d⟩ wk xs).2), (12, .lp 2 0), (13, .io .i64 (chkP ⟨g, s, k, sz, sl, of, gp, lt, ea, d⟩ wk xs).2), (14, .lp 3 0)] 4 16 (fun y => .sl y.1 (itemsOf xs).length y.2) (fun y ρ w1 => Rws w.heap.size (⟨38, 5, y.1, (itemsOf xs).length, y.2, itW (itemsOf xs)⟩ :: [⟨41, 10, x.A2, x.m, x.k2, stW x.zs⟩, ⟨41, 10, x.A1, x.m, x.k1, stW x.zs⟩, ⟨41, 10, some M, n + 1, cM, stW xs ++ markW⟩]) ρ w1) 5 17 (fun y => .sl y.1 (picksOf xs).length y.2) (fun y ρ w1 => Rws w.heap.size (⟨3, 1, y.1, (picksOf xs).length, y.2, pkW (picksOf xs)⟩ :: [⟨41, 10, x.A2, x.m, x.k2, stW x.zs⟩, ⟨41, 10, x.A1, x.m, x.k1, stW x.zs⟩, ⟨41, 10, some M, n + 1, cM, stW xs ++ markW⟩]) ρ w1) rfl (by kernel_rfl) (by kernel_rfl) Rws.stable (by exact ⟨trivial, fun b => Rws.stable, trivial, fun b => Rws.stable, fun b => Rws.stable, fun b => Rws.stable, trivial⟩) (by exact ⟨StepK.pure (by kernel_rfl) rfl,
  StepK.call 16 [.agg (cwAR g s k sz sl of gp lt ea d wk (some M) n cM)] (by kernel_rfl) rfl (by kernel_rfl) (fun ρ w1 hm hf => (items_any g s k sz sl of gp lt ea d wk (some M) n cM xs w1 (lent_sls hf (.tail _ (.tail _ (.head _))) hl) (by omega)).mono fun e w2 h => by
   obtain ⟨A', c', h1, h2⟩ := h
   exact ⟨_, h1, ⟨(A', c'), rfl, rws_cons hm hf h2⟩, (rws_new hm h2).2⟩),
  StepK.pure (by kernel_rfl) rfl,
  StepK.call 24 [.agg (cwAR g s k sz sl of gp lt ea d wk (some M) n cM)] (by kernel_rfl) rfl (by kernel_rfl) (fun ρ w1 hm hf => (picks_any g s k sz sl of gp lt ea d wk (some M) n cM xs w1 (lent_sls hf (.tail _ (.tail _ (.head _))) hl) (by omega)).mono fun e w2 h => by
   obtain ⟨A', c', h1, h2⟩ := h
   exact ⟨_, h1, ⟨(A', c'), rfl, rws_cons hm hf h2⟩, (rws_new hm h2).2⟩),
  StepK.pureXE 1 72 rfl (by kernel_rfl) (by kernel_rfl) rfl (fun b => by kernel_rfl),
  StepK.pureXE 3 74 rfl (by kernel_rfl) (by kernel_rfl) rfl (fun b => by kernel_rfl), trivial⟩) (by unfold subFr; kernel_rfl) (by kernel_rfl) rfl (by kernel_rfl) rfl (fun y z => ?_)
 refine zTq FTy FTx [1, 3, 5, 7, 8, 9, 10, 11, 12, 13, 14, 16, 17, 78] 4 ?_
 refine At.res 78 ((chkP (Cf.mk g s k sz sl of gp lt ea d) wk xs).fst != (chkP (Cf.mk g s k sz sl of gp lt ea d) wk xs).fst) false (by kernel_rfl) (by first | assumption | (simp only [*]; done) | (simp [*]; done)) ?_
 refine zT FTy FTx [1, 3, 7, 8, 9, 10, 11, 12, 13, 14, 16, 17, 83] 4 ⟨pops B7 pAR16 9, [.seq (sub B7 pAR17), .seq (sub B7 pAR18)], [(1, .lp 0 0), (3, .lp 1 0), (7, .io .i64 (chkP (Cf.mk g s k sz sl of gp lt ea d) wk xs).snd), (8, .so (mkB (textP (Cf.mk g s k sz sl of gp lt ea d) wk xs).fst)), (9, .io .i64 (textP (Cf.mk g s k sz sl of gp lt ea d) wk xs).snd), (10, .so (mkB (textP (Cf.mk g s k sz sl of gp lt ea d) wk xs).fst)), (11, .io .i64 (textP (Cf.mk g s k sz sl of gp lt ea d) wk xs).snd), (12, .lp 2 0), (13, .io .i64 (chkP (Cf.mk g s k sz sl of gp lt ea d) wk xs).snd), (14, .lp 3 0), (16, .sl y.fst (itemsOf xs).length y.snd), (17, .sl z.fst (picksOf xs).length z.snd), (83, .bo ((chkP (Cf.mk g s k sz sl of gp lt ea d) wk xs).snd != (chkP (Cf.mk g s k sz sl of gp lt ea d) wk xs).snd))], [((cwAR g s k sz sl of gp lt ea d wk A n cap), 28), ((cwAR g s k sz sl of gp lt ea d wk (some M) n cM), 28), ([.io .i64 x.c.g, .io .i64 x.c.s, .io .i64 x.c.k, .io .i64 x.c.sz, .io .i64 x.c.sl, .io .i64 x.c.of, .io .i64 x.c.gp, .io .i64 x.c.lt, .io .i64 x.c.ea, .bo x.c.d, .io .i64 x.wk, .sl x.A1 x.m x.k1], 28), ([.io .i64 x.c.g, .io .i64 x.c.s, .io .i64 x.c.k, .io .i64 x.c.sz, .io .i64 x.c.sl, .io .i64 x.c.of, .io .i64 x.c.gp, .io .i64 x.c.lt, .io .i64 x.c.ea, .bo x.c.d, .io .i64 x.wk, .sl x.A2 x.m x.k2], 28)]⟩ ?_
 refine At.res 83 ((chkP (Cf.mk g s k sz sl of gp lt ea d) wk xs).snd != (chkP (Cf.mk g s k sz sl of gp lt ea d) wk xs).snd) false (by kernel_rfl) (by first | assumption | (simp only [*]; done) | (simp [*]; done)) ?_
 refine zTq FTy FTx [1, 3, 7, 9, 11, 12, 13, 14, 16, 17, 88] 4 ?_
 refine At.res 88 (!(mkB (textP (Cf.mk g s k sz sl of gp lt ea d) wk xs).fst).toList == (mkB (textP (Cf.mk g s k sz sl of gp lt ea d) wk xs).fst).toList) false (by kernel_rfl) (by first | assumption | (simp only [*]; done) | (simp [*]; done)) ?_
 refine zT FTy FTx [1, 3, 7, 12, 13, 14, 16, 17, 93] 4 ⟨pops B7 pAR16 19, [.seq (sub B7 pAR17), .seq (sub B7 pAR18)], [(1, .lp 0 0), (3, .lp 1 0), (7, .io .i64 (chkP (Cf.mk g s k sz sl of gp lt ea d) wk xs).snd), (12, .lp 2 0), (13, .io .i64 (chkP (Cf.mk g s k sz sl of gp lt ea d) wk xs).snd), (14, .lp 3 0), (16, .sl y.fst (itemsOf xs).length y.snd), (17, .sl z.fst (picksOf xs).length z.snd), (93, .bo ((textP (Cf.mk g s k sz sl of gp lt ea d) wk xs).snd != (textP (Cf.mk g s k sz sl of gp lt ea d) wk xs).snd))], [((cwAR g s k sz sl of gp lt ea d wk A n cap), 28), ((cwAR g s k sz sl of gp lt ea d wk (some M) n cM), 28), ([.io .i64 x.c.g, .io .i64 x.c.s, .io .i64 x.c.k, .io .i64 x.c.sz, .io .i64 x.c.sl, .io .i64 x.c.of, .io .i64 x.c.gp, .io .i64 x.c.lt, .io .i64 x.c.ea, .bo x.c.d, .io .i64 x.wk, .sl x.A1 x.m x.k1], 28), ([.io .i64 x.c.g, .io .i64 x.c.s, .io .i64 x.c.k, .io .i64 x.c.sz, .io .i64 x.c.sl, .io .i64 x.c.of, .io .i64 x.c.gp, .io .i64 x.c.lt, .io .i64 x.c.ea, .bo x.c.d, .io .i64 x.wk, .sl x.A2 x.m x.k2], 28)]⟩ ?_
 refine At.res 93 ((textP (Cf.mk g s k sz sl of gp lt ea d) wk xs).snd != (textP (Cf.mk g s k sz sl of gp lt ea d) wk xs).snd) false (by kernel_rfl) (by first | assumption | (simp only [*]; done) | (simp [*]; done)) ?_
 refine zTq FTy FTx [1, 3, 7, 12, 14, 16, 17, 98] 4 ?_
 refine At.res 98 ((chkP (Cf.mk g s k sz sl of gp lt ea d) wk xs).snd != (chkP (Cf.mk g s k sz sl of gp lt ea d) wk xs).snd) false (by kernel_rfl) (by first | assumption | (simp only [*]; done) | (simp [*]; done)) ?_
 refine zT FTy FTx [1, 3, 7, 12, 14, 16, 17, 98, 99, 100] 4 ⟨pops B7 pAR16 26, [.seq (sub B7 pAR17), .seq (sub B7 pAR18)], [(1, .lp 0 0), (3, .lp 1 0), (7, .io .i64 (chkP (Cf.mk g s k sz sl of gp lt ea d) wk xs).snd), (12, .lp 2 0), (14, .lp 3 0), (16, .sl y.fst (itemsOf xs).length y.snd), (17, .sl z.fst (picksOf xs).length z.snd), (98, .v (.bool false)), (99, .agg (cwAR g s k sz sl of gp lt ea d wk (some M) n cM)), (100, .agg (cwAR g s k sz sl of gp lt ea d wk A n cap))], [((cwAR g s k sz sl of gp lt ea d wk A n cap), 28), ((cwAR g s k sz sl of gp lt ea d wk (some M) n cM), 28), ([.io .i64 x.c.g, .io .i64 x.c.s, .io .i64 x.c.k, .io .i64 x.c.sz, .io .i64 x.c.sl, .io .i64 x.c.of, .io .i64 x.c.gp, .io .i64 x.c.lt, .io .i64 x.c.ea, .bo x.c.d, .io .i64 x.wk, .sl x.A1 x.m x.k1], 28), ([.io .i64 x.c.g, .io .i64 x.c.s, .io .i64 x.c.k, .io .i64 x.c.sz, .io .i64 x.c.sl, .io .i64 x.c.of, .io .i64 x.c.gp, .io .i64 x.c.lt, .io .i64 x.c.ea, .bo x.c.d, .io .i64 x.wk, .sl x.A2 x.m x.k2], 28)]⟩ ?_
 refine zC FTy 25 [.agg (cwAR g s k sz sl of gp lt ea d wk (some M) n cM), .agg (cwAR g s k sz sl of gp lt ea d wk A n cap)] (.v (.bool true)) (fun _ _ w1 hi hf => kept_any g s k sz sl of gp lt ea d wk M n cM A cap xs w1 (lent_sls hf.1 (.tail _ (.tail _ (.head _))) hl) (hS.below hi.mem.below) (by omega) hcM (lent_mark hf.1 (.tail _ (.tail _ (.head _))) hl)) ?_
 refine zT FTy FTx [1, 3, 7, 12, 14, 16, 17, 18, 19, 20] 4 ⟨.code (sub B7 [1, 1, 1, 1, 1, 1, 1, 1, 1, 1, 1, 1, 0, 1, 4]), [.block 0, .seq (sub B7 pAR15)], [(1, .lp 0 0), (3, .lp 1 0), (7, .io .i64 (chkP (Cf.mk g s k sz sl of gp lt ea d) wk xs).snd), (12, .lp 2 0), (14, .lp 3 0), (16, .sl y.fst (itemsOf xs).length y.snd), (17, .sl z.fst (picksOf xs).length z.snd), (18, .v (.int .i64 0)), (19, .v (.int .i64 0)), (20, .v (.int .i64 0))], [((cwAR g s k sz sl of gp lt ea d wk A n cap), 28), ((cwAR g s k sz sl of gp lt ea d wk (some M) n cM), 28), ([.io .i64 x.c.g, .io .i64 x.c.s, .io .i64 x.c.k, .io .i64 x.c.sz, .io .i64 x.c.sl, .io .i64 x.c.of, .io .i64 x.c.gp, .io .i64 x.c.lt, .io .i64 x.c.ea, .bo x.c.d, .io .i64 x.wk, .sl x.A1 x.m x.k1], 28), ([.io .i64 x.c.g, .io .i64 x.c.s, .io .i64 x.c.k, .io .i64 x.c.sz, .io .i64 x.c.sl, .io .i64 x.c.of, .io .i64 x.c.gp, .io .i64 x.c.lt, .io .i64 x.c.ea, .bo x.c.d, .io .i64 x.wk, .sl x.A2 x.m x.k2], 28)]⟩ ?_
 refine At.join (σ := Option Addr × Nat) (fun v ρ w1 => Rws w.heap.size [⟨41, 10, x.A1, x.m, x.k1, stW x.zs⟩, ⟨38, 5, y.1, (itemsOf xs).length, y.2, itW (itemsOf xs)⟩, ⟨41, 10, x.A2, x.m, x.k2, stW x.zs⟩, ⟨41, 10, some M, n + 1, cM, stW xs ++ markW⟩] ρ w1 ∧ SlS w v.1 x.m x.zs) (fun v => ⟨.code (sub B7 pAR6), [.block 3, .seq (sub B7 pAR9)], [(1, .lp 0 0), (3, .lp 1 0), (12, .lp 2 0), (14, .lp 3 0), (16, .sl y.1 (itemsOf xs).length y.2), (21, .lp 4 0), (22, .io .i64 0)], [((cwAR g s k sz sl of gp lt ea d wk A n cap), 28), ((cwAR g s k sz sl of gp lt ea d wk (some M) n cM), 28), (scB x.c x.wk x.A1 x.m x.k1, 28), (scB x.c x.wk x.A2 x.m x.k2, 28), (scB x.c x.wk v.1 x.m v.2, 28)]⟩) (fun rest => ?_) (fun v => ?_)
 ·refine At.canonT [18, 19, 20] _ rfl ?_
  refine At.loop (σ := L3S) (sub B7 [1, 1, 1, 1, 1, 1, 1, 1, 1, 1, 1, 1, 0, 1, 4, 4]) (fun u => [(1, .lp 0 0), (3, .lp 1 0), (7, .io .i64 (chkP ⟨g, s, k, sz, sl, of, gp, lt, ea, d⟩ wk xs).2), (12, .lp 2 0), (14, .lp 3 0), (16, .sl y.1 (itemsOf xs).length y.2), (17, .sl z.1 (picksOf xs).length z.2), (18, .io .i64 (u.p : Int)), (19, .io .i64 (u.q : Int)), (20, .io .i64 (u.i : Int))]) (fun _ => [((cwAR g s k sz sl of gp lt ea d wk A n cap), 28), ((cwAR g s k sz sl of gp lt ea d wk (some M) n cM), 28), (scB x.c x.wk x.A1 x.m x.k1, 28), (scB x.c x.wk x.A2 x.m x.k2, 28)]) (fun u ρ w1 => (Rws w.heap.size [⟨41, 10, x.A2, x.m, x.k2, stW x.zs⟩, ⟨41, 10, x.A1, x.m, x.k1, stW x.zs⟩, ⟨41, 10, some M, n + 1, cM, stW xs ++ markW⟩] ρ w1 ∧ (fun y ρ w1 => Rws w.heap.size (⟨38, 5, y.1, (itemsOf xs).length, y.2, itW (itemsOf xs)⟩ :: [⟨41, 10, x.A2, x.m, x.k2, stW x.zs⟩, ⟨41, 10, x.A1, x.m, x.k1, stW x.zs⟩, ⟨41, 10, some M, n + 1, cM, stW xs ++ markW⟩]) ρ w1) y ρ w1 ∧ (fun y ρ w1 => Rws w.heap.size (⟨3, 1, y.1, (picksOf xs).length, y.2, pkW (picksOf xs)⟩ :: [⟨41, 10, x.A2, x.m, x.k2, stW x.zs⟩, ⟨41, 10, x.A1, x.m, x.k1, stW x.zs⟩, ⟨41, 10, some M, n + 1, cM, stW xs ++ markW⟩]) ρ w1) z ρ w1) ∧ (u.i ≤ n ∧ u.p = (itemsOf (xs.take u.i)).length ∧ u.q = (picksOf (xs.take u.i)).length)) (fun u => n - u.i) ⟨0, 0, 0⟩ (by kernel_rfl) (by unfold subFr; kernel_rfl) (by kernel_rfl) (fun _ _ _ _ h => ⟨h, Nat.zero_le _, by rw [List.take_zero]; rfl, by rw [List.take_zero]; rfl⟩) ?_
  rintro ⟨i, p, q⟩
  refine At.pure fun ⟨hi, hp, hq⟩ => ?_
  simp only at hi hp hq
  refine zTq FTy FTx [1, 3, 7, 12, 14, 16, 17, 18, 19, 20, 108] 4 ?_
  rcases Bool.eq_false_or_eq_true (decide ((↑(L3S.mk i p q).i : Int) < (↑n : Int))) with b0 | b0
  ·refine zR 108 b0 ?_
   refine zT FTy FTx [1, 3, 7, 12, 14, 16, 17, 18, 19, 20, 112, 113] 4 ⟨pops B7 [1, 1, 1, 1, 1, 1, 1, 1, 1, 1, 1, 1, 0, 1, 4, 4, 1, 0, 4, 0] 3, [.seq (sub B7 [1, 1, 1, 1, 1, 1, 1, 1, 1, 1, 1, 1, 0, 1, 4, 4, 1, 0, 4, 1]), .block 1, .seq (sub B7 pAR10), .next (Sx.Next w.heap.size w Tryz.f7.ntmps (fun u => [(1, .lp 0 0), (3, .lp 1 0), (7, .io .i64 (chkP (Cf.mk g s k sz sl of gp lt ea d) wk xs).snd), (12, .lp 2 0), (14, .lp 3 0), (16, .sl y.fst (itemsOf xs).length y.snd), (17, .sl z.fst (picksOf xs).length z.snd), (18, .io .i64 (↑u.p : Int)), (19, .io .i64 (↑u.q : Int)), (20, .io .i64 (↑u.i : Int))]) (fun x_1 => [((cwAR g s k sz sl of gp lt ea d wk A n cap), 28), ((cwAR g s k sz sl of gp lt ea d wk (some M) n cM), 28), (scB x.c x.wk x.A1 x.m x.k1, 28), (scB x.c x.wk x.A2 x.m x.k2, 28)]) (fun u ρ w1 => (Rws w.heap.size [Rw.mk 41 10 x.A2 x.m x.k2 (stW x.zs), Rw.mk 41 10 x.A1 x.m x.k1 (stW x.zs), Rw.mk 41 10 (some M) (n + 1) cM (stW xs ++ markW)] ρ w1 ∧ (fun y ρ w1 => Rws w.heap.size [Rw.mk 38 5 y.fst (itemsOf xs).length y.snd (itW (itemsOf xs)), Rw.mk 41 10 x.A2 x.m x.k2 (stW x.zs), Rw.mk 41 10 x.A1 x.m x.k1 (stW x.zs), Rw.mk 41 10 (some M) (n + 1) cM (stW xs ++ markW)] ρ w1) y ρ w1 ∧ (fun y ρ w1 => Rws w.heap.size [Rw.mk 3 1 y.fst (picksOf xs).length y.snd (pkW (picksOf xs)), Rw.mk 41 10 x.A2 x.m x.k2 (stW x.zs), Rw.mk 41 10 x.A1 x.m x.k1 (stW x.zs), Rw.mk 41 10 (some M) (n + 1) cM (stW xs ++ markW)] ρ w1) z ρ w1) ∧ u.i ≤ n ∧ u.p = (itemsOf (List.take u.i xs)).length ∧ u.q = (picksOf (List.take u.i xs)).length) (fun u => n - u.i) (L3S.mk i p q)), .block 0, .seq (sub B7 pAR15)], [(1, .lp 0 0), (3, .lp 1 0), (7, .io .i64 (chkP (Cf.mk g s k sz sl of gp lt ea d) wk xs).snd), (12, .lp 2 0), (14, .lp 3 0), (16, .sl y.fst (itemsOf xs).length y.snd), (17, .sl z.fst (picksOf xs).length z.snd), (18, .io .i64 (↑(L3S.mk i p q).p : Int)), (19, .io .i64 (↑(L3S.mk i p q).q : Int)), (20, .io .i64 (↑(L3S.mk i p q).i : Int)), (112, .sl A n cap), (113, .io .i64 (↑(L3S.mk i p q).i : Int))], [((cwAR g s k sz sl of gp lt ea d wk A n cap), 28), ((cwAR g s k sz sl of gp lt ea d wk (some M) n cM), 28), ([.io .i64 x.c.g, .io .i64 x.c.s, .io .i64 x.c.k, .io .i64 x.c.sz, .io .i64 x.c.sl, .io .i64 x.c.of, .io .i64 x.c.gp, .io .i64 x.c.lt, .io .i64 x.c.ea, .bo x.c.d, .io .i64 x.wk, .sl x.A1 x.m x.k1], 28), ([.io .i64 x.c.g, .io .i64 x.c.s, .io .i64 x.c.k, .io .i64 x.c.sz, .io .i64 x.c.sl, .io .i64 x.c.of, .io .i64 x.c.gp, .io .i64 x.c.lt, .io .i64 x.c.ea, .bo x.c.d, .io .i64 x.wk, .sl x.A2 x.m x.k2], 28)]⟩ ?_
   have hin : i < n := by have := of_decide_eq_true b0; simp only at this; omega
   clear b0
   obtain ⟨st, hx⟩ : ∃ x, xs[i]? = some x := ⟨_, List.getElem?_eq_getElem (by rw [← hl]; exact hin)⟩
   obtain ⟨a, rfl, hcell⟩ := hS.get hx
   obtain ⟨kd, ik, key, ti, v, src, wk2, wks, bit, mask⟩ := st
   refine At.idx a n 10 (i : Int) (by kernel_rfl) (by omega) (by omega) FTy ?_
   refine At.fax (a.add ((i : Int).toNat * 10)) 0 (by kernel_rfl) FTy ?_
   refine At.ldx ((a.add ((i : Int).toNat * 10)).add 0) (.io .i64 kd) (by kernel_rfl) FTy (fun ρ w1 hm' hf => cell_below (by have := hcell 0 (.int .i64 kd) rfl; exact this) hm'.below) ?_
   refine zTq FTy FTx [1, 3, 7, 12, 14, 16, 17, 18, 19, 20, 116, 117] 4 ?_
   rcases Bool.eq_false_or_eq_true (kd == 1) with b0 | b0
   ·refine zR 117 b0 ?_
    refine zT FTy FTx [1, 3, 7, 12, 14, 16, 17, 18, 19, 20, 123] 4 ⟨pqops B7 [1, 1, 1, 1, 1, 1, 1, 1, 1, 1, 1, 1, 0, 1, 4, 4, 1, 0, 4, 1, 4, 1, 2, 0, 0] 5, [.seq (sub B7 pAR4), .seq (sub B7 pAR5), .block 2, .block 1, .seq (sub B7 pAR10), .next (Sx.Next w.heap.size w Tryz.f7.ntmps (fun u => [(1, .lp 0 0), (3, .lp 1 0), (7, .io .i64 (chkP (Cf.mk g s k sz sl of gp lt ea d) wk xs).snd), (12, .lp 2 0), (14, .lp 3 0), (16, .sl y.fst (itemsOf xs).length y.snd), (17, .sl z.fst (picksOf xs).length z.snd), (18, .io .i64 (↑u.p : Int)), (19, .io .i64 (↑u.q : Int)), (20, .io .i64 (↑u.i : Int))]) (fun x_1 => [((cwAR g s k sz sl of gp lt ea d wk (some a) n cap), 28), ((cwAR g s k sz sl of gp lt ea d wk (some M) n cM), 28), (scB x.c x.wk x.A1 x.m x.k1, 28), (scB x.c x.wk x.A2 x.m x.k2, 28)]) (fun u ρ w1 => (Rws w.heap.size [Rw.mk 41 10 x.A2 x.m x.k2 (stW x.zs), Rw.mk 41 10 x.A1 x.m x.k1 (stW x.zs), Rw.mk 41 10 (some M) (n + 1) cM (stW xs ++ markW)] ρ w1 ∧ (fun y ρ w1 => Rws w.heap.size [Rw.mk 38 5 y.fst (itemsOf xs).length y.snd (itW (itemsOf xs)), Rw.mk 41 10 x.A2 x.m x.k2 (stW x.zs), Rw.mk 41 10 x.A1 x.m x.k1 (stW x.zs), Rw.mk 41 10 (some M) (n + 1) cM (stW xs ++ markW)] ρ w1) y ρ w1 ∧ (fun y ρ w1 => Rws w.heap.size [Rw.mk 3 1 y.fst (picksOf xs).length y.snd (pkW (picksOf xs)), Rw.mk 41 10 x.A2 x.m x.k2 (stW x.zs), Rw.mk 41 10 x.A1 x.m x.k1 (stW x.zs), Rw.mk 41 10 (some M) (n + 1) cM (stW xs ++ markW)] ρ w1) z ρ w1) ∧ u.i ≤ n ∧ u.p = (itemsOf (List.take u.i xs)).length ∧ u.q = (picksOf (List.take u.i xs)).length) (fun u => n - u.i) (L3S.mk i p q)), .block 0, .seq (sub B7 pAR15)], [(1, .lp 0 0), (3, .lp 1 0), (7, .io .i64 (chkP (Cf.mk g s k sz sl of gp lt ea d) wk xs).snd), (12, .lp 2 0), (14, .lp 3 0), (16, .sl y.fst (itemsOf xs).length y.snd), (17, .sl z.fst (picksOf xs).length z.snd), (18, .io .i64 (↑(L3S.mk i p q).p : Int)), (19, .io .i64 (↑(L3S.mk i p q).q : Int)), (20, .io .i64 (↑(L3S.mk i p q).i : Int)), (123, .bo (decide ((↑(L3S.mk i p q).p : Int) ≥ (↑(itemsOf xs).length : Int))))], [((cwAR g s k sz sl of gp lt ea d wk (some a) n cap), 28), ((cwAR g s k sz sl of gp lt ea d wk (some M) n cM), 28), ([.io .i64 x.c.g, .io .i64 x.c.s, .io .i64 x.c.k, .io .i64 x.c.sz, .io .i64 x.c.sl, .io .i64 x.c.of, .io .i64 x.c.gp, .io .i64 x.c.lt, .io .i64 x.c.ea, .bo x.c.d, .io .i64 x.wk, .sl x.A1 x.m x.k1], 28), ([.io .i64 x.c.g, .io .i64 x.c.s, .io .i64 x.c.k, .io .i64 x.c.sz, .io .i64 x.c.sl, .io .i64 x.c.of, .io .i64 x.c.gp, .io .i64 x.c.lt, .io .i64 x.c.ea, .bo x.c.d, .io .i64 x.wk, .sl x.A2 x.m x.k2], 28)]⟩ ?_
    rcases Bool.eq_false_or_eq_true (decide ((↑(L3S.mk i p q).p : Int) ≥ (↑(itemsOf xs).length : Int))) with b1 | b1
    ·refine zR 123 b1 ?_
     refine zT FTy FTx [2] 0 ⟨.exit .ret, [], [(2, .v (.bool false))], []⟩ ?_
     exfalso
     rcases Bool.eq_false_or_eq_true (kd == 1) with h9 | h9
     ·have hk1 : kd = 1 := by simpa using h9
      have hit := items_at hx (by simp [keepsitems, hk1])
      rw [← hp] at hit
      have hpl := (List.getElem?_eq_some_iff.1 hit).1
      simp_all
      try omega
     have hk2 : kd = 2 := by simp_all
     have hit := picks_at hx (by simp [keepspicks, hk2])
     rw [← hq] at hit
     have hpl := (List.getElem?_eq_some_iff.1 hit).1
     simp_all
     try omega
    refine zR 123 b1 ?_
    refine zT FTy FTx [1, 3, 7, 12, 14, 16, 17, 18, 19, 20, 123, 124, 125] 4 ⟨pqops B7 [1, 1, 1, 1, 1, 1, 1, 1, 1, 1, 1, 1, 0, 1, 4, 4, 1, 0, 4, 1, 4, 1, 2, 0, 0] 7, [.seq (sub B7 pAR4), .seq (sub B7 pAR5), .block 2, .block 1, .seq (sub B7 pAR10), .next (Sx.Next w.heap.size w Tryz.f7.ntmps (fun u => [(1, .lp 0 0), (3, .lp 1 0), (7, .io .i64 (chkP (Cf.mk g s k sz sl of gp lt ea d) wk xs).snd), (12, .lp 2 0), (14, .lp 3 0), (16, .sl y.fst (itemsOf xs).length y.snd), (17, .sl z.fst (picksOf xs).length z.snd), (18, .io .i64 (↑u.p : Int)), (19, .io .i64 (↑u.q : Int)), (20, .io .i64 (↑u.i : Int))]) (fun x_1 => [((cwAR g s k sz sl of gp lt ea d wk (some a) n cap), 28), ((cwAR g s k sz sl of gp lt ea d wk (some M) n cM), 28), (scB x.c x.wk x.A1 x.m x.k1, 28), (scB x.c x.wk x.A2 x.m x.k2, 28)]) (fun u ρ w1 => (Rws w.heap.size [Rw.mk 41 10 x.A2 x.m x.k2 (stW x.zs), Rw.mk 41 10 x.A1 x.m x.k1 (stW x.zs), Rw.mk 41 10 (some M) (n + 1) cM (stW xs ++ markW)] ρ w1 ∧ (fun y ρ w1 => Rws w.heap.size [Rw.mk 38 5 y.fst (itemsOf xs).length y.snd (itW (itemsOf xs)), Rw.mk 41 10 x.A2 x.m x.k2 (stW x.zs), Rw.mk 41 10 x.A1 x.m x.k1 (stW x.zs), Rw.mk 41 10 (some M) (n + 1) cM (stW xs ++ markW)] ρ w1) y ρ w1 ∧ (fun y ρ w1 => Rws w.heap.size [Rw.mk 3 1 y.fst (picksOf xs).length y.snd (pkW (picksOf xs)), Rw.mk 41 10 x.A2 x.m x.k2 (stW x.zs), Rw.mk 41 10 x.A1 x.m x.k1 (stW x.zs), Rw.mk 41 10 (some M) (n + 1) cM (stW xs ++ markW)] ρ w1) z ρ w1) ∧ u.i ≤ n ∧ u.p = (itemsOf (List.take u.i xs)).length ∧ u.q = (picksOf (List.take u.i xs)).length) (fun u => n - u.i) (L3S.mk i p q)), .block 0, .seq (sub B7 pAR15)], [(1, .lp 0 0), (3, .lp 1 0), (7, .io .i64 (chkP (Cf.mk g s k sz sl of gp lt ea d) wk xs).snd), (12, .lp 2 0), (14, .lp 3 0), (16, .sl y.fst (itemsOf xs).length y.snd), (17, .sl z.fst (picksOf xs).length z.snd), (18, .io .i64 (↑(L3S.mk i p q).p : Int)), (19, .io .i64 (↑(L3S.mk i p q).q : Int)), (20, .io .i64 (↑(L3S.mk i p q).i : Int)), (123, .v (.bool false)), (124, .sl y.fst (itemsOf xs).length y.snd), (125, .io .i64 (↑(L3S.mk i p q).p : Int))], [((cwAR g s k sz sl of gp lt ea d wk (some a) n cap), 28), ((cwAR g s k sz sl of gp lt ea d wk (some M) n cM), 28), ([.io .i64 x.c.g, .io .i64 x.c.s, .io .i64 x.c.k, .io .i64 x.c.sz, .io .i64 x.c.sl, .io .i64 x.c.of, .io .i64 x.c.gp, .io .i64 x.c.lt, .io .i64 x.c.ea, .bo x.c.d, .io .i64 x.wk, .sl x.A1 x.m x.k1], 28), ([.io .i64 x.c.g, .io .i64 x.c.s, .io .i64 x.c.k, .io .i64 x.c.sz, .io .i64 x.c.sl, .io .i64 x.c.of, .io .i64 x.c.gp, .io .i64 x.c.lt, .io .i64 x.c.ea, .bo x.c.d, .io .i64 x.wk, .sl x.A2 x.m x.k2], 28)]⟩ ?_
    have hk1 : kd = 1 := by simpa using b0
    have hit := items_at hx (by simp [keepsitems, hk1])
    rw [← hp] at hit
    have hpl := (List.getElem?_eq_some_iff.1 hit).1
    refine At.know (p := ∃ ya, y.1 = some ya) (fun ρ w1 h => h.2.1.some (.head _) (show 0 < (itemsOf xs).length by omega)) fun ⟨ya, hya⟩ => ?_
    obtain ⟨yA, yc⟩ := y
    simp only at hya
    subst hya
    refine At.idx ya (itemsOf xs).length 5 (p : Int) (by kernel_rfl) (by omega) (by omega) FTy ?_
    refine At.lda (ya.add ((p : Int).toNat * 5)) 5 [.io .i64 ik, .so (mkB key), .io .i64 ti, .io .i64 v, .io .i64 src] (by kernel_rfl) rfl FTy (fun ρ w1 hm' hf j v2 hj => src_it (hf.2.1.src (.head _) rfl) hit j v2 hj) ?_
    let kn0 : K := .next (Sx.Next w.heap.size w Tryz.f7.ntmps (fun u => [(1, .lp 0 0), (3, .lp 1 0), (7, .io .i64 (chkP (Cf.mk g s k sz sl of gp lt ea d) wk xs).snd), (12, .lp 2 0), (14, .lp 3 0), (16, .sl (some ya, yc).fst (itemsOf xs).length (some ya, yc).snd), (17, .sl z.fst (picksOf xs).length z.snd), (18, .io .i64 (↑u.p : Int)), (19, .io .i64 (↑u.q : Int)), (20, .io .i64 (↑u.i : Int))]) (fun x_1 => [((cwAR g s k sz sl of gp lt ea d wk (some a) n cap), 28), ((cwAR g s k sz sl of gp lt ea d wk (some M) n cM), 28), (scB x.c x.wk x.A1 x.m x.k1, 28), (scB x.c x.wk x.A2 x.m x.k2, 28)]) (fun u ρ w1 => (Rws w.heap.size [Rw.mk 41 10 x.A2 x.m x.k2 (stW x.zs), Rw.mk 41 10 x.A1 x.m x.k1 (stW x.zs), Rw.mk 41 10 (some M) (n + 1) cM (stW xs ++ markW)] ρ w1 ∧ (fun y ρ w1 => Rws w.heap.size [Rw.mk 38 5 y.fst (itemsOf xs).length y.snd (itW (itemsOf xs)), Rw.mk 41 10 x.A2 x.m x.k2 (stW x.zs), Rw.mk 41 10 x.A1 x.m x.k1 (stW x.zs), Rw.mk 41 10 (some M) (n + 1) cM (stW xs ++ markW)] ρ w1) (some ya, yc) ρ w1 ∧ (fun y ρ w1 => Rws w.heap.size [Rw.mk 3 1 y.fst (picksOf xs).length y.snd (pkW (picksOf xs)), Rw.mk 41 10 x.A2 x.m x.k2 (stW x.zs), Rw.mk 41 10 x.A1 x.m x.k1 (stW x.zs), Rw.mk 41 10 (some M) (n + 1) cM (stW xs ++ markW)] ρ w1) z ρ w1) ∧ u.i ≤ n ∧ u.p = (itemsOf (List.take u.i xs)).length ∧ u.q = (picksOf (List.take u.i xs)).length) (fun u => n - u.i) (L3S.mk i p q))
    refine zT FTy FTx [1, 3, 7, 12, 14, 16, 17, 18, 19, 20, 123, 127, 129, 130] 4 ⟨pqops B7 [1, 1, 1, 1, 1, 1, 1, 1, 1, 1, 1, 1, 0, 1, 4, 4, 1, 0, 4, 1, 4, 1, 2, 0, 0] 12, [.seq (sub B7 pAR4), .seq (sub B7 pAR5), .block 2, .block 1, .seq (sub B7 pAR10), kn0, .block 0, .seq (sub B7 pAR15)], [(1, .lp 0 0), (3, .lp 1 0), (7, .io .i64 (chkP (Cf.mk g s k sz sl of gp lt ea d) wk xs).snd), (12, .lp 2 0), (14, .lp 3 0), (16, .sl (some ya) (itemsOf xs).length yc), (17, .sl z.fst (picksOf xs).length z.snd), (18, .io .i64 (↑(L3S.mk i p q).p : Int)), (19, .io .i64 (↑(L3S.mk i p q).q : Int)), (20, .io .i64 (↑(L3S.mk i p q).i : Int)), (123, .v (.bool false)), (127, .agg [.io .i64 ik, .so (mkB key), .io .i64 ti, .io .i64 v, .io .i64 src]), (129, .sl (some a) n cap), (130, .io .i64 (↑(L3S.mk i p q).i : Int))], [((cwAR g s k sz sl of gp lt ea d wk (some a) n cap), 28), ((cwAR g s k sz sl of gp lt ea d wk (some M) n cM), 28), ([.io .i64 x.c.g, .io .i64 x.c.s, .io .i64 x.c.k, .io .i64 x.c.sz, .io .i64 x.c.sl, .io .i64 x.c.of, .io .i64 x.c.gp, .io .i64 x.c.lt, .io .i64 x.c.ea, .bo x.c.d, .io .i64 x.wk, .sl x.A1 x.m x.k1], 28), ([.io .i64 x.c.g, .io .i64 x.c.s, .io .i64 x.c.k, .io .i64 x.c.sz, .io .i64 x.c.sl, .io .i64 x.c.of, .io .i64 x.c.gp, .io .i64 x.c.lt, .io .i64 x.c.ea, .bo x.c.d, .io .i64 x.wk, .sl x.A2 x.m x.k2], 28)]⟩ ?_
    refine At.idx a n 10 (i : Int) (by kernel_rfl) (by omega) (by omega) FTy ?_
    refine At.fax (a.add ((i : Int).toNat * 10)) 1 (by kernel_rfl) FTy ?_
    refine At.lda ((a.add ((i : Int).toNat * 10)).add 1) 5 [.io .i64 ik, .so (mkB key), .io .i64 ti, .io .i64 v, .io .i64 src] (by kernel_rfl) rfl FTy (fun ρ w1 hm' hf j v2 hj => cell_below (by rw [Addr.add_add _ 1 j]; exact hcell (1 + j) v2 (it_at j hj)) hm'.below) ?_
    refine zTq FTy FTx [1, 3, 7, 12, 14, 16, 17, 18, 19, 20, 135] 4 ?_
    refine At.res 135 (!(ik == ik && ((mkB key).toList == (mkB key).toList && (ti == ti && (v == v && (src == src && true)))))) false (by kernel_rfl) (by first | assumption | (simp only [*]; done) | (simp [*]; done)) ?_
    refine zT FTy FTx [1, 3, 7, 12, 14, 16, 17, 18, 19, 20] 4 ⟨.exit .normal, [kn0, .block 0, .seq (sub B7 pAR15)], [(1, .lp 0 0), (3, .lp 1 0), (7, .io .i64 (chkP (Cf.mk g s k sz sl of gp lt ea d) wk xs).snd), (12, .lp 2 0), (14, .lp 3 0), (16, .sl (some ya) (itemsOf xs).length yc), (17, .sl z.fst (picksOf xs).length z.snd), (18, .io .i64 (IntKind.i64.wrap ((↑(L3S.mk i p q).p : Int) + 1))), (19, .io .i64 (↑(L3S.mk i p q).q : Int)), (20, .io .i64 (IntKind.i64.wrap ((↑(L3S.mk i p q).i : Int) + 1)))], [((cwAR g s k sz sl of gp lt ea d wk (some a) n cap), 28), ((cwAR g s k sz sl of gp lt ea d wk (some M) n cM), 28), ([.io .i64 x.c.g, .io .i64 x.c.s, .io .i64 x.c.k, .io .i64 x.c.sz, .io .i64 x.c.sl, .io .i64 x.c.of, .io .i64 x.c.gp, .io .i64 x.c.lt, .io .i64 x.c.ea, .bo x.c.d, .io .i64 x.wk, .sl x.A1 x.m x.k1], 28), ([.io .i64 x.c.g, .io .i64 x.c.s, .io .i64 x.c.k, .io .i64 x.c.sz, .io .i64 x.c.sl, .io .i64 x.c.of, .io .i64 x.c.gp, .io .i64 x.c.lt, .io .i64 x.c.ea, .bo x.c.d, .io .i64 x.wk, .sl x.A2 x.m x.k2], 28)]⟩ ?_
    have hw3 : IntKind.i64.wrap ((i : Int) + 1) = ((i + 1 : Nat) : Int) := by
     rw [wrap63 (by omega) (by omega)]
     omega
    have hw4 : IntKind.i64.wrap ((p : Int) + 1) = ((p + 1 : Nat) : Int) := by
     have : (itemsOf (xs.take i)).length ≤ (xs.take i).length := List.length_filter_le ..
     rw [List.length_take] at this
     rw [wrap63 (by omega) (by omega)]
     omega
    have hw5 : IntKind.i64.wrap ((q : Int) + 1) = ((q + 1 : Nat) : Int) := by
     have : (picksOf (xs.take i)).length ≤ (xs.take i).length := List.length_filter_le ..
     rw [List.length_take] at this
     rw [wrap63 (by omega) (by omega)]
     omega
    refine At.next (σ := L3S) ⟨i + 1, p + 1, q⟩ rfl rfl (by simp only [hw3, hw4, hw5]; unfold subFr; kernel_rfl) (by kernel_rfl) (fun ρ a' w' hi' hf => ⟨hf, hin, by rw [items_take hx]; simp_all [keepsitems], by rw [picks_take hx]; simp_all [keepspicks]⟩) ?_
    show n - (i + 1) < n - i
    omega
   refine zR 117 b0 ?_
   refine zT FTy FTx [1, 3, 7, 12, 14, 16, 17, 18, 19, 20, 138] 4 ⟨.code (sub B7 [1, 1, 1, 1, 1, 1, 1, 1, 1, 1, 1, 1, 0, 1, 4, 4, 1, 0, 4, 1, 4, 1, 3, 1]), [.block 2, .block 1, .seq (sub B7 pAR10), .next (Sx.Next w.heap.size w Tryz.f7.ntmps (fun u => [(1, .lp 0 0), (3, .lp 1 0), (7, .io .i64 (chkP (Cf.mk g s k sz sl of gp lt ea d) wk xs).snd), (12, .lp 2 0), (14, .lp 3 0), (16, .sl y.fst (itemsOf xs).length y.snd), (17, .sl z.fst (picksOf xs).length z.snd), (18, .io .i64 (↑u.p : Int)), (19, .io .i64 (↑u.q : Int)), (20, .io .i64 (↑u.i : Int))]) (fun x_1 => [((cwAR g s k sz sl of gp lt ea d wk (some a) n cap), 28), ((cwAR g s k sz sl of gp lt ea d wk (some M) n cM), 28), (scB x.c x.wk x.A1 x.m x.k1, 28), (scB x.c x.wk x.A2 x.m x.k2, 28)]) (fun u ρ w1 => (Rws w.heap.size [Rw.mk 41 10 x.A2 x.m x.k2 (stW x.zs), Rw.mk 41 10 x.A1 x.m x.k1 (stW x.zs), Rw.mk 41 10 (some M) (n + 1) cM (stW xs ++ markW)] ρ w1 ∧ (fun y ρ w1 => Rws w.heap.size [Rw.mk 38 5 y.fst (itemsOf xs).length y.snd (itW (itemsOf xs)), Rw.mk 41 10 x.A2 x.m x.k2 (stW x.zs), Rw.mk 41 10 x.A1 x.m x.k1 (stW x.zs), Rw.mk 41 10 (some M) (n + 1) cM (stW xs ++ markW)] ρ w1) y ρ w1 ∧ (fun y ρ w1 => Rws w.heap.size [Rw.mk 3 1 y.fst (picksOf xs).length y.snd (pkW (picksOf xs)), Rw.mk 41 10 x.A2 x.m x.k2 (stW x.zs), Rw.mk 41 10 x.A1 x.m x.k1 (stW x.zs), Rw.mk 41 10 (some M) (n + 1) cM (stW xs ++ markW)] ρ w1) z ρ w1) ∧ u.i ≤ n ∧ u.p = (itemsOf (List.take u.i xs)).length ∧ u.q = (picksOf (List.take u.i xs)).length) (fun u => n - u.i) (L3S.mk i p q)), .block 0, .seq (sub B7 pAR15)], [(1, .lp 0 0), (3, .lp 1 0), (7, .io .i64 (chkP (Cf.mk g s k sz sl of gp lt ea d) wk xs).snd), (12, .lp 2 0), (14, .lp 3 0), (16, .sl y.fst (itemsOf xs).length y.snd), (17, .sl z.fst (picksOf xs).length z.snd), (18, .io .i64 (↑(L3S.mk i p q).p : Int)), (19, .io .i64 (↑(L3S.mk i p q).q : Int)), (20, .io .i64 (↑(L3S.mk i p q).i : Int)), (138, .bo (kd == 2))], [((cwAR g s k sz sl of gp lt ea d wk (some a) n cap), 28), ((cwAR g s k sz sl of gp lt ea d wk (some M) n cM), 28), ([.io .i64 x.c.g, .io .i64 x.c.s, .io .i64 x.c.k, .io .i64 x.c.sz, .io .i64 x.c.sl, .io .i64 x.c.of, .io .i64 x.c.gp, .io .i64 x.c.lt, .io .i64 x.c.ea, .bo x.c.d, .io .i64 x.wk, .sl x.A1 x.m x.k1], 28), ([.io .i64 x.c.g, .io .i64 x.c.s, .io .i64 x.c.k, .io .i64 x.c.sz, .io .i64 x.c.sl, .io .i64 x.c.of, .io .i64 x.c.gp, .io .i64 x.c.lt, .io .i64 x.c.ea, .bo x.c.d, .io .i64 x.wk, .sl x.A2 x.m x.k2], 28)]⟩ ?_
   rcases Bool.eq_false_or_eq_true (kd == 2) with b2 | b2
   ·refine zR 138 b2 ?_
    refine zTq FTy FTx [1, 3, 7, 12, 14, 16, 17, 18, 19, 20, 144] 4 ?_
    rcases Bool.eq_false_or_eq_true (decide ((↑(L3S.mk i p q).q : Int) ≥ (↑(picksOf xs).length : Int))) with b3 | b3
    ·refine zR 144 b3 ?_
     refine zT FTy FTx [2] 0 ⟨.exit .ret, [], [(2, .v (.bool false))], []⟩ ?_
     exfalso
     rcases Bool.eq_false_or_eq_true (kd == 1) with h9 | h9
     ·have hk1 : kd = 1 := by simpa using h9
      have hit := items_at hx (by simp [keepsitems, hk1])
      rw [← hp] at hit
      have hpl := (List.getElem?_eq_some_iff.1 hit).1
      simp_all
      try omega
     have hk2 : kd = 2 := by simp_all
     have hit := picks_at hx (by simp [keepspicks, hk2])
     rw [← hq] at hit
     have hpl := (List.getElem?_eq_some_iff.1 hit).1
     simp_all
     try omega
    refine zR 144 b3 ?_
    refine zT FTy FTx [1, 3, 7, 12, 14, 16, 17, 18, 19, 20, 144, 145, 146] 4 ⟨pqops B7 [1, 1, 1, 1, 1, 1, 1, 1, 1, 1, 1, 1, 0, 1, 4, 4, 1, 0, 4, 1, 4, 1, 3, 1, 2, 0, 0] 7, [.seq (sub B7 pAR2), .seq (sub B7 pAR3), .block 2, .block 1, .seq (sub B7 pAR10), .next (Sx.Next w.heap.size w Tryz.f7.ntmps (fun u => [(1, .lp 0 0), (3, .lp 1 0), (7, .io .i64 (chkP (Cf.mk g s k sz sl of gp lt ea d) wk xs).snd), (12, .lp 2 0), (14, .lp 3 0), (16, .sl y.fst (itemsOf xs).length y.snd), (17, .sl z.fst (picksOf xs).length z.snd), (18, .io .i64 (↑u.p : Int)), (19, .io .i64 (↑u.q : Int)), (20, .io .i64 (↑u.i : Int))]) (fun x_1 => [((cwAR g s k sz sl of gp lt ea d wk (some a) n cap), 28), ((cwAR g s k sz sl of gp lt ea d wk (some M) n cM), 28), (scB x.c x.wk x.A1 x.m x.k1, 28), (scB x.c x.wk x.A2 x.m x.k2, 28)]) (fun u ρ w1 => (Rws w.heap.size [Rw.mk 41 10 x.A2 x.m x.k2 (stW x.zs), Rw.mk 41 10 x.A1 x.m x.k1 (stW x.zs), Rw.mk 41 10 (some M) (n + 1) cM (stW xs ++ markW)] ρ w1 ∧ (fun y ρ w1 => Rws w.heap.size [Rw.mk 38 5 y.fst (itemsOf xs).length y.snd (itW (itemsOf xs)), Rw.mk 41 10 x.A2 x.m x.k2 (stW x.zs), Rw.mk 41 10 x.A1 x.m x.k1 (stW x.zs), Rw.mk 41 10 (some M) (n + 1) cM (stW xs ++ markW)] ρ w1) y ρ w1 ∧ (fun y ρ w1 => Rws w.heap.size [Rw.mk 3 1 y.fst (picksOf xs).length y.snd (pkW (picksOf xs)), Rw.mk 41 10 x.A2 x.m x.k2 (stW x.zs), Rw.mk 41 10 x.A1 x.m x.k1 (stW x.zs), Rw.mk 41 10 (some M) (n + 1) cM (stW xs ++ markW)] ρ w1) z ρ w1) ∧ u.i ≤ n ∧ u.p = (itemsOf (List.take u.i xs)).length ∧ u.q = (picksOf (List.take u.i xs)).length) (fun u => n - u.i) (L3S.mk i p q)), .block 0, .seq (sub B7 pAR15)], [(1, .lp 0 0), (3, .lp 1 0), (7, .io .i64 (chkP (Cf.mk g s k sz sl of gp lt ea d) wk xs).snd), (12, .lp 2 0), (14, .lp 3 0), (16, .sl y.fst (itemsOf xs).length y.snd), (17, .sl z.fst (picksOf xs).length z.snd), (18, .io .i64 (↑(L3S.mk i p q).p : Int)), (19, .io .i64 (↑(L3S.mk i p q).q : Int)), (20, .io .i64 (↑(L3S.mk i p q).i : Int)), (144, .v (.bool false)), (145, .sl z.fst (picksOf xs).length z.snd), (146, .io .i64 (↑(L3S.mk i p q).q : Int))], [((cwAR g s k sz sl of gp lt ea d wk (some a) n cap), 28), ((cwAR g s k sz sl of gp lt ea d wk (some M) n cM), 28), ([.io .i64 x.c.g, .io .i64 x.c.s, .io .i64 x.c.k, .io .i64 x.c.sz, .io .i64 x.c.sl, .io .i64 x.c.of, .io .i64 x.c.gp, .io .i64 x.c.lt, .io .i64 x.c.ea, .bo x.c.d, .io .i64 x.wk, .sl x.A1 x.m x.k1], 28), ([.io .i64 x.c.g, .io .i64 x.c.s, .io .i64 x.c.k, .io .i64 x.c.sz, .io .i64 x.c.sl, .io .i64 x.c.of, .io .i64 x.c.gp, .io .i64 x.c.lt, .io .i64 x.c.ea, .bo x.c.d, .io .i64 x.wk, .sl x.A2 x.m x.k2], 28)]⟩ ?_
    have hk2 : kd = 2 := by
     have h9 := ‹(kd == 2) = true›
     simpa using h9
    have hit := picks_at hx (by simp [keepspicks, hk2])
    rw [← hq] at hit
    have hpl := (List.getElem?_eq_some_iff.1 hit).1
    refine At.know (p := ∃ ya, z.1 = some ya) (fun ρ w1 h => h.2.2.some (.head _) (show 0 < (picksOf xs).length by omega)) fun ⟨ya, hya⟩ => ?_
    obtain ⟨zA, zc⟩ := z
    simp only at hya
    subst hya
    refine At.idx ya (picksOf xs).length 1 (q : Int) (by kernel_rfl) (by omega) (by omega) FTy ?_
    refine At.ldx (ya.add ((q : Int).toNat * 1)) (.io .i64 wk2) (by kernel_rfl) FTy (fun ρ w1 hm' hf => hf.2.2.src (.head _) rfl _ _ (by rw [Int.toNat_natCast, Nat.mul_one]; simp only [pkW, List.getElem?_map, hit]; rfl)) ?_
    let kn1 : K := .next (Sx.Next w.heap.size w Tryz.f7.ntmps (fun u => [(1, .lp 0 0), (3, .lp 1 0), (7, .io .i64 (chkP (Cf.mk g s k sz sl of gp lt ea d) wk xs).snd), (12, .lp 2 0), (14, .lp 3 0), (16, .sl y.fst (itemsOf xs).length y.snd), (17, .sl (some ya, zc).fst (picksOf xs).length (some ya, zc).snd), (18, .io .i64 (↑u.p : Int)), (19, .io .i64 (↑u.q : Int)), (20, .io .i64 (↑u.i : Int))]) (fun x_1 => [((cwAR g s k sz sl of gp lt ea d wk (some a) n cap), 28), ((cwAR g s k sz sl of gp lt ea d wk (some M) n cM), 28), (scB x.c x.wk x.A1 x.m x.k1, 28), (scB x.c x.wk x.A2 x.m x.k2, 28)]) (fun u ρ w1 => (Rws w.heap.size [Rw.mk 41 10 x.A2 x.m x.k2 (stW x.zs), Rw.mk 41 10 x.A1 x.m x.k1 (stW x.zs), Rw.mk 41 10 (some M) (n + 1) cM (stW xs ++ markW)] ρ w1 ∧ (fun y ρ w1 => Rws w.heap.size [Rw.mk 38 5 y.fst (itemsOf xs).length y.snd (itW (itemsOf xs)), Rw.mk 41 10 x.A2 x.m x.k2 (stW x.zs), Rw.mk 41 10 x.A1 x.m x.k1 (stW x.zs), Rw.mk 41 10 (some M) (n + 1) cM (stW xs ++ markW)] ρ w1) y ρ w1 ∧ (fun y ρ w1 => Rws w.heap.size [Rw.mk 3 1 y.fst (picksOf xs).length y.snd (pkW (picksOf xs)), Rw.mk 41 10 x.A2 x.m x.k2 (stW x.zs), Rw.mk 41 10 x.A1 x.m x.k1 (stW x.zs), Rw.mk 41 10 (some M) (n + 1) cM (stW xs ++ markW)] ρ w1) (some ya, zc) ρ w1) ∧ u.i ≤ n ∧ u.p = (itemsOf (List.take u.i xs)).length ∧ u.q = (picksOf (List.take u.i xs)).length) (fun u => n - u.i) (L3S.mk i p q))
    refine zT FTy FTx [1, 3, 7, 12, 14, 16, 17, 18, 19, 20, 144, 148, 150, 151] 4 ⟨pqops B7 [1, 1, 1, 1, 1, 1, 1, 1, 1, 1, 1, 1, 0, 1, 4, 4, 1, 0, 4, 1, 4, 1, 3, 1, 2, 0, 0] 12, [.seq (sub B7 pAR2), .seq (sub B7 pAR3), .block 2, .block 1, .seq (sub B7 pAR10), kn1, .block 0, .seq (sub B7 pAR15)], [(1, .lp 0 0), (3, .lp 1 0), (7, .io .i64 (chkP (Cf.mk g s k sz sl of gp lt ea d) wk xs).snd), (12, .lp 2 0), (14, .lp 3 0), (16, .sl y.fst (itemsOf xs).length y.snd), (17, .sl (some ya) (picksOf xs).length zc), (18, .io .i64 (↑(L3S.mk i p q).p : Int)), (19, .io .i64 (↑(L3S.mk i p q).q : Int)), (20, .io .i64 (↑(L3S.mk i p q).i : Int)), (144, .v (.bool false)), (148, .io .i64 wk2), (150, .sl (some a) n cap), (151, .io .i64 (↑(L3S.mk i p q).i : Int))], [((cwAR g s k sz sl of gp lt ea d wk (some a) n cap), 28), ((cwAR g s k sz sl of gp lt ea d wk (some M) n cM), 28), ([.io .i64 x.c.g, .io .i64 x.c.s, .io .i64 x.c.k, .io .i64 x.c.sz, .io .i64 x.c.sl, .io .i64 x.c.of, .io .i64 x.c.gp, .io .i64 x.c.lt, .io .i64 x.c.ea, .bo x.c.d, .io .i64 x.wk, .sl x.A1 x.m x.k1], 28), ([.io .i64 x.c.g, .io .i64 x.c.s, .io .i64 x.c.k, .io .i64 x.c.sz, .io .i64 x.c.sl, .io .i64 x.c.of, .io .i64 x.c.gp, .io .i64 x.c.lt, .io .i64 x.c.ea, .bo x.c.d, .io .i64 x.wk, .sl x.A2 x.m x.k2], 28)]⟩ ?_
    refine At.idx a n 10 (i : Int) (by kernel_rfl) (by omega) (by omega) FTy ?_
    refine At.fax (a.add ((i : Int).toNat * 10)) 6 (by kernel_rfl) FTy ?_
    refine At.ldx ((a.add ((i : Int).toNat * 10)).add 6) (.io .i64 wk2) (by kernel_rfl) FTy (fun ρ w1 hm' hf => cell_below (hcell 6 _ rfl) hm'.below) ?_
    refine zTq FTy FTx [1, 3, 7, 12, 14, 16, 17, 18, 19, 20, 156] 4 ?_
    refine At.res 156 (wk2 != wk2) false (by kernel_rfl) (by first | assumption | (simp only [*]; done) | (simp [*]; done)) ?_
    refine zT FTy FTx [1, 3, 7, 12, 14, 16, 17, 18, 19, 20] 4 ⟨.exit .normal, [kn1, .block 0, .seq (sub B7 pAR15)], [(1, .lp 0 0), (3, .lp 1 0), (7, .io .i64 (chkP (Cf.mk g s k sz sl of gp lt ea d) wk xs).snd), (12, .lp 2 0), (14, .lp 3 0), (16, .sl y.fst (itemsOf xs).length y.snd), (17, .sl (some ya) (picksOf xs).length zc), (18, .io .i64 (↑(L3S.mk i p q).p : Int)), (19, .io .i64 (IntKind.i64.wrap ((↑(L3S.mk i p q).q : Int) + 1))), (20, .io .i64 (IntKind.i64.wrap ((↑(L3S.mk i p q).i : Int) + 1)))], [((cwAR g s k sz sl of gp lt ea d wk (some a) n cap), 28), ((cwAR g s k sz sl of gp lt ea d wk (some M) n cM), 28), ([.io .i64 x.c.g, .io .i64 x.c.s, .io .i64 x.c.k, .io .i64 x.c.sz, .io .i64 x.c.sl, .io .i64 x.c.of, .io .i64 x.c.gp, .io .i64 x.c.lt, .io .i64 x.c.ea, .bo x.c.d, .io .i64 x.wk, .sl x.A1 x.m x.k1], 28), ([.io .i64 x.c.g, .io .i64 x.c.s, .io .i64 x.c.k, .io .i64 x.c.sz, .io .i64 x.c.sl, .io .i64 x.c.of, .io .i64 x.c.gp, .io .i64 x.c.lt, .io .i64 x.c.ea, .bo x.c.d, .io .i64 x.wk, .sl x.A2 x.m x.k2], 28)]⟩ ?_
    have hw3 : IntKind.i64.wrap ((i : Int) + 1) = ((i + 1 : Nat) : Int) := by
     rw [wrap63 (by omega) (by omega)]
     omega
    have hw4 : IntKind.i64.wrap ((p : Int) + 1) = ((p + 1 : Nat) : Int) := by
     have : (itemsOf (xs.take i)).length ≤ (xs.take i).length := List.length_filter_le ..
     rw [List.length_take] at this
     rw [wrap63 (by omega) (by omega)]
     omega
    have hw5 : IntKind.i64.wrap ((q : Int) + 1) = ((q + 1 : Nat) : Int) := by
     have : (picksOf (xs.take i)).length ≤ (xs.take i).length := List.length_filter_le ..
     rw [List.length_take] at this
     rw [wrap63 (by omega) (by omega)]
     omega
    refine At.next (σ := L3S) ⟨i + 1, p, q + 1⟩ rfl rfl (by simp only [hw3, hw4, hw5]; unfold subFr; kernel_rfl) (by kernel_rfl) (fun ρ a' w' hi' hf => ⟨hf, hin, by rw [items_take hx]; simp_all [keepsitems], by rw [picks_take hx]; simp_all [keepspicks]⟩) ?_
    show n - (i + 1) < n - i
    omega
   refine zR 138 b2 ?_
   refine zT FTy FTx [1, 3, 7, 12, 14, 16, 17, 18, 19, 20] 4 ⟨.exit .normal, [.next (Sx.Next w.heap.size w Tryz.f7.ntmps (fun u => [(1, .lp 0 0), (3, .lp 1 0), (7, .io .i64 (chkP (Cf.mk g s k sz sl of gp lt ea d) wk xs).snd), (12, .lp 2 0), (14, .lp 3 0), (16, .sl y.fst (itemsOf xs).length y.snd), (17, .sl z.fst (picksOf xs).length z.snd), (18, .io .i64 (↑u.p : Int)), (19, .io .i64 (↑u.q : Int)), (20, .io .i64 (↑u.i : Int))]) (fun x_1 => [((cwAR g s k sz sl of gp lt ea d wk (some a) n cap), 28), ((cwAR g s k sz sl of gp lt ea d wk (some M) n cM), 28), (scB x.c x.wk x.A1 x.m x.k1, 28), (scB x.c x.wk x.A2 x.m x.k2, 28)]) (fun u ρ w1 => (Rws w.heap.size [Rw.mk 41 10 x.A2 x.m x.k2 (stW x.zs), Rw.mk 41 10 x.A1 x.m x.k1 (stW x.zs), Rw.mk 41 10 (some M) (n + 1) cM (stW xs ++ markW)] ρ w1 ∧ (fun y ρ w1 => Rws w.heap.size [Rw.mk 38 5 y.fst (itemsOf xs).length y.snd (itW (itemsOf xs)), Rw.mk 41 10 x.A2 x.m x.k2 (stW x.zs), Rw.mk 41 10 x.A1 x.m x.k1 (stW x.zs), Rw.mk 41 10 (some M) (n + 1) cM (stW xs ++ markW)] ρ w1) y ρ w1 ∧ (fun y ρ w1 => Rws w.heap.size [Rw.mk 3 1 y.fst (picksOf xs).length y.snd (pkW (picksOf xs)), Rw.mk 41 10 x.A2 x.m x.k2 (stW x.zs), Rw.mk 41 10 x.A1 x.m x.k1 (stW x.zs), Rw.mk 41 10 (some M) (n + 1) cM (stW xs ++ markW)] ρ w1) z ρ w1) ∧ u.i ≤ n ∧ u.p = (itemsOf (List.take u.i xs)).length ∧ u.q = (picksOf (List.take u.i xs)).length) (fun u => n - u.i) (L3S.mk i p q)), .block 0, .seq (sub B7 pAR15)], [(1, .lp 0 0), (3, .lp 1 0), (7, .io .i64 (chkP (Cf.mk g s k sz sl of gp lt ea d) wk xs).snd), (12, .lp 2 0), (14, .lp 3 0), (16, .sl y.fst (itemsOf xs).length y.snd), (17, .sl z.fst (picksOf xs).length z.snd), (18, .io .i64 (↑(L3S.mk i p q).p : Int)), (19, .io .i64 (↑(L3S.mk i p q).q : Int)), (20, .io .i64 (IntKind.i64.wrap ((↑(L3S.mk i p q).i : Int) + 1)))], [((cwAR g s k sz sl of gp lt ea d wk (some a) n cap), 28), ((cwAR g s k sz sl of gp lt ea d wk (some M) n cM), 28), ([.io .i64 x.c.g, .io .i64 x.c.s, .io .i64 x.c.k, .io .i64 x.c.sz, .io .i64 x.c.sl, .io .i64 x.c.of, .io .i64 x.c.gp, .io .i64 x.c.lt, .io .i64 x.c.ea, .bo x.c.d, .io .i64 x.wk, .sl x.A1 x.m x.k1], 28), ([.io .i64 x.c.g, .io .i64 x.c.s, .io .i64 x.c.k, .io .i64 x.c.sz, .io .i64 x.c.sl, .io .i64 x.c.of, .io .i64 x.c.gp, .io .i64 x.c.lt, .io .i64 x.c.ea, .bo x.c.d, .io .i64 x.wk, .sl x.A2 x.m x.k2], 28)]⟩ ?_
   have hw3 : IntKind.i64.wrap ((i : Int) + 1) = ((i + 1 : Nat) : Int) := by
    rw [wrap63 (by omega) (by omega)]
    omega
   have hw4 : IntKind.i64.wrap ((p : Int) + 1) = ((p + 1 : Nat) : Int) := by
    have : (itemsOf (xs.take i)).length ≤ (xs.take i).length := List.length_filter_le ..
    rw [List.length_take] at this
    rw [wrap63 (by omega) (by omega)]
    omega
   have hw5 : IntKind.i64.wrap ((q : Int) + 1) = ((q + 1 : Nat) : Int) := by
    have : (picksOf (xs.take i)).length ≤ (xs.take i).length := List.length_filter_le ..
    rw [List.length_take] at this
    rw [wrap63 (by omega) (by omega)]
    omega
   refine At.next (σ := L3S) ⟨i + 1, p, q⟩ rfl rfl (by simp only [hw3, hw4, hw5]; unfold subFr; kernel_rfl) (by kernel_rfl) (fun ρ a' w' hi' hf => ⟨hf, hin, by rw [items_take hx]; simp_all [keepsitems], by rw [picks_take hx]; simp_all [keepspicks]⟩) ?_
   show n - (i + 1) < n - i
   omega
  refine zR 108 b0 ?_
  refine zT FTy FTx [1, 3, 7, 12, 14, 16, 17, 19, 163] 4 ⟨pops B7 [1, 1, 1, 1, 1, 1, 1, 1, 1, 1, 1, 1, 1, 0, 0] 5, [.seq (sub B7 pAR14), .seq (sub B7 [1, 1, 1, 1, 1, 1, 1, 1, 1, 1, 1, 1, 1, 1])], [(1, .lp 0 0), (3, .lp 1 0), (7, .io .i64 (chkP (Cf.mk g s k sz sl of gp lt ea d) wk xs).snd), (12, .lp 2 0), (14, .lp 3 0), (16, .sl y.fst (itemsOf xs).length y.snd), (17, .sl z.fst (picksOf xs).length z.snd), (19, .io .i64 (↑(L3S.mk i p q).q : Int)), (163, .bo ((↑(L3S.mk i p q).p : Int) != (↑(itemsOf xs).length : Int)))], [((cwAR g s k sz sl of gp lt ea d wk A n cap), 28), ((cwAR g s k sz sl of gp lt ea d wk (some M) n cM), 28), ([.io .i64 x.c.g, .io .i64 x.c.s, .io .i64 x.c.k, .io .i64 x.c.sz, .io .i64 x.c.sl, .io .i64 x.c.of, .io .i64 x.c.gp, .io .i64 x.c.lt, .io .i64 x.c.ea, .bo x.c.d, .io .i64 x.wk, .sl x.A1 x.m x.k1], 28), ([.io .i64 x.c.g, .io .i64 x.c.s, .io .i64 x.c.k, .io .i64 x.c.sz, .io .i64 x.c.sl, .io .i64 x.c.of, .io .i64 x.c.gp, .io .i64 x.c.lt, .io .i64 x.c.ea, .bo x.c.d, .io .i64 x.wk, .sl x.A2 x.m x.k2], 28)]⟩ ?_
  rcases Bool.eq_false_or_eq_true ((↑(L3S.mk i p q).p : Int) != (↑(itemsOf xs).length : Int)) with b1 | b1
  ·refine zR 163 b1 ?_
   refine zT FTy FTx [2] 0 ⟨.exit .ret, [], [(2, .v (.bool false))], []⟩ ?_
   exfalso
   have h8 := of_decide_eq_false b0
   simp only at h8
   have hin : i = n := by omega
   rw [hin, hl, List.take_length] at hp hq
   simp_all
  refine zR 163 b1 ?_
  refine zTq FTy FTx [1, 3, 7, 12, 14, 16, 168] 4 ?_
  rcases Bool.eq_false_or_eq_true ((↑(L3S.mk i p q).q : Int) != (↑(picksOf xs).length : Int)) with b2 | b2
  ·refine zR 168 b2 ?_
   refine zT FTy FTx [2] 0 ⟨.exit .ret, [], [(2, .v (.bool false))], []⟩ ?_
   exfalso
   have h8 := of_decide_eq_false b0
   simp only at h8
   have hin : i = n := by omega
   rw [hin, hl, List.take_length] at hp hq
   simp_all
  refine zR 168 b2 ?_
  refine zT FTy FTx [1, 3, 12, 14, 16, 21, 171] 5 ⟨.code (sub B7 [1, 1, 1, 1, 1, 1, 1, 1, 1, 1, 1, 1, 1, 1, 1, 0, 1]), [.seq (sub B7 [1, 1, 1, 1, 1, 1, 1, 1, 1, 1, 1, 1, 1, 1, 1, 1])], [(1, .lp 0 0), (3, .lp 1 0), (12, .lp 2 0), (14, .lp 3 0), (16, .sl y.fst (itemsOf xs).length y.snd), (21, .lp 4 0), (171, .bo ((chkP (Cf.mk g s k sz sl of gp lt ea d) wk xs).snd == 0))], [((cwAR g s k sz sl of gp lt ea d wk A n cap), 28), ((cwAR g s k sz sl of gp lt ea d wk (some M) n cM), 28), ([.io .i64 x.c.g, .io .i64 x.c.s, .io .i64 x.c.k, .io .i64 x.c.sz, .io .i64 x.c.sl, .io .i64 x.c.of, .io .i64 x.c.gp, .io .i64 x.c.lt, .io .i64 x.c.ea, .bo x.c.d, .io .i64 x.wk, .sl x.A1 x.m x.k1], 28), ([.io .i64 x.c.g, .io .i64 x.c.s, .io .i64 x.c.k, .io .i64 x.c.sz, .io .i64 x.c.sl, .io .i64 x.c.of, .io .i64 x.c.gp, .io .i64 x.c.lt, .io .i64 x.c.ea, .bo x.c.d, .io .i64 x.wk, .sl x.A2 x.m x.k2], 28), (zAR0, 28)]⟩ ?_
  rcases Bool.eq_false_or_eq_true ((chkP (Cf.mk g s k sz sl of gp lt ea d) wk xs).snd == 0) with b3 | b3
  ·refine zR 171 b3 ?_
   refine zT FTy FTx [1, 3, 12, 14, 16, 21, 173, 174] 5 ⟨pops B7 pAR11 2, [.seq (sub B7 pAR12), .seq (sub B7 pAR13)], [(1, .lp 0 0), (3, .lp 1 0), (12, .lp 2 0), (14, .lp 3 0), (16, .sl y.fst (itemsOf xs).length y.snd), (21, .lp 4 0), (173, .agg [.io .i64 x.c.g, .io .i64 x.c.s, .io .i64 x.c.k, .io .i64 x.c.sz, .io .i64 x.c.sl, .io .i64 x.c.of, .io .i64 x.c.gp, .io .i64 x.c.lt, .io .i64 x.c.ea, .bo x.c.d, .io .i64 x.wk, .sl x.A1 x.m x.k1]), (174, .agg (cwAR g s k sz sl of gp lt ea d wk A n cap))], [((cwAR g s k sz sl of gp lt ea d wk A n cap), 28), ((cwAR g s k sz sl of gp lt ea d wk (some M) n cM), 28), ([.io .i64 x.c.g, .io .i64 x.c.s, .io .i64 x.c.k, .io .i64 x.c.sz, .io .i64 x.c.sl, .io .i64 x.c.of, .io .i64 x.c.gp, .io .i64 x.c.lt, .io .i64 x.c.ea, .bo x.c.d, .io .i64 x.wk, .sl x.A1 x.m x.k1], 28), ([.io .i64 x.c.g, .io .i64 x.c.s, .io .i64 x.c.k, .io .i64 x.c.sz, .io .i64 x.c.sl, .io .i64 x.c.of, .io .i64 x.c.gp, .io .i64 x.c.lt, .io .i64 x.c.ea, .bo x.c.d, .io .i64 x.wk, .sl x.A2 x.m x.k2], 28), ((cwAR g s k sz sl of gp lt ea d wk A n cap), 28)]⟩ ?_
   obtain ⟨hc, A1, c1, A2, c2, rfl⟩ := hgd.resolve_right fun h => h.1 (by simp_all)
   refine zC FTy 11 [.agg (cwAR g s k sz sl of gp lt ea d wk A1 n c1), .agg (cwAR g s k sz sl of gp lt ea d wk A n cap)] (.v (.bool true)) (fun _ _ w1 hi hf => (same_go g s k sz sl of gp lt ea d wk A1 n c1 xs g s k sz sl of gp lt ea d wk A n cap xs w1 (rws_sls hf.1 (.tail _ (.head _)) hl) (hS.below hi.mem.below) (by omega) (by omega)).mono fun e w2 h => by rw [decide_eq_true ⟨rfl, rfl, rfl⟩] at h; exact h) ?_
   refine zT FTy FTx [1, 3, 12, 14, 16, 21, 22] 5 ⟨.code (sub B7 pAR6), [.block 3, .seq (sub B7 pAR9)], [(1, .lp 0 0), (3, .lp 1 0), (12, .lp 2 0), (14, .lp 3 0), (16, .sl y.fst (itemsOf xs).length y.snd), (21, .lp 4 0), (22, .v (.int .i64 0))], [((cwAR g s k sz sl of gp lt ea d wk A n cap), 28), ((cwAR g s k sz sl of gp lt ea d wk (some M) n cM), 28), ([.io .i64 (V7.mk (Cf.mk g s k sz sl of gp lt ea d) wk xs n A1 c1 A2 c2).c.g, .io .i64 (V7.mk (Cf.mk g s k sz sl of gp lt ea d) wk xs n A1 c1 A2 c2).c.s, .io .i64 (V7.mk (Cf.mk g s k sz sl of gp lt ea d) wk xs n A1 c1 A2 c2).c.k, .io .i64 (V7.mk (Cf.mk g s k sz sl of gp lt ea d) wk xs n A1 c1 A2 c2).c.sz, .io .i64 (V7.mk (Cf.mk g s k sz sl of gp lt ea d) wk xs n A1 c1 A2 c2).c.sl, .io .i64 (V7.mk (Cf.mk g s k sz sl of gp lt ea d) wk xs n A1 c1 A2 c2).c.of, .io .i64 (V7.mk (Cf.mk g s k sz sl of gp lt ea d) wk xs n A1 c1 A2 c2).c.gp, .io .i64 (V7.mk (Cf.mk g s k sz sl of gp lt ea d) wk xs n A1 c1 A2 c2).c.lt, .io .i64 (V7.mk (Cf.mk g s k sz sl of gp lt ea d) wk xs n A1 c1 A2 c2).c.ea, .bo (V7.mk (Cf.mk g s k sz sl of gp lt ea d) wk xs n A1 c1 A2 c2).c.d, .io .i64 wk, .sl A1 n c1], 28), ([.io .i64 (V7.mk (Cf.mk g s k sz sl of gp lt ea d) wk xs n A1 c1 A2 c2).c.g, .io .i64 (V7.mk (Cf.mk g s k sz sl of gp lt ea d) wk xs n A1 c1 A2 c2).c.s, .io .i64 (V7.mk (Cf.mk g s k sz sl of gp lt ea d) wk xs n A1 c1 A2 c2).c.k, .io .i64 (V7.mk (Cf.mk g s k sz sl of gp lt ea d) wk xs n A1 c1 A2 c2).c.sz, .io .i64 (V7.mk (Cf.mk g s k sz sl of gp lt ea d) wk xs n A1 c1 A2 c2).c.sl, .io .i64 (V7.mk (Cf.mk g s k sz sl of gp lt ea d) wk xs n A1 c1 A2 c2).c.of, .io .i64 (V7.mk (Cf.mk g s k sz sl of gp lt ea d) wk xs n A1 c1 A2 c2).c.gp, .io .i64 (V7.mk (Cf.mk g s k sz sl of gp lt ea d) wk xs n A1 c1 A2 c2).c.lt, .io .i64 (V7.mk (Cf.mk g s k sz sl of gp lt ea d) wk xs n A1 c1 A2 c2).c.ea, .bo (V7.mk (Cf.mk g s k sz sl of gp lt ea d) wk xs n A1 c1 A2 c2).c.d, .io .i64 wk, .sl A2 n c2], 28), ((cwAR g s k sz sl of gp lt ea d wk A n cap), 28)]⟩ ?_
   refine At.canonT [22] _ rfl ?_
   refine At.canL _ rfl ?_
   refine At.slLoc _ rfl ?_
   exact At.mono (fun ρ w1 h => ⟨h.2.1.perm (perm4 _ _ _ _), hS⟩) (rest (A, cap))
  refine zR 171 b3 ?_
  refine zT FTy FTx [1, 3, 12, 14, 16, 21, 173, 174] 5 ⟨pops B7 pAR11 2, [.seq (sub B7 pAR12), .seq (sub B7 pAR13)], [(1, .lp 0 0), (3, .lp 1 0), (12, .lp 2 0), (14, .lp 3 0), (16, .sl y.fst (itemsOf xs).length y.snd), (21, .lp 4 0), (173, .agg [.io .i64 x.c.g, .io .i64 x.c.s, .io .i64 x.c.k, .io .i64 x.c.sz, .io .i64 x.c.sl, .io .i64 x.c.of, .io .i64 x.c.gp, .io .i64 x.c.lt, .io .i64 x.c.ea, .bo x.c.d, .io .i64 x.wk, .sl x.A1 x.m x.k1]), (174, .agg zAR0)], [((cwAR g s k sz sl of gp lt ea d wk A n cap), 28), ((cwAR g s k sz sl of gp lt ea d wk (some M) n cM), 28), ([.io .i64 x.c.g, .io .i64 x.c.s, .io .i64 x.c.k, .io .i64 x.c.sz, .io .i64 x.c.sl, .io .i64 x.c.of, .io .i64 x.c.gp, .io .i64 x.c.lt, .io .i64 x.c.ea, .bo x.c.d, .io .i64 x.wk, .sl x.A1 x.m x.k1], 28), ([.io .i64 x.c.g, .io .i64 x.c.s, .io .i64 x.c.k, .io .i64 x.c.sz, .io .i64 x.c.sl, .io .i64 x.c.of, .io .i64 x.c.gp, .io .i64 x.c.lt, .io .i64 x.c.ea, .bo x.c.d, .io .i64 x.wk, .sl x.A2 x.m x.k2], 28), (zAR0, 28)]⟩ ?_
  obtain ⟨hc, rfl⟩ := hgd.resolve_left fun h => absurd h.1 (by simp_all)
  refine zC FTy 11 [.agg (scB cf0 0 none 0 0), .agg zAR0] (.v (.bool true)) (fun _ _ w1 hi hf => (same_go 0 0 0 0 0 0 0 0 0 false 0 none 0 0 [] 0 0 0 0 0 0 0 0 0 false 0 none 0 0 [] w1 sls_nil sls_nil (by omega) (by omega)).mono fun e w2 h => by rw [decide_eq_true ⟨rfl, rfl, rfl⟩] at h; exact h) ?_
  refine zT FTy FTx [1, 3, 12, 14, 16, 21, 22] 5 ⟨.code (sub B7 pAR6), [.block 3, .seq (sub B7 pAR9)], [(1, .lp 0 0), (3, .lp 1 0), (12, .lp 2 0), (14, .lp 3 0), (16, .sl y.fst (itemsOf xs).length y.snd), (21, .lp 4 0), (22, .v (.int .i64 0))], [((cwAR g s k sz sl of gp lt ea d wk A n cap), 28), ((cwAR g s k sz sl of gp lt ea d wk (some M) n cM), 28), (zAR1, 28), (zAR1, 28), (zAR0, 28)]⟩ ?_
  refine At.canonT [22] _ rfl ?_
  refine At.canL _ rfl ?_
  refine At.slLoc _ rfl ?_
  exact At.mono (fun ρ w1 h => ⟨h.2.1.perm (perm4 _ _ _ _), sls_nil⟩) (rest (none, 0))
 refine At.pure fun hW => ?_
 have hxl := good_len hl hgd
 have hxm := good_le hgd
 refine At.loop (σ := Nat × List Value) (sub B7 [1, 1, 1, 1, 1, 1, 1, 1, 1, 1, 1, 1, 1, 1, 1, 1, 1, 0, 1, 4, 4]) (fun u => [(1, .lp 0 0), (3, .lp 1 0), (12, .lp 2 0), (14, .lp 3 0), (16, .sl y.1 (itemsOf xs).length y.2), (21, .lp 4 0), (22, .io .i64 (u.1 : Int))]) (fun _ => [((cwAR g s k sz sl of gp lt ea d wk A n cap), 28), ((cwAR g s k sz sl of gp lt ea d wk (some M) n cM), 28), (scB x.c x.wk x.A1 x.m x.k1, 28), (scB x.c x.wk x.A2 x.m x.k2, 28), (scB x.c x.wk v.1 x.m v.2, 28)]) (fun u ρ w1 => Rws w.heap.size [⟨41, 10, x.A1, x.m, x.k1, u.2⟩, ⟨38, 5, y.1, (itemsOf xs).length, y.2, itW (itemsOf xs)⟩, ⟨41, 10, x.A2, x.m, x.k2, stW x.zs⟩, ⟨41, 10, some M, n + 1, cM, stW xs ++ markW⟩] ρ w1 ∧ u.1 ≤ x.m) (fun u => x.m - u.1) (0, stW x.zs) (by kernel_rfl) (by unfold subFr; kernel_rfl) (by kernel_rfl) (fun _ _ _ _ h => ⟨h, Nat.zero_le _⟩) ?_
 rintro ⟨i, ys⟩
 refine At.pure fun hi => ?_
 simp only at hi
 dsimp only
 refine zTq Rws.stable Rws.fewer [1, 3, 12, 14, 16, 21, 22, 181] 5 ?_
 rcases Bool.eq_false_or_eq_true (decide ((↑i : Int) < (↑x.m : Int))) with b0 | b0
 ·refine zR 181 b0 ?_
  let kn2 : K := .next (Sx.Next w.heap.size w Tryz.f7.ntmps (fun u => [(1, .lp 0 0), (3, .lp 1 0), (12, .lp 2 0), (14, .lp 3 0), (16, .sl y.fst (itemsOf xs).length y.snd), (21, .lp 4 0), (22, .io .i64 (↑u.fst : Int))]) (fun x_1 => [((cwAR g s k sz sl of gp lt ea d wk A n cap), 28), ((cwAR g s k sz sl of gp lt ea d wk (some M) n cM), 28), (scB x.c x.wk x.A1 x.m x.k1, 28), (scB x.c x.wk x.A2 x.m x.k2, 28), (scB x.c x.wk v.fst x.m v.snd, 28)]) (fun u ρ w1 => Rws w.heap.size [Rw.mk 41 10 x.A1 x.m x.k1 u.snd, Rw.mk 38 5 y.fst (itemsOf xs).length y.snd (itW (itemsOf xs)), Rw.mk 41 10 x.A2 x.m x.k2 (stW x.zs), Rw.mk 41 10 (some M) (n + 1) cM (stW xs ++ markW)] ρ w1 ∧ u.fst ≤ x.m) (fun u => x.m - u.fst) (i, ys))
  refine zT Rws.stable Rws.fewer [1, 3, 12, 14, 16, 21, 22, 185, 186, 187] 5 ⟨pops B7 [1, 1, 1, 1, 1, 1, 1, 1, 1, 1, 1, 1, 1, 1, 1, 1, 1, 0, 1, 4, 4, 1, 0, 4] 4, [.block 4, .seq (sub B7 [1, 1, 1, 1, 1, 1, 1, 1, 1, 1, 1, 1, 1, 1, 1, 1, 1, 0, 1, 4, 4, 1, 1]), kn2, .block 3, .seq (sub B7 pAR9)], [(1, .lp 0 0), (3, .lp 1 0), (12, .lp 2 0), (14, .lp 3 0), (16, .sl y.fst (itemsOf xs).length y.snd), (21, .lp 4 0), (22, .io .i64 (↑i : Int)), (185, .sl x.A1 x.m x.k1), (186, .io .i64 (↑i : Int)), (187, .agg [.v (.int .i64 0), .v (.int .i64 0), .v (.string (ByteArray.mk #[])), .v (.int .i64 0), .v (.int .i64 0), .v (.int .i64 0), .v (.int .i64 0), .v (.int .i64 0), .v (.int .i64 99), .v (.int IntKind.u32 0)])], [((cwAR g s k sz sl of gp lt ea d wk A n cap), 28), ((cwAR g s k sz sl of gp lt ea d wk (some M) n cM), 28), ([.io .i64 x.c.g, .io .i64 x.c.s, .io .i64 x.c.k, .io .i64 x.c.sz, .io .i64 x.c.sl, .io .i64 x.c.of, .io .i64 x.c.gp, .io .i64 x.c.lt, .io .i64 x.c.ea, .bo x.c.d, .io .i64 x.wk, .sl x.A1 x.m x.k1], 28), ([.io .i64 x.c.g, .io .i64 x.c.s, .io .i64 x.c.k, .io .i64 x.c.sz, .io .i64 x.c.sl, .io .i64 x.c.of, .io .i64 x.c.gp, .io .i64 x.c.lt, .io .i64 x.c.ea, .bo x.c.d, .io .i64 x.wk, .sl x.A2 x.m x.k2], 28), ([.io .i64 x.c.g, .io .i64 x.c.s, .io .i64 x.c.k, .io .i64 x.c.sz, .io .i64 x.c.sl, .io .i64 x.c.of, .io .i64 x.c.gp, .io .i64 x.c.lt, .io .i64 x.c.ea, .bo x.c.d, .io .i64 x.wk, .sl v.fst x.m v.snd], 28)]⟩ ?_
  have hin : i < x.m := by have := of_decide_eq_true b0; omega
  clear b0
  refine At.know (p := ∃ a, x.A1 = some a) (fun ρ w1 h => h.some (.head _) (show 0 < x.m by omega)) fun ⟨a, ha⟩ => ?_
  rw [ha]
  refine At.idx a x.m 10 (i : Int) (by kernel_rfl) (by omega) (by omega) Rws.stable ?_
  refine At.stRN ((i : Int).toNat * 10) (a.add ((i : Int).toNat * 10)) goneS (by kernel_rfl) rfl (by rw [Int.toNat_natCast]; show i * 10 + 10 ≤ x.m * 10; omega) (fun zs => ?_)
  rw [← ha]
  refine zT Rws.stable Rws.fewer [1, 3, 12, 14, 16, 21, 22] 5 ⟨.exit .normal, [kn2, .block 3, .seq (sub B7 pAR9)], [(1, .lp 0 0), (3, .lp 1 0), (12, .lp 2 0), (14, .lp 3 0), (16, .sl y.fst (itemsOf xs).length y.snd), (21, .lp 4 0), (22, .io .i64 (IntKind.i64.wrap ((↑i : Int) + 1)))], [((cwAR g s k sz sl of gp lt ea d wk A n cap), 28), ((cwAR g s k sz sl of gp lt ea d wk (some M) n cM), 28), ([.io .i64 x.c.g, .io .i64 x.c.s, .io .i64 x.c.k, .io .i64 x.c.sz, .io .i64 x.c.sl, .io .i64 x.c.of, .io .i64 x.c.gp, .io .i64 x.c.lt, .io .i64 x.c.ea, .bo x.c.d, .io .i64 x.wk, .sl x.A1 x.m x.k1], 28), ([.io .i64 x.c.g, .io .i64 x.c.s, .io .i64 x.c.k, .io .i64 x.c.sz, .io .i64 x.c.sl, .io .i64 x.c.of, .io .i64 x.c.gp, .io .i64 x.c.lt, .io .i64 x.c.ea, .bo x.c.d, .io .i64 x.wk, .sl x.A2 x.m x.k2], 28), ([.io .i64 x.c.g, .io .i64 x.c.s, .io .i64 x.c.k, .io .i64 x.c.sz, .io .i64 x.c.sl, .io .i64 x.c.of, .io .i64 x.c.gp, .io .i64 x.c.lt, .io .i64 x.c.ea, .bo x.c.d, .io .i64 x.wk, .sl v.fst x.m v.snd], 28)]⟩ ?_
  have hw3 : IntKind.i64.wrap ((i : Int) + 1) = ((i + 1 : Nat) : Int) := by
   rw [wrap63 (by omega) (by omega)]
   omega
  rw [hw3]
  refine At.next (σ := Nat × List Value) (i + 1, zs) rfl rfl (by unfold subFr; kernel_rfl) (by kernel_rfl) (fun _ _ _ _ h => ⟨h, hin⟩) ?_
  show x.m - (i + 1) < x.m - i
  omega
 refine zR 181 b0 ?_
 refine zT Rws.stable Rws.fewer [1, 3, 14, 16, 21, 23] 5 ⟨.code (sub B7 [1, 1, 1, 1, 1, 1, 1, 1, 1, 1, 1, 1, 1, 1, 1, 1, 1, 1, 0, 1, 4]), [.block 5, .seq (sub B7 pAR8)], [(1, .lp 0 0), (3, .lp 1 0), (14, .lp 3 0), (16, .sl y.fst (itemsOf xs).length y.snd), (21, .lp 4 0), (23, .v (.int .i64 0))], [((cwAR g s k sz sl of gp lt ea d wk A n cap), 28), ((cwAR g s k sz sl of gp lt ea d wk (some M) n cM), 28), ([.io .i64 x.c.g, .io .i64 x.c.s, .io .i64 x.c.k, .io .i64 x.c.sz, .io .i64 x.c.sl, .io .i64 x.c.of, .io .i64 x.c.gp, .io .i64 x.c.lt, .io .i64 x.c.ea, .bo x.c.d, .io .i64 x.wk, .sl x.A1 x.m x.k1], 28), ([.io .i64 x.c.g, .io .i64 x.c.s, .io .i64 x.c.k, .io .i64 x.c.sz, .io .i64 x.c.sl, .io .i64 x.c.of, .io .i64 x.c.gp, .io .i64 x.c.lt, .io .i64 x.c.ea, .bo x.c.d, .io .i64 x.wk, .sl x.A2 x.m x.k2], 28), ([.io .i64 x.c.g, .io .i64 x.c.s, .io .i64 x.c.k, .io .i64 x.c.sz, .io .i64 x.c.sl, .io .i64 x.c.of, .io .i64 x.c.gp, .io .i64 x.c.lt, .io .i64 x.c.ea, .bo x.c.d, .io .i64 x.wk, .sl v.fst x.m v.snd], 28)]⟩ ?_
 refine At.mono (F' := Rws w.heap.size [⟨38, 5, y.1, (itemsOf xs).length, y.2, itW (itemsOf xs)⟩, ⟨41, 10, x.A2, x.m, x.k2, stW x.zs⟩, ⟨41, 10, some M, n + 1, cM, stW xs ++ markW⟩]) (fun ρ w1 h => h.sub (List.sublist_cons_self ..)) ?_
 refine At.canonT [23] _ rfl ?_
 refine At.loop (σ := Nat × List Value) (sub B7 [1, 1, 1, 1, 1, 1, 1, 1, 1, 1, 1, 1, 1, 1, 1, 1, 1, 1, 0, 1, 4, 4]) (fun u => [(1, .lp 0 0), (3, .lp 1 0), (14, .lp 3 0), (16, .sl y.1 (itemsOf xs).length y.2), (21, .lp 4 0), (23, .io .i64 (u.1 : Int))]) (fun _ => [((cwAR g s k sz sl of gp lt ea d wk A n cap), 28), ((cwAR g s k sz sl of gp lt ea d wk (some M) n cM), 28), (scB x.c x.wk x.A1 x.m x.k1, 28), (scB x.c x.wk x.A2 x.m x.k2, 28), (scB x.c x.wk v.1 x.m v.2, 28)]) (fun u ρ w1 => Rws w.heap.size [⟨38, 5, y.1, (itemsOf xs).length, y.2, u.2⟩, ⟨41, 10, x.A2, x.m, x.k2, stW x.zs⟩, ⟨41, 10, some M, n + 1, cM, stW xs ++ markW⟩] ρ w1 ∧ u.1 ≤ (itemsOf xs).length) (fun u => (itemsOf xs).length - u.1) (0, itW (itemsOf xs)) (by kernel_rfl) (by unfold subFr; kernel_rfl) (by kernel_rfl) (fun _ _ _ _ h => ⟨h, Nat.zero_le _⟩) ?_
 rintro ⟨i, zs0⟩
 refine At.pure fun hi => ?_
 simp only at hi
 dsimp only
 have hil : (itemsOf xs).length ≤ n := hl ▸ List.length_filter_le ..
 refine zTq Rws.stable Rws.fewer [1, 3, 14, 16, 21, 23, 192] 5 ?_
 rcases Bool.eq_false_or_eq_true (decide ((↑i : Int) < (↑(itemsOf xs).length : Int))) with b0 | b0
 ·refine zR 192 b0 ?_
  let kn3 : K := .next (Sx.Next w.heap.size w Tryz.f7.ntmps (fun u => [(1, .lp 0 0), (3, .lp 1 0), (14, .lp 3 0), (16, .sl y.fst (itemsOf xs).length y.snd), (21, .lp 4 0), (23, .io .i64 (↑u.fst : Int))]) (fun x_1 => [((cwAR g s k sz sl of gp lt ea d wk A n cap), 28), ((cwAR g s k sz sl of gp lt ea d wk (some M) n cM), 28), (scB x.c x.wk x.A1 x.m x.k1, 28), (scB x.c x.wk x.A2 x.m x.k2, 28), (scB x.c x.wk v.fst x.m v.snd, 28)]) (fun u ρ w1 => Rws w.heap.size [Rw.mk 38 5 y.fst (itemsOf xs).length y.snd u.snd, Rw.mk 41 10 x.A2 x.m x.k2 (stW x.zs), Rw.mk 41 10 (some M) (n + 1) cM (stW xs ++ markW)] ρ w1 ∧ u.fst ≤ (itemsOf xs).length) (fun u => (itemsOf xs).length - u.fst) (i, zs0))
  refine zT Rws.stable Rws.fewer [1, 3, 14, 16, 21, 23, 195, 196, 197] 5 ⟨pops B7 [1, 1, 1, 1, 1, 1, 1, 1, 1, 1, 1, 1, 1, 1, 1, 1, 1, 1, 0, 1, 4, 4, 1, 0, 4] 3, [.block 6, .seq (sub B7 [1, 1, 1, 1, 1, 1, 1, 1, 1, 1, 1, 1, 1, 1, 1, 1, 1, 1, 0, 1, 4, 4, 1, 1]), kn3, .block 5, .seq (sub B7 pAR8)], [(1, .lp 0 0), (3, .lp 1 0), (14, .lp 3 0), (16, .sl y.fst (itemsOf xs).length y.snd), (21, .lp 4 0), (23, .io .i64 (↑i : Int)), (195, .sl y.fst (itemsOf xs).length y.snd), (196, .io .i64 (↑i : Int)), (197, .agg [.v (.int .i64 0), .v (.string (ByteArray.mk #[])), .v (.int .i64 0), .v (.int .i64 0), .v (.int .i64 0)])], [((cwAR g s k sz sl of gp lt ea d wk A n cap), 28), ((cwAR g s k sz sl of gp lt ea d wk (some M) n cM), 28), ([.io .i64 x.c.g, .io .i64 x.c.s, .io .i64 x.c.k, .io .i64 x.c.sz, .io .i64 x.c.sl, .io .i64 x.c.of, .io .i64 x.c.gp, .io .i64 x.c.lt, .io .i64 x.c.ea, .bo x.c.d, .io .i64 x.wk, .sl x.A1 x.m x.k1], 28), ([.io .i64 x.c.g, .io .i64 x.c.s, .io .i64 x.c.k, .io .i64 x.c.sz, .io .i64 x.c.sl, .io .i64 x.c.of, .io .i64 x.c.gp, .io .i64 x.c.lt, .io .i64 x.c.ea, .bo x.c.d, .io .i64 x.wk, .sl x.A2 x.m x.k2], 28), ([.io .i64 x.c.g, .io .i64 x.c.s, .io .i64 x.c.k, .io .i64 x.c.sz, .io .i64 x.c.sl, .io .i64 x.c.of, .io .i64 x.c.gp, .io .i64 x.c.lt, .io .i64 x.c.ea, .bo x.c.d, .io .i64 x.wk, .sl v.fst x.m v.snd], 28)]⟩ ?_
  have hin : i < (itemsOf xs).length := by have := of_decide_eq_true b0; omega
  clear b0
  refine At.know (p := ∃ a, y.1 = some a) (fun ρ w1 h => h.some (.head _) (show 0 < (itemsOf xs).length by omega)) fun ⟨a, ha⟩ => ?_
  rw [ha]
  refine At.idx a (itemsOf xs).length 5 (i : Int) (by kernel_rfl) (by omega) (by omega) Rws.stable ?_
  refine At.stRN ((i : Int).toNat * 5) (a.add ((i : Int).toNat * 5)) goneI (by kernel_rfl) rfl (by rw [Int.toNat_natCast]; show i * 5 + 5 ≤ (itemsOf xs).length * 5; omega) (fun zs => ?_)
  rw [← ha]
  refine zT Rws.stable Rws.fewer [1, 3, 14, 16, 21, 23] 5 ⟨.exit .normal, [kn3, .block 5, .seq (sub B7 pAR8)], [(1, .lp 0 0), (3, .lp 1 0), (14, .lp 3 0), (16, .sl y.fst (itemsOf xs).length y.snd), (21, .lp 4 0), (23, .io .i64 (IntKind.i64.wrap ((↑i : Int) + 1)))], [((cwAR g s k sz sl of gp lt ea d wk A n cap), 28), ((cwAR g s k sz sl of gp lt ea d wk (some M) n cM), 28), ([.io .i64 x.c.g, .io .i64 x.c.s, .io .i64 x.c.k, .io .i64 x.c.sz, .io .i64 x.c.sl, .io .i64 x.c.of, .io .i64 x.c.gp, .io .i64 x.c.lt, .io .i64 x.c.ea, .bo x.c.d, .io .i64 x.wk, .sl x.A1 x.m x.k1], 28), ([.io .i64 x.c.g, .io .i64 x.c.s, .io .i64 x.c.k, .io .i64 x.c.sz, .io .i64 x.c.sl, .io .i64 x.c.of, .io .i64 x.c.gp, .io .i64 x.c.lt, .io .i64 x.c.ea, .bo x.c.d, .io .i64 x.wk, .sl x.A2 x.m x.k2], 28), ([.io .i64 x.c.g, .io .i64 x.c.s, .io .i64 x.c.k, .io .i64 x.c.sz, .io .i64 x.c.sl, .io .i64 x.c.of, .io .i64 x.c.gp, .io .i64 x.c.lt, .io .i64 x.c.ea, .bo x.c.d, .io .i64 x.wk, .sl v.fst x.m v.snd], 28)]⟩ ?_
  have hw3 : IntKind.i64.wrap ((i : Int) + 1) = ((i + 1 : Nat) : Int) := by
   rw [wrap63 (by omega) (by omega)]
   omega
  rw [hw3]
  refine At.next (σ := Nat × List Value) (i + 1, zs) rfl rfl (by unfold subFr; kernel_rfl) (by kernel_rfl) (fun _ _ _ _ h => ⟨h, hin⟩) ?_
  show (itemsOf xs).length - (i + 1) < (itemsOf xs).length - i
  omega
 refine zR 192 b0 ?_
 refine zT Rws.stable Rws.fewer [1, 3, 199, 200] 2 ⟨pops B7 pAR7 2, [.seq (sub B7 [1, 0, 1, 2, 1])], [(1, .lp 0 0), (3, .lp 1 0), (199, .agg [.io .i64 x.c.g, .io .i64 x.c.s, .io .i64 x.c.k, .io .i64 x.c.sz, .io .i64 x.c.sl, .io .i64 x.c.of, .io .i64 x.c.gp, .io .i64 x.c.lt, .io .i64 x.c.ea, .bo x.c.d, .io .i64 x.wk, .sl x.A2 x.m x.k2]), (200, .agg [.io .i64 x.c.g, .io .i64 x.c.s, .io .i64 x.c.k, .io .i64 x.c.sz, .io .i64 x.c.sl, .io .i64 x.c.of, .io .i64 x.c.gp, .io .i64 x.c.lt, .io .i64 x.c.ea, .bo x.c.d, .io .i64 x.wk, .sl v.fst x.m v.snd])], [((cwAR g s k sz sl of gp lt ea d wk A n cap), 28), ((cwAR g s k sz sl of gp lt ea d wk (some M) n cM), 28)]⟩ ?_
 refine At.mono (F' := Rws w.heap.size [⟨41, 10, x.A2, x.m, x.k2, stW x.zs⟩, ⟨41, 10, some M, n + 1, cM, stW xs ++ markW⟩]) (fun ρ w1 h => h.sub (List.sublist_cons_self ..)) ?_
 refine zC Rws.stable 11 [.agg (scB x.c x.wk x.A2 x.m x.k2), .agg (scB x.c x.wk v.1 x.m v.2)] (.v (.bool true)) (fun _ _ w1 hi hf => (same_go x.c.g x.c.s x.c.k x.c.sz x.c.sl x.c.of x.c.gp x.c.lt x.c.ea x.c.d x.wk x.A2 x.m x.k2 x.zs x.c.g x.c.s x.c.k x.c.sz x.c.sl x.c.of x.c.gp x.c.lt x.c.ea x.c.d x.wk v.1 x.m v.2 x.zs w1 (rws_sls hf (.head _) hxl) (hW.below hi.mem.below) (by omega) (by omega)).mono fun e w2 h => by rw [decide_eq_true ⟨rfl, rfl, rfl⟩] at h; exact h) ?_
 refine zT Rws.stable Rws.fewer [202, 203, 204] 0 ⟨pops B7 pAR7 6, [.seq (sub B7 [1, 0, 1, 2, 1])], [(202, .v (.bool true)), (203, .agg (cwAR g s k sz sl of gp lt ea d wk (some M) n cM)), (204, .agg (cwAR g s k sz sl of gp lt ea d wk A n cap))], []⟩ ?_
 refine zC Rws.stable 25 [.agg (cwAR g s k sz sl of gp lt ea d wk (some M) n cM), .agg (cwAR g s k sz sl of gp lt ea d wk A n cap)] (.v (.bool true)) (fun _ _ w1 hi hf => kept_any g s k sz sl of gp lt ea d wk M n cM A cap xs w1 (lent_sls hf (.tail _ (.head _)) hl) (hS.below hi.mem.below) (by omega) hcM (lent_mark hf (.tail _ (.head _)) hl)) ?_
 refine zT Rws.stable Rws.fewer [207] 0 ⟨pops B7 pAR7 9, [.seq (sub B7 [1, 0, 1, 2, 1])], [(207, .v (.bool true))], []⟩ ?_
 refine zC Rws.stable 8 [] (.v (.bool true)) (fun _ _ w1 hi _ => known_true w1 (hw.below hi.mem.below)) ?_
 refine zT Rws.stable Rws.fewer [2] 0 ⟨.exit .ret, [], [(2, .v (.bool true))], []⟩ ?_
 refine zE (.v (.bool true)) ?_
 intro ρ w9 hm' hf
 exact ⟨rfl, hm'.below⟩
end Go.Proofs.YthfpekhpeiebjaaGreatDoor
end
