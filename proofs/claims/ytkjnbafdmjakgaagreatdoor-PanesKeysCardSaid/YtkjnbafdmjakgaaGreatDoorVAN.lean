/- Joined texts: TS, TT, TU, TV. -/
import Derived.Test.YtkjnbafdmjakgaaGreatDoorVAM
set_option linter.unusedSimpArgs false
set_option linter.unusedVariables false
namespace Go.Sx
open Go
def pAN0 : List Nat := [4, 1, 1, 1, 1, 4, 4, 4, 0, 4, 4, 1, 4, 1, 1, 0, 1]
def pAN1 : List Nat := [4, 1, 1, 1, 1, 4, 4, 4, 0, 4, 4, 1, 4, 1, 1, 1]
def pAN2 : List Nat := [4, 1, 1, 1, 1, 4, 4, 4, 1, 1, 1, 1, 1, 1, 3]
def pAN3 : List Nat := [4, 1, 1, 1, 1, 4, 4, 4, 1, 1, 1, 1, 0, 0]
def pAN4 : List Nat := [4, 1, 1, 1, 1, 4, 4, 4, 1, 1, 1, 1, 0, 1]
def pAN5 : List Nat := [4, 1, 1, 1, 1, 4, 4, 4, 0, 4, 4, 1, 4, 1]
def pAN6 : List Nat := [4, 1, 1, 1, 1, 4, 4, 4, 1, 1, 1, 1, 1]
def pAN7 : List Nat := [4, 1, 1, 1, 1, 4, 4, 4, 1]
def pAN8 : List Nat := [1, 1, 1, 1, 0, 1, 4]
end Go.Sx
section
namespace Go.Proofs.YtkjnbafdmjakgaaGreatDoor
open Go.RowKit Go.Sx
def locLs (mb : Nat) (A : Option Addr) (n c : Nat) : Sx.Loc := [([.sl A n c], 22), ([.v (.pointer (some ⟨mb, 0, none⟩))], 55), ([.v (.bool false)], 4), ([.fn (.func 53) []], 106)]
def locLsB (mb : Nat) (A : Option Addr) (n c : Nat) (v : Pn) : Sx.Loc := [([.sl A n c], 22), ([.v (.pointer (some ⟨mb, 0, none⟩))], 55), ([.v (.bool false)], 4), ([.fn (.func 53) []], 106), ([.so (mkB v.key), .io .i64 v.st, .io .i64 v.en, .io .i64 v.kd, .io .i64 v.nt, .io .i64 v.ct, .io .i64 v.sm, .io .i64 v.mn, .io .i64 v.mx], 40)]
def frK7 : Fr := [(7, .lp 0 0)]
def frLB : Fr := [(7, .lp 0 0), (9, .lp 4 0)]
noncomputable def B7 : Code := (Tryz.f7.body).getD .skip
noncomputable def BLa : Code := match sub B7 pAN8 with | .rangeFunc _ _ a _ => a | _ => .skip
noncomputable def BLb : Code := match sub B7 pAN8 with | .rangeFunc _ _ _ b => b | _ => .skip
section
variable {P : Program} {N : Nat} {w0 : World} {ntm : Nat}
theorem roundOf2 {l : Nat} {fid : FuncId} {tmps : Array Value} {assign body : Code} {w : World} {R : Ending → World → Prop} {ρ : List Nat} {loc loc' : Sx.Loc} {fr fr' : Fr} {r : Loop} {F0 : List Nat → World → Prop}
  (hm : WInv N w0 ρ loc w) (hF : F0 ρ w) (hsz : tmps.size = ntm) (hfr : ∀ t s, Sx.look fr t = some s → tmps[t]? = some (s.den ρ)) (hfa : flat assign = true) (hfb : flat body = true)
  (hrec : ∀ ρ w, F0 ρ w → w.heap[l]? = some (.loop r)) (hst : r.state = .ready)
  (asg : @At (Md.rnd l) P (fun _ _ _ => False) N w0 ntm F0 ⟨.code assign, [.next (fun a' w' => ∃ ρ', @Sx.Inv (Md.rnd l) N w0 ntm ρ' fr' loc' a' w' ∧ F0 ρ' w')], fr, loc⟩)
  (h : ∀ ρ' w', WInv N w0 ρ' loc' w' → F0 ρ' w' → ∀ a', @AInv (Md.rnd l) ntm ρ' fr' a' → @CW (Md.rnd l) P body (roundPost P l R) a' (w'.putObj l (.loop { r with state := .busy }))) : RoundIn Fence.wide 0 P l fid tmps assign body w R := by
 refine roundIn_of_wpIn trivial ?_
 have h1 := asg ρ { tmps := tmps, defers := [] } w (@Sx.Inv.mk (Md.rnd l) _ _ _ _ _ _ _ _ (@AInv.mk (Md.rnd l) _ _ _ _ rfl hsz hfr) hm) hF
 have h2 : @CW (Md.rnd l) P assign (Exit.then (fun a' w' => ∃ ρ', @Sx.Inv (Md.rnd l) N w0 ntm ρ' fr' loc' a' w' ∧ F0 ρ' w') (fun _ _ _ => False)) { tmps := tmps, defers := [] } w := h1
 refine wpIn_mono ((@CW_some P _ (Md.rnd l) l rfl assign _ _).1 h2 hfa (fun ⟨_, _, h0⟩ => h0)) ?_
 intro e a' w' hq
 cases e with
 | normal =>
  obtain ⟨ρ', hi, hf⟩ := hq
  have hw := hrec ρ' w' hf
  refine ⟨_, run_beginRound hw hst, ?_⟩
  exact (@CW_some P _ (Md.rnd l) l rfl body _ _).1 (h ρ' w' (@Sx.Inv.mem (Md.rnd l) _ _ _ _ _ _ _ _ hi) hf a' (@Sx.Inv.act (Md.rnd l) _ _ _ _ _ _ _ _ hi)) hfb (fun ⟨_, _, h0⟩ => h0)
 | _ => exact hq
end
set_option maxHeartbeats 20000000 in
set_option maxRecDepth 100000 in
theorem lbody [Md] {N : Nat} {w0 : World} {ρ1 : List Nat} (h4 : ρ1.length = 4) {D mb l : Nat} {o : Obj} (hoc : ∀ c t f, o ≠ .cells c t f) {L : List Sx.Rw} {T : List (Fc AtK Pn)} {R : Ending → World → Prop} (v : Pn) (E : List Pn) (A : Option Addr) (n c : Nat) (hn : n ≤ 100000)
  (hend : ∀ (A' : Option Addr) (c' : Nat) (ρ' : List Nat) (w' : World), WInv N w0 ρ' (locLs mb A' (n + 1) c') w' → BF kw2 vw2 N ρ1 D o (⟨40, 9, A', n + 1, c', pv (E ++ [v])⟩ :: L) T ρ' w' →
   ∃ r, w'.heap[l]? = some (.loop r) ∧ R (.returned (.bool true)) (w'.putObj l (.loop { r with state := .ready, pending := none }))) :
  At Tryz.prog (roundPost Tryz.prog l R) N w0 Tryz.f7.ntmps (BF kw2 vw2 N ρ1 D o (⟨40, 9, A, n, c, pv E⟩ :: L) T) ⟨.code BLb, [], frLB, locLsB mb A n c v⟩ := by
 have h4 : ∀ {L : List Sx.Rw}, FewerK 4 (BF kw2 vw2 N ρ1 D o L T) := h4 ▸ BF.fewer
 refine zT BF.stable h4 [7, 33, 35] 6 ⟨pops BLb [4] 3, [.block 3], [(7, .lp 0 0), (33, .sl A n c), (35, .ls 5 0 1 1)], [([.sl A n c], 22), ([.v (.pointer (some (Addr.mk mb 0 none)))], 55), ([.v (.bool false)], 4), ([.fn (Fn.func 53) []], 106), ([.so (mkB v.key), .io .i64 v.st, .io .i64 v.en, .io .i64 v.kd, .io .i64 v.nt, .io .i64 v.ct, .io .i64 v.sm, .io .i64 v.mn, .io .i64 v.mx], 40), ([.so (mkB v.key), .io .i64 v.st, .io .i64 v.en, .io .i64 v.kd, .io .i64 v.nt, .io .i64 v.ct, .io .i64 v.sm, .io .i64 v.mn, .io .i64 v.mx], 40)]⟩ ?_
 refine At.appVX (F' := fun A' c' => BF kw2 vw2 N ρ1 D o (⟨40, 9, A', n + 1, c', pv (E ++ [v])⟩ :: L) T) 22 40 9 80 A n c 1 [.so (mkB v.key), .io .i64 v.st, .io .i64 v.en, .io .i64 v.kd, .io .i64 v.nt, .io .i64 v.ct, .io .i64 v.sm, .io .i64 v.mn, .io .i64 v.mx] (pv E) v.cells (by kernel_rfl) (fun _ => rfl) (by omega) (by simp only [maxLen]; omega) (fun ρ w1 hf => hf.1.1.1 _ (List.mem_cons_self ..)) (fun ρ w1 w2 A' c' hm hf hr hg ho => hf.grown (y := ⟨40, 9, A', n + 1, c', pv (E ++ [v])⟩) (by rw [pv_app]; exact hr) hg (ho.imp id .inl) hoc) (fun A' c' => ?_)
 refine zT BF.stable h4 [7] 4 ⟨.exit .normal, [], [(7, .lp 0 0)], [([.sl A' (n + 1) c'], 22), ([.v (.pointer (some (Addr.mk mb 0 none)))], 55), ([.v (.bool false)], 4), ([.fn (Fn.func 53) []], 106)]⟩ ?_
 exact At.rndEnd none rfl rfl rfl fun ρ' w' hm' hf => hend A' c' ρ' w' hm' hf
structure WL where
 A : Option Addr
 n : Nat
 c : Nat
 E : List Pn
 M2 : List (AtK × Pn)
 SA : Option Addr
 sn : Nat
 sc : Nat
 S : List (Nd AtK Pn)
 cp : Option Addr
 ct : Tr AtK Pn
noncomputable def recL (fid : FuncId) (tmps : Array Value) (D : Nat) : Loop := recOf fid tmps #[31, 32] BLa BLb D .ready none
noncomputable def busyL (fid : FuncId) (tmps : Array Value) (D : Nat) : Loop := recOf fid tmps #[31, 32] BLa BLb D .busy none
def frW2 (D : Nat) : WL → Fr
 | ⟨A, n, c, E, M2, SA, sn, sc, S, cp, ct⟩ => [(0, .v (.func (.yield (D + 1)) #[] #[])), (2, .lp 2 0), (3, .lp 3 0), (5, .sl SA sn sc), (6, .v (.pointer cp))]
def locW2 (mb : Nat) : WL → Sx.Loc
 | ⟨A, n, c, E, M2, SA, sn, sc, S, cp, ct⟩ => locLs mb A n c
def GW2 (w0 : World) (ρ1 : List Nat) (D : Nat) (fid : FuncId) (tmps : Array Value) (mb : Nat) (p : Option Addr) (K : List Pn) : WL → List Nat → World → Prop
 | ⟨A, n, c, E, M2, SA, sn, sc, S, cp, ct⟩, ρ, w => BF kw2 vw2 w0.heap.size ρ1 D (.loop (recL fid tmps D))  (⟨97, 1, SA, sn, sc, stk S⟩ :: [⟨40, 9, A, n, c, pv E⟩]) ((.cel mb [.func (.func 27) #[] #[], .pointer p]) :: .tr cp ct :: S.map ndF) ρ w ∧ (n = E.length ∧ sn = S.length ∧ M2 = ct.toL ++ S.flatMap restN ∧ E ++ M2.map (·.2) = K)
def GV2 (w0 : World) (ρ1 : List Nat) (D : Nat) (fid : FuncId) (tmps : Array Value) (mb : Nat) (p : Option Addr) (K : List Pn) (M0 : List (AtK × Pn)) : WL → List Nat → World → Prop
 | ⟨A, n, c, E, M2, SA, sn, sc, S, cp, ct⟩, ρ, w => BF kw2 vw2 w0.heap.size ρ1 D (.loop (recL fid tmps D))  (⟨97, 1, SA, sn, sc, stk S⟩ :: [⟨40, 9, A, n, c, pv E⟩]) ((.cel mb [.func (.func 27) #[] #[], .pointer p]) :: .tr cp ct :: S.map ndF) ρ w ∧ (n = E.length ∧ sn = S.length ∧ M2 = ct.toL ++ S.flatMap restN ∧ E ++ M2.map (·.2) = K ∧ M2 = M0)
theorem len_w2 {M2 : List (AtK × Pn)} {E K : List Pn} {ct : Tr AtK Pn} {S : List (Nd AtK Pn)} (h3 : M2 = ct.toL ++ S.flatMap restN) (h4 : E ++ M2.map (·.2) = K) : S.length ≤ K.length ∧ E.length ≤ K.length ∧ ct.many ≤ K.length := by
 have h5 := congrArg List.length h3
 have h6 := congrArg List.length h4
 have h7 := rest_len S
 have h8 := Tr.many_toL ct
 simp only [List.length_map, List.length_append] at h5 h6
 omega
set_option maxRecDepth 100000 in
theorem lasg [Md] {N : Nat} {w0 : World} {F : List Nat → World → Prop} {k : AtK} {v : Pn} {mb : Nat} {A : Option Addr} {n c : Nat} (hF : Stable F) (hJ : FewerK 4 F) {g : Act → World → Prop}
  (h : ∀ ρ a w, Sx.Inv N w0 Tryz.f7.ntmps ρ frLB (locLsB mb A n c v) a w → F ρ w → g a w) :
  At Tryz.prog (fun _ _ _ => False) N w0 Tryz.f7.ntmps F ⟨.code BLa, [.next g], (31, .agg [.so (mkB k.key), .io .i64 k.st, .io .i64 k.en]) :: (32, .agg [.so (mkB v.key), .io .i64 v.st, .io .i64 v.en, .io .i64 v.kd, .io .i64 v.nt, .io .i64 v.ct, .io .i64 v.sm, .io .i64 v.mn, .io .i64 v.mx]) :: frK7, locLs mb A n c⟩ := by
 refine zU hF hJ [7, 9] 5 ⟨.exit .normal, [.next g], frLB, locLsB mb A n c v⟩ ?_
 exact At.nextF rfl rfl h
theorem foldY2 {fid : FuncId} {tmps : Array Value} {D : Nat} {ρ : List Nat} {k : AtK} {v : Pn} : ((recL fid tmps D).params.zip (SV.denL ρ [.agg [.so (mkB k.key), .io .i64 k.st, .io .i64 k.en], .agg [.so (mkB v.key), .io .i64 v.st, .io .i64 v.en, .io .i64 v.kd, .io .i64 v.nt, .io .i64 v.ct, .io .i64 v.sm, .io .i64 v.mn, .io .i64 v.mx]]).toArray).foldl (fun tmps (t, a) => tmps.setIfInBounds t a) (recL fid tmps D).tmps = (tmps.setIfInBounds 31 (.agg #[.string (mkB k.key), .int .i64 k.st, .int .i64 k.en])).setIfInBounds 32 v.val := by
 simp [recL, SV.denL, SV.den, Pn.val]
theorem lround {w0 : World} {ρ1 : List Nat} {D mb : Nat} {tmps : Array Value} {fid : FuncId} (hl : ρ1.length = 4) (hD : w0.heap.size ≤ D) (hsz : tmps.size = Tryz.f7.ntmps) (hfr : ∀ t s, Sx.look frK7 t = some s → tmps[t]? = some (s.den ρ1)) {L : List Sx.Rw} {T : List (Fc AtK Pn)} (k : AtK) (v : Pn) (E : List Pn) (A : Option Addr) (n c : Nat) (hn : n ≤ 100000)
  {ρ : List Nat} {w : World} (hm : WInv w0.heap.size w0 ρ (locLs mb A n c) w) (hF : BF kw2 vw2 w0.heap.size ρ1 D (.loop (recL fid tmps D)) (⟨40, 9, A, n, c, pv E⟩ :: L) T ρ w) :
  RoundIn Fence.wide 0 Tryz.prog (D + 1) fid ((tmps.setIfInBounds 31 (.agg #[.string (mkB k.key), .int .i64 k.st, .int .i64 k.en])).setIfInBounds 32 v.val) BLa BLb w fun e w' => ∃ (x : Option Addr × Nat) (ρ' : List Nat), e = .returned (.bool true) ∧ Grow w.heap.size ρ ρ' ∧
   WInv w0.heap.size w0 ρ' (locLs mb x.1 (n + 1) x.2) w' ∧ BF kw2 vw2 w0.heap.size ρ1 D (.loop (recL fid tmps D)) (⟨40, 9, x.1, n + 1, x.2, pv (E ++ [v])⟩ :: L) T ρ' w' := by
 have hρ : ρ = ρ1 := hF.2.2.2.eq (by rw [hm.len, hl]; rfl)
 have hnl : ∀ (r : Loop) (c : Array Value) (t : TypeId) (f : Nat × Nat), Obj.loop r ≠ .cells c t f := fun _ _ _ _ => by simp
 refine roundOf2 (ntm := Tryz.f7.ntmps) (fr := (31, .agg [.so (mkB k.key), .io .i64 k.st, .io .i64 k.en]) :: (32, .agg [.so (mkB v.key), .io .i64 v.st, .io .i64 v.en, .io .i64 v.kd, .io .i64 v.nt, .io .i64 v.ct, .io .i64 v.sm, .io .i64 v.mn, .io .i64 v.mx]) :: frK7) (fr' := frLB) (loc' := locLsB mb A n c v) (F0 := BF kw2 vw2 w0.heap.size ρ1 D (.loop (recL fid tmps D)) (⟨40, 9, A, n, c, pv E⟩ :: L) T) (r := recL fid tmps D) hm hF (by simp [hsz]) ?_ (by kernel_rfl) (by kernel_rfl) (fun ρ w h => h.2.2.1.1) rfl (@lasg (Md.rnd (D + 1)) _ _ _ k _ _ _ _ _ BF.stable (hl ▸ BF.fewer) _ (fun ρ a w hi hf => ⟨ρ, hi, hf⟩)) ?_
 ·intro t u h
  have h38 : tmps.size = 38 := hsz
  simp only [Sx.look] at h
  split at h
  ·rename_i h21
   have h21 := Nat.eq_of_beq_eq_true h21
   subst h21
   injection h with h
   subst h
   rw [Array.getElem?_setIfInBounds_ne (by decide), Array.getElem?_setIfInBounds_self_of_lt (by omega)]
   rfl
  rename_i h21
  split at h
  ·rename_i h22
   have h22 := Nat.eq_of_beq_eq_true h22
   subst h22
   injection h with h
   subst h
   rw [Array.getElem?_setIfInBounds_self_of_lt (by simp; omega)]
   rfl
  rename_i h22
  have h21 := Nat.ne_of_beq_eq_false h21
  have h22 := Nat.ne_of_beq_eq_false h22
  rw [Array.getElem?_setIfInBounds_ne (by omega), Array.getElem?_setIfInBounds_ne (by omega), hρ]
  exact hfr t u h
 intro ρ' w' hm' hF' a' ha'
 have hr2 := hF'.2.2.1.2
 refine @lbody (Md.rnd (D + 1)) w0.heap.size w0 ρ1 hl D mb (D + 1) (.loop (busyL fid tmps D)) (hnl _) L T _ v E A n c hn ?_ ρ' a' (w'.putObj (D + 1) (.loop (busyL fid tmps D))) (@Sx.Inv.mk (Md.rnd (D + 1)) _ _ _ _ _ _ _ _ ha' (hm'.putObj (by omega) hr2 _)) (hF'.putObj (hnl _) _)
 intro A' c' ρ'' w'' hm'' hf''
 have hρ'' : ρ'' = ρ1 := hf''.2.2.2.eq (by rw [hm''.len, hl]; rfl)
 exact ⟨_, hf''.2.2.1.1, (A', c'), ρ'', rfl, by rw [hρ'', hρ]; exact Grow.refl _ _, hm''.putObj (by omega) hf''.2.2.1.2 _, hf''.putObj (hnl _) _⟩
theorem head_w2 {k : AtK} {v : Pn} {l r : Tr AtK Pn} {b : Nat} {S : List (Nd AtK Pn)} {M3 : List (AtK × Pn)} (h : M3 = Tr.nil.toL ++ ((⟨b, k, v, l, r⟩ : Nd AtK Pn) :: S).flatMap restN) : ∃ M4, M3 = (k, v) :: M4 ∧ M4 = r.toL ++ S.flatMap restN := by
 simp only [Tr.toL, List.nil_append, List.flatMap_cons, restN, List.cons_append] at h
 exact ⟨_, h, rfl⟩
noncomputable def B64 : Code := (Tryz.f64.body).getD .skip
noncomputable def opsY2 : Array Oper := opsOf (sub B64 pAN3)
noncomputable def oY2 : Oper := (opsY2.toList[9]?).getD default
noncomputable def rY2 : List Oper := opsY2.toList.drop 10
theorem dropY2 : opsY2.toList.drop 9 = oY2 :: rY2 := by kernel_rfl
set_option maxHeartbeats 20000000 in
set_option maxRecDepth 100000 in
theorem iterL_go {w0 w1 : World} {ρ1 : List Nat} {D : Nat} {tmps : Array Value} {fid : FuncId} (hl : ρ1.length = 4) (hD : w0.heap.size ≤ D) (hsz : tmps.size = Tryz.f7.ntmps) (hfr : ∀ t s, Sx.look frK7 t = some s → tmps[t]? = some (s.den ρ1))
  {mb : Nat} {p : Option Addr} {t : Tr AtK Pn} {K : List Pn} (hK : t.toL.map (·.2) = K) (hKn : K.length ≤ 200)
  (hm : WInv w0.heap.size w0 ρ1 (locLs mb none 0 0) w1) (hF : BF kw2 vw2 w0.heap.size ρ1 D (.loop (recL fid tmps D))  [⟨40, 9, none, 0, 0, []⟩] [(.cel mb [.func (.func 27) #[] #[], .pointer p]), .tr p t] ρ1 w1)
  {R : Ending → World → Prop} (hRo : ∀ w, ¬ R .outgrown w)
  (hR : ∀ (A : Option Addr) (n c : Nat) (E : List Pn) (cp : Option Addr) (sc : Nat) (SA : Option Addr) (w3 : World), n = E.length → E = K → WInv w0.heap.size w0 ρ1 (locLs mb A n c) w3 → BF kw2 vw2 w0.heap.size ρ1 D (.loop (recL fid tmps D))  (⟨97, 1, SA, 0, sc, []⟩ :: [⟨40, 9, A, n, c, pv E⟩]) [(.cel mb [.func (.func 27) #[] #[], .pointer p]), .tr cp .nil] ρ1 w3 → R (.returned (.tuple #[])) w3) :
  Calls Tryz.prog 64 (SV.denL ρ1 [.v (.func (.yield (D + 1)) #[] #[]), .lp 1 0, .lp 2 0, .lp 3 0]).toArray w1 R := by
 have h4 : ∀ {o : Obj} {L : List Sx.Rw} {T : List (Fc AtK Pn)}, FewerK 4 (BF kw2 vw2 w0.heap.size ρ1 D o L T) := hl ▸ BF.fewer
 refine enterH (w0 := w0) (N := w0.heap.size) (F := BF kw2 vw2 w0.heap.size ρ1 D (.loop (recL fid tmps D))  (⟨97, 1, none, 0, 0, []⟩ :: [⟨40, 9, none, 0, 0, []⟩]) [(.cel mb [.func (.func 27) #[] #[], .pointer p]), .tr p t]) (fn := Tryz.f64) (c := B64) [.v (.func (.yield (D + 1)) #[] #[]), .lp 1 0, .lp 2 0, .lp 3 0] ρ1 (locLs mb none 0 0) Tryz.func64 rfl rfl hm ⟨hF.1.nil 97 1, hF.2⟩ ?_
 refine zT BF.stable h4 [0, 1, 2, 3, 9] 4 ⟨pops B64 [4, 0, 0] 1, [.seq (sub B64 [4, 0, 1]), .seq (sub B64 [4, 1]), .scope], [(0, .v (.func (Fn.yield (D + 1)) (Array.mk []) (Array.mk []))), (1, .lp 1 0), (2, .lp 2 0), (3, .lp 3 0), (9, .v (.pointer (some (Addr.mk mb 0 none))))], [([.sl none 0 0], 22), ([.v (.pointer (some (Addr.mk mb 0 none)))], 55), ([.v (.bool false)], 4), ([.fn (Fn.func 53) []], 106)]⟩ ?_
 refine zC BF.stable 50 [.v (.pointer (some ⟨mb, 0, none⟩))] (.v (.bool false)) (fun ρ _ w1 hi hf => none2_any w1 (hf.1.2.cell (.head _) rfl)) ?_
 refine zT BF.stable h4 [0, 2, 3, 5, 11] 4 ⟨pops B64 [4, 1, 1, 0] 1, [.seq (sub B64 [4, 1, 1, 1]), .scope], [(0, .v (.func (Fn.yield (D + 1)) (Array.mk []) (Array.mk []))), (2, .lp 2 0), (3, .lp 3 0), (5, .v (.slice none 0 0)), (11, .v (.pointer (some (Addr.mk mb 0 none))))], [([.sl none 0 0], 22), ([.v (.pointer (some (Addr.mk mb 0 none)))], 55), ([.v (.bool false)], 4), ([.fn (Fn.func 53) []], 106)]⟩ ?_
 refine At.nck ⟨mb, 0, none⟩ (by kernel_rfl) BF.stable ?_
 refine zT BF.stable h4 [0, 2, 3, 5, 12] 4 ⟨pops B64 [4, 1, 1, 0] 2, [.seq (sub B64 [4, 1, 1, 1]), .scope], [(0, .v (.func (Fn.yield (D + 1)) (Array.mk []) (Array.mk []))), (2, .lp 2 0), (3, .lp 3 0), (5, .v (.slice none 0 0)), (12, .v (.pointer (some (Addr.mk mb 0 none))))], [([.sl none 0 0], 22), ([.v (.pointer (some (Addr.mk mb 0 none)))], 55), ([.v (.bool false)], 4), ([.fn (Fn.func 53) []], 106)]⟩ ?_
 refine At.fax ⟨mb, 0, none⟩ 1 (by kernel_rfl) BF.stable ?_
 refine zT BF.stable h4 [0, 2, 3, 5, 13] 4 ⟨pops B64 [4, 1, 1, 0] 3, [.seq (sub B64 [4, 1, 1, 1]), .scope], [(0, .v (.func (Fn.yield (D + 1)) (Array.mk []) (Array.mk []))), (2, .lp 2 0), (3, .lp 3 0), (5, .v (.slice none 0 0)), (13, .v (.pointer (some (Addr.mk mb 1 none))))], [([.sl none 0 0], 22), ([.v (.pointer (some (Addr.mk mb 0 none)))], 55), ([.v (.bool false)], 4), ([.fn (Fn.func 53) []], 106)]⟩ ?_
 refine At.ldx ((⟨mb, 0, none⟩ : Addr).add 1) (.v (.pointer p)) (by kernel_rfl) BF.stable (fun ρ w1 hm' hf => hf.1.2.cell (.head _) rfl) ?_
 refine zT BF.stable h4 [0, 2, 3, 5, 6] 4 ⟨.code (sub B64 [4, 1, 1, 1, 1, 4]), [.block 0, .scope], [(0, .v (.func (Fn.yield (D + 1)) (Array.mk []) (Array.mk []))), (2, .lp 2 0), (3, .lp 3 0), (5, .v (.slice none 0 0)), (6, .v (.pointer p))], [([.sl none 0 0], 22), ([.v (.pointer (some (Addr.mk mb 0 none)))], 55), ([.v (.bool false)], 4), ([.fn (Fn.func 53) []], 106)]⟩ ?_
 refine At.slFr _ rfl ?_
 refine At.loop (σ := WL) (sub B64 [4, 1, 1, 1, 1, 4, 4]) (frW2 D) (locW2 mb) (GW2 w0 ρ1 D fid tmps mb p K) (fun x => x.M2.length) ⟨none, 0, 0, [], t.toL, none, 0, 0, [], p, t⟩ (by kernel_rfl) (by unfold subFr; kernel_rfl) (by kernel_rfl) (fun _ _ _ _ h => ⟨h, rfl, rfl, by simp, hK⟩) ?_
 rintro ⟨A, n, c, E, M2, SA, sn, sc, S, cp, ct⟩
 refine At.pure fun ⟨h1, h2, h3, h4'⟩ => ?_
 refine zT BF.stable h4 [0, 2, 3, 5, 6] 4 ⟨.code (sub B64 [4, 1, 1, 1, 1, 4, 4, 4, 0, 4]), [.block 2, .seq (sub B64 pAN7), .block 1, .next (Sx.Next w0.heap.size w0 Tryz.f64.ntmps (frW2 D) (locW2 mb) (GW2 w0 ρ1 D fid tmps mb p K) (fun x => x.M2.length) (WL.mk A n c E M2 SA sn sc S cp ct)), .block 0, .scope], [(0, .v (.func (Fn.yield (D + 1)) (Array.mk []) (Array.mk []))), (2, .lp 2 0), (3, .lp 3 0), (5, .sl SA sn sc), (6, .v (.pointer cp))], [([.sl A n c], 22), ([.v (.pointer (some (Addr.mk mb 0 none)))], 55), ([.v (.bool false)], 4), ([.fn (Fn.func 53) []], 106)]⟩ ?_
 refine At.loop (σ := WL) (sub B64 [4, 1, 1, 1, 1, 4, 4, 4, 0, 4, 4]) (frW2 D) (locW2 mb) (GV2 w0 ρ1 D fid tmps mb p K M2) (fun x => x.ct.many) ⟨A, n, c, E, M2, SA, sn, sc, S, cp, ct⟩ (by kernel_rfl) (by unfold subFr; kernel_rfl) (by kernel_rfl) (fun _ _ _ _ h => ⟨h, h1, h2, h3, h4', rfl⟩) ?_
 clear h1 h2 h3 h4'
 rintro ⟨A2, n2, c2, E2, M3, SA2, sn2, sc2, S2, cp2, ct2⟩
 refine At.pure fun ⟨h1, h2, h3, h4', hM3⟩ => ?_
 subst hM3
 have hlen := len_w2 h3 h4'
 cases ct2 with
 | nil =>
  refine At.know (p := cp2 = none) (fun ρ w hf => hf.1.2.tree (.tail _ (.head _))) fun hcp => ?_
  subst hcp
  refine zTq BF.stable h4 [0, 2, 3, 5, 42] 4 ?_
  rcases Bool.eq_false_or_eq_true ((↑sn2 : Int) == 0) with b0 | b0
  ·refine zR 42 b0 ?_
   refine zT BF.stable h4 [0, 2, 3, 5] 4 ⟨.exit .normal, [], [(0, .v (.func (Fn.yield (D + 1)) (Array.mk []) (Array.mk []))), (2, .lp 2 0), (3, .lp 3 0), (5, .sl SA2 sn2 sc2)], [([.sl A2 n2 c2], 22), ([.v (.pointer (some (Addr.mk mb 0 none)))], 55), ([.v (.bool false)], 4), ([.fn (Fn.func 53) []], 106)]⟩ ?_
   refine zE (.tup []) ?_
   intro ρ w9 hm hf
   have hS : S2 = [] := List.eq_nil_of_length_eq_zero (by rw [← h2]; have := eq_of_beq b0; omega)
   subst hS
   have hM3 : M3 = [] := by simpa [Tr.toL] using h3
   subst hM3
   have hρ : ρ = ρ1 := hf.2.2.2.eq (by rw [hm.len, hl]; rfl)
   rw [hρ] at hm hf
   simp only [List.length_nil] at h2
   subst h2
   exact hR A2 n2 c2 E2 none sc2 SA2 w9 h1 (by simpa using h4') hm hf
  refine zR 42 b0 ?_
  let kn4 : Go.Sx.K := .next (Sx.Next w0.heap.size w0 Tryz.f64.ntmps (frW2 D) (locW2 mb) (GW2 w0 ρ1 D fid tmps mb p K) (fun x => x.M2.length) (WL.mk A n c E M3 SA sn sc S cp ct))
  refine zT BF.stable h4 [0, 2, 3, 5, 43, 46] 4 ⟨pops B64 [4, 1, 1, 1, 1, 4, 4, 4, 1, 1, 0] 4, [.seq (sub B64 [4, 1, 1, 1, 1, 4, 4, 4, 1, 1, 1]), .block 1, kn4, .block 0, .scope], [(0, .v (.func (Fn.yield (D + 1)) (Array.mk []) (Array.mk []))), (2, .lp 2 0), (3, .lp 3 0), (5, .sl SA2 sn2 sc2), (43, .sl SA2 sn2 sc2), (46, .io .i64 (IntKind.i64.wrap ((↑sn2 : Int) - 1)))], [([.sl A2 n2 c2], 22), ([.v (.pointer (some (Addr.mk mb 0 none)))], 55), ([.v (.bool false)], 4), ([.fn (Fn.func 53) []], 106)]⟩ ?_
  obtain ⟨⟨b, k, v, l, r⟩, S', rfl⟩ : ∃ x y, S2 = x :: y := by
   cases S2 with
   | nil => simp only [List.length_nil] at h2; subst h2; simp at b0
   | cons x y => exact ⟨x, y, rfl⟩
  simp only [List.length_cons] at h2
  have hw1 : IntKind.i64.wrap ((sn2 : Int) - 1) = ((sn2 - 1 : Nat) : Int) := by
   rw [wrap63 (by omega) (by omega)]
   omega
  rw [hw1]
  refine At.know (p := ∃ a, SA2 = some a) (fun ρ w hf => hf.1.1.some (List.mem_cons_self ..) (show 0 < sn2 by omega)) fun ⟨sa, hsa⟩ => ?_
  subst hsa
  refine At.idx sa sn2 1 ((sn2 - 1 : Nat) : Int) (by kernel_rfl) (by omega) (by omega) BF.stable ?_
  refine At.ldx (sa.add (((sn2 - 1 : Nat) : Int).toNat * 1)) (.v (.pointer (some ⟨b, 0, none⟩))) (by kernel_rfl) BF.stable (fun ρ w1 hm' hf => hf.1.1.src (List.mem_cons_self ..) rfl _ _ (stk_top (by omega))) ?_
  refine zT BF.stable h4 [0, 2, 3, 6, 49, 52] 4 ⟨pops B64 [4, 1, 1, 1, 1, 4, 4, 4, 1, 1, 1, 0] 4, [.seq (sub B64 [4, 1, 1, 1, 1, 4, 4, 4, 1, 1, 1, 1]), .block 1, kn4, .block 0, .scope], [(0, .v (.func (Fn.yield (D + 1)) (Array.mk []) (Array.mk []))), (2, .lp 2 0), (3, .lp 3 0), (6, .v (.pointer (some (Addr.mk b 0 none)))), (49, .sl (some sa) sn2 sc2), (52, .io .i64 (IntKind.i64.wrap ((↑sn2 : Int) - 1)))], [([.sl A2 n2 c2], 22), ([.v (.pointer (some (Addr.mk mb 0 none)))], 55), ([.v (.bool false)], 4), ([.fn (Fn.func 53) []], 106)]⟩ ?_
  rw [hw1]
  refine At.slx (some sa) sn2 sc2 none ((sn2 - 1 : Nat) : Int) 1 (.sl (some sa) (sn2 - 1) sc2) (by kernel_rfl) BF.stable (by decide) (by simp) (fun ρ w hm hf => ⟨?_, ?_⟩) ?_
  ·have := hf.1.1.cap (List.mem_cons_self ..)
   simp only at this
   omega
  ·simp [SV.den, Addr.add]
  refine At.mono (F' := BF kw2 vw2 w0.heap.size ρ1 D (.loop (recL fid tmps D))  (⟨97, 1, some sa, sn2 - 1, sc2, stk S'⟩ :: [⟨40, 9, A2, n2, c2, pv E2⟩]) ((.cel mb [.func (.func 27) #[] #[], .pointer p]) :: .tr none Tr.nil :: ndF ⟨b, k, v, l, r⟩ :: S'.map ndF)) (fun ρ w hf => ?_) ?_
  ·have h8 := BF.cut hf rfl (show sn2 - 1 ≤ sn2 by omega)
   rw [stk_pop (by omega)] at h8
   exact h8
  refine At.toJ (BF.stable) h4 0 5 [0, 2, 3, 5, 6] 4 ⟨.code (sub B64 pAN3), [.seq (sub B64 pAN4), .seq (sub B64 pAN6), .block 1, kn4, .block 0, .scope], [(0, .v (.func (Fn.yield (D + 1)) (Array.mk []) (Array.mk []))), (2, .lp 2 0), (3, .lp 3 0), (5, .sl (some sa) (sn2 - 1) sc2), (6, .v (.pointer (some (Addr.mk b 0 none))))], [([.sl A2 n2 c2], 22), ([.v (.pointer (some (Addr.mk mb 0 none)))], 55), ([.v (.bool false)], 4), ([.fn (Fn.func 53) []], 106)]⟩ (by kernel_rfl) (by kernel_rfl) ?_
  obtain ⟨M4, rfl, h3b⟩ := head_w2 h3
  refine At.splitQ (id := 14) (ops := opsY2) 9 (by kernel_rfl) (by kernel_rfl) (by kernel_rfl) ?_
  rw [dropY2]
  refine At.mono (fun ρ w hf => BF.apart (hf.perm (List.Perm.refl _) (fun f h => memC h))) (At.ex fun x => ?_)
  obtain ⟨b', pl, pr⟩ := x
  refine At.mono (F' := fun ρ w => BF kw2 vw2 w0.heap.size ρ1 D (.loop (recL fid tmps D))  (⟨97, 1, some sa, sn2 - 1, sc2, stk S'⟩ :: [⟨40, 9, A2, n2, c2, pv E2⟩]) ((.cel b' (nodeW kw2 vw2 k v pl pr (Tr.node k v l r).high (Tr.node k v l r).many)) :: .tr pl l :: .tr pr r :: (.cel mb [.func (.func 27) #[] #[], .pointer p]) :: S'.map ndF) ρ w ∧ some ⟨b, 0, none⟩ = some (⟨b', 0, none⟩ : Addr)) (fun ρ w hf => ⟨hf.2, hf.1⟩) (At.pure fun hbb => ?_)
  injection hbb with hbb
  injection hbb with hbb
  subst hbb
  let kn0 : Go.Sx.K := .next (wpListIn Fence.wide 0 Tryz.prog opsY2 (postK Tryz.prog (Sx.S.mk (PC.code (sub B64 pAN3)) [Sx.K.seq (sub B64 pAN4), Sx.K.seq (sub B64 pAN6), Sx.K.block 1, Sx.K.next (Sx.Next w0.heap.size w0 Tryz.f64.ntmps (frW2 D) (locW2 mb) (GW2 w0 ρ1 D fid tmps mb p K) (fun x => x.M2.length) (WL.mk A n c E ((k, v) :: M4) SA sn sc S cp ct)), Sx.K.block 0, Sx.K.scope] [(0, .v (.func (Fn.yield (D + 1)) (Array.mk []) (Array.mk []))), (2, .lp 2 0), (3, .lp 3 0), (5, .sl (some sa) (sn2 - 1) sc2), (6, .v (.pointer (some (Addr.mk b 0 none))))] [([.sl A2 n2 c2], 22), ([.v (.pointer (some (Addr.mk mb 0 none)))], 55), ([.v (.bool false)], 4), ([.fn (Fn.func 53) []], 106)]).ks (bodyPost Tryz.prog Tryz.f64 R)) (oY2 :: rY2))
  let kn2 : Go.Sx.K := .next (Sx.Next w0.heap.size w0 Tryz.f64.ntmps (frW2 D) (locW2 mb) (GW2 w0 ρ1 D fid tmps mb p K) (fun x => x.M2.length) (WL.mk A n c E ((k, v) :: M4) SA sn sc S cp ct))
  refine zT BF.stable h4 [0, 2, 3, 5, 6, 54, 55] 4 ⟨.qops (opsOf (sub B64 pAN3)) (((opsOf (sub B64 pAN3)).toList.take 9).drop 2), [kn0, .seq (sub B64 pAN4), .seq (sub B64 pAN6), .block 1, kn2, .block 0, .scope], [(0, .v (.func (Fn.yield (D + 1)) (Array.mk []) (Array.mk []))), (2, .lp 2 0), (3, .lp 3 0), (5, .sl (some sa) (sn2 - 1) sc2), (6, .v (.pointer (some (Addr.mk b 0 none)))), (54, .v (.func (Fn.yield (D + 1)) (Array.mk []) (Array.mk []))), (55, .v (.pointer (some (Addr.mk b 0 none))))], [([.sl A2 n2 c2], 22), ([.v (.pointer (some (Addr.mk mb 0 none)))], 55), ([.v (.bool false)], 4), ([.fn (Fn.func 53) []], 106)]⟩ ?_
  refine At.nck ⟨b, 0, none⟩ (by kernel_rfl) BF.stable ?_
  refine zT BF.stable h4 [0, 2, 3, 5, 6, 54, 56] 4 ⟨.qops (opsOf (sub B64 pAN3)) (((opsOf (sub B64 pAN3)).toList.take 9).drop 3), [kn0, .seq (sub B64 pAN4), .seq (sub B64 pAN6), .block 1, kn2, .block 0, .scope], [(0, .v (.func (Fn.yield (D + 1)) (Array.mk []) (Array.mk []))), (2, .lp 2 0), (3, .lp 3 0), (5, .sl (some sa) (sn2 - 1) sc2), (6, .v (.pointer (some (Addr.mk b 0 none)))), (54, .v (.func (Fn.yield (D + 1)) (Array.mk []) (Array.mk []))), (56, .v (.pointer (some (Addr.mk b 0 none))))], [([.sl A2 n2 c2], 22), ([.v (.pointer (some (Addr.mk mb 0 none)))], 55), ([.v (.bool false)], 4), ([.fn (Fn.func 53) []], 106)]⟩ ?_
  refine At.fax ⟨b, 0, none⟩ 0 (by kernel_rfl) BF.stable ?_
  refine zT BF.stable h4 [0, 2, 3, 5, 6, 54, 57] 4 ⟨.qops (opsOf (sub B64 pAN3)) (((opsOf (sub B64 pAN3)).toList.take 9).drop 4), [kn0, .seq (sub B64 pAN4), .seq (sub B64 pAN6), .block 1, kn2, .block 0, .scope], [(0, .v (.func (Fn.yield (D + 1)) (Array.mk []) (Array.mk []))), (2, .lp 2 0), (3, .lp 3 0), (5, .sl (some sa) (sn2 - 1) sc2), (6, .v (.pointer (some (Addr.mk b 0 none)))), (54, .v (.func (Fn.yield (D + 1)) (Array.mk []) (Array.mk []))), (57, .v (.pointer (some (Addr.mk b 0 none))))], [([.sl A2 n2 c2], 22), ([.v (.pointer (some (Addr.mk mb 0 none)))], 55), ([.v (.bool false)], 4), ([.fn (Fn.func 53) []], 106)]⟩ ?_
  refine At.lda ((⟨b, 0, none⟩ : Addr).add 0) 3 [.so (mkB k.key), .io .i64 k.st, .io .i64 k.en] (by kernel_rfl) rfl BF.stable (fun ρ w1 hm' hf j u hj => by rw [Addr.add_add]; exact hf.1.2.cell (.head _) (part_k hj)) ?_
  refine zT BF.stable h4 [0, 2, 3, 5, 6, 54, 58, 59] 4 ⟨.qops (opsOf (sub B64 pAN3)) (((opsOf (sub B64 pAN3)).toList.take 9).drop 6), [kn0, .seq (sub B64 pAN4), .seq (sub B64 pAN6), .block 1, kn2, .block 0, .scope], [(0, .v (.func (Fn.yield (D + 1)) (Array.mk []) (Array.mk []))), (2, .lp 2 0), (3, .lp 3 0), (5, .sl (some sa) (sn2 - 1) sc2), (6, .v (.pointer (some (Addr.mk b 0 none)))), (54, .v (.func (Fn.yield (D + 1)) (Array.mk []) (Array.mk []))), (58, .agg [.so (mkB k.key), .io .i64 k.st, .io .i64 k.en]), (59, .v (.pointer (some (Addr.mk b 0 none))))], [([.sl A2 n2 c2], 22), ([.v (.pointer (some (Addr.mk mb 0 none)))], 55), ([.v (.bool false)], 4), ([.fn (Fn.func 53) []], 106)]⟩ ?_
  refine At.nck ⟨b, 0, none⟩ (by kernel_rfl) BF.stable ?_
  refine zT BF.stable h4 [0, 2, 3, 5, 6, 54, 58, 60] 4 ⟨.qops (opsOf (sub B64 pAN3)) (((opsOf (sub B64 pAN3)).toList.take 9).drop 7), [kn0, .seq (sub B64 pAN4), .seq (sub B64 pAN6), .block 1, kn2, .block 0, .scope], [(0, .v (.func (Fn.yield (D + 1)) (Array.mk []) (Array.mk []))), (2, .lp 2 0), (3, .lp 3 0), (5, .sl (some sa) (sn2 - 1) sc2), (6, .v (.pointer (some (Addr.mk b 0 none)))), (54, .v (.func (Fn.yield (D + 1)) (Array.mk []) (Array.mk []))), (58, .agg [.so (mkB k.key), .io .i64 k.st, .io .i64 k.en]), (60, .v (.pointer (some (Addr.mk b 0 none))))], [([.sl A2 n2 c2], 22), ([.v (.pointer (some (Addr.mk mb 0 none)))], 55), ([.v (.bool false)], 4), ([.fn (Fn.func 53) []], 106)]⟩ ?_
  refine At.fax ⟨b, 0, none⟩ 3 (by kernel_rfl) BF.stable ?_
  refine zT BF.stable h4 [0, 2, 3, 5, 6, 54, 58, 61] 4 ⟨.qops (opsOf (sub B64 pAN3)) (((opsOf (sub B64 pAN3)).toList.take 9).drop 8), [kn0, .seq (sub B64 pAN4), .seq (sub B64 pAN6), .block 1, kn2, .block 0, .scope], [(0, .v (.func (Fn.yield (D + 1)) (Array.mk []) (Array.mk []))), (2, .lp 2 0), (3, .lp 3 0), (5, .sl (some sa) (sn2 - 1) sc2), (6, .v (.pointer (some (Addr.mk b 0 none)))), (54, .v (.func (Fn.yield (D + 1)) (Array.mk []) (Array.mk []))), (58, .agg [.so (mkB k.key), .io .i64 k.st, .io .i64 k.en]), (61, .v (.pointer (some (Addr.mk b 3 none))))], [([.sl A2 n2 c2], 22), ([.v (.pointer (some (Addr.mk mb 0 none)))], 55), ([.v (.bool false)], 4), ([.fn (Fn.func 53) []], 106)]⟩ ?_
  refine At.lda ((⟨b, 0, none⟩ : Addr).add 3) 9 [.so (mkB v.key), .io .i64 v.st, .io .i64 v.en, .io .i64 v.kd, .io .i64 v.nt, .io .i64 v.ct, .io .i64 v.sm, .io .i64 v.mn, .io .i64 v.mx] (by kernel_rfl) rfl BF.stable (fun ρ w1 hm' hf j u hj => by rw [Addr.add_add]; exact hf.1.2.cell (.head _) (part_v hj)) ?_
  refine zT BF.stable h4 [0, 2, 3, 5, 6, 54, 58, 62] 4 ⟨.exit .normal, [kn0, .seq (sub B64 pAN4), .seq (sub B64 pAN6), .block 1, kn2, .block 0, .scope], [(0, .v (.func (Fn.yield (D + 1)) (Array.mk []) (Array.mk []))), (2, .lp 2 0), (3, .lp 3 0), (5, .sl (some sa) (sn2 - 1) sc2), (6, .v (.pointer (some (Addr.mk b 0 none)))), (54, .v (.func (Fn.yield (D + 1)) (Array.mk []) (Array.mk []))), (58, .agg [.so (mkB k.key), .io .i64 k.st, .io .i64 k.en]), (62, .agg [.so (mkB v.key), .io .i64 v.st, .io .i64 v.en, .io .i64 v.kd, .io .i64 v.nt, .io .i64 v.ct, .io .i64 v.sm, .io .i64 v.mn, .io .i64 v.mx])], [([.sl A2 n2 c2], 22), ([.v (.pointer (some (Addr.mk mb 0 none)))], 55), ([.v (.bool false)], 4), ([.fn (Fn.func 53) []], 106)]⟩ ?_
  refine At.yield (X := Option Addr × Nat) (o := oY2) (rest := rY2) (d := 63) (t := 54) (args := #[.tmp 58, .tmp 62]) (tys := #[59, 40]) (l := D + 1) [.agg [.so (mkB k.key), .io .i64 k.st, .io .i64 k.en], .agg [.so (mkB v.key), .io .i64 v.st, .io .i64 v.en, .io .i64 v.kd, .io .i64 v.nt, .io .i64 v.ct, .io .i64 v.sm, .io .i64 v.mn, .io .i64 v.mx]] (by kernel_rfl) (by kernel_rfl) (by kernel_rfl) (by kernel_rfl) (by kernel_rfl) (by kernel_rfl) (by kernel_rfl) (fun ⟨a, w, h⟩ => hRo w h) (fun _ => true) (fun x => locLs mb x.1 (n2 + 1) x.2) (fun x => BF kw2 vw2 w0.heap.size ρ1 D (.loop (recL fid tmps D))  (⟨97, 1, some sa, sn2 - 1, sc2, stk S'⟩ :: [⟨40, 9, x.1, n2 + 1, x.2, pv (E2 ++ [v])⟩]) ((.cel b (nodeW kw2 vw2 k v pl pr (Tr.node k v l r).high (Tr.node k v l r).many)) :: .tr pl l :: .tr pr r :: (.cel mb [.func (.func 27) #[] #[], .pointer p]) :: S'.map ndF)) (fun ρ a w2 hi hf => ?_) (fun x => ?_)
  ·refine ⟨recL fid tmps D, hf.2.2.1.1, rfl, ?_⟩
   rw [foldY2]
   refine (lround hl hD hsz hfr k v E2 A2 n2 c2 (L := [⟨97, 1, some sa, sn2 - 1, sc2, stk S'⟩]) (by omega) hi.mem (hf.perm (List.Perm.swap ..) (fun f h => h))).mono ?_
   rintro e w3 ⟨x, ρ', he, hg, hm3, hf3⟩
   exact ⟨x, ρ', he, hg, hm3, hf3.perm (List.Perm.swap ..) (fun f h => h)⟩
  obtain ⟨A3, c3⟩ := x
  dsimp only
  let kn3 : Go.Sx.K := .next (Sx.Next w0.heap.size w0 Tryz.f64.ntmps (frW2 D) (locW2 mb) (GW2 w0 ρ1 D fid tmps mb p K) (fun x => x.M2.length) (WL.mk A n c E ((k, v) :: M4) SA sn sc S cp ct))
  refine zT BF.stable h4 [0, 2, 3, 5, 70] 4 ⟨pops B64 pAN2 1, [.block 1, kn3, .block 0, .scope], [(0, .v (.func (Fn.yield (D + 1)) (Array.mk []) (Array.mk []))), (2, .lp 2 0), (3, .lp 3 0), (5, .sl (some sa) (sn2 - 1) sc2), (70, .v (.pointer (some (Addr.mk b 0 none))))], [([.sl A3 (n2 + 1) c3], 22), ([.v (.pointer (some (Addr.mk mb 0 none)))], 55), ([.v (.bool false)], 4), ([.fn (Fn.func 53) []], 106)]⟩ ?_
  refine At.nck ⟨b, 0, none⟩ (by kernel_rfl) BF.stable ?_
  refine zT BF.stable h4 [0, 2, 3, 5, 71] 4 ⟨pops B64 pAN2 2, [.block 1, kn3, .block 0, .scope], [(0, .v (.func (Fn.yield (D + 1)) (Array.mk []) (Array.mk []))), (2, .lp 2 0), (3, .lp 3 0), (5, .sl (some sa) (sn2 - 1) sc2), (71, .v (.pointer (some (Addr.mk b 0 none))))], [([.sl A3 (n2 + 1) c3], 22), ([.v (.pointer (some (Addr.mk mb 0 none)))], 55), ([.v (.bool false)], 4), ([.fn (Fn.func 53) []], 106)]⟩ ?_
  refine At.fax ⟨b, 0, none⟩ 13 (by kernel_rfl) BF.stable ?_
  refine zT BF.stable h4 [0, 2, 3, 5, 72] 4 ⟨pops B64 pAN2 3, [.block 1, kn3, .block 0, .scope], [(0, .v (.func (Fn.yield (D + 1)) (Array.mk []) (Array.mk []))), (2, .lp 2 0), (3, .lp 3 0), (5, .sl (some sa) (sn2 - 1) sc2), (72, .v (.pointer (some (Addr.mk b 13 none))))], [([.sl A3 (n2 + 1) c3], 22), ([.v (.pointer (some (Addr.mk mb 0 none)))], 55), ([.v (.bool false)], 4), ([.fn (Fn.func 53) []], 106)]⟩ ?_
  refine At.ldx ((⟨b, 0, none⟩ : Addr).add 13) (.v (.pointer pr)) (by kernel_rfl) BF.stable (fun ρ w1 hm' hf => hf.1.2.cell (.head _) rfl) ?_
  refine zT BF.stable h4 [0, 2, 3, 5, 6] 4 ⟨.exit .normal, [kn3, .block 0, .scope], [(0, .v (.func (Fn.yield (D + 1)) (Array.mk []) (Array.mk []))), (2, .lp 2 0), (3, .lp 3 0), (5, .sl (some sa) (sn2 - 1) sc2), (6, .v (.pointer pr))], [([.sl A3 (n2 + 1) c3], 22), ([.v (.pointer (some (Addr.mk mb 0 none)))], 55), ([.v (.bool false)], 4), ([.fn (Fn.func 53) []], 106)]⟩ ?_
  refine At.next (σ := WL) ⟨A3, n2 + 1, c3, E2 ++ [v], M4, some sa, sn2 - 1, sc2, S', pr, r⟩ rfl rfl (by unfold subFr; kernel_rfl) (by kernel_rfl) (fun ρ a w1 hi hf => ⟨hf.perm (List.Perm.refl _) (fun f h => memD h), by simp [h1], by omega, h3b, by simpa using h4'⟩) ?_
  show M4.length < ((k, v) :: M4).length
  simp
 | node k v l r =>
  refine At.mono (F' := BF kw2 vw2 w0.heap.size ρ1 D (.loop (recL fid tmps D))  (⟨97, 1, SA2, sn2, sc2, stk S2⟩ :: [⟨40, 9, A2, n2, c2, pv E2⟩]) (.tr cp2 (Tr.node k v l r) :: .tr cp2 (Tr.node k v l r) :: (.cel mb [.func (.func 27) #[] #[], .pointer p]) :: S2.map ndF)) (fun ρ w hf => hf.perm (List.Perm.refl _) (fun f h => memA h)) ?_
  refine At.mono (fun ρ w hf => BF.apart hf) (At.ex fun x => ?_)
  obtain ⟨b, pl, pr⟩ := x
  refine At.mono (F' := fun ρ w => BF kw2 vw2 w0.heap.size ρ1 D (.loop (recL fid tmps D))  (⟨97, 1, SA2, sn2, sc2, stk S2⟩ :: [⟨40, 9, A2, n2, c2, pv E2⟩]) ((.cel b (nodeW kw2 vw2 k v pl pr (Tr.node k v l r).high (Tr.node k v l r).many)) :: .tr pl l :: .tr pr r :: .tr cp2 (Tr.node k v l r) :: (.cel mb [.func (.func 27) #[] #[], .pointer p]) :: S2.map ndF) ρ w ∧ cp2 = some ⟨b, 0, none⟩) (fun ρ w hf => ⟨hf.2, hf.1⟩) (At.pure fun hcp => ?_)
  subst hcp
  let kn1 : Go.Sx.K := .next (Sx.Next w0.heap.size w0 Tryz.f64.ntmps (frW2 D) (locW2 mb) (GV2 w0 ρ1 D fid tmps mb p K M3) (fun x => x.ct.many) (WL.mk A2 n2 c2 E2 M3 SA2 sn2 sc2 S2 (some (Addr.mk b 0 none)) (Tr.node k v l r)))
  let kn5 : Go.Sx.K := .next (Sx.Next w0.heap.size w0 Tryz.f64.ntmps (frW2 D) (locW2 mb) (GW2 w0 ρ1 D fid tmps mb p K) (fun x => x.M2.length) (WL.mk A n c E M3 SA sn sc S cp ct))
  refine zT BF.stable h4 [0, 2, 3, 5, 6, 15] 4 ⟨pops B64 [4, 1, 1, 1, 1, 4, 4, 4, 0, 4, 4, 0, 0] 1, [.seq (sub B64 [4, 1, 1, 1, 1, 4, 4, 4, 0, 4, 4, 0, 1]), .seq (sub B64 [4, 1, 1, 1, 1, 4, 4, 4, 0, 4, 4, 1]), kn1, .block 2, .seq (sub B64 pAN7), .block 1, kn5, .block 0, .scope], [(0, .v (.func (Fn.yield (D + 1)) (Array.mk []) (Array.mk []))), (2, .lp 2 0), (3, .lp 3 0), (5, .sl SA2 sn2 sc2), (6, .v (.pointer (some (Addr.mk b 0 none)))), (15, .v (.pointer (some (Addr.mk b 0 none))))], [([.sl A2 n2 c2], 22), ([.v (.pointer (some (Addr.mk mb 0 none)))], 55), ([.v (.bool false)], 4), ([.fn (Fn.func 53) []], 106)]⟩ ?_
  refine At.pcmp .neq 97 (some ⟨b, 0, none⟩) none true (by kernel_rfl) BF.stable (fun w1 => neq2_nil b w1) ?_
  refine zT BF.stable h4 [0, 2, 3, 5, 6, 17] 4 ⟨pqops B64 [4, 1, 1, 1, 1, 4, 4, 4, 0, 4, 4, 1, 4, 0] 1, [.seq (sub B64 pAN5), .block 3, kn1, .block 2, .seq (sub B64 pAN7), .block 1, kn5, .block 0, .scope], [(0, .v (.func (Fn.yield (D + 1)) (Array.mk []) (Array.mk []))), (2, .lp 2 0), (3, .lp 3 0), (5, .sl SA2 sn2 sc2), (6, .v (.pointer (some (Addr.mk b 0 none)))), (17, .v (.pointer (some (Addr.mk b 0 none))))], [([.sl A2 n2 c2], 22), ([.v (.pointer (some (Addr.mk mb 0 none)))], 55), ([.v (.bool false)], 4), ([.fn (Fn.func 53) []], 106)]⟩ ?_
  refine At.nck ⟨b, 0, none⟩ (by kernel_rfl) BF.stable ?_
  refine zT BF.stable h4 [0, 2, 3, 5, 6, 18] 4 ⟨pqops B64 [4, 1, 1, 1, 1, 4, 4, 4, 0, 4, 4, 1, 4, 0] 2, [.seq (sub B64 pAN5), .block 3, kn1, .block 2, .seq (sub B64 pAN7), .block 1, kn5, .block 0, .scope], [(0, .v (.func (Fn.yield (D + 1)) (Array.mk []) (Array.mk []))), (2, .lp 2 0), (3, .lp 3 0), (5, .sl SA2 sn2 sc2), (6, .v (.pointer (some (Addr.mk b 0 none)))), (18, .v (.pointer (some (Addr.mk b 0 none))))], [([.sl A2 n2 c2], 22), ([.v (.pointer (some (Addr.mk mb 0 none)))], 55), ([.v (.bool false)], 4), ([.fn (Fn.func 53) []], 106)]⟩ ?_
  refine At.fax ⟨b, 0, none⟩ 12 (by kernel_rfl) BF.stable ?_
  refine zT BF.stable h4 [0, 2, 3, 5, 6, 19] 4 ⟨pqops B64 [4, 1, 1, 1, 1, 4, 4, 4, 0, 4, 4, 1, 4, 0] 3, [.seq (sub B64 pAN5), .block 3, kn1, .block 2, .seq (sub B64 pAN7), .block 1, kn5, .block 0, .scope], [(0, .v (.func (Fn.yield (D + 1)) (Array.mk []) (Array.mk []))), (2, .lp 2 0), (3, .lp 3 0), (5, .sl SA2 sn2 sc2), (6, .v (.pointer (some (Addr.mk b 0 none)))), (19, .v (.pointer (some (Addr.mk b 12 none))))], [([.sl A2 n2 c2], 22), ([.v (.pointer (some (Addr.mk mb 0 none)))], 55), ([.v (.bool false)], 4), ([.fn (Fn.func 53) []], 106)]⟩ ?_
  refine At.ldx ((⟨b, 0, none⟩ : Addr).add 12) (.v (.pointer pl)) (by kernel_rfl) BF.stable (fun ρ w1 hm' hf => hf.1.2.cell (.head _) rfl) ?_
  refine zT BF.stable h4 [0, 2, 3, 5, 6, 20, 21] 4 ⟨pqops B64 [4, 1, 1, 1, 1, 4, 4, 4, 0, 4, 4, 1, 4, 0] 5, [.seq (sub B64 pAN5), .block 3, kn1, .block 2, .seq (sub B64 pAN7), .block 1, kn5, .block 0, .scope], [(0, .v (.func (Fn.yield (D + 1)) (Array.mk []) (Array.mk []))), (2, .lp 2 0), (3, .lp 3 0), (5, .sl SA2 sn2 sc2), (6, .v (.pointer (some (Addr.mk b 0 none)))), (20, .v (.pointer pl)), (21, .v (.pointer (some (Addr.mk b 0 none))))], [([.sl A2 n2 c2], 22), ([.v (.pointer (some (Addr.mk mb 0 none)))], 55), ([.v (.bool false)], 4), ([.fn (Fn.func 53) []], 106)]⟩ ?_
  refine At.nck ⟨b, 0, none⟩ (by kernel_rfl) BF.stable ?_
  refine zT BF.stable h4 [0, 2, 3, 5, 6, 20, 22] 4 ⟨pqops B64 [4, 1, 1, 1, 1, 4, 4, 4, 0, 4, 4, 1, 4, 0] 6, [.seq (sub B64 pAN5), .block 3, kn1, .block 2, .seq (sub B64 pAN7), .block 1, kn5, .block 0, .scope], [(0, .v (.func (Fn.yield (D + 1)) (Array.mk []) (Array.mk []))), (2, .lp 2 0), (3, .lp 3 0), (5, .sl SA2 sn2 sc2), (6, .v (.pointer (some (Addr.mk b 0 none)))), (20, .v (.pointer pl)), (22, .v (.pointer (some (Addr.mk b 0 none))))], [([.sl A2 n2 c2], 22), ([.v (.pointer (some (Addr.mk mb 0 none)))], 55), ([.v (.bool false)], 4), ([.fn (Fn.func 53) []], 106)]⟩ ?_
  refine At.fax ⟨b, 0, none⟩ 13 (by kernel_rfl) BF.stable ?_
  refine zT BF.stable h4 [0, 2, 3, 5, 6, 20, 23] 4 ⟨pqops B64 [4, 1, 1, 1, 1, 4, 4, 4, 0, 4, 4, 1, 4, 0] 7, [.seq (sub B64 pAN5), .block 3, kn1, .block 2, .seq (sub B64 pAN7), .block 1, kn5, .block 0, .scope], [(0, .v (.func (Fn.yield (D + 1)) (Array.mk []) (Array.mk []))), (2, .lp 2 0), (3, .lp 3 0), (5, .sl SA2 sn2 sc2), (6, .v (.pointer (some (Addr.mk b 0 none)))), (20, .v (.pointer pl)), (23, .v (.pointer (some (Addr.mk b 13 none))))], [([.sl A2 n2 c2], 22), ([.v (.pointer (some (Addr.mk mb 0 none)))], 55), ([.v (.bool false)], 4), ([.fn (Fn.func 53) []], 106)]⟩ ?_
  refine At.ldx ((⟨b, 0, none⟩ : Addr).add 13) (.v (.pointer pr)) (by kernel_rfl) BF.stable (fun ρ w1 hm' hf => hf.1.2.cell (.head _) rfl) ?_
  refine zT BF.stable h4 [0, 2, 3, 5, 6, 7, 8, 28, 29] 4 ⟨pqops B64 [4, 1, 1, 1, 1, 4, 4, 4, 0, 4, 4, 1, 4, 1, 1, 0, 0] 2, [.seq (sub B64 pAN0), .seq (sub B64 pAN1), .block 3, kn1, .block 2, .seq (sub B64 pAN7), .block 1, kn5, .block 0, .scope], [(0, .v (.func (Fn.yield (D + 1)) (Array.mk []) (Array.mk []))), (2, .lp 2 0), (3, .lp 3 0), (5, .sl SA2 sn2 sc2), (6, .v (.pointer (some (Addr.mk b 0 none)))), (7, .v (.pointer pl)), (8, .v (.pointer pr)), (28, .fn (Fn.func 53) []), (29, .v (.pointer (some (Addr.mk b 0 none))))], [([.sl A2 n2 c2], 22), ([.v (.pointer (some (Addr.mk mb 0 none)))], 55), ([.v (.bool false)], 4), ([.fn (Fn.func 53) []], 106)]⟩ ?_
  refine At.nck ⟨b, 0, none⟩ (by kernel_rfl) BF.stable ?_
  refine zT BF.stable h4 [0, 2, 3, 5, 6, 7, 8, 28, 30] 4 ⟨pqops B64 [4, 1, 1, 1, 1, 4, 4, 4, 0, 4, 4, 1, 4, 1, 1, 0, 0] 3, [.seq (sub B64 pAN0), .seq (sub B64 pAN1), .block 3, kn1, .block 2, .seq (sub B64 pAN7), .block 1, kn5, .block 0, .scope], [(0, .v (.func (Fn.yield (D + 1)) (Array.mk []) (Array.mk []))), (2, .lp 2 0), (3, .lp 3 0), (5, .sl SA2 sn2 sc2), (6, .v (.pointer (some (Addr.mk b 0 none)))), (7, .v (.pointer pl)), (8, .v (.pointer pr)), (28, .fn (Fn.func 53) []), (30, .v (.pointer (some (Addr.mk b 0 none))))], [([.sl A2 n2 c2], 22), ([.v (.pointer (some (Addr.mk mb 0 none)))], 55), ([.v (.bool false)], 4), ([.fn (Fn.func 53) []], 106)]⟩ ?_
  refine At.fax ⟨b, 0, none⟩ 0 (by kernel_rfl) BF.stable ?_
  refine zT BF.stable h4 [0, 2, 3, 5, 6, 7, 8, 28, 31] 4 ⟨pqops B64 [4, 1, 1, 1, 1, 4, 4, 4, 0, 4, 4, 1, 4, 1, 1, 0, 0] 4, [.seq (sub B64 pAN0), .seq (sub B64 pAN1), .block 3, kn1, .block 2, .seq (sub B64 pAN7), .block 1, kn5, .block 0, .scope], [(0, .v (.func (Fn.yield (D + 1)) (Array.mk []) (Array.mk []))), (2, .lp 2 0), (3, .lp 3 0), (5, .sl SA2 sn2 sc2), (6, .v (.pointer (some (Addr.mk b 0 none)))), (7, .v (.pointer pl)), (8, .v (.pointer pr)), (28, .fn (Fn.func 53) []), (31, .v (.pointer (some (Addr.mk b 0 none))))], [([.sl A2 n2 c2], 22), ([.v (.pointer (some (Addr.mk mb 0 none)))], 55), ([.v (.bool false)], 4), ([.fn (Fn.func 53) []], 106)]⟩ ?_
  refine At.lda ((⟨b, 0, none⟩ : Addr).add 0) 3 [.so (mkB k.key), .io .i64 k.st, .io .i64 k.en] (by kernel_rfl) rfl BF.stable (fun ρ w1 hm' hf j u hj => by rw [Addr.add_add]; exact hf.1.2.cell (.head _) (part_k hj)) ?_
  refine zT BF.stable h4 [0, 2, 3, 5, 6, 7, 8, 28, 32] 4 ⟨pqops B64 [4, 1, 1, 1, 1, 4, 4, 4, 0, 4, 4, 1, 4, 1, 1, 0, 0] 5, [.seq (sub B64 pAN0), .seq (sub B64 pAN1), .block 3, kn1, .block 2, .seq (sub B64 pAN7), .block 1, kn5, .block 0, .scope], [(0, .v (.func (Fn.yield (D + 1)) (Array.mk []) (Array.mk []))), (2, .lp 2 0), (3, .lp 3 0), (5, .sl SA2 sn2 sc2), (6, .v (.pointer (some (Addr.mk b 0 none)))), (7, .v (.pointer pl)), (8, .v (.pointer pr)), (28, .fn (Fn.func 53) []), (32, .agg [.so (mkB k.key), .io .i64 k.st, .io .i64 k.en])], [([.sl A2 n2 c2], 22), ([.v (.pointer (some (Addr.mk mb 0 none)))], 55), ([.v (.bool false)], 4), ([.fn (Fn.func 53) []], 106)]⟩ ?_
  refine zC BF.stable 53 [.agg [.so (mkB k.key), .io .i64 k.st, .io .i64 k.en]] (.v (.bool false)) (fun ρ _ w1 hi hf => outM2_any k w1) ?_
  refine zT BF.stable h4 [0, 2, 3, 7, 8, 35, 37] 5 ⟨pops B64 [4, 1, 1, 1, 1, 4, 4, 4, 0, 4, 4, 1, 4, 1, 1, 1, 0] 3, [.seq (sub B64 [4, 1, 1, 1, 1, 4, 4, 4, 0, 4, 4, 1, 4, 1, 1, 1, 1]), .block 3, kn1, .block 2, .seq (sub B64 pAN7), .block 1, kn5, .block 0, .scope], [(0, .v (.func (Fn.yield (D + 1)) (Array.mk []) (Array.mk []))), (2, .lp 2 0), (3, .lp 3 0), (7, .v (.pointer pl)), (8, .v (.pointer pr)), (35, .sl SA2 sn2 sc2), (37, .ls 4 0 1 1)], [([.sl A2 n2 c2], 22), ([.v (.pointer (some (Addr.mk mb 0 none)))], 55), ([.v (.bool false)], 4), ([.fn (Fn.func 53) []], 106), ([.v (.pointer (some (Addr.mk b 0 none)))], 97)]⟩ ?_
  refine At.appVX (F' := fun A' c' => BF kw2 vw2 w0.heap.size ρ1 D (.loop (recL fid tmps D))  (⟨97, 1, A', sn2 + 1, c', stk S2 ++ [.pointer (some ⟨b, 0, none⟩)]⟩ :: [⟨40, 9, A2, n2, c2, pv E2⟩]) ((.cel b (nodeW kw2 vw2 k v pl pr (Tr.node k v l r).high (Tr.node k v l r).many)) :: .tr pl l :: .tr pr r :: .tr (some ⟨b, 0, none⟩) (Tr.node k v l r) :: (.cel mb [.func (.func 27) #[] #[], .pointer p]) :: S2.map ndF)) 120 97 1 8 SA2 sn2 sc2 1 [.v (.pointer (some ⟨b, 0, none⟩))] (stk S2) [.pointer (some ⟨b, 0, none⟩)] (by kernel_rfl) (fun _ => rfl) (by omega) (by simp only [maxLen]; omega) (fun ρ w1 hf => hf.1.1.1 _ (List.mem_cons_self ..)) (fun ρ w1 w2 A' c' hm hf hr hg ho => hf.grown (y := ⟨97, 1, A', sn2 + 1, c', stk S2 ++ [.pointer (some ⟨b, 0, none⟩)]⟩) hr hg (ho.imp id .inl) (fun _ _ _ => by simp)) (fun A' c' => ?_)
  refine zT BF.stable h4 [0, 2, 3, 5, 6, 7, 8] 4 ⟨.exit .normal, [kn1, .block 2, .seq (sub B64 pAN7), .block 1, kn5, .block 0, .scope], [(0, .v (.func (Fn.yield (D + 1)) (Array.mk []) (Array.mk []))), (2, .lp 2 0), (3, .lp 3 0), (5, .sl A' (sn2 + 1) c'), (6, .v (.pointer pl)), (7, .v (.pointer pl)), (8, .v (.pointer pr))], [([.sl A2 n2 c2], 22), ([.v (.pointer (some (Addr.mk mb 0 none)))], 55), ([.v (.bool false)], 4), ([.fn (Fn.func 53) []], 106)]⟩ ?_
  refine At.next (σ := WL) ⟨A2, n2, c2, E2, M3, A', sn2 + 1, c', ⟨b, k, v, l, r⟩ :: S2, pl, l⟩ rfl rfl (by unfold subFr; kernel_rfl) (by kernel_rfl) (fun ρ a w1 hi hf => ⟨?_, h1, by simp only [List.length_cons]; omega, ?_, h4', rfl⟩) ?_
  ·refine hf.perm (by rw [stk_cons]) (fun f h => memB h)
  ·simp only [h3, Tr.toL, List.flatMap_cons, restN, List.append_assoc, List.cons_append]
  show Tr.many l < Tr.many (Tr.node k v l r)
  simp only [Tr.many]; omega
end Go.Proofs.YtkjnbafdmjakgaaGreatDoor
end
section
namespace Go.Proofs.YtkjnbafdmjakgaaGreatDoor
open Go.RowKit Go.Sx
def KB (N mb : Nat) (p : Option Addr) (t : Tr AtK Pn) (ρ : List Nat) (w : World) : Prop := Rec mb (mapO2 p) ρ w ∧ KF kw2 vw2 N [mb] [] [.tr p t] ρ w
theorem KB.stable {N mb : Nat} {p : Option Addr} {t : Tr AtK Pn} : Stable (KB N mb p t) := Rec.stable.and KF.stable
theorem KB.fewer {N mb : Nat} {p : Option Addr} {t : Tr AtK Pn} : FewerK 0 (KB N mb p t) := FewerK.and2 Rec.fewer KF.fewer
theorem rec_cell2 {mb : Nat} {p : Option Addr} {ρ : List Nat} {w : World} (h : Rec mb (mapO2 p) ρ w) {j : Nat} {u : Value} (hj : (#[Value.func (.func 27) #[] #[], .pointer p] : Array Value)[j]? = some u) : w.cell? ((⟨mb, 0, none⟩ : Addr).add j) = some u := by
 rw [add_ok, Nat.zero_add]
 simp only [World.cell?, h.1, mapO2]
 exact hj
theorem KB.put {N mb : Nat} {p q : Option Addr} {t u : Tr AtK Pn} {ρ : List Nat} {w w' : World} (h : KB N mb p t ρ w) (h6 : w'.heap[mb]? = some (mapO2 q)) (h7 : TrF kw2 vw2 q u ([mb] ++ owns [] ++ ρ) w') : KB N mb q u ρ w' :=
 ⟨⟨h6, h.1.2⟩, Rws.none _ _ _, fun f hf => by
  rw [List.mem_singleton] at hf
  subst hf
  exact h7⟩
theorem KB.toK {N mb : Nat} {p : Option Addr} {t : Tr AtK Pn} {ρ : List Nat} {w w' : World} (h : KB N mb p t ρ w) (hb : Below w.heap.size w w') : KF kw2 vw2 N [w.heap.size, w.heap.size + 1] [⟨40, 9, none, 0, 0, []⟩] [.cel mb [.func (.func 27) #[] #[], .pointer p], .tr p t] ρ w' := by
 have h1 : KF kw2 vw2 N [] [] [.cel mb [.func (.func 27) #[] #[], .pointer p], .tr p t] ρ w := by
  refine ⟨h.2.1, fun f hf => ?_⟩
  rcases List.mem_cons.1 hf with rfl | hf
  ·refine ⟨fun j u hj => rec_cell2 h.1 (by simpa using hj), (Array.getElem?_eq_some_iff.1 h.1.1).1, fun hm => ?_⟩
   simp only [List.nil_append, List.mem_append] at hm
   rcases hm with hm | hm
   ·obtain ⟨x, hx, hg⟩ := mem_owns.1 hm
    cases hx
   exact h.1.2 hm
  refine Fc.chg (Chg.refl (fun _ => False) w) (fun _ h => h.elim) (fun b hb => .inl ?_) (h.2.2 f hf)
  simp only [List.nil_append, List.mem_append] at hb ⊢
  rcases hb with hb | hb
  ·exact .inl (.inr hb)
  exact .inr hb
 exact (h1.widen hb (fun b hb => by
  simp only [List.mem_cons, List.not_mem_nil, or_false] at hb
  exact .inr (by omega))).nil 40 9
theorem rowF_of {w w' : World} {x : Sx.Rw} (h : Rws w.heap.size [x] [] w') (hb : Below w.heap.size w w') : RowF w (fun _ => False) [] w.heap.size x.e x.size x.A x.n x.c x.xs [] w' :=
 ⟨⟨h.1 x (List.mem_cons_self ..), hb.size⟩, ⟨Chg.ofBelow hb, by simp, rfl⟩, fun g hg => .inr ((h.1 x (List.mem_cons_self ..)).1.lt g hg).1⟩
def lastE (w : World) (ls : List Pn) (e : Ending) (w' : World) : Prop := ∃ (A : Option Addr) (c : Nat), e = .returned (.slice A (lastM ls).length c) ∧ RowF w (fun _ => False) [] w.heap.size 40 9 A (lastM ls).length c (pv ((lastM ls).map (·.2))) [] w'
def LX (w0 : World) (ls : List Pn) (D : Nat) (x : Option Addr × Nat × Nat) (ρ : List Nat) (w : World) : Prop := (Rws w0.heap.size [⟨40, 9, x.1, x.2.1, x.2.2, pv ((lastM ls).map (·.2))⟩] ρ w ∧ Rec D (.deferred (some [])) ρ w) ∧ (x.2.1 = ((lastM ls).map (·.2)).length ∧ w0.heap.size ≤ D)
structure LY where
 i : Nat
 p : Option Addr
 t : Tr AtK Pn
def frLY (mb : Nat) (Al : Option Addr) (nl cl : Nat) : LY → Fr
 | ⟨i, p, t⟩ => [(3, .v (.pointer (some ⟨mb, 0, none⟩))), (14, .sl Al nl cl), (15, .io .i64 (nl : Int)), (16, .io .i64 (i : Int))]
def locLY (_ : LY) : Sx.Loc := []
def GLY (w0 : World) (ls : List Pn) (mb : Nat) : LY → List Nat → World → Prop
 | ⟨i, p, t⟩, ρ, w => KB w0.heap.size mb p t ρ w ∧ (i ≤ ls.length ∧ t.toL = lastM (ls.take i))
set_option maxHeartbeats 20000000 in
set_option maxRecDepth 100000 in
theorem ltail [Md] {D : Nat} (hdf : Md.dfs = [{ target := .collected D, args := #[] }]) {w : World} {ls : List Pn} {mb : Nat} (x : Option Addr × Nat × Nat) :
  At Tryz.prog (bodyPostM Fence.wide 0 Tryz.prog Tryz.f7 (lastE w ls)) w.heap.size w Tryz.f7.ntmps (LX w ls D x) ⟨.exit .normal, [.block 2, .seq (sub B7 [1, 1, 1, 1, 1])], [(7, .lp 0 0), (30, .fn (.func 64) [.lp 1 0, .lp 2 0, .lp 3 0])], locLs mb x.1 x.2.1 x.2.2⟩ := by
 obtain ⟨A, n, c⟩ := x
 refine At.pure fun ⟨hn, hDw⟩ => ?_
 dsimp only at hn ⊢
 refine zT KX1.stable KX1.fewer [2] 0 ⟨.exit .ret, [], [(2, .sl A n c)], []⟩ ?_
 refine At.retM hdf (by kernel_rfl) (.sl A n c) (by kernel_rfl) (fun ρ w h => ⟨hDw, h.2.1⟩) ?_
 intro ρ w9 hm' hD9 hf
 rw [List.length_map] at hn
 refine ⟨A, c, by rw [← hn]; rfl, ?_⟩
 have h8 := rws_putObj (Rws.fewer ρ _ 0 (Nat.zero_le _) hf.1) hD9 (fun _ _ _ => by simp) (.deferred none)
 rw [List.take_zero, hn] at h8
 exact rowF_of h8 hm'.below
set_option maxHeartbeats 20000000 in
set_option maxRecDepth 100000 in
theorem last_any {Al : Option Addr} {nl cl : Nat} {ls : List Pn} (w : World) (hl : SlP w Al nl ls) (hbig : nl ≤ 200) :
  Calls Tryz.prog 7 #[.slice Al nl cl] w (lastE w ls) := by
 have hnl := hl.1
 refine enterM (N := w.heap.size) (F := noF) (fn := Tryz.f7) (c := B7) [.sl Al nl cl] Tryz.func7 rfl rfl (Nat.le_refl _) trivial ?_
 refine zN [0] 0 ⟨pops B7 [1, 0] 0, [.seq (sub B7 [1, 1])], [(0, .sl Al nl cl)], []⟩ ?_
 refine At.callx noF_stable (X := Nat) 26 [.fn (.func 27) []] (fun mb => .tup [.v (.pointer (some ⟨mb, 0, none⟩)), .v (.int .i64 0)]) (fun mb ρ w1 => Rec mb (mapO2 none) ρ w1 ∧ w.heap.size ≤ mb) (fun mb => Stable.andP Rec.stable) (by kernel_rfl) (by kernel_rfl) (by kernel_rfl) (by kernel_rfl) (fun ρ a w1 hi hf => (newM2_any w1).mono fun e w2 h => ?_) (fun mb => ?_)
 ·obtain ⟨mb, h1, h2, h3, h4⟩ := h
  exact ⟨mb, h1, h4, ⟨h2, fun hm => by have := (hi.mem.ge mb hm).2; omega⟩, Nat.le_trans hi.mem.below.size h3⟩
 refine At.mono (F' := fun ρ w1 => KB w.heap.size mb none .nil ρ w1 ∧ w.heap.size ≤ mb) (fun ρ w1 h => ⟨⟨h.2.1, Rws.none _ _ _, fun f hf => by rw [List.mem_singleton] at hf; subst hf; rfl⟩, h.2.2⟩) (At.pure fun hmb => ?_)
 refine zT KB.stable KB.fewer [3, 14, 15, 16] 0 ⟨.code (sub B7 [1, 1, 0, 1, 4]), [.block 0, .seq (sub B7 [1, 1, 1])], [(3, .v (.pointer (some (Addr.mk mb 0 none)))), (14, .sl Al nl cl), (15, .io .i64 (↑nl : Int)), (16, .v (.int .i64 0))], []⟩ ?_
 refine At.canon _ rfl ?_
 refine At.slFr _ rfl ?_
 refine At.loop (σ := LY) (sub B7 [1, 1, 0, 1, 4, 4]) (frLY mb Al nl cl) locLY (GLY w ls mb) (fun x => nl - x.i) ⟨0, none, .nil⟩ (by kernel_rfl) (by unfold subFr; kernel_rfl) (by kernel_rfl) (fun _ _ _ _ h => ⟨h, Nat.zero_le _, rfl⟩) ?_
 rintro ⟨i, p, t⟩
 refine At.pure fun ⟨h1, h2⟩ => ?_
 refine zTq KB.stable KB.fewer [3, 14, 15, 16, 17] 0 ?_
 rcases Bool.eq_false_or_eq_true (decide ((↑i : Int) < (↑nl : Int))) with b0 | b0
 ·refine zR 17 b0 ?_
  refine zT KB.stable KB.fewer [3, 14, 15, 16] 0 ⟨pops B7 [1, 1, 0, 1, 4, 4, 1, 1, 0, 4, 0] 0, [.seq (sub B7 [1, 1, 0, 1, 4, 4, 1, 1, 0, 4, 1]), .block 1, .seq (sub B7 [1, 1, 0, 1, 4, 4, 1, 1, 1]), .next (Sx.Next w.heap.size w Tryz.f7.ntmps (frLY mb Al nl cl) locLY (GLY w ls mb) (fun x => nl - x.i) (LY.mk i p t)), .block 0, .seq (sub B7 [1, 1, 1])], [(3, .v (.pointer (some (Addr.mk mb 0 none)))), (14, .sl Al nl cl), (15, .io .i64 (↑nl : Int)), (16, .io .i64 (↑i : Int))], []⟩ ?_
  have hi : i < nl := by have := of_decide_eq_true b0; omega
  clear b0
  obtain ⟨q, hq⟩ : ∃ q, ls[i]? = some q := ⟨_, List.getElem?_eq_getElem (by rw [hl.1]; exact hi)⟩
  obtain ⟨al, rfl⟩ := hl.some (by omega)
  refine At.idx al nl 9 (i : Int) (by kernel_rfl) (by omega) (by omega) KB.stable ?_
  refine At.lda (al.add ((i : Int).toNat * 9)) 9 [.so (mkB q.key), .io .i64 q.st, .io .i64 q.en, .io .i64 q.kd, .io .i64 q.nt, .io .i64 q.ct, .io .i64 q.sm, .io .i64 q.mn, .io .i64 q.mx] (by kernel_rfl) rfl KB.stable (fun ρ w1 hm' hf j v hj => hl.cell hm'.below hq hj) ?_
  let kn0 : Go.Sx.K := .next (Sx.Next w.heap.size w Tryz.f7.ntmps (frLY mb (some al) nl cl) locLY (GLY w ls mb) (fun x => nl - x.i) (LY.mk i p t))
  refine zT KB.stable KB.fewer [3, 14, 15, 16, 20, 25, 26] 0 ⟨pops B7 [1, 1, 0, 1, 4, 4, 1, 1, 0, 4, 1] 7, [.block 1, .seq (sub B7 [1, 1, 0, 1, 4, 4, 1, 1, 1]), kn0, .block 0, .seq (sub B7 [1, 1, 1])], [(3, .v (.pointer (some (Addr.mk mb 0 none)))), (14, .sl (some al) nl cl), (15, .io .i64 (↑nl : Int)), (16, .io .i64 (↑i : Int)), (20, .v (.pointer (some (Addr.mk mb 0 none)))), (25, .agg [.so (mkB q.key), .io .i64 q.st, .io .i64 q.en]), (26, .agg [.so (mkB q.key), .io .i64 q.st, .io .i64 q.en, .io .i64 q.kd, .io .i64 q.nt, .io .i64 q.ct, .io .i64 q.sm, .io .i64 q.mn, .io .i64 q.mx])], []⟩ ?_
  have hmany : t.many ≤ 200 := by
   rw [← Tr.many_toL, h2]
   have := lastM_len (ls.take i)
   simp only [List.length_take] at this
   omega
  refine At.callg (X := Option Addr) 31 [.v (.pointer (some ⟨mb, 0, none⟩)), .agg [.so (mkB q.key), .io .i64 q.st, .io .i64 q.en], .agg [.so (mkB q.key), .io .i64 q.st, .io .i64 q.en, .io .i64 q.kd, .io .i64 q.nt, .io .i64 q.ct, .io .i64 q.sm, .io .i64 q.mn, .io .i64 q.mx]] (fun _ => .tup [.agg [.so (mkB (gotP (t.get cmp2 (atOf q))).key), .io .i64 (gotP (t.get cmp2 (atOf q))).st, .io .i64 (gotP (t.get cmp2 (atOf q))).en, .io .i64 (gotP (t.get cmp2 (atOf q))).kd, .io .i64 (gotP (t.get cmp2 (atOf q))).nt, .io .i64 (gotP (t.get cmp2 (atOf q))).ct, .io .i64 (gotP (t.get cmp2 (atOf q))).sm, .io .i64 (gotP (t.get cmp2 (atOf q))).mn, .io .i64 (gotP (t.get cmp2 (atOf q))).mx], .bo (t.get cmp2 (atOf q)).isSome, .v (.int .i64 0)]) (fun _ => []) (fun x => KB w.heap.size mb x (t.put cmp2 (atOf q) q)) (by kernel_rfl) (by kernel_rfl) (by kernel_rfl) (by kernel_rfl) (by kernel_rfl) (fun ρ w1 hm hf => ?_) (fun q' => ?_)
  ·refine (PutM2_any (atOf q) q t ([mb] ++ owns [] ++ ρ) p w1 hf.1.1 (by simp) (KF.low hm hf.2 (fun x hx => by rw [List.mem_singleton] at hx; rw [hx]; exact (Array.getElem?_eq_some_iff.1 hf.1.1).1)) (hf.2.2.tree (.head _)) (by omega)).mono ?_
   rintro e w2 ⟨q', rfl, h6, h7, h8⟩
   exact ⟨q', ρ, rfl, Grow.refl _ _, winv_chg hm h8 hmb hf.1.2, KB.put hf h6 h7⟩
  refine zT KB.stable KB.fewer [3, 14, 15, 16] 0 ⟨.exit .normal, [kn0, .block 0, .seq (sub B7 [1, 1, 1])], [(3, .v (.pointer (some (Addr.mk mb 0 none)))), (14, .sl (some al) nl cl), (15, .io .i64 (↑nl : Int)), (16, .io .i64 (IntKind.i64.wrap ((↑i : Int) + 1)))], []⟩ ?_
  have hw3 : IntKind.i64.wrap ((i : Int) + 1) = ((i + 1 : Nat) : Int) := by
   rw [wrap63 (by omega) (by omega)]
   omega
  rw [hw3]
  refine At.next (σ := LY) ⟨i + 1, q', t.put cmp2 (atOf q) q⟩ rfl rfl (by unfold subFr; kernel_rfl) (by kernel_rfl) (fun ρ a' w' hi' hf => ⟨hf, by omega, ?_⟩) ?_
  ·rw [Tr.put_toL lin2 _ _ _ (h2 ▸ lastM_srt _), h2, ← take_snoc hq, lastM_snoc]
  show nl - (i + 1) < nl - i
  omega
 refine zR 17 b0 ?_
 refine zT KB.stable KB.fewer [7, 29] 1 ⟨pops B7 [1, 1, 1, 1, 0, 0] 1, [.seq (sub B7 [1, 1, 1, 1, 0, 1]), .seq (sub B7 [1, 1, 1, 1, 1])], [(7, .lp 0 0), (29, .v (.pointer (some (Addr.mk mb 0 none))))], [([.v (.slice none 0 0)], 22)]⟩ ?_
 have hi : i = nl := by have := of_decide_eq_false b0; omega
 clear b0
 refine At.newcallV 32 [.v (.pointer (some ⟨mb, 0, none⟩))] (.fn (.func 64) [.lp 0 0, .lp 1 0, .lp 2 0]) (.fn (.func 64) [.lp 1 0, .lp 2 0, .lp 3 0]) [([.v (.pointer (some ⟨mb, 0, none⟩))], 55), ([.v (.bool false)], 4), ([.fn (.func 53) []], 106)] KB.stable (by kernel_rfl) (by kernel_rfl) (by kernel_rfl) (by kernel_rfl) (by kernel_rfl) (by kernel_rfl) (fun ρ ρc h => clos3_den h) (by kernel_rfl) (fun ρ w1 hm' hf => allM2_any mb w1) ?_
 refine zT KB.stable KB.fewer [7, 30] 4 ⟨.code (sub B7 pAN8), [.block 2, .seq (sub B7 [1, 1, 1, 1, 1])], [(7, .lp 0 0), (30, .fn (.func 64) [.lp 1 0, .lp 2 0, .lp 3 0])], [([.v (.slice none 0 0)], 22), ([.v (.pointer (some ⟨mb, 0, none⟩))], 55), ([.v (.bool false)], 4), ([.fn (.func 53) []], 106)]⟩ ?_
 refine At.slLoc (s' := ⟨.code (sub B7 pAN8), [.block 2, .seq (sub B7 [1, 1, 1, 1, 1])], [(7, .lp 0 0), (30, .fn (.func 64) [.lp 1 0, .lp 2 0, .lp 3 0])], locLs mb none 0 0⟩) (by kernel_rfl) ?_
 refine At.range (X := Option Addr × Nat × Nat) (t := 30) (params := #[31, 32]) (assign := BLa) (body := BLb) (g := 64) (caps := [.lp 1 0, .lp 2 0, .lp 3 0]) (by kernel_rfl) (by kernel_rfl) (by kernel_rfl) (fun _ => none) (fun x => locLs mb x.1 x.2.1 x.2.2) (fun x D => LX w ls D x) (by kernel_rfl) (fun D fid ρ a wl w2 hi hf hD hw2 => ?_) (fun x D => @ltail (Md.mark D) D rfl w ls mb x)
 subst hD
 have hlen : ρ.length = 4 := hi.mem.len
 have hm1 := winv_alloc (winv_alloc hi.mem (.deferred (some []))) (.loop (recOf fid a.tmps #[31, 32] BLa BLb wl.heap.size .ready none))
 rw [← hw2] at hm1
 have hbel : Below wl.heap.size wl w2 := by
  rw [hw2]
  exact ((Below.refl wl.heap.size wl).alloc (Nat.le_refl _) _).alloc (by rw [show ∀ (v : World) o, (v.alloc o).heap = v.heap.push o from fun _ _ => rfl]; simp) _
 have hd : w2.heap[wl.heap.size]? = some (.deferred (some [])) := by
  rw [hw2, show ∀ (v : World) o, (v.alloc o).heap = v.heap.push o from fun _ _ => rfl, show ∀ (v : World) o, (v.alloc o).heap = v.heap.push o from fun _ _ => rfl]
  simp [Array.getElem?_push]
 have hl2 : w2.heap[wl.heap.size + 1]? = some (.loop (recL fid a.tmps wl.heap.size)) := by
  rw [hw2, show ∀ (v : World) o, (v.alloc o).heap = v.heap.push o from fun _ _ => rfl, show ∀ (v : World) o, (v.alloc o).heap = v.heap.push o from fun _ _ => rfl]
  rw [Array.getElem?_push, if_pos (by simp)]
  rfl
 have hnr : ∀ k, wl.heap.size ≤ k → k ∉ ρ := fun k hk hm => by
  have := (hi.mem.ge k hm).2
  omega
 have hN := hi.mem.hN
 have hfr := (hi.act.sub (small := frK7) (by unfold subFr; kernel_rfl)).slot
 have hK : t.toL.map (·.2) = (lastM ls).map (·.2) := by
  rw [h2, List.take_of_length_le (by omega)]
 have hKn : ((lastM ls).map (·.2)).length ≤ 200 := by
  have := lastM_len ls
  rw [List.length_map]
  omega
 refine iterL_go (w0 := w) (w1 := w2) (ρ1 := ρ) (D := wl.heap.size) (tmps := a.tmps) (fid := fid) (mb := mb) (p := p) (t := t) (K := (lastM ls).map (·.2)) hlen hN hi.act.size hfr hK hKn hm1 ⟨KB.toK hf hbel, ⟨hd, hnr _ (Nat.le_refl _)⟩, ⟨hl2, hnr _ (by omega)⟩, ?_⟩ (fun w3 h => by obtain ⟨⟨v, hv⟩, _⟩ := h; cases hv) ?_
 ·unfold Tk
  rw [List.take_length]
 intro A n c E cp sc SA w3 hn hE hm3 hF3
 subst hE
 have hr3 := hF3.2.2.1
 have hnl : ∀ (c : Array Value) (t : TypeId) (f : Nat × Nat), Obj.loop (recL fid a.tmps wl.heap.size) ≠ .cells c t f := fun _ _ _ => by simp
 refine ⟨⟨_, rfl⟩, (A, n, c), ρ, recL fid a.tmps wl.heap.size, Grow.refl _ _, hm3.putObj (by omega) hr3.2 _, hr3.1, by simp [recL], rfl, ⟨rws_putObj (hF3.1.1.sub (List.Sublist.cons _ (List.Sublist.refl _))) hr3.1 hnl _, ?_, hF3.2.1.2⟩, hn, hN⟩
 rw [World.putObj_heap_other (by omega)]
 exact hF3.2.1.1
end Go.Proofs.YtkjnbafdmjakgaaGreatDoor
end
section
/- A map of one's own, by its entries; slices of rows. -/
namespace Go.Sx
open Go.RowKit
section
variable {P : Program} {Q : Exit → Act → World → Prop} {N : Nat} {w0 : World} {ntm : Nat} {F : List Nat → World → Prop}
def putE (k : ByteArray) (v : Value) (es : Array MapEntry) (clk : Nat) : Option (Nat × Value) → Array MapEntry × Nat
 | some (i, _) => (es.modify i fun e => { e with key := .string k, val := v }, clk)
 | none => (es.push { key := .string k, val := v, born := clk }, clk + 1)
theorem run_muE {ρ : List Nat} {fr : Fr} {a : Act} (ha : AInv ntm ρ fr a) {o : Oper} {m : Nat} {sk sv : SV} (hq : muQ P fr o = some (m, sk, sv)) {k : ByteArray} (hk : sk.den ρ = .string k) {v : Value} (hv : sv.den ρ = v) {w : World} {es : Array MapEntry} {clk : Nat} (hb : w.heap[m]? = some (.map es clk))
  {r : Option (Nat × Value)} (hr : Instr.findNow .string (.string k) es.toList 0 = some r) (hr2 : ∀ i u, r = some (i, u) → ∃ e, es[i]? = some e ∧ e.key = .string k) : o.dst = none ∧ (execOp a.eval o).run P w = .ok .skip { w with heap := w.heap.setIfInBounds m (.map (putE k v es clk r).1 (putE k v es clk r).2) } := by
 obtain ⟨dst, op, ty, pos, after, guard⟩ := o
 unfold muQ at hq
 simp only at hq
 split at hq
 ·rename_i t x k0 v0
  split at hq
  ·rename_i m' sk' sv' kt et hx hsk hsv hu
   split at hq
   ·rename_i hkt
    simp only [Option.some.injEq, Prod.mk.injEq] at hq
    obtain ⟨rfl, rfl, rfl⟩ := hq
    refine ⟨rfl, ?_⟩
    have hc : (Instr.checkKey false 10000 kt (.string k)).run P w = .ok () w := MapKept.run_checkKey (k := .string k) hkt (by simp [MapKept.IsKey]) false 9999
    have hks : (Instr.keyThatStays (.string k) (.string k)).run P w = .ok (.string k) w := MapKept.run_keyThatStays (d := .string) (by simp [MapKept.IsKey])
    cases r with
    | none =>
     simp [execOp, evalS_sound ha hx, evalS_sound ha hsk, evalS_sound ha hsv, hk, hv, SV.den, Instr.mapUpdate, run_underlying hu, MapKept.run_getObj_map hb, hc, MapKept.run_findKey hkt hr, MapKept.run_setObj_map _ hb, Result.andThen, putE]
    | some iu =>
     obtain ⟨i, u⟩ := iu
     obtain ⟨e, he, hek⟩ := hr2 i u rfl
     simp [execOp, evalS_sound ha hx, evalS_sound ha hsk, evalS_sound ha hsv, hk, hv, SV.den, Instr.mapUpdate, run_underlying hu, MapKept.run_getObj_map hb, hc, MapKept.run_findKey hkt hr, he, hek, hks, MapKept.run_setObj_map _ hb, Result.andThen, putE]
   cases hq
  cases hq
 cases hq
theorem At.mapPutE {G : List Nat → World → Prop} {s : S} (m : Nat) (sk sv : SV) (k : ByteArray) (v : Value) (es : Array MapEntry) (clk : Nat) (r : Option (Nat × Value)) (es' : Array MapEntry) (clk' : Nat) (hq : muI P s = some (m, sk, sv)) (hk : ∀ ρ, sk.den ρ = .string k) (hv : ∀ ρ, sv.den ρ = v)
  (hr : Instr.findNow .string (.string k) es.toList 0 = some r) (hr2 : ∀ i u, r = some (i, u) → ∃ e, es[i]? = some e ∧ e.key = .string k) (he : putE k v es clk r = (es', clk')) (hN : N ≤ m) (hm : ∀ ρ w, F ρ w → MapF m es clk ρ w) (hG : ∀ ρ w, F ρ w → G ρ { w with heap := w.heap.setIfInBounds m (.map es' clk') })
  (h : At P Q N w0 ntm G s.past) : At P Q N w0 ntm F s := by
 unfold muI at hq
 split at hq
 ·rename_i o ho hpl
  obtain ⟨all, rest, h1, h2, h3⟩ := S.past_at ho hpl
  intro ρ act w hi hf
  obtain ⟨hb, hmr⟩ := hm ρ w hf
  obtain ⟨hd, hrun⟩ := run_muE hi.act hq (hk ρ) (hv ρ) hb hr hr2
  rw [he] at hrun
  have hk' := h ρ act _ (by rw [h2]; exact ⟨hi.act, hi.mem.setMap hN hmr _⟩) (hG ρ w hf)
  rw [h2] at hk'
  rw [h1]
  show wpList P all _ (o :: rest) act w
  unfold wpList
  rw [if_pos (guardS_ok hi.act h3)]
  refine .inl ?_
  unfold Oper.wp
  rw [hrun, Oper.upon_skip, hd]
  exact hk'
 cases hq
end
end Go.Sx
namespace Go.Proofs.YtkjnbafdmjakgaaGreatDoor
open Go.RowKit Go.Sx
structure ME where
 k : List UInt8
 s : SlV
 ps : List Pn
 b : Nat
def entE (y : ME) : MapEntry := { key := .string (mkB y.k), val := .slice y.s.A y.s.n y.s.c, born := y.b }
def esOf (M : List ME) : Array MapEntry := (M.map entE).toArray
def mget (k : List UInt8) : List ME → Option ME
 | [] => none
 | y :: M => if y.k = k then some y else mget k M
def mput (k : List UInt8) (s : SlV) (ps : List Pn) (clk : Nat) : List ME → List ME
 | [] => [⟨k, s, ps, clk⟩]
 | y :: M => if y.k = k then ⟨k, s, ps, y.b⟩ :: M else y :: mput k s ps clk M
def mclk (k : List UInt8) (clk : Nat) (M : List ME) : Nat := match mget k M with | some _ => clk | none => clk + 1
def midx (k : List UInt8) : List ME → Nat → Option (Nat × Value)
 | [], _ => none
 | y :: M, i => if y.k = k then some (i, .slice y.s.A y.s.n y.s.c) else midx k M (i + 1)
theorem same_str (a b : List UInt8) : Instr.sameNow .string (.string (mkB a)) (.string (mkB b)) = some (decide (b = a)) := by
 simp only [Instr.sameNow, Option.some.injEq]
 rw [Bool.eq_iff_iff, MapKept.bytes_beq, decide_eq_true_eq]
 unfold mkB
 constructor
 ·intro h
  injection h with h
  exact (List.toArray_inj h).symm
 intro h
 rw [h]
theorem find_midx (k : List UInt8) : ∀ (M : List ME) (i : Nat), Instr.findNow .string (.string (mkB k)) (M.map entE) i = some (midx k M i)
 | [], i => rfl
 | y :: M, i => by
  have ih := find_midx k M (i + 1)
  simp only [List.map_cons, Instr.findNow, entE, same_str, midx]
  by_cases h : y.k = k
  ·simp [h]
  simp only [h, decide_false, if_false]
  exact ih
theorem find_es (k : List UInt8) (M : List ME) : Instr.findNow .string (.string (mkB k)) (esOf M).toList 0 = some (midx k M 0) := by
 unfold esOf
 rw [List.toList_toArray]
 exact find_midx k M 0
theorem midx_val (k : List UInt8) : ∀ (M : List ME) (i : Nat), ((midx k M i).map (·.2)).getD (.slice none 0 0) = match mget k M with | some y => .slice y.s.A y.s.n y.s.c | none => .slice none 0 0
 | [], i => rfl
 | y :: M, i => by
  have ih := midx_val k M (i + 1)
  simp only [midx, mget]
  by_cases h : y.k = k
  ·simp [h]
  simp only [h, if_false]
  exact ih
theorem midx_at (k : List UInt8) : ∀ (M : List ME) (i j : Nat) (u : Value), midx k M i = some (j, u) → i ≤ j ∧ ∃ y, M[j - i]? = some y ∧ y.k = k
 | [], _, _, _, h => by cases h
 | y :: M, i, j, u, h => by
  simp only [midx] at h
  split at h
  ·rename_i hk
   injection h with h
   injection h with h _
   subst h
   exact ⟨Nat.le_refl _, y, by simp, hk⟩
  obtain ⟨h1, z, h2, h3⟩ := midx_at k M (i + 1) j u h
  refine ⟨by omega, z, ?_, h3⟩
  rw [show j - i = (j - (i + 1)) + 1 by omega, List.getElem?_cons_succ]
  exact h2
theorem midx_es {k : List UInt8} {M : List ME} (i : Nat) (u : Value) (h : midx k M 0 = some (i, u)) : ∃ e, (esOf M)[i]? = some e ∧ e.key = .string (mkB k) := by
 obtain ⟨_, y, h1, h2⟩ := midx_at k M 0 i u h
 refine ⟨entE y, ?_, by rw [← h2]; rfl⟩
 unfold esOf
 rw [List.getElem?_toArray, List.getElem?_map, show i = i - 0 by omega, h1]
 rfl
theorem put_list (k : List UInt8) (s : SlV) (ps : List Pn) (clk : Nat) : ∀ (M : List ME) (i : Nat), (match midx k M i with | some (j, _) => (M.map entE).modify (j - i) (fun e => { e with key := .string (mkB k), val := .slice s.A s.n s.c }) | none => M.map entE ++ [entE ⟨k, s, ps, clk⟩]) = (mput k s ps clk M).map entE
 | [], i => rfl
 | y :: M, i => by
  have ih := put_list k s ps clk M (i + 1)
  simp only [midx, mput]
  by_cases h : y.k = k
  ·simp [h, entE]
  simp only [h, if_false, List.map_cons]
  rw [← ih]
  cases hm : midx k M (i + 1) with
  | none => simp
  | some ju =>
   obtain ⟨j, u⟩ := ju
   obtain ⟨h1, _⟩ := midx_at k M (i + 1) j u hm
   simp only
   rw [show j - i = (j - (i + 1)) + 1 by omega]
   simp
theorem midx_get (k : List UInt8) : ∀ (M : List ME) (i : Nat), (midx k M i).isSome = (mget k M).isSome
 | [], _ => rfl
 | y :: M, i => by
  simp only [midx, mget]
  by_cases h : y.k = k
  ·simp [h]
  simp only [h, if_false]
  exact midx_get k M (i + 1)
theorem putE_es (k : List UInt8) (s : SlV) (ps : List Pn) (clk : Nat) (M : List ME) : putE (mkB k) (.slice s.A s.n s.c) (esOf M) clk (midx k M 0) = (esOf (mput k s ps clk M), mclk k clk M) := by
 have h := put_list k s ps clk M 0
 have h2 := midx_get k M 0
 unfold mclk
 cases hm : midx k M 0 with
 | none =>
  rw [hm] at h h2
  simp only at h
  have h3 : mget k M = none := by
   cases hg : mget k M with
   | none => rfl
   | some y => rw [hg] at h2; cases h2
  rw [h3]
  simp only [putE, esOf, ← h, Prod.mk.injEq, and_true]
  simp [entE]
 | some ju =>
  obtain ⟨j, u⟩ := ju
  rw [hm] at h h2
  simp only [Nat.sub_zero] at h
  obtain ⟨y, h3⟩ := Option.isSome_iff_exists.1 h2.symm
  rw [h3]
  simp only [putE, esOf, ← h, Prod.mk.injEq, and_true]
  simp
theorem mget_put (k k' : List UInt8) (s : SlV) (ps : List Pn) (clk : Nat) : ∀ M : List ME, (mget k (mput k' s ps clk M)).map (fun y => (y.s, y.ps)) = if k' = k then some (s, ps) else (mget k M).map fun y => (y.s, y.ps)
 | [] => by
  simp only [mput, mget]
  split <;> rfl
 | y :: M => by
  have ih := mget_put k k' s ps clk M
  simp only [mput]
  by_cases h : y.k = k'
  ·simp only [h, if_true, mget]
   by_cases h2 : k' = k
   ·simp [h2]
   simp [h2]
  simp only [h, if_false, mget]
  by_cases h2 : y.k = k
  ·simp only [h2, if_true]
   by_cases h3 : k' = k
   ·exact absurd (h2.trans h3.symm) h
   simp [h3]
  simp only [h2, if_false]
  exact ih
def mps (k : List UInt8) (M : List ME) : List Pn := match mget k M with | some y => y.ps | none => []
def msl (k : List UInt8) (M : List ME) : SlV := match mget k M with | some y => y.s | none => ⟨none, 0, 0⟩
theorem mps_put (k k' : List UInt8) (s : SlV) (ps : List Pn) (clk : Nat) (M : List ME) : mps k (mput k' s ps clk M) = if k' = k then ps else mps k M := by
 have h := mget_put k k' s ps clk M
 unfold mps
 cases h1 : mget k (mput k' s ps clk M) with
 | none =>
  rw [h1] at h
  split at h
  ·cases h
  rename_i h2
  rw [if_neg h2]
  cases h3 : mget k M with
  | none => rfl
  | some y => rw [h3] at h; cases h
 | some z =>
  rw [h1] at h
  split at h
  ·rename_i h2
   rw [if_pos h2]
   simp only [Option.map_some, Option.some.injEq, Prod.mk.injEq] at h
   exact h.2
  rename_i h2
  rw [if_neg h2]
  cases h3 : mget k M with
  | none => rw [h3] at h; cases h
  | some y =>
   rw [h3] at h
   simp only [Option.map_some, Option.some.injEq, Prod.mk.injEq] at h
   exact h.2
theorem mput_mem {k : List UInt8} {s : SlV} {ps : List Pn} {clk : Nat} {z : ME} : ∀ {M : List ME}, z ∈ mput k s ps clk M → (z.s = s ∧ z.ps = ps) ∨ z ∈ M
 | [], h => by
  simp only [mput, List.mem_singleton] at h
  subst h
  exact .inl ⟨rfl, rfl⟩
 | y :: M, h => by
  simp only [mput] at h
  split at h
  ·rcases List.mem_cons.1 h with rfl | h
   ·exact .inl ⟨rfl, rfl⟩
   exact .inr (List.mem_cons_of_mem _ h)
  rcases List.mem_cons.1 h with rfl | h
  ·exact .inr (List.mem_cons_self ..)
  rcases mput_mem h with h | h
  ·exact .inl h
  exact .inr (List.mem_cons_of_mem _ h)
theorem msl_mem (k : List UInt8) : ∀ M : List ME, (msl k M = ⟨none, 0, 0⟩ ∧ mps k M = [] ∧ mget k M = none) ∨ ∃ y ∈ M, msl k M = y.s ∧ mps k M = y.ps
 | [] => .inl ⟨rfl, rfl, rfl⟩
 | y :: M => by
  unfold msl mps
  simp only [mget]
  by_cases h : y.k = k
  ·simp only [h, if_true]
   exact .inr ⟨y, List.mem_cons_self .., rfl, rfl⟩
  simp only [h, if_false]
  rcases msl_mem k M with ⟨h1, h2, h3⟩ | ⟨z, hz, h1, h2⟩
  ·rw [h3]
   exact .inl ⟨rfl, rfl, rfl⟩
  exact .inr ⟨z, List.mem_cons_of_mem _ hz, h1, h2⟩
def rowM (y : ME) : Sx.Rw := ⟨40, 9, y.s.A, y.s.n, y.s.c, pv y.ps⟩
theorem mput_rows (k : List UInt8) : ∀ M : List ME, ∃ R : List Sx.Rw, ((mget k M = none ∧ R = M.map rowM) ∨ (M.map rowM).Perm (⟨40, 9, (msl k M).A, (msl k M).n, (msl k M).c, pv (mps k M)⟩ :: R)) ∧ ∀ s ps clk, ((mput k s ps clk M).map rowM).Perm (⟨40, 9, s.A, s.n, s.c, pv ps⟩ :: R)
 | [] => ⟨[], .inl ⟨rfl, rfl⟩, fun _ _ _ => List.Perm.refl _⟩
 | y :: M => by
  obtain ⟨R, h1, h2⟩ := mput_rows k M
  by_cases h : y.k = k
  ·refine ⟨M.map rowM, .inr ?_, fun s ps clk => ?_⟩
   ·unfold msl mps
    simp only [mget, h, if_true]
    exact List.Perm.refl _
   simp only [mput, h, if_true]
   exact List.Perm.refl _
  refine ⟨rowM y :: R, ?_, fun s ps clk => ?_⟩
  ·rcases h1 with ⟨h3, h4⟩ | h3
   ·exact .inl ⟨by simp only [mget, h, if_false]; exact h3, by rw [h4]; rfl⟩
   refine .inr ?_
   have e1 : msl k (y :: M) = msl k M := by unfold msl; simp only [mget, h, if_false]
   have e2 : mps k (y :: M) = mps k M := by unfold mps; simp only [mget, h, if_false]
   rw [e1, e2, List.map_cons]
   exact (h3.cons _).trans (List.Perm.swap ..)
  simp only [mput, h, if_false, List.map_cons]
  exact ((h2 s ps clk).cons _).trans (List.Perm.swap ..)
def Suf (L : List Sx.Rw) (s : SlV) (ps : List Pn) : Prop := s.n = ps.length ∧ s.n ≤ s.c ∧ (ps = [] ∨ ∃ x ∈ L, ∃ a j qs, x.A = some a ∧ s.A = some (a.add (j * 9)) ∧ x.xs = pv qs ∧ qs.drop j = ps)
theorem Suf.tail {L : List Sx.Rw} {s : SlV} {p : Pn} {ps : List Pn} (h : Suf L s (p :: ps)) : ∃ r, s.A = some r ∧ Suf L ⟨if s.c = 1 then some r else some (r.add 9), s.n - 1, s.c - 1⟩ ps := by
 obtain ⟨h1, h2, h3⟩ := h
 simp only [List.length_cons] at h1
 rcases h3 with h3 | ⟨x, hx, a, j, qs, h3, h4, h5, h6⟩
 ·cases h3
 refine ⟨_, h4, by simp only; omega, by simp only; omega, ?_⟩
 cases ps with
 | nil => exact .inl rfl
 | cons q ps =>
  simp only [List.length_cons] at h1
  refine .inr ⟨x, hx, a, j + 1, qs, h3, ?_, h5, ?_⟩
  ·rw [if_neg (by omega), add_add, Nat.succ_mul]
  rw [← List.drop_drop, h6]
  rfl
theorem Suf.cell {L : List Sx.Rw} {s : SlV} {p : Pn} {ps : List Pn} {b : Nat} {ρ ρ' : List Nat} {w : World} (h : Suf L s (p :: ps)) (hR : Rws b L ρ w) {r : Addr} (hr : s.A = some r) {j : Nat} {v : Value} (hv : (SV.denL ρ' (paneL (mkB p.key) p.st p.en p.kd p.nt p.ct p.sm p.mn p.mx))[j]? = some v) : w.cell? ((r.add ((0 : Int).toNat * 9)).add j) = some v := by
 obtain ⟨h1, h2, h3⟩ := h
 rcases h3 with h3 | ⟨x, hx, a, i, qs, h3, h4, h5, h6⟩
 ·cases h3
 have hs := hR.src hx h3
 rw [hr] at h4
 injection h4 with h4
 subst h4
 rw [add_add, add_add]
 have hp : qs[i]? = some p := by
  have := congrArg (fun l => l[0]?) h6
  simpa using this
 have hj : p.cells[j]? = some v := hv
 have := pv_at hp hj
 rw [show i * 9 + ((0 : Int).toNat * 9 + j) = i * 9 + j by simp]
 exact hs _ _ (h5 ▸ this)
end Go.Proofs.YtkjnbafdmjakgaaGreatDoor
end
section
namespace Go.Proofs.YtkjnbafdmjakgaaGreatDoor
open Go.RowKit Go.Sx
structure OY where
 i : Nat
 A : Option Addr
 n : Nat
 c : Nat
def frOY (key : List UInt8) (Al : Option Addr) (nl cl : Nat) : OY → Fr
 | ⟨i, A, n, c⟩ => [(1, .so (mkB key)), (5, .sl A n c), (8, .sl Al nl cl), (9, .io .i64 (nl : Int)), (10, .io .i64 (i : Int))]
def locOY (_ : OY) : Sx.Loc := []
def GOY (w0 : World) (ls : List Pn) (key : List UInt8) : OY → List Nat → World → Prop
 | ⟨i, A, n, c⟩, ρ, w => Rws w0.heap.size [⟨40, 9, A, n, c, pv (grp key (ls.take i))⟩] ρ w ∧ (i ≤ ls.length ∧ n = (grp key (ls.take i)).length)
noncomputable def B8z : Code := (Tryz.f8.body).getD .skip
set_option maxHeartbeats 20000000 in
set_option maxRecDepth 100000 in
theorem of_any {Al : Option Addr} {nl cl : Nat} {ls : List Pn} (key : List UInt8) (w : World) (hl : SlP w Al nl ls) (hbig : nl ≤ 200) :
  Calls Tryz.prog 8 #[.slice Al nl cl, .string (mkB key)] w fun e w' => ∃ A c, e = .returned (.slice A (grp key ls).length c) ∧ RowF w (fun _ => False) [] w.heap.size 40 9 A (grp key ls).length c (pv (grp key ls)) [] w' := by
 have hnl := hl.1
 refine enter (fn := Tryz.f8) (c := B8z) [.sl Al nl cl, .so (mkB key)] Tryz.func8 rfl rfl ?_
 refine zN [1, 5, 8, 9, 10] 0 ⟨.code (sub B8z [1, 1, 0, 1, 4]), [.block 0, .seq (sub B8z [1, 1, 1])], [(1, .so (mkB key)), (5, .v (.slice none 0 0)), (8, .sl Al nl cl), (9, .io .i64 (↑nl : Int)), (10, .v (.int .i64 0))], []⟩ ?_
 refine At.canon _ rfl ?_
 refine At.slFr _ rfl ?_
 refine At.loop (σ := OY) (sub B8z [1, 1, 0, 1, 4, 4]) (frOY key Al nl cl) locOY (GOY w ls key) (fun x => nl - x.i) ⟨0, none, 0, 0⟩ (by kernel_rfl) (by unfold subFr; kernel_rfl) (by kernel_rfl) (fun _ _ _ _ h => ⟨Rws.nil (Rws.none _ _ _) 40 9, Nat.zero_le _, rfl⟩) ?_
 rintro ⟨i, A, n, c⟩
 refine At.pure fun ⟨h1, h2⟩ => ?_
 refine zTq Rws.stable Rws.fewer [1, 5, 8, 9, 10, 11] 0 ?_
 rcases Bool.eq_false_or_eq_true (decide ((↑i : Int) < (↑nl : Int))) with b0 | b0
 ·refine zR 11 b0 ?_
  refine zT Rws.stable Rws.fewer [1, 5, 8, 9, 10] 0 ⟨pops B8z [1, 1, 0, 1, 4, 4, 1, 1, 0, 4, 0] 0, [.seq (sub B8z [1, 1, 0, 1, 4, 4, 1, 1, 0, 4, 1]), .block 1, .seq (sub B8z [1, 1, 0, 1, 4, 4, 1, 1, 1]), .next (Sx.Next w.heap.size w Tryz.f8.ntmps (frOY key Al nl cl) locOY (GOY w ls key) (fun x => nl - x.i) (OY.mk i A n c)), .block 0, .seq (sub B8z [1, 1, 1])], [(1, .so (mkB key)), (5, .sl A n c), (8, .sl Al nl cl), (9, .io .i64 (↑nl : Int)), (10, .io .i64 (↑i : Int))], []⟩ ?_
  have hi : i < nl := by have := of_decide_eq_true b0; omega
  clear b0
  obtain ⟨q, hq⟩ : ∃ q, ls[i]? = some q := ⟨_, List.getElem?_eq_getElem (by rw [hl.1]; exact hi)⟩
  obtain ⟨al, rfl⟩ := hl.some (by omega)
  refine At.idx al nl 9 (i : Int) (by kernel_rfl) (by omega) (by omega) Rws.stable ?_
  refine At.lda (al.add ((i : Int).toNat * 9)) 9 [.so (mkB q.key), .io .i64 q.st, .io .i64 q.en, .io .i64 q.kd, .io .i64 q.nt, .io .i64 q.ct, .io .i64 q.sm, .io .i64 q.mn, .io .i64 q.mx] (by kernel_rfl) rfl Rws.stable (fun ρ w1 hm' hf j v hj => hl.cell hm'.below hq hj) ?_
  have hn : n ≤ i := by
   rw [h2]
   exact Nat.le_trans (grp_le _ _) (by rw [List.length_take]; omega)
  have hg : grp key (ls.take (i + 1)) = if q.key = key then grp key (ls.take i) ++ [q] else grp key (ls.take i) := by
   rw [← take_snoc hq, grp_app, grp_one]
   split
   ·rfl
   simp
  refine zTq Rws.stable Rws.fewer [1, 5, 7, 8, 9, 10, 17] 1 ?_
  rcases Bool.eq_false_or_eq_true ((mkB q.key).toList == (mkB key).toList) with b0 | b0
  ·refine zR 17 b0 ?_
   let kn0 : Go.Sx.K := .next (Sx.Next w.heap.size w Tryz.f8.ntmps (frOY key (some al) nl cl) locOY (GOY w ls key) (fun x => nl - x.i) (OY.mk i A n c))
   refine zT Rws.stable Rws.fewer [1, 8, 9, 10, 18, 20] 2 ⟨pops B8z [1, 1, 0, 1, 4, 4, 1, 1, 0, 4, 1, 1, 2] 3, [.block 1, .seq (sub B8z [1, 1, 0, 1, 4, 4, 1, 1, 1]), kn0, .block 0, .seq (sub B8z [1, 1, 1])], [(1, .so (mkB key)), (8, .sl (some al) nl cl), (9, .io .i64 (↑nl : Int)), (10, .io .i64 (↑i : Int)), (18, .sl A n c), (20, .ls 1 0 1 1)], [([.so (mkB q.key), .io .i64 q.st, .io .i64 q.en, .io .i64 q.kd, .io .i64 q.nt, .io .i64 q.ct, .io .i64 q.sm, .io .i64 q.mn, .io .i64 q.mx], 40), ([.so (mkB q.key), .io .i64 q.st, .io .i64 q.en, .io .i64 q.kd, .io .i64 q.nt, .io .i64 q.ct, .io .i64 q.sm, .io .i64 q.mn, .io .i64 q.mx], 40)]⟩ ?_
   rw [str_beq] at b0
   have hk : q.key = key := of_decide_eq_true b0
   rw [if_pos hk] at hg
   refine At.appVX (F' := fun A' c' => Rws w.heap.size [⟨40, 9, A', n + 1, c', pv (grp key (ls.take i) ++ [q])⟩]) 22 40 9 80 A n c 1 [.so (mkB q.key), .io .i64 q.st, .io .i64 q.en, .io .i64 q.kd, .io .i64 q.nt, .io .i64 q.ct, .io .i64 q.sm, .io .i64 q.mn, .io .i64 q.mx] (pv (grp key (ls.take i))) q.cells (by kernel_rfl) (fun _ => rfl) (by omega) (by simp only [maxLen]; omega) (fun ρ w1 hf => hf.1 _ (List.mem_cons_self ..)) (fun ρ w1 w2 A' c' hm hf hr hg ho => Rws.grown (y := ⟨40, 9, A', n + 1, c', pv (grp key (ls.take i) ++ [q])⟩) hf (by rw [pv_app]; exact hr) hg (ho.imp id .inl)) (fun A' c' => ?_)
   refine zT Rws.stable Rws.fewer [1, 5, 8, 9, 10] 0 ⟨.exit .normal, [kn0, .block 0, .seq (sub B8z [1, 1, 1])], [(1, .so (mkB key)), (5, .sl A' (n + 1) c'), (8, .sl (some al) nl cl), (9, .io .i64 (↑nl : Int)), (10, .io .i64 (IntKind.i64.wrap ((↑i : Int) + 1)))], []⟩ ?_
   have hw3 : IntKind.i64.wrap ((i : Int) + 1) = ((i + 1 : Nat) : Int) := by
    rw [wrap63 (by omega) (by omega)]
    omega
   rw [hw3]
   refine At.next (σ := OY) ⟨i + 1, A', n + 1, c'⟩ rfl rfl (by unfold subFr; kernel_rfl) (by kernel_rfl) (fun ρ a' w' hi' hf => ⟨?_, by omega, ?_⟩) ?_
   ·rw [hg]
    exact hf
   ·rw [hg, h2]
    try simp
   show nl - (i + 1) < nl - i
   omega
  refine zR 17 b0 ?_
  refine zT Rws.stable Rws.fewer [1, 5, 8, 9, 10] 0 ⟨.exit .normal, [.next (Sx.Next w.heap.size w Tryz.f8.ntmps (frOY key (some al) nl cl) locOY (GOY w ls key) (fun x => nl - x.i) (OY.mk i A n c)), .block 0, .seq (sub B8z [1, 1, 1])], [(1, .so (mkB key)), (5, .sl A n c), (8, .sl (some al) nl cl), (9, .io .i64 (↑nl : Int)), (10, .io .i64 (IntKind.i64.wrap ((↑i : Int) + 1)))], []⟩ ?_
  rw [str_beq] at b0
  have hk : ¬ q.key = key := of_decide_eq_false b0
  rw [if_neg hk] at hg
  have hw3 : IntKind.i64.wrap ((i : Int) + 1) = ((i + 1 : Nat) : Int) := by
   rw [wrap63 (by omega) (by omega)]
   omega
  rw [hw3]
  refine At.next (σ := OY) ⟨i + 1, A, n, c⟩ rfl rfl (by unfold subFr; kernel_rfl) (by kernel_rfl) (fun ρ a' w' hi' hf => ⟨?_, by omega, ?_⟩) ?_
  ·rw [hg]
   exact hf
  ·rw [hg, h2]
   try simp
  show nl - (i + 1) < nl - i
  omega
 refine zR 11 b0 ?_
 refine zT Rws.stable Rws.fewer [4] 0 ⟨.exit .ret, [], [(4, .sl A n c)], []⟩ ?_
 refine zE (.sl A n c) ?_
 have hi : i = nl := by have := of_decide_eq_false b0; omega
 subst hi
 rw [List.take_of_length_le (by omega)] at h2
 subst h2
 intro ρ w9 hm hf
 refine ⟨A, c, rfl, ?_⟩
 rw [List.take_of_length_le (by omega)] at hf
 have h8 := Rws.fewer ρ _ 0 (Nat.zero_le _) hf
 rw [List.take_zero] at h8
 exact rowF_of h8 hm.below
end Go.Proofs.YtkjnbafdmjakgaaGreatDoor
end
