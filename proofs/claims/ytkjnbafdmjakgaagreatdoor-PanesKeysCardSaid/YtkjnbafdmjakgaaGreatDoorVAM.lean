/- Joined texts: TQ, TR. -/
import Derived.Test.YtkjnbafdmjakgaaGreatDoorVAL
set_option linter.unusedSimpArgs false
set_option linter.unusedVariables false
namespace Go.Sx
open Go
def pAM0 : List Nat := [4, 1, 1, 1, 1, 4, 4, 4, 0, 4, 4, 1, 4, 1, 1, 0, 1]
def pAM1 : List Nat := [4, 1, 1, 1, 1, 4, 4, 4, 0, 4, 4, 1, 4, 1, 1, 1]
def pAM2 : List Nat := [4, 1, 1, 1, 1, 4, 4, 4, 1, 1, 1, 1, 1, 1, 3]
def pAM3 : List Nat := [4, 1, 1, 1, 1, 4, 4, 4, 1, 1, 1, 1, 0, 0]
def pAM4 : List Nat := [4, 1, 1, 1, 1, 4, 4, 4, 1, 1, 1, 1, 0, 1]
def pAM5 : List Nat := [4, 1, 1, 1, 1, 4, 4, 4, 0, 4, 4, 1, 4, 1]
def pAM6 : List Nat := [4, 1, 1, 1, 1, 4, 4, 4, 1, 1, 1, 1, 1]
def pAM7 : List Nat := [1, 1, 0, 1, 4, 4, 1, 1, 0, 4, 1, 1]
def pAM8 : List Nat := [4, 1, 1, 1, 1, 4, 4, 4, 1]
def pAM9 : List Nat := [1, 1, 0, 1, 4, 4, 1, 1, 1]
end Go.Sx
section
namespace Go.Proofs.YtkjnbafdmjakgaaGreatDoor
open Go.RowKit Go.Sx
section
variable {κ ν : Type} {kw : κ → List Value} {vw : ν → List Value}
structure Nd (κ ν : Type) where
 b : Nat
 k : κ
 v : ν
 l : Tr κ ν
 r : Tr κ ν
def ndF (e : Nd κ ν) : Fc κ ν := .tr (some ⟨e.b, 0, none⟩) (.node e.k e.v e.l e.r)
def restN (e : Nd κ ν) : List (κ × ν) := (e.k, e.v) :: e.r.toL
def stk (S : List (Nd κ ν)) : List Value := S.reverse.map fun e => .pointer (some ⟨e.b, 0, none⟩)
theorem memA {α : Type} {a c f : α} {S : List α} (h : f ∈ a :: a :: c :: S) : f ∈ c :: a :: S := by
 simp only [List.mem_cons] at h ⊢
 rcases h with h | h | h | h <;> simp [h]
theorem memB {α : Type} {a b c d e f : α} {S : List α} (h : f ∈ c :: a :: d :: S) : f ∈ b :: a :: e :: d :: c :: S := by
 simp only [List.mem_cons] at h ⊢
 rcases h with h | h | h | h <;> simp [h]
theorem memC {α : Type} {a c d f : α} {S : List α} (h : f ∈ d :: c :: S) : f ∈ c :: a :: d :: S := by
 simp only [List.mem_cons] at h ⊢
 rcases h with h | h | h <;> simp [h]
theorem memD {α : Type} {a b c d f : α} {S : List α} (h : f ∈ d :: c :: S) : f ∈ a :: b :: c :: d :: S := by
 simp only [List.mem_cons] at h ⊢
 rcases h with h | h | h <;> simp [h]
theorem stk_cons (e : Nd κ ν) (S : List (Nd κ ν)) : stk (e :: S) = stk S ++ [.pointer (some ⟨e.b, 0, none⟩)] := by simp [stk]
theorem stk_len (S : List (Nd κ ν)) : (stk S).length = S.length := by simp [stk]
theorem stk_top {e : Nd κ ν} {S : List (Nd κ ν)} {n : Nat} (hn : n = S.length + 1) : (stk (e :: S))[((n - 1 : Nat) : Int).toNat * 1]? = some (.pointer (some ⟨e.b, 0, none⟩)) := by
 rw [stk_cons, List.getElem?_append_right (by rw [stk_len]; omega), stk_len]
 simp [hn]
theorem stk_pop {e : Nd κ ν} {S : List (Nd κ ν)} {n : Nat} (hn : n = S.length + 1) : (stk (e :: S)).take ((n - 1) * 1) = stk S := by
 rw [stk_cons, List.take_left' (by rw [stk_len]; omega)]
theorem rest_len (S : List (Nd κ ν)) : S.length ≤ (S.flatMap restN).length := by
 induction S with
 | nil => simp
 | cons e S ih => simp only [List.flatMap_cons, List.length_append, List.length_cons, restN]; omega
theorem BF.cut {N : Nat} {ρ1 : List Nat} {D : Nat} {o : Obj} {L : List Sx.Rw} {T : List (Fc κ ν)} {e size n c : Nat} {A : Option Addr} {xs : List Value} {ρ : List Nat} {w : World} (h : BF kw vw N ρ1 D o (⟨e, size, A, n, c, xs⟩ :: L) T ρ w) {a : Addr} (hA : A = some a) {m : Nat} (hm : m ≤ n) : BF kw vw N ρ1 D o (⟨e, size, A, m, c, xs.take (m * size)⟩ :: L) T ρ w := ⟨h.1.cut hA hm, h.2⟩
theorem BF.apart {N : Nat} {ρ1 : List Nat} {D : Nat} {o : Obj} {L : List Sx.Rw} {T : List (Fc κ ν)} {ρ : List Nat} {w : World} {p : Option Addr} {k : κ} {v : ν} {l r : Tr κ ν} (h : BF kw vw N ρ1 D o L (.tr p (.node k v l r) :: T) ρ w) :
  ∃ x : Nat × Option Addr × Option Addr, p = some ⟨x.1, 0, none⟩ ∧ BF kw vw N ρ1 D o L (.cel x.1 (nodeW kw vw k v x.2.1 x.2.2 (Tr.node k v l r).high (Tr.node k v l r).many) :: .tr x.2.1 l :: .tr x.2.2 r :: T) ρ w := by
 obtain ⟨⟨h1, h2⟩, h3⟩ := h
 obtain ⟨x, hx, h4⟩ := FcF.apart h2
 exact ⟨x, hx, ⟨h1, h4⟩, h3⟩
end
abbrev En := List UInt8 × List Pn × Option Addr × Nat
def outL1 (E : List En) : List Value := E.flatMap fun e => [.string (mkB e.1), .slice e.2.2.1 e.2.1.length e.2.2.2]
def cl1 (E : List En) : List Sx.Rw := E.map fun e => ⟨40, 9, e.2.2.1, e.2.1.length, e.2.2.2, pv e.2.1⟩
abbrev Mn := List UInt8 × (SlV × List Pn)
def row1 (y : Mn) : Sx.Rw := ⟨40, 9, y.2.1.A, y.2.1.n, y.2.1.c, pv y.2.2⟩
structure WK where
 A : Option Addr
 n : Nat
 c : Nat
 E : List En
 M2 : List Mn
 SA : Option Addr
 sn : Nat
 sc : Nat
 S : List (Nd (List UInt8) SlV)
 cp : Option Addr
 ct : Tr (List UInt8) SlV
noncomputable def recK (fid : FuncId) (tmps : Array Value) (D : Nat) : Loop := recOf fid tmps #[36, 37] BKa BKb D .ready none
noncomputable def busyK (fid : FuncId) (tmps : Array Value) (D : Nat) : Loop := recOf fid tmps #[36, 37] BKa BKb D .busy none
def frW1 (D : Nat) : WK → Fr
 | ⟨A, n, c, E, M2, SA, sn, sc, S, cp, ct⟩ => [(0, .v (.func (.yield (D + 1)) #[] #[])), (2, .lp 2 0), (3, .lp 3 0), (5, .sl SA sn sc), (6, .v (.pointer cp))]
def locW1 (mb : Nat) : WK → Sx.Loc
 | ⟨A, n, c, E, M2, SA, sn, sc, S, cp, ct⟩ => locK mb A n c
def GW1 (w0 : World) (ρ1 : List Nat) (D : Nat) (fid : FuncId) (tmps : Array Value) (mb : Nat) (p : Option Addr) (M : List Mn) (K : List (List UInt8 × List Pn)) : WK → List Nat → World → Prop
 | ⟨A, n, c, E, M2, SA, sn, sc, S, cp, ct⟩, ρ, w => BF kw1 vw1 w0.heap.size ρ1 D (.loop (recK fid tmps D))  (⟨89, 1, SA, sn, sc, stk S⟩ :: ⟨32, 2, A, n, c, outL1 E⟩ :: (cl1 E ++ M.map row1)) ((.cel mb [.func (.func 29) #[] #[], .pointer p]) :: .tr cp ct :: S.map ndF) ρ w ∧ (n = E.length ∧ sn = S.length ∧ mapV Prod.fst M2 = ct.toL ++ S.flatMap restN ∧ E.map (fun e => (e.1, e.2.1)) ++ mapV Prod.snd M2 = K ∧ (∀ y ∈ M2, y ∈ M))
def GV1 (w0 : World) (ρ1 : List Nat) (D : Nat) (fid : FuncId) (tmps : Array Value) (mb : Nat) (p : Option Addr) (M : List Mn) (K : List (List UInt8 × List Pn)) (M0 : List Mn) : WK → List Nat → World → Prop
 | ⟨A, n, c, E, M2, SA, sn, sc, S, cp, ct⟩, ρ, w => BF kw1 vw1 w0.heap.size ρ1 D (.loop (recK fid tmps D))  (⟨89, 1, SA, sn, sc, stk S⟩ :: ⟨32, 2, A, n, c, outL1 E⟩ :: (cl1 E ++ M.map row1)) ((.cel mb [.func (.func 29) #[] #[], .pointer p]) :: .tr cp ct :: S.map ndF) ρ w ∧ (n = E.length ∧ sn = S.length ∧ mapV Prod.fst M2 = ct.toL ++ S.flatMap restN ∧ E.map (fun e => (e.1, e.2.1)) ++ mapV Prod.snd M2 = K ∧ (∀ y ∈ M2, y ∈ M) ∧ M2 = M0)
theorem len_w1 {M2 : List Mn} {E : List En} {K : List (List UInt8 × List Pn)} {ct : Tr (List UInt8) SlV} {S : List (Nd (List UInt8) SlV)} (h3 : mapV Prod.fst M2 = ct.toL ++ S.flatMap restN) (h4 : E.map (fun e => (e.1, e.2.1)) ++ mapV Prod.snd M2 = K) : S.length ≤ K.length ∧ E.length ≤ K.length ∧ ct.many ≤ K.length := by
 have h5 := congrArg List.length h3
 have h6 := congrArg List.length h4
 have h7 := rest_len S
 have h8 := Tr.many_toL ct
 simp only [mapV, List.length_map, List.length_append] at h5 h6
 omega
def frK8 : Fr := [(8, .lp 0 0)]
set_option maxRecDepth 100000 in
theorem kasg [Md] {N : Nat} {w0 : World} {F : List Nat → World → Prop} {k : List UInt8} {s : SlV} {mb : Nat} {A : Option Addr} {n c : Nat} (hF : Stable F) (hJ : FewerK 4 F) {g : Act → World → Prop}
  (h : ∀ ρ a w, Inv N w0 Tryz.f6.ntmps ρ (frKB k s) (locK mb A n c) a w → F ρ w → g a w) :
  At Tryz.prog (fun _ _ _ => False) N w0 Tryz.f6.ntmps F ⟨.code BKa, [.next g], (36, .so (mkB k)) :: (37, .sl s.A s.n s.c) :: frK8, locK mb A n c⟩ := by
 refine zU hF hJ [8, 9, 10] 4 ⟨.exit .normal, [.next g], frKB k s, locK mb A n c⟩ ?_
 exact At.nextF rfl rfl h
theorem foldY1 {fid : FuncId} {tmps : Array Value} {D : Nat} {ρ : List Nat} {k : List UInt8} {v : SlV} : ((recK fid tmps D).params.zip (SV.denL ρ [.so (mkB k), .sl v.A v.n v.c]).toArray).foldl (fun tmps (t, a) => tmps.setIfInBounds t a) (recK fid tmps D).tmps = (tmps.setIfInBounds 36 (.string (mkB k))).setIfInBounds 37 (.slice v.A v.n v.c) := by
 simp [recK, SV.denL, SV.den]
theorem kround {w0 : World} {ρ1 : List Nat} {D mb : Nat} {tmps : Array Value} {fid : FuncId} (hl : ρ1.length = 4) (hD : w0.heap.size ≤ D) (hsz : tmps.size = Tryz.f6.ntmps) (hfr : ∀ t s, Sx.look frK8 t = some s → tmps[t]? = some (s.den ρ1)) {L : List Sx.Rw} {T : List (Fc (List UInt8) SlV)} (k : List UInt8) (s : SlV) (ps : List Pn) (A : Option Addr) (n c : Nat) (xs : List Value)
  (hs : (⟨40, 9, s.A, s.n, s.c, pv ps⟩ : Sx.Rw) ∈ L) (hsn : ps.length = s.n) (hp : 0 < ps.length) (hs2 : s.n ≤ 100000) (hn : n ≤ 100000)
  {ρ : List Nat} {w : World} (hm : WInv w0.heap.size w0 ρ (locK mb A n c) w) (hF : BF kw1 vw1 w0.heap.size ρ1 D (.loop (recK fid tmps D)) (⟨32, 2, A, n, c, xs⟩ :: L) T ρ w) :
  RoundIn Fence.wide 0 Tryz.prog (D + 1) fid ((tmps.setIfInBounds 36 (.string (mkB k))).setIfInBounds 37 (.slice s.A s.n s.c)) BKa BKb w fun e w' => ∃ (x : Option Addr × Nat × Option Addr × Nat) (ρ' : List Nat), e = .returned (.bool true) ∧ Grow w.heap.size ρ ρ' ∧
   WInv w0.heap.size w0 ρ' (locK mb x.1 (n + 1) x.2.1) w' ∧ BF kw1 vw1 w0.heap.size ρ1 D (.loop (recK fid tmps D)) (⟨32, 2, x.1, n + 1, x.2.1, xs ++ [.string (mkB k), .slice x.2.2.1 s.n x.2.2.2]⟩ :: ⟨40, 9, x.2.2.1, s.n, x.2.2.2, pv ps⟩ :: L) T ρ' w' := by
 have hρ : ρ = ρ1 := hF.2.2.2.eq (by rw [hm.len, hl]; rfl)
 have hnl : ∀ (r : Loop) (c : Array Value) (t : TypeId) (f : Nat × Nat), Obj.loop r ≠ .cells c t f := fun _ _ _ _ => by simp
 refine roundOf (ntm := Tryz.f6.ntmps) (fr := (36, .so (mkB k)) :: (37, .sl s.A s.n s.c) :: frK8) (fr' := frKB k s) (F0 := BF kw1 vw1 w0.heap.size ρ1 D (.loop (recK fid tmps D)) (⟨32, 2, A, n, c, xs⟩ :: L) T) (r := recK fid tmps D) hm hF (by simp [hsz]) ?_ (by kernel_rfl) (by kernel_rfl) (fun ρ w h => h.2.2.1.1) rfl (@kasg (Md.rnd (D + 1)) _ _ _ _ _ _ _ _ _ BF.stable (hl ▸ BF.fewer) _ (fun ρ a w hi hf => ⟨ρ, hi, hf⟩)) ?_
 ·intro t u h
  have h46 : tmps.size = 46 := hsz
  simp only [Sx.look] at h
  split at h
  ·rename_i h21
   have h21 := Nat.eq_of_beq_eq_true h21
   subst h21
   injection h with h
   subst h
   rw [Array.getElem?_setIfInBounds_ne (by decide), Array.getElem?_setIfInBounds_self_of_lt (by omega)]
   rfl
  rename_i h21
  split at h
  ·rename_i h22
   have h22 := Nat.eq_of_beq_eq_true h22
   subst h22
   injection h with h
   subst h
   rw [Array.getElem?_setIfInBounds_self_of_lt (by simp; omega)]
   rfl
  rename_i h22
  have h21 := Nat.ne_of_beq_eq_false h21
  have h22 := Nat.ne_of_beq_eq_false h22
  rw [Array.getElem?_setIfInBounds_ne (by omega), Array.getElem?_setIfInBounds_ne (by omega), hρ]
  exact hfr t u h
 intro ρ' w' hm' hF' a' ha'
 have hρ' : ρ' = ρ1 := hF'.2.2.2.eq (by rw [hm'.len, hl]; rfl)
 have hr2 := hF'.2.2.1.2
 refine @kbody (Md.rnd (D + 1)) w0.heap.size w0 ρ1 hl D mb (D + 1) (.loop (busyK fid tmps D)) (hnl _) L T _ k s ps A n c xs hs hsn hp hs2 hn ?_ ρ' a' (w'.putObj (D + 1) (.loop (busyK fid tmps D))) (@Sx.Inv.mk (Md.rnd (D + 1)) _ _ _ _ _ _ _ _ ha' (hm'.putObj (by omega) hr2 _)) (hF'.putObj (hnl _) _)
 intro A' c' B d ρ'' w'' hm'' hf''
 have hρ'' : ρ'' = ρ1 := hf''.2.2.2.eq (by rw [hm''.len, hl]; rfl)
 exact ⟨_, hf''.2.2.1.1, (A', c', B, d), ρ'', rfl, by rw [hρ'', hρ]; exact Grow.refl _ _, hm''.putObj (by omega) hf''.2.2.1.2 _, hf''.putObj (hnl _) _⟩
theorem head_w1 {k : List UInt8} {v : SlV} {l r : Tr (List UInt8) SlV} {b : Nat} {S : List (Nd (List UInt8) SlV)} {M3 : List Mn} (h : mapV Prod.fst M3 = Tr.nil.toL ++ ((⟨b, k, v, l, r⟩ : Nd (List UInt8) SlV) :: S).flatMap restN) : ∃ ps M4, M3 = (k, (v, ps)) :: M4 ∧ mapV Prod.fst M4 = r.toL ++ S.flatMap restN := by
 cases M3 with
 | nil => simp [mapV, Tr.toL, restN] at h
 | cons y M4 =>
  obtain ⟨k', v', ps⟩ := y
  simp only [mapV, List.map_cons, Tr.toL, List.nil_append, List.flatMap_cons, restN, List.cons_append, List.cons.injEq, Prod.mk.injEq] at h
  obtain ⟨⟨rfl, rfl⟩, h2⟩ := h
  exact ⟨ps, M4, rfl, h2⟩
theorem outL1_app (E : List En) (k : List UInt8) (ps : List Pn) (B : Option Addr) (d : Nat) : outL1 (E ++ [(k, ps, B, d)]) = outL1 E ++ [.string (mkB k), .slice B ps.length d] := by simp [outL1]
theorem perm_w1 (E : List En) (k : List UInt8) (ps : List Pn) (B : Option Addr) (d : Nat) (x y : Sx.Rw) (R : List Sx.Rw) : (x :: y :: (cl1 (E ++ [(k, ps, B, d)]) ++ R)).Perm (y :: ⟨40, 9, B, ps.length, d, pv ps⟩ :: x :: (cl1 E ++ R)) := by
 have h : cl1 (E ++ [(k, ps, B, d)]) ++ R = cl1 E ++ (⟨40, 9, B, ps.length, d, pv ps⟩ :: R) := by simp [cl1]
 rw [h]
 refine (List.Perm.swap ..).trans (List.Perm.cons _ ?_)
 refine (List.Perm.cons _ List.perm_middle).trans (List.Perm.swap ..)
noncomputable def B61 : Code := (Tryz.f61.body).getD .skip
noncomputable def opsY1 : Array Oper := opsOf (sub B61 pAM3)
noncomputable def oY1 : Oper := (opsY1.toList[9]?).getD default
noncomputable def rY1 : List Oper := opsY1.toList.drop 10
theorem dropY1 : opsY1.toList.drop 9 = oY1 :: rY1 := by kernel_rfl
set_option maxHeartbeats 20000000 in
set_option maxRecDepth 100000 in
theorem iterK_go {w0 w1 : World} {ρ1 : List Nat} {D : Nat} {tmps : Array Value} {fid : FuncId} (hl : ρ1.length = 4) (hD : w0.heap.size ≤ D) (hsz : tmps.size = Tryz.f6.ntmps) (hfr : ∀ t s, Sx.look frK8 t = some s → tmps[t]? = some (s.den ρ1))
  {mb : Nat} {p : Option Addr} {t : Tr (List UInt8) SlV} {M : List Mn} {K : List (List UInt8 × List Pn)} (ht : mapV Prod.fst M = t.toL) (hK : mapV Prod.snd M = K) (hKn : K.length ≤ 200) (hM : ∀ y ∈ M, y.2.2.length = y.2.1.n ∧ 0 < y.2.2.length ∧ y.2.1.n ≤ 100000)
  (hm : WInv w0.heap.size w0 ρ1 (locK mb none 0 0) w1) (hF : BF kw1 vw1 w0.heap.size ρ1 D (.loop (recK fid tmps D))  (⟨32, 2, none, 0, 0, []⟩ :: M.map row1) [(.cel mb [.func (.func 29) #[] #[], .pointer p]), .tr p t] ρ1 w1)
  {R : Ending → World → Prop} (hRo : ∀ w, ¬ R .outgrown w)
  (hR : ∀ (A : Option Addr) (n c : Nat) (E : List En) (cp : Option Addr) (sc : Nat) (SA : Option Addr) (w3 : World), n = E.length → E.map (fun e => (e.1, e.2.1)) = K → WInv w0.heap.size w0 ρ1 (locK mb A n c) w3 → BF kw1 vw1 w0.heap.size ρ1 D (.loop (recK fid tmps D))  (⟨89, 1, SA, 0, sc, []⟩ :: ⟨32, 2, A, n, c, outL1 E⟩ :: (cl1 E ++ M.map row1)) [(.cel mb [.func (.func 29) #[] #[], .pointer p]), .tr cp .nil] ρ1 w3 → R (.returned (.tuple #[])) w3) :
  Calls Tryz.prog 61 (SV.denL ρ1 [.v (.func (.yield (D + 1)) #[] #[]), .lp 1 0, .lp 2 0, .lp 3 0]).toArray w1 R := by
 have h4 : ∀ {o : Obj} {L : List Sx.Rw} {T : List (Fc (List UInt8) SlV)}, FewerK 4 (BF kw1 vw1 w0.heap.size ρ1 D o L T) := hl ▸ BF.fewer
 refine enterH (w0 := w0) (N := w0.heap.size) (F := BF kw1 vw1 w0.heap.size ρ1 D (.loop (recK fid tmps D))  (⟨89, 1, none, 0, 0, []⟩ :: ⟨32, 2, none, 0, 0, []⟩ :: M.map row1) [(.cel mb [.func (.func 29) #[] #[], .pointer p]), .tr p t]) (fn := Tryz.f61) (c := B61) [.v (.func (.yield (D + 1)) #[] #[]), .lp 1 0, .lp 2 0, .lp 3 0] ρ1 (locK mb none 0 0) Tryz.func61 rfl rfl hm ⟨hF.1.nil 89 1, hF.2⟩ ?_
 refine zT BF.stable h4 [0, 1, 2, 3, 9] 4 ⟨pops B61 [4, 0, 0] 1, [.seq (sub B61 [4, 0, 1]), .seq (sub B61 [4, 1]), .scope], [(0, .v (.func (Fn.yield (D + 1)) (Array.mk []) (Array.mk []))), (1, .lp 1 0), (2, .lp 2 0), (3, .lp 3 0), (9, .v (.pointer (some (Addr.mk mb 0 none))))], [([.sl none 0 0], 25), ([.v (.pointer (some (Addr.mk mb 0 none)))], 46), ([.v (.bool false)], 4), ([.fn (Fn.func 46) []], 96)]⟩ ?_
 refine zC BF.stable 43 [.v (.pointer (some ⟨mb, 0, none⟩))] (.v (.bool false)) (fun ρ _ w1 hi hf => none1_any w1 (hf.1.2.cell (.head _) rfl)) ?_
 refine zT BF.stable h4 [0, 2, 3, 5, 11] 4 ⟨pops B61 [4, 1, 1, 0] 1, [.seq (sub B61 [4, 1, 1, 1]), .scope], [(0, .v (.func (Fn.yield (D + 1)) (Array.mk []) (Array.mk []))), (2, .lp 2 0), (3, .lp 3 0), (5, .v (.slice none 0 0)), (11, .v (.pointer (some (Addr.mk mb 0 none))))], [([.sl none 0 0], 25), ([.v (.pointer (some (Addr.mk mb 0 none)))], 46), ([.v (.bool false)], 4), ([.fn (Fn.func 46) []], 96)]⟩ ?_
 refine At.nck ⟨mb, 0, none⟩ (by kernel_rfl) BF.stable ?_
 refine zT BF.stable h4 [0, 2, 3, 5, 12] 4 ⟨pops B61 [4, 1, 1, 0] 2, [.seq (sub B61 [4, 1, 1, 1]), .scope], [(0, .v (.func (Fn.yield (D + 1)) (Array.mk []) (Array.mk []))), (2, .lp 2 0), (3, .lp 3 0), (5, .v (.slice none 0 0)), (12, .v (.pointer (some (Addr.mk mb 0 none))))], [([.sl none 0 0], 25), ([.v (.pointer (some (Addr.mk mb 0 none)))], 46), ([.v (.bool false)], 4), ([.fn (Fn.func 46) []], 96)]⟩ ?_
 refine At.fax ⟨mb, 0, none⟩ 1 (by kernel_rfl) BF.stable ?_
 refine zT BF.stable h4 [0, 2, 3, 5, 13] 4 ⟨pops B61 [4, 1, 1, 0] 3, [.seq (sub B61 [4, 1, 1, 1]), .scope], [(0, .v (.func (Fn.yield (D + 1)) (Array.mk []) (Array.mk []))), (2, .lp 2 0), (3, .lp 3 0), (5, .v (.slice none 0 0)), (13, .v (.pointer (some (Addr.mk mb 1 none))))], [([.sl none 0 0], 25), ([.v (.pointer (some (Addr.mk mb 0 none)))], 46), ([.v (.bool false)], 4), ([.fn (Fn.func 46) []], 96)]⟩ ?_
 refine At.ldx ((⟨mb, 0, none⟩ : Addr).add 1) (.v (.pointer p)) (by kernel_rfl) BF.stable (fun ρ w1 hm' hf => hf.1.2.cell (.head _) rfl) ?_
 refine zT BF.stable h4 [0, 2, 3, 5, 6] 4 ⟨.code (sub B61 [4, 1, 1, 1, 1, 4]), [.block 0, .scope], [(0, .v (.func (Fn.yield (D + 1)) (Array.mk []) (Array.mk []))), (2, .lp 2 0), (3, .lp 3 0), (5, .v (.slice none 0 0)), (6, .v (.pointer p))], [([.sl none 0 0], 25), ([.v (.pointer (some (Addr.mk mb 0 none)))], 46), ([.v (.bool false)], 4), ([.fn (Fn.func 46) []], 96)]⟩ ?_
 refine At.slFr _ rfl ?_
 refine At.loop (σ := WK) (sub B61 [4, 1, 1, 1, 1, 4, 4]) (frW1 D) (locW1 mb) (GW1 w0 ρ1 D fid tmps mb p M K) (fun x => x.M2.length) ⟨none, 0, 0, [], M, none, 0, 0, [], p, t⟩ (by kernel_rfl) (by unfold subFr; kernel_rfl) (by kernel_rfl) (fun _ _ _ _ h => ⟨h, rfl, rfl, by rw [ht]; simp, hK, fun y hy => hy⟩) ?_
 rintro ⟨A, n, c, E, M2, SA, sn, sc, S, cp, ct⟩
 refine At.pure fun ⟨h1, h2, h3, h4', h5⟩ => ?_
 refine zT BF.stable h4 [0, 2, 3, 5, 6] 4 ⟨.code (sub B61 [4, 1, 1, 1, 1, 4, 4, 4, 0, 4]), [.block 2, .seq (sub B61 pAM8), .block 1, .next (Sx.Next w0.heap.size w0 Tryz.f61.ntmps (frW1 D) (locW1 mb) (GW1 w0 ρ1 D fid tmps mb p M K) (fun x => x.M2.length) (WK.mk A n c E M2 SA sn sc S cp ct)), .block 0, .scope], [(0, .v (.func (Fn.yield (D + 1)) (Array.mk []) (Array.mk []))), (2, .lp 2 0), (3, .lp 3 0), (5, .sl SA sn sc), (6, .v (.pointer cp))], [([.sl A n c], 25), ([.v (.pointer (some (Addr.mk mb 0 none)))], 46), ([.v (.bool false)], 4), ([.fn (Fn.func 46) []], 96)]⟩ ?_
 refine At.loop (σ := WK) (sub B61 [4, 1, 1, 1, 1, 4, 4, 4, 0, 4, 4]) (frW1 D) (locW1 mb) (GV1 w0 ρ1 D fid tmps mb p M K M2) (fun x => x.ct.many) ⟨A, n, c, E, M2, SA, sn, sc, S, cp, ct⟩ (by kernel_rfl) (by unfold subFr; kernel_rfl) (by kernel_rfl) (fun _ _ _ _ h => ⟨h, h1, h2, h3, h4', h5, rfl⟩) ?_
 clear h1 h2 h3 h4' h5
 rintro ⟨A2, n2, c2, E2, M3, SA2, sn2, sc2, S2, cp2, ct2⟩
 refine At.pure fun ⟨h1, h2, h3, h4', h5, hM3⟩ => ?_
 subst hM3
 have hlen := len_w1 h3 h4'
 cases ct2 with
 | nil =>
  refine At.know (p := cp2 = none) (fun ρ w hf => hf.1.2.tree (.tail _ (.head _))) fun hcp => ?_
  subst hcp
  refine zTq BF.stable h4 [0, 2, 3, 5, 42] 4 ?_
  rcases Bool.eq_false_or_eq_true ((↑sn2 : Int) == 0) with b0 | b0
  ·refine zR 42 b0 ?_
   refine zT BF.stable h4 [0, 2, 3, 5] 4 ⟨.exit .normal, [], [(0, .v (.func (Fn.yield (D + 1)) (Array.mk []) (Array.mk []))), (2, .lp 2 0), (3, .lp 3 0), (5, .sl SA2 sn2 sc2)], [([.sl A2 n2 c2], 25), ([.v (.pointer (some (Addr.mk mb 0 none)))], 46), ([.v (.bool false)], 4), ([.fn (Fn.func 46) []], 96)]⟩ ?_
   refine zE (.tup []) ?_
   intro ρ w9 hm hf
   have hS : S2 = [] := List.eq_nil_of_length_eq_zero (by rw [← h2]; have := eq_of_beq b0; omega)
   subst hS
   have hM3 : M3 = [] := by
    simp only [Tr.toL, List.flatMap_nil, List.append_nil, mapV, List.map_eq_nil_iff] at h3
    exact h3
   subst hM3
   have hρ : ρ = ρ1 := hf.2.2.2.eq (by rw [hm.len, hl]; rfl)
   rw [hρ] at hm hf
   simp only [List.length_nil] at h2
   subst h2
   exact hR A2 n2 c2 E2 none sc2 SA2 w9 h1 (by simpa [mapV] using h4') hm hf
  refine zR 42 b0 ?_
  let kn4 : Go.Sx.K := .next (Sx.Next w0.heap.size w0 Tryz.f61.ntmps (frW1 D) (locW1 mb) (GW1 w0 ρ1 D fid tmps mb p M K) (fun x => x.M2.length) (WK.mk A n c E M3 SA sn sc S cp ct))
  refine zT BF.stable h4 [0, 2, 3, 5, 43, 46] 4 ⟨pops B61 [4, 1, 1, 1, 1, 4, 4, 4, 1, 1, 0] 4, [.seq (sub B61 [4, 1, 1, 1, 1, 4, 4, 4, 1, 1, 1]), .block 1, kn4, .block 0, .scope], [(0, .v (.func (Fn.yield (D + 1)) (Array.mk []) (Array.mk []))), (2, .lp 2 0), (3, .lp 3 0), (5, .sl SA2 sn2 sc2), (43, .sl SA2 sn2 sc2), (46, .io .i64 (IntKind.i64.wrap ((↑sn2 : Int) - 1)))], [([.sl A2 n2 c2], 25), ([.v (.pointer (some (Addr.mk mb 0 none)))], 46), ([.v (.bool false)], 4), ([.fn (Fn.func 46) []], 96)]⟩ ?_
  obtain ⟨⟨b, k, v, l, r⟩, S', rfl⟩ : ∃ x y, S2 = x :: y := by
   cases S2 with
   | nil => simp only [List.length_nil] at h2; subst h2; simp at b0
   | cons x y => exact ⟨x, y, rfl⟩
  simp only [List.length_cons] at h2
  have hw1 : IntKind.i64.wrap ((sn2 : Int) - 1) = ((sn2 - 1 : Nat) : Int) := by
   rw [wrap63 (by omega) (by omega)]
   omega
  rw [hw1]
  refine At.know (p := ∃ a, SA2 = some a) (fun ρ w hf => hf.1.1.some (List.mem_cons_self ..) (show 0 < sn2 by omega)) fun ⟨sa, hsa⟩ => ?_
  subst hsa
  refine At.idx sa sn2 1 ((sn2 - 1 : Nat) : Int) (by kernel_rfl) (by omega) (by omega) BF.stable ?_
  refine At.ldx (sa.add (((sn2 - 1 : Nat) : Int).toNat * 1)) (.v (.pointer (some ⟨b, 0, none⟩))) (by kernel_rfl) BF.stable (fun ρ w1 hm' hf => hf.1.1.src (List.mem_cons_self ..) rfl _ _ (stk_top (by omega))) ?_
  refine zT BF.stable h4 [0, 2, 3, 6, 49, 52] 4 ⟨pops B61 [4, 1, 1, 1, 1, 4, 4, 4, 1, 1, 1, 0] 4, [.seq (sub B61 [4, 1, 1, 1, 1, 4, 4, 4, 1, 1, 1, 1]), .block 1, kn4, .block 0, .scope], [(0, .v (.func (Fn.yield (D + 1)) (Array.mk []) (Array.mk []))), (2, .lp 2 0), (3, .lp 3 0), (6, .v (.pointer (some (Addr.mk b 0 none)))), (49, .sl (some sa) sn2 sc2), (52, .io .i64 (IntKind.i64.wrap ((↑sn2 : Int) - 1)))], [([.sl A2 n2 c2], 25), ([.v (.pointer (some (Addr.mk mb 0 none)))], 46), ([.v (.bool false)], 4), ([.fn (Fn.func 46) []], 96)]⟩ ?_
  rw [hw1]
  refine At.slx (some sa) sn2 sc2 none ((sn2 - 1 : Nat) : Int) 1 (.sl (some sa) (sn2 - 1) sc2) (by kernel_rfl) BF.stable (by decide) (by simp) (fun ρ w hm hf => ⟨?_, ?_⟩) ?_
  ·have := hf.1.1.cap (List.mem_cons_self ..)
   simp only at this
   omega
  ·simp [SV.den, Addr.add]
  refine At.mono (F' := BF kw1 vw1 w0.heap.size ρ1 D (.loop (recK fid tmps D))  (⟨89, 1, some sa, sn2 - 1, sc2, stk S'⟩ :: ⟨32, 2, A2, n2, c2, outL1 E2⟩ :: (cl1 E2 ++ M.map row1)) ((.cel mb [.func (.func 29) #[] #[], .pointer p]) :: .tr none Tr.nil :: ndF ⟨b, k, v, l, r⟩ :: S'.map ndF)) (fun ρ w hf => ?_) ?_
  ·have h8 := BF.cut hf rfl (show sn2 - 1 ≤ sn2 by omega)
   rw [stk_pop (by omega)] at h8
   exact h8
  refine At.toJ (BF.stable) h4 0 5 [0, 2, 3, 5, 6] 4 ⟨.code (sub B61 pAM3), [.seq (sub B61 pAM4), .seq (sub B61 pAM6), .block 1, kn4, .block 0, .scope], [(0, .v (.func (Fn.yield (D + 1)) (Array.mk []) (Array.mk []))), (2, .lp 2 0), (3, .lp 3 0), (5, .sl (some sa) (sn2 - 1) sc2), (6, .v (.pointer (some (Addr.mk b 0 none))))], [([.sl A2 n2 c2], 25), ([.v (.pointer (some (Addr.mk mb 0 none)))], 46), ([.v (.bool false)], 4), ([.fn (Fn.func 46) []], 96)]⟩ (by kernel_rfl) (by kernel_rfl) ?_
  obtain ⟨ps, M4, rfl, h3b⟩ := head_w1 h3
  have hy := hM (k, (v, ps)) (h5 _ (List.mem_cons_self ..))
  simp only at hy
  refine At.splitQ (id := 14) (ops := opsY1) 9 (by kernel_rfl) (by kernel_rfl) (by kernel_rfl) ?_
  rw [dropY1]
  refine At.mono (fun ρ w hf => BF.apart (hf.perm (List.Perm.refl _) (fun f h => memC h))) (At.ex fun x => ?_)
  obtain ⟨b', pl, pr⟩ := x
  refine At.mono (F' := fun ρ w => BF kw1 vw1 w0.heap.size ρ1 D (.loop (recK fid tmps D))  (⟨89, 1, some sa, sn2 - 1, sc2, stk S'⟩ :: ⟨32, 2, A2, n2, c2, outL1 E2⟩ :: (cl1 E2 ++ M.map row1)) ((.cel b' (nodeW kw1 vw1 k v pl pr (Tr.node k v l r).high (Tr.node k v l r).many)) :: .tr pl l :: .tr pr r :: (.cel mb [.func (.func 29) #[] #[], .pointer p]) :: S'.map ndF) ρ w ∧ some ⟨b, 0, none⟩ = some (⟨b', 0, none⟩ : Addr)) (fun ρ w hf => ⟨hf.2, hf.1⟩) (At.pure fun hbb => ?_)
  injection hbb with hbb
  injection hbb with hbb
  subst hbb
  let kn0 : Go.Sx.K := .next (wpListIn Fence.wide 0 Tryz.prog opsY1 (postK Tryz.prog (Sx.S.mk (PC.code (sub B61 pAM3)) [Sx.K.seq (sub B61 pAM4), Sx.K.seq (sub B61 pAM6), Sx.K.block 1, Sx.K.next (Sx.Next w0.heap.size w0 Tryz.f61.ntmps (frW1 D) (locW1 mb) (GW1 w0 ρ1 D fid tmps mb p M K) (fun x => x.M2.length) (WK.mk A n c E ((k, v, ps) :: M4) SA sn sc S cp ct)), Sx.K.block 0, Sx.K.scope] [(0, .v (.func (Fn.yield (D + 1)) (Array.mk []) (Array.mk []))), (2, .lp 2 0), (3, .lp 3 0), (5, .sl (some sa) (sn2 - 1) sc2), (6, .v (.pointer (some (Addr.mk b 0 none))))] [([.sl A2 n2 c2], 25), ([.v (.pointer (some (Addr.mk mb 0 none)))], 46), ([.v (.bool false)], 4), ([.fn (Fn.func 46) []], 96)]).ks (bodyPost Tryz.prog Tryz.f61 R)) (oY1 :: rY1))
  let kn2 : Go.Sx.K := .next (Sx.Next w0.heap.size w0 Tryz.f61.ntmps (frW1 D) (locW1 mb) (GW1 w0 ρ1 D fid tmps mb p M K) (fun x => x.M2.length) (WK.mk A n c E ((k, v, ps) :: M4) SA sn sc S cp ct))
  refine zT BF.stable h4 [0, 2, 3, 5, 6, 54, 55] 4 ⟨.qops (opsOf (sub B61 pAM3)) (((opsOf (sub B61 pAM3)).toList.take 9).drop 2), [kn0, .seq (sub B61 pAM4), .seq (sub B61 pAM6), .block 1, kn2, .block 0, .scope], [(0, .v (.func (Fn.yield (D + 1)) (Array.mk []) (Array.mk []))), (2, .lp 2 0), (3, .lp 3 0), (5, .sl (some sa) (sn2 - 1) sc2), (6, .v (.pointer (some (Addr.mk b 0 none)))), (54, .v (.func (Fn.yield (D + 1)) (Array.mk []) (Array.mk []))), (55, .v (.pointer (some (Addr.mk b 0 none))))], [([.sl A2 n2 c2], 25), ([.v (.pointer (some (Addr.mk mb 0 none)))], 46), ([.v (.bool false)], 4), ([.fn (Fn.func 46) []], 96)]⟩ ?_
  refine At.nck ⟨b, 0, none⟩ (by kernel_rfl) BF.stable ?_
  refine zT BF.stable h4 [0, 2, 3, 5, 6, 54, 56] 4 ⟨.qops (opsOf (sub B61 pAM3)) (((opsOf (sub B61 pAM3)).toList.take 9).drop 3), [kn0, .seq (sub B61 pAM4), .seq (sub B61 pAM6), .block 1, kn2, .block 0, .scope], [(0, .v (.func (Fn.yield (D + 1)) (Array.mk []) (Array.mk []))), (2, .lp 2 0), (3, .lp 3 0), (5, .sl (some sa) (sn2 - 1) sc2), (6, .v (.pointer (some (Addr.mk b 0 none)))), (54, .v (.func (Fn.yield (D + 1)) (Array.mk []) (Array.mk []))), (56, .v (.pointer (some (Addr.mk b 0 none))))], [([.sl A2 n2 c2], 25), ([.v (.pointer (some (Addr.mk mb 0 none)))], 46), ([.v (.bool false)], 4), ([.fn (Fn.func 46) []], 96)]⟩ ?_
  refine At.fax ⟨b, 0, none⟩ 0 (by kernel_rfl) BF.stable ?_
  refine zT BF.stable h4 [0, 2, 3, 5, 6, 54, 57] 4 ⟨.qops (opsOf (sub B61 pAM3)) (((opsOf (sub B61 pAM3)).toList.take 9).drop 4), [kn0, .seq (sub B61 pAM4), .seq (sub B61 pAM6), .block 1, kn2, .block 0, .scope], [(0, .v (.func (Fn.yield (D + 1)) (Array.mk []) (Array.mk []))), (2, .lp 2 0), (3, .lp 3 0), (5, .sl (some sa) (sn2 - 1) sc2), (6, .v (.pointer (some (Addr.mk b 0 none)))), (54, .v (.func (Fn.yield (D + 1)) (Array.mk []) (Array.mk []))), (57, .v (.pointer (some (Addr.mk b 0 none))))], [([.sl A2 n2 c2], 25), ([.v (.pointer (some (Addr.mk mb 0 none)))], 46), ([.v (.bool false)], 4), ([.fn (Fn.func 46) []], 96)]⟩ ?_
  refine At.ldx ((⟨b, 0, none⟩ : Addr).add 0) (.so (mkB k)) (by kernel_rfl) BF.stable (fun ρ w1 hm' hf => hf.1.2.cell (.head _) rfl) ?_
  refine zT BF.stable h4 [0, 2, 3, 5, 6, 54, 58, 59] 4 ⟨.qops (opsOf (sub B61 pAM3)) (((opsOf (sub B61 pAM3)).toList.take 9).drop 6), [kn0, .seq (sub B61 pAM4), .seq (sub B61 pAM6), .block 1, kn2, .block 0, .scope], [(0, .v (.func (Fn.yield (D + 1)) (Array.mk []) (Array.mk []))), (2, .lp 2 0), (3, .lp 3 0), (5, .sl (some sa) (sn2 - 1) sc2), (6, .v (.pointer (some (Addr.mk b 0 none)))), (54, .v (.func (Fn.yield (D + 1)) (Array.mk []) (Array.mk []))), (58, .so (mkB k)), (59, .v (.pointer (some (Addr.mk b 0 none))))], [([.sl A2 n2 c2], 25), ([.v (.pointer (some (Addr.mk mb 0 none)))], 46), ([.v (.bool false)], 4), ([.fn (Fn.func 46) []], 96)]⟩ ?_
  refine At.nck ⟨b, 0, none⟩ (by kernel_rfl) BF.stable ?_
  refine zT BF.stable h4 [0, 2, 3, 5, 6, 54, 58, 60] 4 ⟨.qops (opsOf (sub B61 pAM3)) (((opsOf (sub B61 pAM3)).toList.take 9).drop 7), [kn0, .seq (sub B61 pAM4), .seq (sub B61 pAM6), .block 1, kn2, .block 0, .scope], [(0, .v (.func (Fn.yield (D + 1)) (Array.mk []) (Array.mk []))), (2, .lp 2 0), (3, .lp 3 0), (5, .sl (some sa) (sn2 - 1) sc2), (6, .v (.pointer (some (Addr.mk b 0 none)))), (54, .v (.func (Fn.yield (D + 1)) (Array.mk []) (Array.mk []))), (58, .so (mkB k)), (60, .v (.pointer (some (Addr.mk b 0 none))))], [([.sl A2 n2 c2], 25), ([.v (.pointer (some (Addr.mk mb 0 none)))], 46), ([.v (.bool false)], 4), ([.fn (Fn.func 46) []], 96)]⟩ ?_
  refine At.fax ⟨b, 0, none⟩ 1 (by kernel_rfl) BF.stable ?_
  refine zT BF.stable h4 [0, 2, 3, 5, 6, 54, 58, 61] 4 ⟨.qops (opsOf (sub B61 pAM3)) (((opsOf (sub B61 pAM3)).toList.take 9).drop 8), [kn0, .seq (sub B61 pAM4), .seq (sub B61 pAM6), .block 1, kn2, .block 0, .scope], [(0, .v (.func (Fn.yield (D + 1)) (Array.mk []) (Array.mk []))), (2, .lp 2 0), (3, .lp 3 0), (5, .sl (some sa) (sn2 - 1) sc2), (6, .v (.pointer (some (Addr.mk b 0 none)))), (54, .v (.func (Fn.yield (D + 1)) (Array.mk []) (Array.mk []))), (58, .so (mkB k)), (61, .v (.pointer (some (Addr.mk b 1 none))))], [([.sl A2 n2 c2], 25), ([.v (.pointer (some (Addr.mk mb 0 none)))], 46), ([.v (.bool false)], 4), ([.fn (Fn.func 46) []], 96)]⟩ ?_
  refine At.ldx ((⟨b, 0, none⟩ : Addr).add 1) (.sl v.A v.n v.c) (by kernel_rfl) BF.stable (fun ρ w1 hm' hf => hf.1.2.cell (.head _) rfl) ?_
  refine zT BF.stable h4 [0, 2, 3, 5, 6, 54, 58, 62] 4 ⟨.exit .normal, [kn0, .seq (sub B61 pAM4), .seq (sub B61 pAM6), .block 1, kn2, .block 0, .scope], [(0, .v (.func (Fn.yield (D + 1)) (Array.mk []) (Array.mk []))), (2, .lp 2 0), (3, .lp 3 0), (5, .sl (some sa) (sn2 - 1) sc2), (6, .v (.pointer (some (Addr.mk b 0 none)))), (54, .v (.func (Fn.yield (D + 1)) (Array.mk []) (Array.mk []))), (58, .so (mkB k)), (62, .sl v.A v.n v.c)], [([.sl A2 n2 c2], 25), ([.v (.pointer (some (Addr.mk mb 0 none)))], 46), ([.v (.bool false)], 4), ([.fn (Fn.func 46) []], 96)]⟩ ?_
  refine At.yield (X := Option Addr × Nat × Option Addr × Nat) (o := oY1) (rest := rY1) (d := 63) (t := 54) (args := #[.tmp 58, .tmp 62]) (tys := #[9, 22]) (l := D + 1) [.so (mkB k), .sl v.A v.n v.c] (by kernel_rfl) (by kernel_rfl) (by kernel_rfl) (by kernel_rfl) (by kernel_rfl) (by kernel_rfl) (by kernel_rfl) (fun ⟨a, w, h⟩ => hRo w h) (fun _ => true) (fun x => locK mb x.1 (n2 + 1) x.2.1) (fun x => BF kw1 vw1 w0.heap.size ρ1 D (.loop (recK fid tmps D))  (⟨89, 1, some sa, sn2 - 1, sc2, stk S'⟩ :: ⟨32, 2, x.1, n2 + 1, x.2.1, outL1 (E2 ++ [(k, ps, x.2.2.1, x.2.2.2)])⟩ :: (cl1 (E2 ++ [(k, ps, x.2.2.1, x.2.2.2)]) ++ M.map row1)) ((.cel b (nodeW kw1 vw1 k v pl pr (Tr.node k v l r).high (Tr.node k v l r).many)) :: .tr pl l :: .tr pr r :: (.cel mb [.func (.func 29) #[] #[], .pointer p]) :: S'.map ndF)) (fun ρ a w2 hi hf => ?_) (fun x => ?_)
  ·refine ⟨recK fid tmps D, hf.2.2.1.1, rfl, ?_⟩
   rw [foldY1]
   refine (kround hl hD hsz hfr k v ps A2 n2 c2 (outL1 E2) (L := ⟨89, 1, some sa, sn2 - 1, sc2, stk S'⟩ :: (cl1 E2 ++ M.map row1)) (List.mem_cons_of_mem _ (List.mem_append_right _ (List.mem_map.2 ⟨(k, (v, ps)), h5 _ (List.mem_cons_self ..), rfl⟩))) hy.1 hy.2.1 hy.2.2 (by omega) hi.mem (hf.perm (List.Perm.swap ..) (fun f h => h))).mono ?_
   rintro e w3 ⟨x, ρ', he, hg, hm3, hf3⟩
   refine ⟨x, ρ', he, hg, hm3, ?_⟩
   have h9 := perm_w1 E2 k ps x.2.2.1 x.2.2.2 (⟨89, 1, some sa, sn2 - 1, sc2, stk S'⟩) (⟨32, 2, x.1, n2 + 1, x.2.1, outL1 (E2 ++ [(k, ps, x.2.2.1, x.2.2.2)])⟩) (M.map row1)
   rw [← hy.1, ← outL1_app] at hf3
   exact hf3.perm h9 (fun f h => h)
  obtain ⟨A3, c3, B3, d3⟩ := x
  dsimp only
  let kn3 : Go.Sx.K := .next (Sx.Next w0.heap.size w0 Tryz.f61.ntmps (frW1 D) (locW1 mb) (GW1 w0 ρ1 D fid tmps mb p M K) (fun x => x.M2.length) (WK.mk A n c E ((k, v, ps) :: M4) SA sn sc S cp ct))
  refine zT BF.stable h4 [0, 2, 3, 5, 70] 4 ⟨pops B61 pAM2 1, [.block 1, kn3, .block 0, .scope], [(0, .v (.func (Fn.yield (D + 1)) (Array.mk []) (Array.mk []))), (2, .lp 2 0), (3, .lp 3 0), (5, .sl (some sa) (sn2 - 1) sc2), (70, .v (.pointer (some (Addr.mk b 0 none))))], [([.sl A3 (n2 + 1) c3], 25), ([.v (.pointer (some (Addr.mk mb 0 none)))], 46), ([.v (.bool false)], 4), ([.fn (Fn.func 46) []], 96)]⟩ ?_
  refine At.nck ⟨b, 0, none⟩ (by kernel_rfl) BF.stable ?_
  refine zT BF.stable h4 [0, 2, 3, 5, 71] 4 ⟨pops B61 pAM2 2, [.block 1, kn3, .block 0, .scope], [(0, .v (.func (Fn.yield (D + 1)) (Array.mk []) (Array.mk []))), (2, .lp 2 0), (3, .lp 3 0), (5, .sl (some sa) (sn2 - 1) sc2), (71, .v (.pointer (some (Addr.mk b 0 none))))], [([.sl A3 (n2 + 1) c3], 25), ([.v (.pointer (some (Addr.mk mb 0 none)))], 46), ([.v (.bool false)], 4), ([.fn (Fn.func 46) []], 96)]⟩ ?_
  refine At.fax ⟨b, 0, none⟩ 3 (by kernel_rfl) BF.stable ?_
  refine zT BF.stable h4 [0, 2, 3, 5, 72] 4 ⟨pops B61 pAM2 3, [.block 1, kn3, .block 0, .scope], [(0, .v (.func (Fn.yield (D + 1)) (Array.mk []) (Array.mk []))), (2, .lp 2 0), (3, .lp 3 0), (5, .sl (some sa) (sn2 - 1) sc2), (72, .v (.pointer (some (Addr.mk b 3 none))))], [([.sl A3 (n2 + 1) c3], 25), ([.v (.pointer (some (Addr.mk mb 0 none)))], 46), ([.v (.bool false)], 4), ([.fn (Fn.func 46) []], 96)]⟩ ?_
  refine At.ldx ((⟨b, 0, none⟩ : Addr).add 3) (.v (.pointer pr)) (by kernel_rfl) BF.stable (fun ρ w1 hm' hf => hf.1.2.cell (.head _) rfl) ?_
  refine zT BF.stable h4 [0, 2, 3, 5, 6] 4 ⟨.exit .normal, [kn3, .block 0, .scope], [(0, .v (.func (Fn.yield (D + 1)) (Array.mk []) (Array.mk []))), (2, .lp 2 0), (3, .lp 3 0), (5, .sl (some sa) (sn2 - 1) sc2), (6, .v (.pointer pr))], [([.sl A3 (n2 + 1) c3], 25), ([.v (.pointer (some (Addr.mk mb 0 none)))], 46), ([.v (.bool false)], 4), ([.fn (Fn.func 46) []], 96)]⟩ ?_
  refine At.next (σ := WK) ⟨A3, n2 + 1, c3, E2 ++ [(k, ps, B3, d3)], M4, some sa, sn2 - 1, sc2, S', pr, r⟩ rfl rfl (by unfold subFr; kernel_rfl) (by kernel_rfl) (fun ρ a w1 hi hf => ⟨hf.perm (List.Perm.refl _) (fun f h => memD h), by simp [h1], by omega, h3b, by simpa [mapV] using h4', fun y hy => h5 y (List.mem_cons_of_mem _ hy)⟩) ?_
  show M4.length < ((k, (v, ps)) :: M4).length
  simp
 | node k v l r =>
  refine At.mono (F' := BF kw1 vw1 w0.heap.size ρ1 D (.loop (recK fid tmps D))  (⟨89, 1, SA2, sn2, sc2, stk S2⟩ :: ⟨32, 2, A2, n2, c2, outL1 E2⟩ :: (cl1 E2 ++ M.map row1)) (.tr cp2 (Tr.node k v l r) :: .tr cp2 (Tr.node k v l r) :: (.cel mb [.func (.func 29) #[] #[], .pointer p]) :: S2.map ndF)) (fun ρ w hf => hf.perm (List.Perm.refl _) (fun f h => memA h)) ?_
  refine At.mono (fun ρ w hf => BF.apart hf) (At.ex fun x => ?_)
  obtain ⟨b, pl, pr⟩ := x
  refine At.mono (F' := fun ρ w => BF kw1 vw1 w0.heap.size ρ1 D (.loop (recK fid tmps D))  (⟨89, 1, SA2, sn2, sc2, stk S2⟩ :: ⟨32, 2, A2, n2, c2, outL1 E2⟩ :: (cl1 E2 ++ M.map row1)) ((.cel b (nodeW kw1 vw1 k v pl pr (Tr.node k v l r).high (Tr.node k v l r).many)) :: .tr pl l :: .tr pr r :: .tr cp2 (Tr.node k v l r) :: (.cel mb [.func (.func 29) #[] #[], .pointer p]) :: S2.map ndF) ρ w ∧ cp2 = some ⟨b, 0, none⟩) (fun ρ w hf => ⟨hf.2, hf.1⟩) (At.pure fun hcp => ?_)
  subst hcp
  let kn1 : Go.Sx.K := .next (Sx.Next w0.heap.size w0 Tryz.f61.ntmps (frW1 D) (locW1 mb) (GV1 w0 ρ1 D fid tmps mb p M K M3) (fun x => x.ct.many) (WK.mk A2 n2 c2 E2 M3 SA2 sn2 sc2 S2 (some (Addr.mk b 0 none)) (Tr.node k v l r)))
  let kn5 : Go.Sx.K := .next (Sx.Next w0.heap.size w0 Tryz.f61.ntmps (frW1 D) (locW1 mb) (GW1 w0 ρ1 D fid tmps mb p M K) (fun x => x.M2.length) (WK.mk A n c E M3 SA sn sc S cp ct))
  refine zT BF.stable h4 [0, 2, 3, 5, 6, 15] 4 ⟨pops B61 [4, 1, 1, 1, 1, 4, 4, 4, 0, 4, 4, 0, 0] 1, [.seq (sub B61 [4, 1, 1, 1, 1, 4, 4, 4, 0, 4, 4, 0, 1]), .seq (sub B61 [4, 1, 1, 1, 1, 4, 4, 4, 0, 4, 4, 1]), kn1, .block 2, .seq (sub B61 pAM8), .block 1, kn5, .block 0, .scope], [(0, .v (.func (Fn.yield (D + 1)) (Array.mk []) (Array.mk []))), (2, .lp 2 0), (3, .lp 3 0), (5, .sl SA2 sn2 sc2), (6, .v (.pointer (some (Addr.mk b 0 none)))), (15, .v (.pointer (some (Addr.mk b 0 none))))], [([.sl A2 n2 c2], 25), ([.v (.pointer (some (Addr.mk mb 0 none)))], 46), ([.v (.bool false)], 4), ([.fn (Fn.func 46) []], 96)]⟩ ?_
  refine At.pcmp .neq 89 (some ⟨b, 0, none⟩) none true (by kernel_rfl) BF.stable (fun w1 => neq1_nil b w1) ?_
  refine zT BF.stable h4 [0, 2, 3, 5, 6, 17] 4 ⟨pqops B61 [4, 1, 1, 1, 1, 4, 4, 4, 0, 4, 4, 1, 4, 0] 1, [.seq (sub B61 pAM5), .block 3, kn1, .block 2, .seq (sub B61 pAM8), .block 1, kn5, .block 0, .scope], [(0, .v (.func (Fn.yield (D + 1)) (Array.mk []) (Array.mk []))), (2, .lp 2 0), (3, .lp 3 0), (5, .sl SA2 sn2 sc2), (6, .v (.pointer (some (Addr.mk b 0 none)))), (17, .v (.pointer (some (Addr.mk b 0 none))))], [([.sl A2 n2 c2], 25), ([.v (.pointer (some (Addr.mk mb 0 none)))], 46), ([.v (.bool false)], 4), ([.fn (Fn.func 46) []], 96)]⟩ ?_
  refine At.nck ⟨b, 0, none⟩ (by kernel_rfl) BF.stable ?_
  refine zT BF.stable h4 [0, 2, 3, 5, 6, 18] 4 ⟨pqops B61 [4, 1, 1, 1, 1, 4, 4, 4, 0, 4, 4, 1, 4, 0] 2, [.seq (sub B61 pAM5), .block 3, kn1, .block 2, .seq (sub B61 pAM8), .block 1, kn5, .block 0, .scope], [(0, .v (.func (Fn.yield (D + 1)) (Array.mk []) (Array.mk []))), (2, .lp 2 0), (3, .lp 3 0), (5, .sl SA2 sn2 sc2), (6, .v (.pointer (some (Addr.mk b 0 none)))), (18, .v (.pointer (some (Addr.mk b 0 none))))], [([.sl A2 n2 c2], 25), ([.v (.pointer (some (Addr.mk mb 0 none)))], 46), ([.v (.bool false)], 4), ([.fn (Fn.func 46) []], 96)]⟩ ?_
  refine At.fax ⟨b, 0, none⟩ 2 (by kernel_rfl) BF.stable ?_
  refine zT BF.stable h4 [0, 2, 3, 5, 6, 19] 4 ⟨pqops B61 [4, 1, 1, 1, 1, 4, 4, 4, 0, 4, 4, 1, 4, 0] 3, [.seq (sub B61 pAM5), .block 3, kn1, .block 2, .seq (sub B61 pAM8), .block 1, kn5, .block 0, .scope], [(0, .v (.func (Fn.yield (D + 1)) (Array.mk []) (Array.mk []))), (2, .lp 2 0), (3, .lp 3 0), (5, .sl SA2 sn2 sc2), (6, .v (.pointer (some (Addr.mk b 0 none)))), (19, .v (.pointer (some (Addr.mk b 2 none))))], [([.sl A2 n2 c2], 25), ([.v (.pointer (some (Addr.mk mb 0 none)))], 46), ([.v (.bool false)], 4), ([.fn (Fn.func 46) []], 96)]⟩ ?_
  refine At.ldx ((⟨b, 0, none⟩ : Addr).add 2) (.v (.pointer pl)) (by kernel_rfl) BF.stable (fun ρ w1 hm' hf => hf.1.2.cell (.head _) rfl) ?_
  refine zT BF.stable h4 [0, 2, 3, 5, 6, 20, 21] 4 ⟨pqops B61 [4, 1, 1, 1, 1, 4, 4, 4, 0, 4, 4, 1, 4, 0] 5, [.seq (sub B61 pAM5), .block 3, kn1, .block 2, .seq (sub B61 pAM8), .block 1, kn5, .block 0, .scope], [(0, .v (.func (Fn.yield (D + 1)) (Array.mk []) (Array.mk []))), (2, .lp 2 0), (3, .lp 3 0), (5, .sl SA2 sn2 sc2), (6, .v (.pointer (some (Addr.mk b 0 none)))), (20, .v (.pointer pl)), (21, .v (.pointer (some (Addr.mk b 0 none))))], [([.sl A2 n2 c2], 25), ([.v (.pointer (some (Addr.mk mb 0 none)))], 46), ([.v (.bool false)], 4), ([.fn (Fn.func 46) []], 96)]⟩ ?_
  refine At.nck ⟨b, 0, none⟩ (by kernel_rfl) BF.stable ?_
  refine zT BF.stable h4 [0, 2, 3, 5, 6, 20, 22] 4 ⟨pqops B61 [4, 1, 1, 1, 1, 4, 4, 4, 0, 4, 4, 1, 4, 0] 6, [.seq (sub B61 pAM5), .block 3, kn1, .block 2, .seq (sub B61 pAM8), .block 1, kn5, .block 0, .scope], [(0, .v (.func (Fn.yield (D + 1)) (Array.mk []) (Array.mk []))), (2, .lp 2 0), (3, .lp 3 0), (5, .sl SA2 sn2 sc2), (6, .v (.pointer (some (Addr.mk b 0 none)))), (20, .v (.pointer pl)), (22, .v (.pointer (some (Addr.mk b 0 none))))], [([.sl A2 n2 c2], 25), ([.v (.pointer (some (Addr.mk mb 0 none)))], 46), ([.v (.bool false)], 4), ([.fn (Fn.func 46) []], 96)]⟩ ?_
  refine At.fax ⟨b, 0, none⟩ 3 (by kernel_rfl) BF.stable ?_
  refine zT BF.stable h4 [0, 2, 3, 5, 6, 20, 23] 4 ⟨pqops B61 [4, 1, 1, 1, 1, 4, 4, 4, 0, 4, 4, 1, 4, 0] 7, [.seq (sub B61 pAM5), .block 3, kn1, .block 2, .seq (sub B61 pAM8), .block 1, kn5, .block 0, .scope], [(0, .v (.func (Fn.yield (D + 1)) (Array.mk []) (Array.mk []))), (2, .lp 2 0), (3, .lp 3 0), (5, .sl SA2 sn2 sc2), (6, .v (.pointer (some (Addr.mk b 0 none)))), (20, .v (.pointer pl)), (23, .v (.pointer (some (Addr.mk b 3 none))))], [([.sl A2 n2 c2], 25), ([.v (.pointer (some (Addr.mk mb 0 none)))], 46), ([.v (.bool false)], 4), ([.fn (Fn.func 46) []], 96)]⟩ ?_
  refine At.ldx ((⟨b, 0, none⟩ : Addr).add 3) (.v (.pointer pr)) (by kernel_rfl) BF.stable (fun ρ w1 hm' hf => hf.1.2.cell (.head _) rfl) ?_
  refine zT BF.stable h4 [0, 2, 3, 5, 6, 7, 8, 28, 29] 4 ⟨pqops B61 [4, 1, 1, 1, 1, 4, 4, 4, 0, 4, 4, 1, 4, 1, 1, 0, 0] 2, [.seq (sub B61 pAM0), .seq (sub B61 pAM1), .block 3, kn1, .block 2, .seq (sub B61 pAM8), .block 1, kn5, .block 0, .scope], [(0, .v (.func (Fn.yield (D + 1)) (Array.mk []) (Array.mk []))), (2, .lp 2 0), (3, .lp 3 0), (5, .sl SA2 sn2 sc2), (6, .v (.pointer (some (Addr.mk b 0 none)))), (7, .v (.pointer pl)), (8, .v (.pointer pr)), (28, .fn (Fn.func 46) []), (29, .v (.pointer (some (Addr.mk b 0 none))))], [([.sl A2 n2 c2], 25), ([.v (.pointer (some (Addr.mk mb 0 none)))], 46), ([.v (.bool false)], 4), ([.fn (Fn.func 46) []], 96)]⟩ ?_
  refine At.nck ⟨b, 0, none⟩ (by kernel_rfl) BF.stable ?_
  refine zT BF.stable h4 [0, 2, 3, 5, 6, 7, 8, 28, 30] 4 ⟨pqops B61 [4, 1, 1, 1, 1, 4, 4, 4, 0, 4, 4, 1, 4, 1, 1, 0, 0] 3, [.seq (sub B61 pAM0), .seq (sub B61 pAM1), .block 3, kn1, .block 2, .seq (sub B61 pAM8), .block 1, kn5, .block 0, .scope], [(0, .v (.func (Fn.yield (D + 1)) (Array.mk []) (Array.mk []))), (2, .lp 2 0), (3, .lp 3 0), (5, .sl SA2 sn2 sc2), (6, .v (.pointer (some (Addr.mk b 0 none)))), (7, .v (.pointer pl)), (8, .v (.pointer pr)), (28, .fn (Fn.func 46) []), (30, .v (.pointer (some (Addr.mk b 0 none))))], [([.sl A2 n2 c2], 25), ([.v (.pointer (some (Addr.mk mb 0 none)))], 46), ([.v (.bool false)], 4), ([.fn (Fn.func 46) []], 96)]⟩ ?_
  refine At.fax ⟨b, 0, none⟩ 0 (by kernel_rfl) BF.stable ?_
  refine zT BF.stable h4 [0, 2, 3, 5, 6, 7, 8, 28, 31] 4 ⟨pqops B61 [4, 1, 1, 1, 1, 4, 4, 4, 0, 4, 4, 1, 4, 1, 1, 0, 0] 4, [.seq (sub B61 pAM0), .seq (sub B61 pAM1), .block 3, kn1, .block 2, .seq (sub B61 pAM8), .block 1, kn5, .block 0, .scope], [(0, .v (.func (Fn.yield (D + 1)) (Array.mk []) (Array.mk []))), (2, .lp 2 0), (3, .lp 3 0), (5, .sl SA2 sn2 sc2), (6, .v (.pointer (some (Addr.mk b 0 none)))), (7, .v (.pointer pl)), (8, .v (.pointer pr)), (28, .fn (Fn.func 46) []), (31, .v (.pointer (some (Addr.mk b 0 none))))], [([.sl A2 n2 c2], 25), ([.v (.pointer (some (Addr.mk mb 0 none)))], 46), ([.v (.bool false)], 4), ([.fn (Fn.func 46) []], 96)]⟩ ?_
  refine At.ldx ((⟨b, 0, none⟩ : Addr).add 0) (.so (mkB k)) (by kernel_rfl) BF.stable (fun ρ w1 hm' hf => hf.1.2.cell (.head _) rfl) ?_
  refine zT BF.stable h4 [0, 2, 3, 5, 6, 7, 8, 28, 32] 4 ⟨pqops B61 [4, 1, 1, 1, 1, 4, 4, 4, 0, 4, 4, 1, 4, 1, 1, 0, 0] 5, [.seq (sub B61 pAM0), .seq (sub B61 pAM1), .block 3, kn1, .block 2, .seq (sub B61 pAM8), .block 1, kn5, .block 0, .scope], [(0, .v (.func (Fn.yield (D + 1)) (Array.mk []) (Array.mk []))), (2, .lp 2 0), (3, .lp 3 0), (5, .sl SA2 sn2 sc2), (6, .v (.pointer (some (Addr.mk b 0 none)))), (7, .v (.pointer pl)), (8, .v (.pointer pr)), (28, .fn (Fn.func 46) []), (32, .so (mkB k))], [([.sl A2 n2 c2], 25), ([.v (.pointer (some (Addr.mk mb 0 none)))], 46), ([.v (.bool false)], 4), ([.fn (Fn.func 46) []], 96)]⟩ ?_
  refine zC BF.stable 46 [.so (mkB k)] (.v (.bool false)) (fun ρ _ w1 hi hf => outM1_any k w1) ?_
  refine zT BF.stable h4 [0, 2, 3, 7, 8, 35, 37] 5 ⟨pops B61 [4, 1, 1, 1, 1, 4, 4, 4, 0, 4, 4, 1, 4, 1, 1, 1, 0] 3, [.seq (sub B61 [4, 1, 1, 1, 1, 4, 4, 4, 0, 4, 4, 1, 4, 1, 1, 1, 1]), .block 3, kn1, .block 2, .seq (sub B61 pAM8), .block 1, kn5, .block 0, .scope], [(0, .v (.func (Fn.yield (D + 1)) (Array.mk []) (Array.mk []))), (2, .lp 2 0), (3, .lp 3 0), (7, .v (.pointer pl)), (8, .v (.pointer pr)), (35, .sl SA2 sn2 sc2), (37, .ls 4 0 1 1)], [([.sl A2 n2 c2], 25), ([.v (.pointer (some (Addr.mk mb 0 none)))], 46), ([.v (.bool false)], 4), ([.fn (Fn.func 46) []], 96), ([.v (.pointer (some (Addr.mk b 0 none)))], 89)]⟩ ?_
  refine At.appVX (F' := fun A' c' => BF kw1 vw1 w0.heap.size ρ1 D (.loop (recK fid tmps D))  (⟨89, 1, A', sn2 + 1, c', stk S2 ++ [.pointer (some ⟨b, 0, none⟩)]⟩ :: ⟨32, 2, A2, n2, c2, outL1 E2⟩ :: (cl1 E2 ++ M.map row1)) ((.cel b (nodeW kw1 vw1 k v pl pr (Tr.node k v l r).high (Tr.node k v l r).many)) :: .tr pl l :: .tr pr r :: .tr (some ⟨b, 0, none⟩) (Tr.node k v l r) :: (.cel mb [.func (.func 29) #[] #[], .pointer p]) :: S2.map ndF)) 115 89 1 8 SA2 sn2 sc2 1 [.v (.pointer (some ⟨b, 0, none⟩))] (stk S2) [.pointer (some ⟨b, 0, none⟩)] (by kernel_rfl) (fun _ => rfl) (by omega) (by simp only [maxLen]; omega) (fun ρ w1 hf => hf.1.1.1 _ (List.mem_cons_self ..)) (fun ρ w1 w2 A' c' hm hf hr hg ho => hf.grown (y := ⟨89, 1, A', sn2 + 1, c', stk S2 ++ [.pointer (some ⟨b, 0, none⟩)]⟩) hr hg (ho.imp id .inl) (fun _ _ _ => by simp)) (fun A' c' => ?_)
  refine zT BF.stable h4 [0, 2, 3, 5, 6, 7, 8] 4 ⟨.exit .normal, [kn1, .block 2, .seq (sub B61 pAM8), .block 1, kn5, .block 0, .scope], [(0, .v (.func (Fn.yield (D + 1)) (Array.mk []) (Array.mk []))), (2, .lp 2 0), (3, .lp 3 0), (5, .sl A' (sn2 + 1) c'), (6, .v (.pointer pl)), (7, .v (.pointer pl)), (8, .v (.pointer pr))], [([.sl A2 n2 c2], 25), ([.v (.pointer (some (Addr.mk mb 0 none)))], 46), ([.v (.bool false)], 4), ([.fn (Fn.func 46) []], 96)]⟩ ?_
  refine At.next (σ := WK) ⟨A2, n2, c2, E2, M3, A', sn2 + 1, c', ⟨b, k, v, l, r⟩ :: S2, pl, l⟩ rfl rfl (by unfold subFr; kernel_rfl) (by kernel_rfl) (fun ρ a w1 hi hf => ⟨?_, h1, by simp only [List.length_cons]; omega, ?_, h4', h5, rfl⟩) ?_
  ·refine hf.perm (by rw [stk_cons]) (fun f h => memB h)
  ·simp only [h3, Tr.toL, List.flatMap_cons, restN, List.append_assoc, List.cons_append]
  show Tr.many l < Tr.many (Tr.node k v l r)
  simp only [Tr.many]; omega
end Go.Proofs.YtkjnbafdmjakgaaGreatDoor
end
section
namespace Go.Proofs.YtkjnbafdmjakgaaGreatDoor
open Go.RowKit Go.Sx
def KA (N mb : Nat) (p : Option Addr) (L : List Sx.Rw) (t : Tr (List UInt8) SlV) (ρ : List Nat) (w : World) : Prop := Rec mb (mapO1 p) ρ w ∧ KF kw1 vw1 N [mb] L [.tr p t] ρ w
theorem KA.stable {N mb : Nat} {p : Option Addr} {L : List Sx.Rw} {t : Tr (List UInt8) SlV} : Stable (KA N mb p L t) := Rec.stable.and KF.stable
theorem KA.fewer {N mb : Nat} {p : Option Addr} {L : List Sx.Rw} {t : Tr (List UInt8) SlV} : FewerK 0 (KA N mb p L t) := FewerK.and2 Rec.fewer KF.fewer
theorem rec_cell {mb : Nat} {p : Option Addr} {ρ : List Nat} {w : World} (h : Rec mb (mapO1 p) ρ w) {j : Nat} {u : Value} (hj : (#[Value.func (.func 29) #[] #[], .pointer p] : Array Value)[j]? = some u) : w.cell? ((⟨mb, 0, none⟩ : Addr).add j) = some u := by
 rw [add_ok, Nat.zero_add]
 simp only [World.cell?, h.1, mapO1]
 exact hj
theorem row_not2 {x : Sx.Rw} {N : Nat} {ρ : List Nat} {w : World} (h : Row N x.e x.size x.A x.n x.c x.xs ρ w) {D : Nat} {cs : Array Value} {t : TypeId} (hD : w.heap[D]? = some (.cells cs t (0, 0))) (ht : x.e ≠ t) : x.own ≠ some D := fun e => by
 obtain ⟨cur, hc⟩ := row_own h e
 rw [hD] at hc
 injection hc with hc
 injection hc with _ hc _
 exact ht hc.symm
theorem KA.grown {N mb : Nat} {p : Option Addr} {L : List Sx.Rw} {t : Tr (List UInt8) SlV} {x y : Sx.Rw} {ρ : List Nat} {w w' : World} (h : KA N mb p (x :: L) t ρ w) (hx : x.e = 40) (hy : Row N y.e y.size y.A y.n y.c y.xs ρ w') (hg : w.grownBy w' x.own) (ho : y.own = x.own ∨ y.own = some w.heap.size ∨ y.own = none) : KA N mb p (y :: L) t ρ w' :=
 ⟨Rec.grown h.1 hg (row_not2 (h.2.1.1 x (List.mem_cons_self ..)) h.1.1 (by rw [hx]; decide)), h.2.grown hy hg ho⟩
theorem winv_chg {N : Nat} {w0 w w' : World} {ρ : List Nat} {loc : Sx.Loc} {mb : Nat} (hm : WInv N w0 ρ loc w) (hc : Chg (fun b => b ∈ [mb]) w w') (hN : N ≤ mb) (hn : mb ∉ ρ) : WInv N w0 ρ loc w' :=
 hm.step hc (fun g _ hg => by rw [List.mem_singleton] at hg; rw [hg]; exact hN) rfl (fun i c t hi => hm.kept hc hi (fun hg => by
  rw [List.mem_singleton] at hg
  exact hn (hg ▸ nth_mem (by rw [hm.len]; exact (List.getElem?_eq_some_iff.1 hi).1))))
theorem KA.put {N mb : Nat} {p q : Option Addr} {L : List Sx.Rw} {t u : Tr (List UInt8) SlV} {ρ : List Nat} {w w' : World} (h : KA N mb p L t ρ w) (h6 : w'.heap[mb]? = some (mapO1 q)) (h7 : TrF kw1 vw1 q u ([mb] ++ owns L ++ ρ) w') (h8 : Chg (fun b => b ∈ [mb]) w w') (hL : ∀ x ∈ L, x.e ≠ 91) : KA N mb q L u ρ w' := by
 refine ⟨⟨h6, h.1.2⟩, ⟨fun x hx => ?_, h.2.1.2⟩, fun f hf => ?_⟩
 ·have hrow := h.2.1.1 x hx
  refine hrow.chg' fun g hg => h8.block g (hrow.1.lt g hg).2 fun e => ?_
  rw [List.mem_singleton] at e
  subst e
  exact row_not2 hrow h.1.1 (hL x hx) hg
 rw [List.mem_singleton] at hf
 subst hf
 exact h7
theorem all29 (x : Sx.Rw) (R : List Mn) (hx : x.e = 40) : ∀ y ∈ x :: R.map row1, y.e ≠ 91 := fun y hy => by
 rcases List.mem_cons.1 hy with rfl | hy
 ·rw [hx]; decide
 obtain ⟨z, _, rfl⟩ := List.mem_map.1 hy
 exact (by decide : (40 : Nat) ≠ 91)
theorem srt_of {κ ν μ : Type} {cmp : κ → κ → Int} {f : ν → μ} {l : List (κ × ν)} (h : Srt cmp (mapV f l)) : Srt cmp l := by
 unfold Srt mapV at *
 rw [List.pairwise_map] at h
 exact h
theorem step_k {M : List Mn} {t : Tr (List UInt8) SlV} (k : List UInt8) (h1 : mapV Prod.fst M = t.toL) (hs : Srt cmp1 M) : ∃ ps R, (lookL cmp1 k (mapV Prod.snd M)).getD [] = ps ∧ (∀ v, (insL cmp1 k v M).Perm ((k, v) :: R)) ∧ ((gotS (t.get cmp1 k) = ⟨none, 0, 0⟩ ∧ ps = [] ∧ R = M) ∨ M.Perm ((k, (gotS (t.get cmp1 k), ps)) :: R)) := by
 have ht : t.get cmp1 k = (lookL cmp1 k M).map Prod.fst := by
  rw [Tr.get_toL lin1 _ _ (h1 ▸ mapV_srt _ hs), ← h1, mapV_look]
 rw [ht, mapV_look]
 rcases ins_perm lin1 (k := k) hs with ⟨h2, h3⟩ | ⟨⟨s, ps⟩, R, h2, h3, h4⟩
 ·rw [h2]
  exact ⟨[], M, rfl, h3, .inl ⟨rfl, rfl, rfl⟩⟩
 rw [h2]
 exact ⟨ps, R, rfl, h4, .inr h3⟩
theorem take_snoc {ls : List Pn} {i : Nat} {q : Pn} (h : ls[i]? = some q) : ls.take i ++ [q] = ls.take (i + 1) := by
 rw [List.take_add_one, h]
 rfl
theorem clos3_den {ρ ρc : List Nat} {f : FuncId} (h : ρ.length = 1) : (SV.fn (.func f) [.lp 1 0, .lp 2 0, .lp 3 0]).den (ρ ++ ρc) = (SV.fn (.func f) [.lp 0 0, .lp 1 0, .lp 2 0]).den ρc := by
 simp [SV.den, SV.denL, Go.Sx.nth, List.getElem?_append_right, h]
structure KY where
 i : Nat
 p : Option Addr
 t : Tr (List UInt8) SlV
 M : List Mn
def frKY (mb : Nat) (Al : Option Addr) (nl cl : Nat) : KY → Fr
 | ⟨i, p, t, M⟩ => [(3, .v (.pointer (some ⟨mb, 0, none⟩))), (12, .sl Al nl cl), (13, .io .i64 (nl : Int)), (14, .io .i64 (i : Int))]
def locKY (_ : KY) : Sx.Loc := []
def GKY (w0 : World) (ls : List Pn) (mb : Nat) : KY → List Nat → World → Prop
 | ⟨i, p, t, M⟩, ρ, w => KA w0.heap.size mb p (M.map row1) t ρ w ∧ (i ≤ ls.length ∧ mapV Prod.fst M = t.toL ∧ mapV Prod.snd M = keysM (ls.take i) ∧ ∀ y ∈ M, y.2.2.length = y.2.1.n)
theorem rws_putObj {b : Nat} {L : List Sx.Rw} {ρ : List Nat} {w : World} (h : Rws b L ρ w) {r : Nat} {o0 : Obj} (hr : w.heap[r]? = some o0) (ho : ∀ c t f, o0 ≠ .cells c t f) (o : Obj) : Rws b L ρ (w.putObj r o) := ⟨fun x hx => (h.1 x hx).putObj hr ho o, h.2⟩
def KX (w0 : World) (ls : List Pn) (D : Nat) (x : Option Addr × Nat × Nat × List En) (ρ : List Nat) (w : World) : Prop := (Rws w0.heap.size (⟨32, 2, x.1, x.2.1, x.2.2.1, outL1 x.2.2.2⟩ :: cl1 x.2.2.2) ρ w ∧ Rec D (.deferred (some [])) ρ w) ∧ (x.2.1 = x.2.2.2.length ∧ x.2.2.2.map (fun e => (e.1, e.2.1)) = keysM ls ∧ w0.heap.size ≤ D)
theorem KX1.stable {N D : Nat} {L : List Sx.Rw} {o : Obj} : Stable (fun ρ w => Rws N L ρ w ∧ Rec D o ρ w) := Rws.stable.and Rec.stable
theorem KX1.fewer {N D : Nat} {L : List Sx.Rw} {o : Obj} : FewerK 0 (fun ρ w => Rws N L ρ w ∧ Rec D o ρ w) := FewerK.and2 Rws.fewer Rec.fewer
theorem winv_alloc {N : Nat} {w0 w : World} {ρ : List Nat} {loc : Sx.Loc} (h : WInv N w0 ρ loc w) (o : Obj) : WInv N w0 ρ loc (w.alloc o) := by
 refine ⟨h.below.alloc h.hN o, ?_, h.len, h.nodup, fun b hb => ⟨(h.ge b hb).1, ?_⟩, fun i c t hi => ?_⟩
 ·have := h.hN
  rw [show (w.alloc o).heap = w.heap.push o from rfl]
  simp; omega
 ·have := (h.ge b hb).2
  rw [show (w.alloc o).heap = w.heap.push o from rfl]
  simp; omega
 have hold := h.cells i c t hi
 have hlt := (Array.getElem?_eq_some_iff.1 hold).1
 rw [show (w.alloc o).heap = w.heap.push o from rfl]
 rw [Array.getElem?_push, if_neg (by omega)]
 exact hold
theorem KA.toK {N mb : Nat} {p : Option Addr} {M : List Mn} {t : Tr (List UInt8) SlV} {ρ : List Nat} {w w' : World} (h : KA N mb p (M.map row1) t ρ w) (hb : Below w.heap.size w w') : KF kw1 vw1 N [w.heap.size, w.heap.size + 1] (⟨32, 2, none, 0, 0, []⟩ :: M.map row1) [.cel mb [.func (.func 29) #[] #[], .pointer p], .tr p t] ρ w' := by
 have h1 : KF kw1 vw1 N [] (M.map row1) [.cel mb [.func (.func 29) #[] #[], .pointer p], .tr p t] ρ w := by
  refine ⟨h.2.1, fun f hf => ?_⟩
  rcases List.mem_cons.1 hf with rfl | hf
  ·refine ⟨fun j u hj => rec_cell h.1 (by simpa using hj), (Array.getElem?_eq_some_iff.1 h.1.1).1, fun hm => ?_⟩
   simp only [List.nil_append, List.mem_append] at hm
   rcases hm with hm | hm
   ·obtain ⟨x, hx, hg⟩ := mem_owns.1 hm
    exact row_not2 (h.2.1.1 x hx) h.1.1 (all29 ⟨40, 0, none, 0, 0, []⟩ M rfl x (List.mem_cons_of_mem _ hx)) hg
   exact h.1.2 hm
  refine Fc.chg (Chg.refl (fun _ => False) w) (fun _ h => h.elim) (fun b hb => .inl ?_) (h.2.2 f hf)
  simp only [List.nil_append, List.mem_append] at hb ⊢
  rcases hb with hb | hb
  ·exact .inl (.inr hb)
  exact .inr hb
 exact (h1.widen hb (fun b hb => by
  simp only [List.mem_cons, List.not_mem_nil, or_false] at hb
  exact .inr (by omega))).nil 32 2
def keysE (w : World) (ls : List Pn) (e : Ending) (w' : World) : Prop := ∃ (A : Option Addr) (n c : Nat) (E : List En), e = .returned (.slice A n c) ∧ n = E.length ∧ E.map (fun e => (e.1, e.2.1)) = keysM ls ∧ Rws w.heap.size (⟨32, 2, A, n, c, outL1 E⟩ :: cl1 E) [] w' ∧ Below w.heap.size w w'
set_option maxHeartbeats 20000000 in
set_option maxRecDepth 100000 in
theorem ktail [Md] {D : Nat} (hdf : Md.dfs = [{ target := .collected D, args := #[] }]) {w : World} {ls : List Pn} {mb : Nat} (x : Option Addr × Nat × Nat × List En) :
  At Tryz.prog (bodyPostM Fence.wide 0 Tryz.prog Tryz.f6 (keysE w ls)) w.heap.size w Tryz.f6.ntmps (KX w ls D x) ⟨.exit .normal, [.block 2, .seq (sub B6 [1, 1, 1, 1, 1])], [(8, .lp 0 0), (35, .fn (.func 61) [.lp 1 0, .lp 2 0, .lp 3 0])], locK mb x.1 x.2.1 x.2.2.1⟩ := by
 obtain ⟨A, n, c, E⟩ := x
 refine At.pure fun ⟨hn, hE, hDw⟩ => ?_
 dsimp only at hn hE ⊢
 refine zT KX1.stable KX1.fewer [2] 0 ⟨.exit .ret, [], [(2, .sl A n c)], []⟩ ?_
 refine At.retM hdf (by kernel_rfl) (.sl A n c) (by kernel_rfl) (fun ρ w h => ⟨hDw, h.2.1⟩) ?_
 intro ρ w9 hm' hD9 hf
 refine ⟨A, n, c, E, rfl, hn, hE, ?_, hm'.below⟩
 have h8 := rws_putObj (Rws.fewer ρ _ 0 (Nat.zero_le _) hf.1) hD9 (fun _ _ _ => by simp) (.deferred none)
 rw [List.take_zero] at h8
 exact h8
set_option maxHeartbeats 20000000 in
set_option maxRecDepth 100000 in
theorem keys_any {Al : Option Addr} {nl cl : Nat} {ls : List Pn} (w : World) (hl : SlP w Al nl ls) (hbig : nl ≤ 200) :
  Calls Tryz.prog 6 #[.slice Al nl cl] w (keysE w ls) := by
 have hnl := hl.1
 refine enterM (N := w.heap.size) (F := noF) (fn := Tryz.f6) (c := B6) [.sl Al nl cl] Tryz.func6 rfl rfl (Nat.le_refl _) trivial ?_
 refine zN [0] 0 ⟨pops B6 [1, 0] 0, [.seq (sub B6 [1, 1])], [(0, .sl Al nl cl)], []⟩ ?_
 refine At.callx noF_stable (X := Nat) 21 [] (fun mb => .v (.pointer (some ⟨mb, 0, none⟩))) (fun mb ρ w1 => Rec mb (mapO1 none) ρ w1 ∧ w.heap.size ≤ mb) (fun mb => Stable.andP Rec.stable) (by kernel_rfl) (by kernel_rfl) (by kernel_rfl) (by kernel_rfl) (fun ρ a w1 hi hf => (newM1_any w1).mono fun e w2 h => ?_) (fun mb => ?_)
 ·obtain ⟨mb, h1, h2, h3, h4⟩ := h
  exact ⟨mb, h1, h4, ⟨h2, fun hm => by have := (hi.mem.ge mb hm).2; omega⟩, Nat.le_trans hi.mem.below.size h3⟩
 refine At.mono (F' := fun ρ w1 => KA w.heap.size mb none [] .nil ρ w1 ∧ w.heap.size ≤ mb) (fun ρ w1 h => ⟨⟨h.2.1, Rws.none _ _ _, fun f hf => by rw [List.mem_singleton] at hf; subst hf; rfl⟩, h.2.2⟩) (At.pure fun hmb => ?_)
 refine zT KA.stable KA.fewer [3, 12, 13, 14] 0 ⟨.code (sub B6 [1, 1, 0, 1, 4]), [.block 0, .seq (sub B6 [1, 1, 1])], [(3, .v (.pointer (some (Addr.mk mb 0 none)))), (12, .sl Al nl cl), (13, .io .i64 (↑nl : Int)), (14, .v (.int .i64 0))], []⟩ ?_
 refine At.canon _ rfl ?_
 refine At.slFr _ rfl ?_
 refine At.loop (σ := KY) (sub B6 [1, 1, 0, 1, 4, 4]) (frKY mb Al nl cl) locKY (GKY w ls mb) (fun x => nl - x.i) ⟨0, none, .nil, []⟩ (by kernel_rfl) (by unfold subFr; kernel_rfl) (by kernel_rfl) (fun _ _ _ _ h => ⟨h, Nat.zero_le _, rfl, rfl, fun y hy => by cases hy⟩) ?_
 rintro ⟨i, p, t, M⟩
 refine At.pure fun ⟨h1, h2, h3, h4⟩ => ?_
 refine zTq KA.stable KA.fewer [3, 12, 13, 14, 15] 0 ?_
 rcases Bool.eq_false_or_eq_true (decide ((↑i : Int) < (↑nl : Int))) with b0 | b0
 ·refine zR 15 b0 ?_
  refine zT KA.stable KA.fewer [3, 12, 13, 14] 0 ⟨pops B6 [1, 1, 0, 1, 4, 4, 1, 1, 0, 4, 0] 0, [.seq (sub B6 [1, 1, 0, 1, 4, 4, 1, 1, 0, 4, 1]), .block 1, .seq (sub B6 pAM9), .next (Sx.Next w.heap.size w Tryz.f6.ntmps (frKY mb Al nl cl) locKY (GKY w ls mb) (fun x => nl - x.i) (KY.mk i p t M)), .block 0, .seq (sub B6 [1, 1, 1])], [(3, .v (.pointer (some (Addr.mk mb 0 none)))), (12, .sl Al nl cl), (13, .io .i64 (↑nl : Int)), (14, .io .i64 (↑i : Int))], []⟩ ?_
  have hi : i < nl := by have := of_decide_eq_true b0; omega
  clear b0
  obtain ⟨q, hq⟩ : ∃ q, ls[i]? = some q := ⟨_, List.getElem?_eq_getElem (by rw [hl.1]; exact hi)⟩
  obtain ⟨al, rfl⟩ := hl.some (by omega)
  refine At.idx al nl 9 (i : Int) (by kernel_rfl) (by omega) (by omega) KA.stable ?_
  refine At.lda (al.add ((i : Int).toNat * 9)) 9 [.so (mkB q.key), .io .i64 q.st, .io .i64 q.en, .io .i64 q.kd, .io .i64 q.nt, .io .i64 q.ct, .io .i64 q.sm, .io .i64 q.mn, .io .i64 q.mx] (by kernel_rfl) rfl KA.stable (fun ρ w1 hm' hf j v hj => hl.cell hm'.below hq hj) ?_
  let kn0 : Go.Sx.K := .next (Sx.Next w.heap.size w Tryz.f6.ntmps (frKY mb (some al) nl cl) locKY (GKY w ls mb) (fun x => nl - x.i) (KY.mk i p t M))
  refine zT KA.stable KA.fewer [3, 5, 12, 13, 14, 19, 21] 1 ⟨pops B6 [1, 1, 0, 1, 4, 4, 1, 1, 0, 4, 1, 0] 3, [.seq (sub B6 pAM7), .block 1, .seq (sub B6 pAM9), kn0, .block 0, .seq (sub B6 [1, 1, 1])], [(3, .v (.pointer (some (Addr.mk mb 0 none)))), (5, .lp 0 0), (12, .sl (some al) nl cl), (13, .io .i64 (↑nl : Int)), (14, .io .i64 (↑i : Int)), (19, .v (.pointer (some (Addr.mk mb 0 none)))), (21, .so (mkB q.key))], [([.so (mkB q.key), .io .i64 q.st, .io .i64 q.en, .io .i64 q.kd, .io .i64 q.nt, .io .i64 q.ct, .io .i64 q.sm, .io .i64 q.mn, .io .i64 q.mx], 40)]⟩ ?_
  refine zC KA.stable 22 [.v (.pointer (some ⟨mb, 0, none⟩)), .so (mkB q.key)] (.tup [.sl (gotS (t.get cmp1 q.key)).A (gotS (t.get cmp1 q.key)).n (gotS (t.get cmp1 q.key)).c, .bo (t.get cmp1 q.key).isSome]) (fun ρ _ w1 hi hf => get1_any q.key t ([mb] ++ owns (M.map row1) ++ ρ) p w1 (rec_cell hf.1 rfl) (rec_cell hf.1 rfl) (hf.2.2.tree (.head _))) ?_
  obtain ⟨ps, R, k1, k2, k3⟩ := step_k q.key h2 (srt_of (h3 ▸ (keysM_of (ls.take i)).1))
  have hpl : ps.length ≤ i := by
   rw [← k1, h3, keysOf_get (keysM_of _)]
   exact Nat.le_trans (grp_le _ _) (by rw [List.length_take]; omega)
  have hps : ps.length = (gotS (t.get cmp1 q.key)).n := by
   rcases k3 with ⟨e1, e2, _⟩ | e1
   ·rw [e1, e2]; rfl
   exact h4 (q.key, ((gotS (t.get cmp1 q.key)), ps)) (e1.mem_iff.2 (List.mem_cons_self ..))
  refine At.mono (F' := KA w.heap.size mb p (⟨40, 9, (gotS (t.get cmp1 q.key)).A, (gotS (t.get cmp1 q.key)).n, (gotS (t.get cmp1 q.key)).c, pv ps⟩ :: R.map row1) t) (fun ρ w1 hf => ⟨hf.1, ?_⟩) ?_
  ·rcases k3 with ⟨e1, e2, e3⟩ | e1
   ·rw [e1, e2, e3]
    exact hf.2.nil 40 9
   exact hf.2.perm ((e1.map row1).symm) (fun f h => h)
  have hmany : t.many ≤ 200 := by
   rw [← Tr.many_toL, ← h2]
   have := keysM_len (ls.take i)
   rw [← h3] at this
   simp only [mapV, List.length_map, List.length_take] at this ⊢
   omega
  generalize hS : (gotS (t.get cmp1 q.key)) = s at *
  refine zT KA.stable KA.fewer [3, 5, 6, 12, 13, 14] 1 ⟨.any (opsOf (sub B6 pAM7)) 8 [], [.block 1, .seq (sub B6 pAM9), kn0, .block 0, .seq (sub B6 [1, 1, 1])], [(3, .v (.pointer (some (Addr.mk mb 0 none)))), (5, .lp 0 0), (6, .sl s.A s.n s.c), (12, .sl (some al) nl cl), (13, .io .i64 (↑nl : Int)), (14, .io .i64 (↑i : Int))], [([.so (mkB q.key), .io .i64 q.st, .io .i64 q.en, .io .i64 q.kd, .io .i64 q.nt, .io .i64 q.ct, .io .i64 q.sm, .io .i64 q.mn, .io .i64 q.mx], 40)]⟩ ?_
  refine At.cutN (σ := Option Addr × Nat × Option Addr) (fun x => [(3, .v (.pointer (some (Addr.mk mb 0 none)))), (12, .sl (some al) nl cl), (13, .io .i64 (↑nl : Int)), (14, .io .i64 (↑i : Int))]) (fun x => []) (fun x => KA w.heap.size mb x.2.2 (⟨40, 9, x.1, s.n + 1, x.2.1, pv ps ++ q.cells⟩ :: R.map row1) (t.put cmp1 q.key ⟨x.1, s.n + 1, x.2.1⟩)) rfl ?_ (fun x => ?_)
  ·refine At.purify0 (fun e a w h => h.1) 20 ?_
   refine zT KA.stable KA.fewer [3, 5, 6, 12, 13, 14, 25, 26, 28] 1 ⟨.any (opsOf (sub B6 pAM7)) 5 [3, 1, 0], [], [(3, .v (.pointer (some (Addr.mk mb 0 none)))), (5, .lp 0 0), (6, .sl s.A s.n s.c), (12, .sl (some al) nl cl), (13, .io .i64 (↑nl : Int)), (14, .io .i64 (↑i : Int)), (25, .v (.pointer (some (Addr.mk mb 0 none)))), (26, .lp 0 0), (28, .sl s.A s.n s.c)], [([.so (mkB q.key), .io .i64 q.st, .io .i64 q.en, .io .i64 q.kd, .io .i64 q.nt, .io .i64 q.ct, .io .i64 q.sm, .io .i64 q.mn, .io .i64 q.mx], 40)]⟩ ?_
   refine At.fork [2, 4] rfl (by kernel_rfl) rfl (allOf.cons ?_ (allOf.cons ?_ allOf.nil))
   ·refine zT KA.stable KA.fewer [3, 5, 6, 12, 13, 14, 25, 27, 28, 30] 2 ⟨.ops (opsOf (sub B6 pAM7)) (((opsOf (sub B6 pAM7)).toList.drop 6).take 1), [.any (opsOf (sub B6 pAM7)) 1 [6, 5, 4, 2, 3, 1, 0]], [(3, .v (.pointer (some (Addr.mk mb 0 none)))), (5, .lp 0 0), (6, .sl s.A s.n s.c), (12, .sl (some al) nl cl), (13, .io .i64 (↑nl : Int)), (14, .io .i64 (↑i : Int)), (25, .v (.pointer (some (Addr.mk mb 0 none)))), (27, .so (mkB q.key)), (28, .sl s.A s.n s.c), (30, .ls 1 0 1 1)], [([.so (mkB q.key), .io .i64 q.st, .io .i64 q.en, .io .i64 q.kd, .io .i64 q.nt, .io .i64 q.ct, .io .i64 q.sm, .io .i64 q.mn, .io .i64 q.mx], 40), ([.so (mkB q.key), .io .i64 q.st, .io .i64 q.en, .io .i64 q.kd, .io .i64 q.nt, .io .i64 q.ct, .io .i64 q.sm, .io .i64 q.mn, .io .i64 q.mx], 40)]⟩ ?_
    refine At.appVX (F' := fun A' c' => KA w.heap.size mb p (⟨40, 9, A', s.n + 1, c', pv ps ++ q.cells⟩ :: R.map row1) t) 22 40 9 80 s.A s.n s.c 1 [.so (mkB q.key), .io .i64 q.st, .io .i64 q.en, .io .i64 q.kd, .io .i64 q.nt, .io .i64 q.ct, .io .i64 q.sm, .io .i64 q.mn, .io .i64 q.mx] (pv ps) q.cells (by kernel_rfl) (fun _ => rfl) (by omega) (by simp only [maxLen]; omega) (fun ρ w1 hf => hf.2.1.1 _ (List.mem_cons_self ..)) (fun ρ w1 w2 A' c' hm hf hr hg ho => KA.grown (y := ⟨40, 9, A', s.n + 1, c', pv ps ++ q.cells⟩) hf rfl hr hg (ho.imp id .inl)) (fun A' c' => ?_)
    refine zT KA.stable KA.fewer [3, 12, 13, 14, 25, 27, 31] 0 ⟨.ops (opsOf (sub B6 pAM7)) (((opsOf (sub B6 pAM7)).toList.drop 7).take 1), [.any (opsOf (sub B6 pAM7)) 0 [7, 6, 5, 4, 2, 3, 1, 0]], [(3, .v (.pointer (some (Addr.mk mb 0 none)))), (12, .sl (some al) nl cl), (13, .io .i64 (↑nl : Int)), (14, .io .i64 (↑i : Int)), (25, .v (.pointer (some (Addr.mk mb 0 none)))), (27, .so (mkB q.key)), (31, .sl A' (s.n + 1) c')], []⟩ ?_
    refine At.callg (X := Option Addr) 23 [.v (.pointer (some ⟨mb, 0, none⟩)), .so (mkB q.key), .sl A' (s.n + 1) c'] (fun _ => .tup [.sl s.A s.n s.c, .bo (t.get cmp1 q.key).isSome, .v (.int .i64 0)]) (fun _ => []) (fun x => KA w.heap.size mb x (⟨40, 9, A', s.n + 1, c', pv ps ++ q.cells⟩ :: R.map row1) (t.put cmp1 q.key ⟨A', s.n + 1, c'⟩)) (by kernel_rfl) (by kernel_rfl) (by kernel_rfl) (by kernel_rfl) (by kernel_rfl) (fun ρ w1 hm hf => ?_) (fun q' => ?_)
    ·refine (PutM1_any q.key ⟨A', s.n + 1, c'⟩ t ([mb] ++ owns (⟨40, 9, A', s.n + 1, c', pv ps ++ q.cells⟩ :: R.map row1) ++ ρ) p w1 hf.1.1 (by simp) (KF.low hm hf.2 (fun x hx => by rw [List.mem_singleton] at hx; rw [hx]; exact (Array.getElem?_eq_some_iff.1 hf.1.1).1)) (hf.2.2.tree (.head _)) (by omega)).mono ?_
     rintro e w2 ⟨q', rfl, h6, h7, h8⟩
     rw [hS]
     exact ⟨q', ρ, rfl, Grow.refl _ _, winv_chg hm h8 hmb hf.1.2, KA.put hf h6 h7 h8 (all29 _ _ rfl)⟩
    refine zT KA.stable KA.fewer [3, 12, 13, 14] 0 ⟨.exit .normal, [], [(3, .v (.pointer (some (Addr.mk mb 0 none)))), (12, .sl (some al) nl cl), (13, .io .i64 (↑nl : Int)), (14, .io .i64 (↑i : Int))], []⟩ ?_
    exact At.fin (A', c', q') rfl rfl (by unfold subFr; kernel_rfl) rfl (fun _ _ _ _ h => h)
   refine zT KA.stable KA.fewer [3, 5, 6, 12, 13, 14, 25, 26, 28, 29] 1 ⟨.any (opsOf (sub B6 pAM7)) 4 [4, 3, 1, 0], [], [(3, .v (.pointer (some (Addr.mk mb 0 none)))), (5, .lp 0 0), (6, .sl s.A s.n s.c), (12, .sl (some al) nl cl), (13, .io .i64 (↑nl : Int)), (14, .io .i64 (↑i : Int)), (25, .v (.pointer (some (Addr.mk mb 0 none)))), (26, .lp 0 0), (28, .sl s.A s.n s.c), (29, .agg [.so (mkB q.key), .io .i64 q.st, .io .i64 q.en, .io .i64 q.kd, .io .i64 q.nt, .io .i64 q.ct, .io .i64 q.sm, .io .i64 q.mn, .io .i64 q.mx])], [([.so (mkB q.key), .io .i64 q.st, .io .i64 q.en, .io .i64 q.kd, .io .i64 q.nt, .io .i64 q.ct, .io .i64 q.sm, .io .i64 q.mn, .io .i64 q.mx], 40)]⟩ ?_
   refine At.fork [2, 5] rfl (by kernel_rfl) rfl (allOf.cons ?_ (allOf.cons ?_ allOf.nil))
   ·refine zT KA.stable KA.fewer [3, 5, 6, 12, 13, 14, 25, 27, 28, 30] 2 ⟨.ops (opsOf (sub B6 pAM7)) (((opsOf (sub B6 pAM7)).toList.drop 6).take 1), [.any (opsOf (sub B6 pAM7)) 1 [6, 5, 2, 4, 3, 1, 0]], [(3, .v (.pointer (some (Addr.mk mb 0 none)))), (5, .lp 0 0), (6, .sl s.A s.n s.c), (12, .sl (some al) nl cl), (13, .io .i64 (↑nl : Int)), (14, .io .i64 (↑i : Int)), (25, .v (.pointer (some (Addr.mk mb 0 none)))), (27, .so (mkB q.key)), (28, .sl s.A s.n s.c), (30, .ls 1 0 1 1)], [([.so (mkB q.key), .io .i64 q.st, .io .i64 q.en, .io .i64 q.kd, .io .i64 q.nt, .io .i64 q.ct, .io .i64 q.sm, .io .i64 q.mn, .io .i64 q.mx], 40), ([.so (mkB q.key), .io .i64 q.st, .io .i64 q.en, .io .i64 q.kd, .io .i64 q.nt, .io .i64 q.ct, .io .i64 q.sm, .io .i64 q.mn, .io .i64 q.mx], 40)]⟩ ?_
    refine At.appVX (F' := fun A' c' => KA w.heap.size mb p (⟨40, 9, A', s.n + 1, c', pv ps ++ q.cells⟩ :: R.map row1) t) 22 40 9 80 s.A s.n s.c 1 [.so (mkB q.key), .io .i64 q.st, .io .i64 q.en, .io .i64 q.kd, .io .i64 q.nt, .io .i64 q.ct, .io .i64 q.sm, .io .i64 q.mn, .io .i64 q.mx] (pv ps) q.cells (by kernel_rfl) (fun _ => rfl) (by omega) (by simp only [maxLen]; omega) (fun ρ w1 hf => hf.2.1.1 _ (List.mem_cons_self ..)) (fun ρ w1 w2 A' c' hm hf hr hg ho => KA.grown (y := ⟨40, 9, A', s.n + 1, c', pv ps ++ q.cells⟩) hf rfl hr hg (ho.imp id .inl)) (fun A' c' => ?_)
    refine zT KA.stable KA.fewer [3, 12, 13, 14, 25, 27, 31] 0 ⟨.ops (opsOf (sub B6 pAM7)) (((opsOf (sub B6 pAM7)).toList.drop 7).take 1), [.any (opsOf (sub B6 pAM7)) 0 [7, 6, 5, 2, 4, 3, 1, 0]], [(3, .v (.pointer (some (Addr.mk mb 0 none)))), (12, .sl (some al) nl cl), (13, .io .i64 (↑nl : Int)), (14, .io .i64 (↑i : Int)), (25, .v (.pointer (some (Addr.mk mb 0 none)))), (27, .so (mkB q.key)), (31, .sl A' (s.n + 1) c')], []⟩ ?_
    refine At.callg (X := Option Addr) 23 [.v (.pointer (some ⟨mb, 0, none⟩)), .so (mkB q.key), .sl A' (s.n + 1) c'] (fun _ => .tup [.sl s.A s.n s.c, .bo (t.get cmp1 q.key).isSome, .v (.int .i64 0)]) (fun _ => []) (fun x => KA w.heap.size mb x (⟨40, 9, A', s.n + 1, c', pv ps ++ q.cells⟩ :: R.map row1) (t.put cmp1 q.key ⟨A', s.n + 1, c'⟩)) (by kernel_rfl) (by kernel_rfl) (by kernel_rfl) (by kernel_rfl) (by kernel_rfl) (fun ρ w1 hm hf => ?_) (fun q' => ?_)
    ·refine (PutM1_any q.key ⟨A', s.n + 1, c'⟩ t ([mb] ++ owns (⟨40, 9, A', s.n + 1, c', pv ps ++ q.cells⟩ :: R.map row1) ++ ρ) p w1 hf.1.1 (by simp) (KF.low hm hf.2 (fun x hx => by rw [List.mem_singleton] at hx; rw [hx]; exact (Array.getElem?_eq_some_iff.1 hf.1.1).1)) (hf.2.2.tree (.head _)) (by omega)).mono ?_
     rintro e w2 ⟨q', rfl, h6, h7, h8⟩
     rw [hS]
     exact ⟨q', ρ, rfl, Grow.refl _ _, winv_chg hm h8 hmb hf.1.2, KA.put hf h6 h7 h8 (all29 _ _ rfl)⟩
    refine zT KA.stable KA.fewer [3, 12, 13, 14] 0 ⟨.exit .normal, [], [(3, .v (.pointer (some (Addr.mk mb 0 none)))), (12, .sl (some al) nl cl), (13, .io .i64 (↑nl : Int)), (14, .io .i64 (↑i : Int))], []⟩ ?_
    exact At.fin (A', c', q') rfl rfl (by unfold subFr; kernel_rfl) rfl (fun _ _ _ _ h => h)
   refine zT KA.stable KA.fewer [3, 5, 6, 12, 13, 14, 25, 26, 28, 30] 2 ⟨.any (opsOf (sub B6 pAM7)) 3 [5, 4, 3, 1, 0], [], [(3, .v (.pointer (some (Addr.mk mb 0 none)))), (5, .lp 0 0), (6, .sl s.A s.n s.c), (12, .sl (some al) nl cl), (13, .io .i64 (↑nl : Int)), (14, .io .i64 (↑i : Int)), (25, .v (.pointer (some (Addr.mk mb 0 none)))), (26, .lp 0 0), (28, .sl s.A s.n s.c), (30, .ls 1 0 1 1)], [([.so (mkB q.key), .io .i64 q.st, .io .i64 q.en, .io .i64 q.kd, .io .i64 q.nt, .io .i64 q.ct, .io .i64 q.sm, .io .i64 q.mn, .io .i64 q.mx], 40), ([.so (mkB q.key), .io .i64 q.st, .io .i64 q.en, .io .i64 q.kd, .io .i64 q.nt, .io .i64 q.ct, .io .i64 q.sm, .io .i64 q.mn, .io .i64 q.mx], 40)]⟩ ?_
   refine At.fork [2, 6] rfl (by kernel_rfl) rfl (allOf.cons ?_ (allOf.cons ?_ allOf.nil))
   ·refine zT KA.stable KA.fewer [3, 5, 6, 12, 13, 14, 25, 27, 28, 30] 2 ⟨.ops (opsOf (sub B6 pAM7)) (((opsOf (sub B6 pAM7)).toList.drop 6).take 1), [.any (opsOf (sub B6 pAM7)) 1 [6, 2, 5, 4, 3, 1, 0]], [(3, .v (.pointer (some (Addr.mk mb 0 none)))), (5, .lp 0 0), (6, .sl s.A s.n s.c), (12, .sl (some al) nl cl), (13, .io .i64 (↑nl : Int)), (14, .io .i64 (↑i : Int)), (25, .v (.pointer (some (Addr.mk mb 0 none)))), (27, .so (mkB q.key)), (28, .sl s.A s.n s.c), (30, .ls 1 0 1 1)], [([.so (mkB q.key), .io .i64 q.st, .io .i64 q.en, .io .i64 q.kd, .io .i64 q.nt, .io .i64 q.ct, .io .i64 q.sm, .io .i64 q.mn, .io .i64 q.mx], 40), ([.so (mkB q.key), .io .i64 q.st, .io .i64 q.en, .io .i64 q.kd, .io .i64 q.nt, .io .i64 q.ct, .io .i64 q.sm, .io .i64 q.mn, .io .i64 q.mx], 40)]⟩ ?_
    refine At.appVX (F' := fun A' c' => KA w.heap.size mb p (⟨40, 9, A', s.n + 1, c', pv ps ++ q.cells⟩ :: R.map row1) t) 22 40 9 80 s.A s.n s.c 1 [.so (mkB q.key), .io .i64 q.st, .io .i64 q.en, .io .i64 q.kd, .io .i64 q.nt, .io .i64 q.ct, .io .i64 q.sm, .io .i64 q.mn, .io .i64 q.mx] (pv ps) q.cells (by kernel_rfl) (fun _ => rfl) (by omega) (by simp only [maxLen]; omega) (fun ρ w1 hf => hf.2.1.1 _ (List.mem_cons_self ..)) (fun ρ w1 w2 A' c' hm hf hr hg ho => KA.grown (y := ⟨40, 9, A', s.n + 1, c', pv ps ++ q.cells⟩) hf rfl hr hg (ho.imp id .inl)) (fun A' c' => ?_)
    refine zT KA.stable KA.fewer [3, 12, 13, 14, 25, 27, 31] 0 ⟨.ops (opsOf (sub B6 pAM7)) (((opsOf (sub B6 pAM7)).toList.drop 7).take 1), [.any (opsOf (sub B6 pAM7)) 0 [7, 6, 2, 5, 4, 3, 1, 0]], [(3, .v (.pointer (some (Addr.mk mb 0 none)))), (12, .sl (some al) nl cl), (13, .io .i64 (↑nl : Int)), (14, .io .i64 (↑i : Int)), (25, .v (.pointer (some (Addr.mk mb 0 none)))), (27, .so (mkB q.key)), (31, .sl A' (s.n + 1) c')], []⟩ ?_
    refine At.callg (X := Option Addr) 23 [.v (.pointer (some ⟨mb, 0, none⟩)), .so (mkB q.key), .sl A' (s.n + 1) c'] (fun _ => .tup [.sl s.A s.n s.c, .bo (t.get cmp1 q.key).isSome, .v (.int .i64 0)]) (fun _ => []) (fun x => KA w.heap.size mb x (⟨40, 9, A', s.n + 1, c', pv ps ++ q.cells⟩ :: R.map row1) (t.put cmp1 q.key ⟨A', s.n + 1, c'⟩)) (by kernel_rfl) (by kernel_rfl) (by kernel_rfl) (by kernel_rfl) (by kernel_rfl) (fun ρ w1 hm hf => ?_) (fun q' => ?_)
    ·refine (PutM1_any q.key ⟨A', s.n + 1, c'⟩ t ([mb] ++ owns (⟨40, 9, A', s.n + 1, c', pv ps ++ q.cells⟩ :: R.map row1) ++ ρ) p w1 hf.1.1 (by simp) (KF.low hm hf.2 (fun x hx => by rw [List.mem_singleton] at hx; rw [hx]; exact (Array.getElem?_eq_some_iff.1 hf.1.1).1)) (hf.2.2.tree (.head _)) (by omega)).mono ?_
     rintro e w2 ⟨q', rfl, h6, h7, h8⟩
     rw [hS]
     exact ⟨q', ρ, rfl, Grow.refl _ _, winv_chg hm h8 hmb hf.1.2, KA.put hf h6 h7 h8 (all29 _ _ rfl)⟩
    refine zT KA.stable KA.fewer [3, 12, 13, 14] 0 ⟨.exit .normal, [], [(3, .v (.pointer (some (Addr.mk mb 0 none)))), (12, .sl (some al) nl cl), (13, .io .i64 (↑nl : Int)), (14, .io .i64 (↑i : Int))], []⟩ ?_
    exact At.fin (A', c', q') rfl rfl (by unfold subFr; kernel_rfl) rfl (fun _ _ _ _ h => h)
   refine zT KA.stable KA.fewer [3, 5, 6, 12, 13, 14, 25, 26, 28, 30] 2 ⟨.ops (opsOf (sub B6 pAM7)) (((opsOf (sub B6 pAM7)).toList.drop 6).take 1), [.any (opsOf (sub B6 pAM7)) 2 [6, 5, 4, 3, 1, 0]], [(3, .v (.pointer (some (Addr.mk mb 0 none)))), (5, .lp 0 0), (6, .sl s.A s.n s.c), (12, .sl (some al) nl cl), (13, .io .i64 (↑nl : Int)), (14, .io .i64 (↑i : Int)), (25, .v (.pointer (some (Addr.mk mb 0 none)))), (26, .lp 0 0), (28, .sl s.A s.n s.c), (30, .ls 1 0 1 1)], [([.so (mkB q.key), .io .i64 q.st, .io .i64 q.en, .io .i64 q.kd, .io .i64 q.nt, .io .i64 q.ct, .io .i64 q.sm, .io .i64 q.mn, .io .i64 q.mx], 40), ([.so (mkB q.key), .io .i64 q.st, .io .i64 q.en, .io .i64 q.kd, .io .i64 q.nt, .io .i64 q.ct, .io .i64 q.sm, .io .i64 q.mn, .io .i64 q.mx], 40)]⟩ ?_
   refine At.appVX (F' := fun A' c' => KA w.heap.size mb p (⟨40, 9, A', s.n + 1, c', pv ps ++ q.cells⟩ :: R.map row1) t) 22 40 9 80 s.A s.n s.c 1 [.so (mkB q.key), .io .i64 q.st, .io .i64 q.en, .io .i64 q.kd, .io .i64 q.nt, .io .i64 q.ct, .io .i64 q.sm, .io .i64 q.mn, .io .i64 q.mx] (pv ps) q.cells (by kernel_rfl) (fun _ => rfl) (by omega) (by simp only [maxLen]; omega) (fun ρ w1 hf => hf.2.1.1 _ (List.mem_cons_self ..)) (fun ρ w1 w2 A' c' hm hf hr hg ho => KA.grown (y := ⟨40, 9, A', s.n + 1, c', pv ps ++ q.cells⟩) hf rfl hr hg (ho.imp id .inl)) (fun A' c' => ?_)
   refine zT KA.stable KA.fewer [3, 12, 13, 14, 25, 27, 31] 0 ⟨.ops (opsOf (sub B6 pAM7)) (((opsOf (sub B6 pAM7)).toList.drop 7).take 1), [.any (opsOf (sub B6 pAM7)) 0 [7, 2, 6, 5, 4, 3, 1, 0]], [(3, .v (.pointer (some (Addr.mk mb 0 none)))), (12, .sl (some al) nl cl), (13, .io .i64 (↑nl : Int)), (14, .io .i64 (↑i : Int)), (25, .v (.pointer (some (Addr.mk mb 0 none)))), (27, .so (mkB q.key)), (31, .sl A' (s.n + 1) c')], []⟩ ?_
   refine At.callg (X := Option Addr) 23 [.v (.pointer (some ⟨mb, 0, none⟩)), .so (mkB q.key), .sl A' (s.n + 1) c'] (fun _ => .tup [.sl s.A s.n s.c, .bo (t.get cmp1 q.key).isSome, .v (.int .i64 0)]) (fun _ => []) (fun x => KA w.heap.size mb x (⟨40, 9, A', s.n + 1, c', pv ps ++ q.cells⟩ :: R.map row1) (t.put cmp1 q.key ⟨A', s.n + 1, c'⟩)) (by kernel_rfl) (by kernel_rfl) (by kernel_rfl) (by kernel_rfl) (by kernel_rfl) (fun ρ w1 hm hf => ?_) (fun q' => ?_)
   ·refine (PutM1_any q.key ⟨A', s.n + 1, c'⟩ t ([mb] ++ owns (⟨40, 9, A', s.n + 1, c', pv ps ++ q.cells⟩ :: R.map row1) ++ ρ) p w1 hf.1.1 (by simp) (KF.low hm hf.2 (fun x hx => by rw [List.mem_singleton] at hx; rw [hx]; exact (Array.getElem?_eq_some_iff.1 hf.1.1).1)) (hf.2.2.tree (.head _)) (by omega)).mono ?_
    rintro e w2 ⟨q', rfl, h6, h7, h8⟩
    rw [hS]
    exact ⟨q', ρ, rfl, Grow.refl _ _, winv_chg hm h8 hmb hf.1.2, KA.put hf h6 h7 h8 (all29 _ _ rfl)⟩
   refine zT KA.stable KA.fewer [3, 12, 13, 14] 0 ⟨.exit .normal, [], [(3, .v (.pointer (some (Addr.mk mb 0 none)))), (12, .sl (some al) nl cl), (13, .io .i64 (↑nl : Int)), (14, .io .i64 (↑i : Int))], []⟩ ?_
   exact At.fin (A', c', q') rfl rfl (by unfold subFr; kernel_rfl) rfl (fun _ _ _ _ h => h)
  obtain ⟨A', c', q'⟩ := x
  dsimp only
  refine zT KA.stable KA.fewer [3, 12, 13, 14] 0 ⟨.exit .normal, [.next (Sx.Next w.heap.size w Tryz.f6.ntmps (frKY mb (some al) nl cl) locKY (GKY w ls mb) (fun x => nl - x.i) (KY.mk i p t M)), .block 0, .seq (sub B6 [1, 1, 1])], [(3, .v (.pointer (some (Addr.mk mb 0 none)))), (12, .sl (some al) nl cl), (13, .io .i64 (↑nl : Int)), (14, .io .i64 (IntKind.i64.wrap ((↑i : Int) + 1)))], []⟩ ?_
  have hw3 : IntKind.i64.wrap ((i : Int) + 1) = ((i + 1 : Nat) : Int) := by
   rw [wrap63 (by omega) (by omega)]
   omega
  rw [hw3]
  refine At.next (σ := KY) ⟨i + 1, q', t.put cmp1 q.key ⟨A', s.n + 1, c'⟩, insL cmp1 q.key (⟨A', s.n + 1, c'⟩, ps ++ [q]) M⟩ rfl rfl (by unfold subFr; kernel_rfl) (by kernel_rfl) (fun ρ a' w' hi' hf => ⟨⟨hf.1, ?_⟩, by omega, ?_, ?_, fun y hy => ?_⟩) ?_
  ·refine hf.2.perm ?_ (fun f h => h)
   have h9 := (k2 (⟨A', s.n + 1, c'⟩, ps ++ [q])).map row1
   simp only [List.map_cons, row1, pv_app] at h9
   exact h9
  ·rw [mapV_ins, h2, Tr.put_toL lin1 _ _ _ (h2 ▸ mapV_srt _ (srt_of (h3 ▸ (keysM_of (ls.take i)).1)))]
  ·rw [mapV_ins, ← take_snoc hq, keysM_snoc, addK, ← h3, k1]
  ·rcases List.mem_cons.1 ((k2 _).mem_iff.1 hy) with rfl | hy
   ·simp [hps]
   rcases k3 with ⟨_, _, e3⟩ | e1
   ·exact h4 y (e3 ▸ hy)
   exact h4 y (e1.mem_iff.2 (List.mem_cons_of_mem _ hy))
  show nl - (i + 1) < nl - i
  omega
 refine zR 15 b0 ?_
 refine zT KA.stable KA.fewer [8, 34] 1 ⟨pops B6 [1, 1, 1, 1, 0, 0] 1, [.seq (sub B6 [1, 1, 1, 1, 0, 1]), .seq (sub B6 [1, 1, 1, 1, 1])], [(8, .lp 0 0), (34, .v (.pointer (some (Addr.mk mb 0 none))))], [([.v (.slice none 0 0)], 25)]⟩ ?_
 have hi : i = nl := by have := of_decide_eq_false b0; omega
 clear b0
 refine At.newcallV 24 [.v (.pointer (some ⟨mb, 0, none⟩))] (.fn (.func 61) [.lp 0 0, .lp 1 0, .lp 2 0]) (.fn (.func 61) [.lp 1 0, .lp 2 0, .lp 3 0]) [([.v (.pointer (some ⟨mb, 0, none⟩))], 46), ([.v (.bool false)], 4), ([.fn (.func 46) []], 96)] KA.stable (by kernel_rfl) (by kernel_rfl) (by kernel_rfl) (by kernel_rfl) (by kernel_rfl) (by kernel_rfl) (fun ρ ρc h => clos3_den h) (by kernel_rfl) (fun ρ w1 hm' hf => allM1_any mb w1) ?_
 refine zT KA.stable KA.fewer [8, 35] 4 ⟨.code (sub B6 [1, 1, 1, 1, 0, 1, 4]), [.block 2, .seq (sub B6 [1, 1, 1, 1, 1])], [(8, .lp 0 0), (35, .fn (.func 61) [.lp 1 0, .lp 2 0, .lp 3 0])], [([.v (.slice none 0 0)], 25), ([.v (.pointer (some ⟨mb, 0, none⟩))], 46), ([.v (.bool false)], 4), ([.fn (.func 46) []], 96)]⟩ ?_
 refine At.slLoc (s' := ⟨.code (sub B6 [1, 1, 1, 1, 0, 1, 4]), [.block 2, .seq (sub B6 [1, 1, 1, 1, 1])], [(8, .lp 0 0), (35, .fn (.func 61) [.lp 1 0, .lp 2 0, .lp 3 0])], locK mb none 0 0⟩) (by kernel_rfl) ?_
 refine At.range (X := Option Addr × Nat × Nat × List En) (t := 35) (params := #[36, 37]) (assign := BKa) (body := BKb) (g := 61) (caps := [.lp 1 0, .lp 2 0, .lp 3 0]) (by kernel_rfl) (by kernel_rfl) (by kernel_rfl) (fun _ => none) (fun x => locK mb x.1 x.2.1 x.2.2.1) (fun x D => KX w ls D x) (by kernel_rfl) (fun D fid ρ a wl w2 hi hf hD hw2 => ?_) (fun x D => @ktail (Md.mark D) D rfl w ls mb x)
 subst hD
 have hlen : ρ.length = 4 := hi.mem.len
 have hm1 := winv_alloc (winv_alloc hi.mem (.deferred (some []))) (.loop (recOf fid a.tmps #[36, 37] BKa BKb wl.heap.size .ready none))
 rw [← hw2] at hm1
 have hbel : Below wl.heap.size wl w2 := by
  rw [hw2]
  exact ((Below.refl wl.heap.size wl).alloc (Nat.le_refl _) _).alloc (by rw [show ∀ (v : World) o, (v.alloc o).heap = v.heap.push o from fun _ _ => rfl]; simp) _
 have hd : w2.heap[wl.heap.size]? = some (.deferred (some [])) := by
  rw [hw2, show ∀ (v : World) o, (v.alloc o).heap = v.heap.push o from fun _ _ => rfl, show ∀ (v : World) o, (v.alloc o).heap = v.heap.push o from fun _ _ => rfl]
  simp [Array.getElem?_push]
 have hl2 : w2.heap[wl.heap.size + 1]? = some (.loop (recK fid a.tmps wl.heap.size)) := by
  rw [hw2, show ∀ (v : World) o, (v.alloc o).heap = v.heap.push o from fun _ _ => rfl, show ∀ (v : World) o, (v.alloc o).heap = v.heap.push o from fun _ _ => rfl]
  rw [Array.getElem?_push, if_pos (by simp)]
  rfl
 have hnr : ∀ k, wl.heap.size ≤ k → k ∉ ρ := fun k hk hm => by
  have := (hi.mem.ge k hm).2
  omega
 have hN := hi.mem.hN
 have hfr := (hi.act.sub (small := frK8) (by unfold subFr; kernel_rfl)).slot
 have hK : mapV Prod.snd M = keysM ls := by
  rw [h3, List.take_of_length_le (by omega)]
 have hKn : (keysM ls).length ≤ 200 := Nat.le_trans (keysM_len ls) (by omega)
 have hM : ∀ y ∈ M, y.2.2.length = y.2.1.n ∧ 0 < y.2.2.length ∧ y.2.1.n ≤ 100000 := fun y hy => by
  have hy1 := h4 y hy
  have hy2 : (y.1, y.2.2) ∈ keysM ls := by
   rw [← hK]
   exact List.mem_map.2 ⟨y, hy, rfl⟩
  obtain ⟨hy3, hy4⟩ := keysOf_mem (keysM_of ls) hy2
  have hy5 : y.2.2.length ≤ ls.length := by
   rw [hy3]; exact grp_le _ _
  exact ⟨hy1, List.length_pos_iff.2 hy4, by omega⟩
 refine iterK_go (w0 := w) (w1 := w2) (ρ1 := ρ) (D := wl.heap.size) (tmps := a.tmps) (fid := fid) (mb := mb) (p := p) (t := t) (M := M) (K := keysM ls) hlen hN hi.act.size hfr h2 hK hKn hM hm1 ⟨KA.toK hf hbel, ⟨hd, hnr _ (Nat.le_refl _)⟩, ⟨hl2, hnr _ (by omega)⟩, ?_⟩ (fun w3 h => by obtain ⟨⟨v, hv⟩, _⟩ := h; cases hv) ?_
 ·unfold Tk
  rw [List.take_length]
 intro A n c E cp sc SA w3 hn hE hm3 hF3
 have hr3 := hF3.2.2.1
 have hnl : ∀ (c : Array Value) (t : TypeId) (f : Nat × Nat), Obj.loop (recK fid a.tmps wl.heap.size) ≠ .cells c t f := fun _ _ _ => by simp
 refine ⟨⟨_, rfl⟩, (A, n, c, E), ρ, recK fid a.tmps wl.heap.size, Grow.refl _ _, hm3.putObj (by omega) hr3.2 _, hr3.1, by simp [recK], rfl, ⟨rws_putObj (hF3.1.1.sub (List.Sublist.cons _ (List.Sublist.cons_cons _ (List.sublist_append_left _ _)))) hr3.1 hnl _, ?_, hF3.2.1.2⟩, hn, hE, hN⟩
 rw [World.putObj_heap_other (by omega)]
 exact hF3.2.1.1
end Go.Proofs.YtkjnbafdmjakgaaGreatDoor
end
