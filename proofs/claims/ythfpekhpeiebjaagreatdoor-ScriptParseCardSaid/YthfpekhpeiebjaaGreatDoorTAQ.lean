/- Joined texts: RT, AI, PT, RX, SB. -/
import Derived.Test.YthfpekhpeiebjaaGreatDoorTAP
set_option linter.unusedSimpArgs false
set_option linter.unusedVariables false
namespace Go.Sx
open Go
def cfAQ (g s k sz sl of gp lt ea : Int) (d : Bool) : List SV := [.io .i64 g, .io .i64 s, .io .i64 k, .io .i64 sz, .io .i64 sl, .io .i64 of, .io .i64 gp, .io .i64 lt, .io .i64 ea, .bo d]
def cwAQ (g s k sz sl of gp lt ea : Int) (d : Bool) (wk : Int) (A : Option Addr) (n c : Nat) : List SV := [.io .i64 g, .io .i64 s, .io .i64 k, .io .i64 sz, .io .i64 sl, .io .i64 of, .io .i64 gp, .io .i64 lt, .io .i64 ea, .bo d, .io .i64 wk, .sl A n c]
def zAQ0 : List SV := [.v (.int .i64 0), .v (.int .i64 0), .v (.int .i64 0), .v (.int .i64 0), .v (.int .i64 0), .v (.int .i64 0), .v (.int .i64 0), .v (.int .i64 0), .v (.int .i64 0), .v (.bool false), .v (.int .i64 0), .v (.slice none 0 0)]
def pAQ1 : List Nat := [1, 1, 1, 1, 1, 0, 1, 4, 4, 1, 0, 4, 1]
def pAQ2 : List Nat := [1, 1, 1, 1, 1, 0, 1, 4, 4, 1, 1]
def pAQ3 : List Nat := [1, 1, 1, 1, 1, 1]
end Go.Sx
section
namespace Go.Proofs.YthfpekhpeiebjaaGreatDoor
open Go.RowKit Go.Sx
theorem StepK.pureXE {P : Program} {N : Nat} {w0 : World} {ntm : Nat} {F : List Nat → World → Prop} {all : Array Oper} {L0 : Array Bool} {kn : List (Nat × Kn)} {fr0 : Fr} {loc : Sx.Loc} {i : Nat} {X : Type} {r : X → SV} {G : X → List Nat → World → Prop} (j t : Nat) (hk : knOf kn i = some (.ex X r G)) (hat : (atK all L0 kn fr0 i).isSome = true) (hj : exAt all L0 i j = some t) (hkj : knOf kn j = some (.ex X r G))
  (hq : ∀ x, ((atK all L0 kn fr0 i).bind fun y => pureOp P loc ((t, r x) :: y.2) y.1.op) = some (r x)) : StepK P N w0 ntm F all L0 kn fr0 loc i :=
 StepK.runXE j t hk hat hj hkj fun o fr ho x ρ a w ha hw hf hx => by
  have h := hq x
  rw [ho] at h
  exact ⟨x, run_pureOp (N := N) (w0 := w0) ha (fun _ => hw) h, hx⟩
theorem At.drawnE {P : Program} {Q : Exit → Act → World → Prop} {N : Nat} {w0 : World} {ntm : Nat} {F : List Nat → World → Prop} {X : Type} {s : S} {all : Array Oper} {g : Nat} {dn : List Nat} (kn : List (Nat × Kn)) (js : List Nat) (fr' : Fr) (j t : Nat) (r : X → SV) (G : X → List Nat → World → Prop) (hpc : s.pc = .any all g dn) (hok : okK ntm all g (listedOf all.size dn) kn = true) (hjs : pendL all.size (listedOf all.size dn) = js) (hF : Stable F) (hkn : knSts kn)
  (hst : allOf js fun i => StepK P N w0 ntm F all (listedOf all.size dn) kn (drops ((unl all (listedOf all.size dn)).filterMap (·.dst)) s.fr) s.loc i)
  (hsub : subFr fr' (eqFr all (listedOf all.size dn) kn js (drops ((unl all (listedOf all.size dn)).filterMap (·.dst)) s.fr))) (hj : ((all[j]?).bind fun o => match (listedOf all.size dn).getD j true with | false => o.dst | true => none) = some t) (hkj : knOf kn j = some (.ex X r G))
  (h : ∀ x, At P Q N w0 ntm (fun ρ w => F ρ w ∧ G x ρ w) ⟨.exit .normal, s.ks, (t, r x) :: fr', s.loc⟩) : At P Q N w0 ntm F s :=
 At.drawnY (Y := X) kn js (fun x => (t, r x) :: fr') (fun x ρ w => F ρ w ∧ G x ρ w) hpc hok hjs hF hkn hst (fun ρ a w ha hd hf => by
  obtain ⟨o, ho, hm⟩ := Option.bind_eq_some_iff.1 hj
  split at hm
  ·rename_i h0
   obtain ⟨v, hv, x, rfl, hx⟩ := hd j o t _ ho h0 (by have := (Array.getElem?_eq_some_iff.1 ho).1; simp [this]) hm hkj
   exact ⟨x, (ha.sub hsub).moreK hv, hf, hx⟩
  cases hm) h
def strsW (l : List (List UInt8)) : List Value := l.map fun x => Value.string (mkB x)
def kindsL : List (List UInt8) := [[], [116, 117, 109, 98, 108, 105, 110, 103], [115, 108, 105, 100, 105, 110, 103], [115, 101, 115, 115, 105, 111, 110]]
def preJ (V : List (List UInt8)) : Nat → List UInt8
 | 0 => []
 | i + 1 => preJ V i ++ wordsW.getD i [] ++ [32] ++ V.getD i [] ++ [32]
def accJ (V : List (List UInt8)) : Nat → List UInt8
 | 0 => []
 | i + 1 => preJ V i ++ wordsW.getD i [] ++ [32] ++ V.getD i []
theorem acc_pre (V : List (List UInt8)) : ∀ i : Nat, 0 < i → accJ V i ++ [32] = preJ V i
 | 0, h => absurd h (Nat.lt_irrefl 0)
 | i + 1, _ => rfl
theorem acc_zero (V : List (List UInt8)) : ∀ i : Nat, i = 0 → accJ V i = preJ V i
 | 0, _ => rfl
 | i + 1, h => by cases h
theorem strs_at {l : List (List UInt8)} {i : Nat} (h : i < l.length) : (strsW l)[(i : Int).toNat * 1]? = some (Value.string (mkB (l.getD i []))) := by
 rw [Int.toNat_natCast, Nat.mul_one, strsW, List.getElem?_map, List.getElem?_eq_getElem h, List.getD_eq_getElem?_getD, List.getElem?_eq_getElem h]
 rfl
theorem word_len : ∀ i : Nat, (wordsW.getD i []).length ≤ 10 := by
 intro i
 rw [List.getD_eq_getElem?_getD]
 cases h : wordsW[i]? with
 | none => exact Nat.zero_le _
 | some x =>
  have hx := List.mem_of_getElem? h
  have : ∀ y ∈ wordsW, y.length ≤ 10 := by decide
  exact this x hx
theorem val_len (V : List (List UInt8)) (hV : ∀ v ∈ V, v.length ≤ 30) : ∀ i : Nat, (V.getD i []).length ≤ 30 := by
 intro i
 rw [List.getD_eq_getElem?_getD]
 cases h : V[i]? with
 | none => exact Nat.zero_le _
 | some x => exact hV x (List.mem_of_getElem? h)
theorem pre_len (V : List (List UInt8)) (hV : ∀ v ∈ V, v.length ≤ 30) : ∀ i : Nat, (preJ V i).length ≤ i * 42
 | 0 => Nat.zero_le _
 | i + 1 => by
  have h1 := pre_len V hV i
  have h2 := word_len i
  have h3 := val_len V hV i
  simp only [preJ, List.length_append, List.length_cons, List.length_nil]
  omega
theorem acc_len (V : List (List UInt8)) (hV : ∀ v ∈ V, v.length ≤ 30) : ∀ i : Nat, (accJ V i).length ≤ i * 42
 | 0 => Nat.zero_le _
 | i + 1 => by
  have h1 := pre_len V hV i
  have h2 := word_len i
  have h3 := val_len V hV i
  simp only [accJ, List.length_append, List.length_cons, List.length_nil]
  omega
theorem acc_text (g s k sz sl of gp lt ea : Int) (d : Bool) : accJ (valsL g s k sz sl of gp lt ea d) 10 = textW g s k sz sl of gp lt ea d := by
 unfold textW
 simp [accJ, preJ, valsL, wordsW, weaveL, Lib.join, List.intercalate]
def frRT (b : Nat) (V : List (List UInt8)) (i : Nat) : Fr := [(4, .sl (some ⟨b, 0, none⟩) 10 10), (5, .so (mkB (accJ V i))), (6, .io .i64 (i : Int))]
noncomputable def B63 : Code := (Tryz.f63.body).getD .skip
noncomputable def sq63 (p : List Nat) : Go.Sx.K := .seq (sub B63 p)
set_option maxHeartbeats 4000000 in
set_option maxRecDepth 100000 in
theorem rwords_any (w : World) : Calls Tryz.prog 63 #[] w fun e w' => ∃ ρc, e = .returned ((SV.ls 0 0 10 10).den ρc) ∧ WInv w.heap.size w ρc [(wordsL, 9)] w' := by
 refine enter (fn := Tryz.f63) (c := B63) [] Tryz.func63 rfl rfl ?_
 refine zN [0] 1 ⟨.exit .ret, [], [(0, .ls 0 0 10 10)], [([.v (.string (ByteArray.mk #[103, 114, 111, 117, 112, 115])), .v (.string (ByteArray.mk #[115, 111, 117, 114, 99, 101, 115])), .v (.string (ByteArray.mk #[107, 105, 110, 100])), .v (.string (ByteArray.mk #[115, 105, 122, 101])), .v (.string (ByteArray.mk #[115, 108, 105, 100, 101])), .v (.string (ByteArray.mk #[111, 102, 102, 115, 101, 116])), .v (.string (ByteArray.mk #[103, 97, 112])), .v (.string (ByteArray.mk #[108, 97, 116, 101])), .v (.string (ByteArray.mk #[101, 97, 114, 108, 121])), .v (.string (ByteArray.mk #[100, 105, 115, 99, 97, 114, 100]))], 9)]⟩ ?_
 refine zE (.ls 0 0 10 10) ?_
 intro ρ w9 hm' hf
 exact ⟨ρ, rfl, hm'⟩
noncomputable def B64 : Code := (Tryz.f64.body).getD .skip
noncomputable def sq64 (p : List Nat) : Go.Sx.K := .seq (sub B64 p)
set_option maxHeartbeats 4000000 in
set_option maxRecDepth 100000 in
theorem rkinds_any (w : World) : Calls Tryz.prog 64 #[] w fun e w' => ∃ ρc, e = .returned ((SV.ls 0 0 4 4).den ρc) ∧ WInv w.heap.size w ρc [([.v (.string ⟨#[]⟩), .v (.string ⟨#[116, 117, 109, 98, 108, 105, 110, 103]⟩), .v (.string ⟨#[115, 108, 105, 100, 105, 110, 103]⟩), .v (.string ⟨#[115, 101, 115, 115, 105, 111, 110]⟩)], 9)] w' := by
 refine enter (fn := Tryz.f64) (c := B64) [] Tryz.func64 rfl rfl ?_
 refine zN [0] 1 ⟨.exit .ret, [], [(0, .ls 0 0 4 4)], [([.v (.string (ByteArray.mk #[])), .v (.string (ByteArray.mk #[116, 117, 109, 98, 108, 105, 110, 103])), .v (.string (ByteArray.mk #[115, 108, 105, 100, 105, 110, 103])), .v (.string (ByteArray.mk #[115, 101, 115, 115, 105, 111, 110]))], 9)]⟩ ?_
 refine zE (.ls 0 0 4 4) ?_
 intro ρ w9 hm' hf
 exact ⟨ρ, rfl, hm'⟩
noncomputable def B46 : Code := (Tryz.f46.body).getD .skip
noncomputable def sq46 (p : List Nat) : Go.Sx.K := .seq (sub B46 p)
set_option maxHeartbeats 20000000 in
set_option maxRecDepth 100000 in
theorem rjobt_go (g s k sz sl of gp lt ea : Int) (d : Bool) (hwr : wrongR g s k sz sl of gp lt ea = 0) (w : World) :
  Calls Tryz.prog 46 #[.agg #[.int .i64 g, .int .i64 s, .int .i64 k, .int .i64 sz, .int .i64 sl, .int .i64 of, .int .i64 gp, .int .i64 lt, .int .i64 ea, .bool d]] w fun e w' => e = .returned (.string (mkB (textW g s k sz sl of gp lt ea d))) ∧ Below w.heap.size w w' := by
 obtain ⟨⟨g1, g2⟩, ⟨s1, s2⟩, hk, ⟨z1, z2⟩, ⟨l1, l2⟩, ⟨o1, o2⟩, ⟨p1, p2⟩, ⟨t1, t2⟩, e1, e2⟩ := valid_of hwr
 have hV : ∀ v ∈ (valsL g s k sz sl of gp lt ea d), v.length ≤ 30 := by
  intro v hv
  simp only [valsL, List.mem_cons, List.not_mem_nil, or_false] at hv
  have hi : ∀ n : Int, in64 n → (Lib.itoa n).length ≤ 30 := fun n h => Nat.le_trans (itoa_short h) (by omega)
  rcases hv with rfl | rfl | rfl | rfl | rfl | rfl | rfl | rfl | rfl | rfl
  all_goals first | exact hi _ ⟨by omega, by omega⟩ | (rcases hk with h | h | h <;> subst h <;> decide) | (cases d <;> decide)
 have hkw : (strsW kindsL)[k.toNat * 1]? = some (Value.string (mkB (kindW k))) := by rcases hk with h | h | h <;> subst h <;> rfl
 refine enter (fn := Tryz.f46) (c := B46) [.agg (cfAQ g s k sz sl of gp lt ea d)] Tryz.func46 rfl rfl ?_
 refine At.join (σ := Unit) (fun _ => noF) (fun _ => ⟨.any (opsOf (sub B46 [1, 1, 1, 0])) 32 [], [(sq46 [1, 1, 1, 1])], [(1, .lp 0 0), (3, .so (mkB (saysW d)))], [((cfAQ g s k sz sl of gp lt ea d), 25)]⟩) (fun rest => ?_) (fun _ => ?_)
 ·refine zNq [1, 3, 8] 1 ?_
  rcases zB (d) with b0 | b0
  ·refine zR 8 b0 ?_
   refine zN [1, 3] 1 ⟨.any (opsOf (sub B46 [1, 1, 1, 0])) 32 [], [(sq46 [1, 1, 1, 1])], [(1, .lp 0 0), (3, .v (.string (ByteArray.mk #[121, 101, 115])))], [((cfAQ g s k sz sl of gp lt ea d), 25)]⟩ ?_
   obtain rfl : d = true := b0
   refine At.soft 3 (ByteArray.mk #[121, 101, 115]) (by kernel_rfl) ?_
   refine At.to (noF_stable) (noF_fewer) 0 0 [1, 3] 1 ⟨.any (opsOf (sub B46 [1, 1, 1, 0])) 32 [], [(sq46 [1, 1, 1, 1])], [(1, .lp 0 0), (3, .so (mkB (saysW true)))], [([.io .i64 g, .io .i64 s, .io .i64 k, .io .i64 sz, .io .i64 sl, .io .i64 of, .io .i64 gp, .io .i64 lt, .io .i64 ea, .bo true], 25)]⟩ (by kernel_rfl) (by kernel_rfl) ?_
   exact rest ()
  refine zR 8 b0 ?_
  refine zN [1, 3] 1 ⟨.any (opsOf (sub B46 [1, 1, 1, 0])) 32 [], [(sq46 [1, 1, 1, 1])], [(1, .lp 0 0), (3, .v (.string (ByteArray.mk #[110, 111])))], [((cfAQ g s k sz sl of gp lt ea d), 25)]⟩ ?_
  obtain rfl : d = false := b0
  refine At.soft 3 (ByteArray.mk #[110, 111]) (by kernel_rfl) ?_
  refine At.to (noF_stable) (noF_fewer) 0 0 [1, 3] 1 ⟨.any (opsOf (sub B46 [1, 1, 1, 0])) 32 [], [(sq46 [1, 1, 1, 1])], [(1, .lp 0 0), (3, .so (mkB (saysW false)))], [([.io .i64 g, .io .i64 s, .io .i64 k, .io .i64 sz, .io .i64 sl, .io .i64 of, .io .i64 gp, .io .i64 lt, .io .i64 ea, .bo false], 25)]⟩ (by kernel_rfl) (by kernel_rfl) ?_
  exact rest ()
 refine At.drawnE [(0, .eq (.lp 0 0)), (1, .eq (.io .i64 g)), (2, .eq (.so (mkB (Lib.itoa g)))), (3, .eq (.lp 0 1)), (4, .eq (.io .i64 s)), (5, .eq (.so (mkB (Lib.itoa s)))), (6, .ex Nat (fun b => .sl (some ⟨b, 0, none⟩) 4 4) (fun b => Cel ⟨b, 0, none⟩ (strsW kindsL))), (7, .eq (.lp 0 2)), (8, .eq (.io .i64 k)), (9, .ex Nat (fun b => .v (.pointer (some ((⟨b, 0, none⟩ : Addr).add (k.toNat * 1))))) (fun b => Cel ⟨b, 0, none⟩ (strsW kindsL))), (10, .eq (.so (mkB (kindW k)))), (11, .eq (.lp 0 3)), (12, .eq (.io .i64 sz)), (13, .eq (.so (mkB (Lib.itoa sz)))), (14, .eq (.lp 0 4)), (15, .eq (.io .i64 sl)), (16, .eq (.so (mkB (Lib.itoa sl)))), (17, .eq (.lp 0 5)), (18, .eq (.io .i64 of)), (19, .eq (.so (mkB (Lib.itoa of)))), (20, .eq (.lp 0 6)), (21, .eq (.io .i64 gp)), (22, .eq (.so (mkB (Lib.itoa gp)))), (23, .eq (.lp 0 7)), (24, .eq (.io .i64 lt)), (25, .eq (.so (mkB (Lib.itoa lt)))), (26, .eq (.lp 0 8)), (27, .eq (.io .i64 ea)), (28, .eq (.so (mkB (Lib.itoa ea)))), (29, .eq (.so (mkB (saysW d)))), (30, .ex Nat (fun b => .sl (some ⟨b, 0, none⟩) 10 10) (fun b => Cel ⟨b, 0, none⟩ (strsW (valsL g s k sz sl of gp lt ea d)))), (31, .ex Nat (fun b => .sl (some ⟨b, 0, none⟩) 10 10) (fun b => Cel ⟨b, 0, none⟩ (strsW (valsL g s k sz sl of gp lt ea d))))] [0, 1, 2, 3, 4, 5, 6, 7, 8, 9, 10, 11, 12, 13, 14, 15, 16, 17, 18, 19, 20, 21, 22, 23, 24, 25, 26, 27, 28, 29, 30, 31] [] 31 4 (fun b => .sl (some ⟨b, 0, none⟩) 10 10) (fun b => Cel ⟨b, 0, none⟩ (strsW (valsL g s k sz sl of gp lt ea d))) rfl (by kernel_rfl) (by kernel_rfl) noF_stable (by exact ⟨trivial, trivial, trivial, trivial, trivial, trivial, fun b => Cel.stable, trivial, trivial, fun b => Cel.stable, trivial, trivial, trivial, trivial, trivial, trivial, trivial, trivial, trivial, trivial, trivial, trivial, trivial, trivial, trivial, trivial, trivial, trivial, trivial, trivial, fun b => Cel.stable, fun b => Cel.stable, trivial⟩) (by exact ⟨StepK.pure (by kernel_rfl) rfl,
  StepK.pure (by kernel_rfl) rfl,
  StepK.call 47 [.io .i64 g] (by kernel_rfl) rfl (by kernel_rfl) (fun ρ w1 hm hf => (rdigits_any g ⟨by omega, by omega⟩ w1).mono fun e w2 h => ⟨_, h.1, rfl, h.2⟩),
  StepK.pure (by kernel_rfl) rfl,
  StepK.pure (by kernel_rfl) rfl,
  StepK.call 47 [.io .i64 s] (by kernel_rfl) rfl (by kernel_rfl) (fun ρ w1 hm hf => (rdigits_any s ⟨by omega, by omega⟩ w1).mono fun e w2 h => ⟨_, h.1, rfl, h.2⟩),
  StepK.call 64 [] (by kernel_rfl) rfl (by kernel_rfl) (fun ρ w1 hm hf => (rkinds_any w1).mono fun e w2 h => by
   obtain ⟨ρc, h1, h2⟩ := h
   obtain ⟨h3, h4⟩ := cel_new hm h2 (ys := strsW kindsL) (fun ρ => rfl)
   exact ⟨_, h1, ⟨nth ρc 0, rfl, h3⟩, h4⟩),
  StepK.pure (by kernel_rfl) rfl,
  StepK.pure (by kernel_rfl) rfl,
  StepK.idxX 6 15 4 4 1 k (strsW kindsL) rfl (by kernel_rfl) (by kernel_rfl) rfl (fun b => by kernel_rfl) (by omega) (by omega),
  StepK.ldX 9 18 (k.toNat * 1) (strsW kindsL) (by kernel_rfl) rfl (by kernel_rfl) rfl (fun b => by kernel_rfl) (fun ρ => hkw),
  StepK.pure (by kernel_rfl) rfl,
  StepK.pure (by kernel_rfl) rfl,
  StepK.call 47 [.io .i64 sz] (by kernel_rfl) rfl (by kernel_rfl) (fun ρ w1 hm hf => (rdigits_any sz ⟨by omega, by omega⟩ w1).mono fun e w2 h => ⟨_, h.1, rfl, h.2⟩),
  StepK.pure (by kernel_rfl) rfl,
  StepK.pure (by kernel_rfl) rfl,
  StepK.call 47 [.io .i64 sl] (by kernel_rfl) rfl (by kernel_rfl) (fun ρ w1 hm hf => (rdigits_any sl ⟨by omega, by omega⟩ w1).mono fun e w2 h => ⟨_, h.1, rfl, h.2⟩),
  StepK.pure (by kernel_rfl) rfl,
  StepK.pure (by kernel_rfl) rfl,
  StepK.call 47 [.io .i64 of] (by kernel_rfl) rfl (by kernel_rfl) (fun ρ w1 hm hf => (rdigits_any of ⟨by omega, by omega⟩ w1).mono fun e w2 h => ⟨_, h.1, rfl, h.2⟩),
  StepK.pure (by kernel_rfl) rfl,
  StepK.pure (by kernel_rfl) rfl,
  StepK.call 47 [.io .i64 gp] (by kernel_rfl) rfl (by kernel_rfl) (fun ρ w1 hm hf => (rdigits_any gp ⟨by omega, by omega⟩ w1).mono fun e w2 h => ⟨_, h.1, rfl, h.2⟩),
  StepK.pure (by kernel_rfl) rfl,
  StepK.pure (by kernel_rfl) rfl,
  StepK.call 47 [.io .i64 lt] (by kernel_rfl) rfl (by kernel_rfl) (fun ρ w1 hm hf => (rdigits_any lt ⟨by omega, by omega⟩ w1).mono fun e w2 h => ⟨_, h.1, rfl, h.2⟩),
  StepK.pure (by kernel_rfl) rfl,
  StepK.pure (by kernel_rfl) rfl,
  StepK.call 47 [.io .i64 ea] (by kernel_rfl) rfl (by kernel_rfl) (fun ρ w1 hm hf => (rdigits_any ea ⟨by omega, by omega⟩ w1).mono fun e w2 h => ⟨_, h.1, rfl, h.2⟩),
  StepK.pure (by kernel_rfl) rfl,
  StepK.bs 10 [.so (mkB (Lib.itoa g)), .so (mkB (Lib.itoa s)), .so (mkB (kindW k)), .so (mkB (Lib.itoa sz)), .so (mkB (Lib.itoa sl)), .so (mkB (Lib.itoa of)), .so (mkB (Lib.itoa gp)), .so (mkB (Lib.itoa lt)), .so (mkB (Lib.itoa ea)), .so (mkB (saysW d))] 9 (strsW (valsL g s k sz sl of gp lt ea d)) rfl (by kernel_rfl) (by kernel_rfl) (fun ρ => rfl),
  StepK.pureXE 30 39 rfl (by kernel_rfl) (by kernel_rfl) rfl (fun b => by kernel_rfl), trivial⟩) (by unfold subFr; kernel_rfl) (by kernel_rfl) rfl ?_
 intro b
 refine At.mono (F' := Cel ⟨b, 0, none⟩ (strsW (valsL g s k sz sl of gp lt ea d))) (fun ρ w1 h => h.2) ?_
 refine zT Cel.stable Cel.fewer [4, 5, 6] 0 ⟨.code (sub B46 [1, 1, 1, 1, 1, 0, 1, 4]), [.block 0, (sq46 pAQ3)], [(4, .sl (some (Addr.mk b 0 none)) 10 10), (5, .v (.string (ByteArray.mk #[]))), (6, .v (.int .i64 0))], []⟩ ?_
 refine At.soft 5 (ByteArray.mk #[]) (by kernel_rfl) ?_
 refine At.canonT [6] _ rfl ?_
 refine At.loop (σ := Nat) (sub B46 [1, 1, 1, 1, 1, 0, 1, 4, 4]) (frRT b (valsL g s k sz sl of gp lt ea d)) (fun _ => []) (fun i ρ w1 => Cel ⟨b, 0, none⟩ (strsW (valsL g s k sz sl of gp lt ea d)) ρ w1 ∧ i ≤ 10) (fun i => 10 - i) 0 (by kernel_rfl) (by unfold subFr; kernel_rfl) (by kernel_rfl) (fun _ _ _ _ h => ⟨h, Nat.zero_le _⟩) ?_
 intro i
 refine At.pure fun hi0 => ?_
 refine At.join (σ := Unit) (fun _ ρ w1 => Cel ⟨b, 0, none⟩ (strsW (valsL g s k sz sl of gp lt ea d)) ρ w1 ∧ i < 10) (fun _ => ⟨.any (opsOf (sub B46 pAQ1)) 13 [], [.block 1, (sq46 pAQ2), .next (Sx.Next w.heap.size w Tryz.f46.ntmps (frRT b (valsL g s k sz sl of gp lt ea d)) (fun x => []) (fun i ρ w1 => Cel (Addr.mk b 0 none) (strsW (valsL g s k sz sl of gp lt ea d)) ρ w1 ∧ i ≤ 10) (fun i => 10 - i) i), .block 0, (sq46 pAQ3)], [(4, .sl (some (Addr.mk b 0 none)) 10 10), (5, .so (mkB (preJ (valsL g s k sz sl of gp lt ea d) i))), (6, .io .i64 (i : Int))], []⟩) (fun rest2 => ?_) (fun _ => ?_)
 ·refine zTq Cel.stable Cel.fewer [4, 5, 6, 43] 0 ?_
  rcases zB (decide ((↑i : Int) < 10)) with b0 | b0
  ·refine zR 43 b0 ?_
   refine zT Cel.stable Cel.fewer [4, 5, 6, 47] 0 ⟨.code (sub B46 [1, 1, 1, 1, 1, 0, 1, 4, 4, 1, 0, 4, 0, 1]), [(sq46 pAQ1), .block 1, (sq46 pAQ2), .next (Sx.Next w.heap.size w Tryz.f46.ntmps (frRT b (valsL g s k sz sl of gp lt ea d)) (fun x => []) (fun i ρ w1 => Cel (Addr.mk b 0 none) (strsW (valsL g s k sz sl of gp lt ea d)) ρ w1 ∧ i ≤ 10) (fun i => 10 - i) i), .block 0, (sq46 pAQ3)], [(4, .sl (some (Addr.mk b 0 none)) 10 10), (5, .so (mkB (accJ (valsL g s k sz sl of gp lt ea d) i))), (6, .io .i64 (↑i : Int)), (47, .bo (decide ((↑i : Int) > 0)))], []⟩ ?_
   rcases zB (decide ((↑i : Int) > 0)) with b1 | b1
   ·refine zR 47 b1 ?_
    let kn0 : K := .next (Sx.Next w.heap.size w Tryz.f46.ntmps (frRT b (valsL g s k sz sl of gp lt ea d)) (fun x => []) (fun i ρ w1 => Cel (Addr.mk b 0 none) (strsW (valsL g s k sz sl of gp lt ea d)) ρ w1 ∧ i ≤ 10) (fun i => 10 - i) i)
    refine zT Cel.stable Cel.fewer [4, 6, 48] 0 ⟨pops B46 [1, 1, 1, 1, 1, 0, 1, 4, 4, 1, 0, 4, 0, 1, 2] 1, [(sq46 pAQ1), .block 1, (sq46 pAQ2), kn0, .block 0, (sq46 pAQ3)], [(4, .sl (some (Addr.mk b 0 none)) 10 10), (6, .io .i64 (↑i : Int)), (48, .so (mkB (accJ (valsL g s k sz sl of gp lt ea d) i)))], []⟩ ?_
    have hp := acc_len (valsL g s k sz sl of gp lt ea d) hV i
    refine catX (accJ (valsL g s k sz sl of gp lt ea d) i) [32] (by kernel_rfl) (by simp only [List.length_cons, List.length_nil]; omega) Cel.stable ?_
    rw [acc_pre (valsL g s k sz sl of gp lt ea d) i (by have := of_decide_eq_true b1; omega)]
    refine zT Cel.stable Cel.fewer [4, 5, 6] 0 ⟨.any (opsOf (sub B46 pAQ1)) 13 [], [.block 1, (sq46 pAQ2), kn0, .block 0, (sq46 pAQ3)], [(4, .sl (some (Addr.mk b 0 none)) 10 10), (5, .so (mkB (preJ (valsL g s k sz sl of gp lt ea d) i))), (6, .io .i64 (↑i : Int))], []⟩ ?_
    exact At.mono (fun ρ w1 h => ⟨h, by have := of_decide_eq_true b0; omega⟩) (rest2 ())
   refine zR 47 b1 ?_
   refine zT Cel.stable Cel.fewer [4, 5, 6] 0 ⟨.any (opsOf (sub B46 pAQ1)) 13 [], [.block 1, (sq46 pAQ2), .next (Sx.Next w.heap.size w Tryz.f46.ntmps (frRT b (valsL g s k sz sl of gp lt ea d)) (fun x => []) (fun i ρ w1 => Cel (Addr.mk b 0 none) (strsW (valsL g s k sz sl of gp lt ea d)) ρ w1 ∧ i ≤ 10) (fun i => 10 - i) i), .block 0, (sq46 pAQ3)], [(4, .sl (some (Addr.mk b 0 none)) 10 10), (5, .so (mkB (accJ (valsL g s k sz sl of gp lt ea d) i))), (6, .io .i64 (↑i : Int))], []⟩ ?_
   rw [acc_zero (valsL g s k sz sl of gp lt ea d) i (by have := of_decide_eq_false b1; omega)]
   exact At.mono (fun ρ w1 h => ⟨h, by have := of_decide_eq_true b0; omega⟩) (rest2 ())
  refine zR 43 b0 ?_
  refine zT Cel.stable Cel.fewer [2] 0 ⟨.exit .ret, [], [(2, .so (mkB (accJ (valsL g s k sz sl of gp lt ea d) i)))], []⟩ ?_
  refine zE (.so (mkB (accJ (valsL g s k sz sl of gp lt ea d) i))) ?_
  have hi : i = 10 := by have := of_decide_eq_false b0; omega
  subst hi
  intro ρ w9 hm' hf
  exact ⟨by rw [← acc_text g s k sz sl of gp lt ea d]; rfl, hm'.below⟩
 refine At.pure fun hi => ?_
 have hp := pre_len (valsL g s k sz sl of gp lt ea d) hV i
 have hw1 := word_len i
 have hv1 := val_len (valsL g s k sz sl of gp lt ea d) hV i
 refine At.cutN (σ := Unit) (fun _ => [(4, .sl (some ⟨b, 0, none⟩) 10 10), (5, .so (mkB (preJ (valsL g s k sz sl of gp lt ea d) i ++ wordsW.getD i [] ++ [32] ++ (valsL g s k sz sl of gp lt ea d).getD i []))), (6, .io .i64 (i : Int))]) (fun _ => []) (fun _ => Cel ⟨b, 0, none⟩ (strsW (valsL g s k sz sl of gp lt ea d))) rfl ?_ (fun _ => ?_)
 ·refine At.purify0 (fun e a w h => h.1) 1 ?_
  refine At.toJ (Cel.stable) Cel.fewer 0 0 [4, 6, 50] 0 ⟨.any (opsOf (sub B46 pAQ1)) 12 [0], [], [(4, .sl (some ⟨b, 0, none⟩) 10 10), (6, .io .i64 (i : Int)), (50, .so (mkB (preJ (valsL g s k sz sl of gp lt ea d) i)))], []⟩ (by kernel_rfl) (by kernel_rfl) ?_
  refine At.drawn0 [(1, .ex Nat (fun b => .sl (some ⟨b, 0, none⟩) 10 10) (fun b => Cel ⟨b, 0, none⟩ (strsW wordsW))), (2, .eq (.io .i64 (i : Int))), (3, .ex Nat (fun b => .v (.pointer (some ((⟨b, 0, none⟩ : Addr).add ((i : Int).toNat * 1))))) (fun b => Cel ⟨b, 0, none⟩ (strsW wordsW))), (4, .eq (.so (mkB (wordsW.getD i [])))), (5, .eq (.so (mkB (preJ (valsL g s k sz sl of gp lt ea d) i ++ wordsW.getD i [])))), (6, .eq (.so (mkB (preJ (valsL g s k sz sl of gp lt ea d) i ++ wordsW.getD i [] ++ [32])))), (7, .eq (.sl (some ⟨b, 0, none⟩) 10 10)), (8, .eq (.io .i64 (i : Int))), (9, .eq (.v (.pointer (some ((⟨b, 0, none⟩ : Addr).add ((i : Int).toNat * 1)))))), (10, .eq (.so (mkB ((valsL g s k sz sl of gp lt ea d).getD i [])))), (11, .eq (.so (mkB (preJ (valsL g s k sz sl of gp lt ea d) i ++ wordsW.getD i [] ++ [32] ++ (valsL g s k sz sl of gp lt ea d).getD i [])))), (12, .eq (.so (mkB (preJ (valsL g s k sz sl of gp lt ea d) i ++ wordsW.getD i [] ++ [32] ++ (valsL g s k sz sl of gp lt ea d).getD i []))))] [1, 2, 3, 4, 5, 6, 7, 8, 9, 10, 11, 12] [(4, .sl (some ⟨b, 0, none⟩) 10 10), (5, .so (mkB (preJ (valsL g s k sz sl of gp lt ea d) i ++ wordsW.getD i [] ++ [32] ++ (valsL g s k sz sl of gp lt ea d).getD i []))), (6, .io .i64 (i : Int))] rfl (by kernel_rfl) (by kernel_rfl) Cel.stable (by exact ⟨fun b => Cel.stable, trivial, fun b => Cel.stable, trivial, trivial, trivial, trivial, trivial, trivial, trivial, trivial, trivial, trivial⟩) (by exact ⟨StepK.call 63 [] (by kernel_rfl) rfl (by kernel_rfl) (fun ρ w1 hm hf => (rwords_any w1).mono fun e w2 h => by
    obtain ⟨ρc, h1, h2⟩ := h
    obtain ⟨h3, h4⟩ := cel_new hm h2 (ys := strsW wordsW) (fun ρ => rfl)
    exact ⟨_, h1, ⟨nth ρc 0, rfl, h3⟩, h4⟩),
   StepK.pure (by kernel_rfl) rfl,
   StepK.idxX 1 51 10 10 1 (i : Int) (strsW wordsW) rfl (by kernel_rfl) (by kernel_rfl) rfl (fun b => by kernel_rfl) (by omega) (by omega),
   StepK.ldX 3 53 ((i : Int).toNat * 1) (strsW wordsW) (by kernel_rfl) rfl (by kernel_rfl) rfl (fun b => by kernel_rfl) (fun ρ => strs_at (by show i < 10; omega)),
   StepK.cat (mkB (preJ (valsL g s k sz sl of gp lt ea d) i)) (mkB (wordsW.getD i [])) (by kernel_rfl) rfl (by rw [mkB_size]; rw [mkB_size]; (try simp only [List.length_append, List.length_cons, List.length_nil] at *); omega) (fun ρ => by rw [mkB_app]; rfl),
   StepK.cat (mkB (preJ (valsL g s k sz sl of gp lt ea d) i ++ wordsW.getD i [])) (⟨#[32]⟩) (by kernel_rfl) rfl (by rw [mkB_size]; show _ + 1 ≤ _; (try simp only [List.length_append, List.length_cons, List.length_nil] at *); omega) (fun ρ => by rw [show (ByteArray.mk #[32]) = mkB [32] from rfl, mkB_app]; rfl),
   StepK.pure (by kernel_rfl) rfl,
   StepK.pure (by kernel_rfl) rfl,
   StepK.idx ⟨b, 0, none⟩ 10 1 (i : Int) (by kernel_rfl) rfl (by omega) (by omega) (fun ρ => rfl),
   StepK.ldx ((⟨b, 0, none⟩ : Addr).add ((i : Int).toNat * 1)) (by kernel_rfl) rfl (fun ρ w1 hm hf => hf.1 _ _ (strs_at (by show i < 10; omega))),
   StepK.cat (mkB (preJ (valsL g s k sz sl of gp lt ea d) i ++ wordsW.getD i [] ++ [32])) (mkB ((valsL g s k sz sl of gp lt ea d).getD i [])) (by kernel_rfl) rfl (by rw [mkB_size]; rw [mkB_size]; (try simp only [List.length_append, List.length_cons, List.length_nil] at *); omega) (fun ρ => by rw [mkB_app]; rfl),
   StepK.pure (by kernel_rfl) rfl, trivial⟩) (by unfold subFr; kernel_rfl) ?_
  exact At.fin () rfl rfl (by unfold subFr; kernel_rfl) rfl (fun _ _ _ _ h => h)
 refine zT Cel.stable Cel.fewer [4, 5, 6] 0 ⟨.exit .normal, [.next (Sx.Next w.heap.size w Tryz.f46.ntmps (frRT b (valsL g s k sz sl of gp lt ea d)) (fun x => []) (fun i ρ w1 => Cel (Addr.mk b 0 none) (strsW (valsL g s k sz sl of gp lt ea d)) ρ w1 ∧ i ≤ 10) (fun i => 10 - i) i), .block 0, (sq46 pAQ3)], [(4, .sl (some (Addr.mk b 0 none)) 10 10), (5, .so (mkB (preJ (valsL g s k sz sl of gp lt ea d) i ++ wordsW.getD i [] ++ [32] ++ (valsL g s k sz sl of gp lt ea d).getD i []))), (6, .io .i64 (IntKind.i64.wrap ((↑i : Int) + 1)))], []⟩ ?_
 have hw3 : IntKind.i64.wrap ((i : Int) + 1) = ((i + 1 : Nat) : Int) := by
  rw [wrap63 (by omega) (by omega)]
  omega
 rw [hw3]
 refine At.next (σ := Nat) (i + 1) rfl rfl (by unfold subFr; kernel_rfl) (by kernel_rfl) ?_ ?_
 ·intro ρ a' w' hi' hf
  exact ⟨hf, by omega⟩
 show 10 - (i + 1) < 10 - i
 omega
end Go.Proofs.YthfpekhpeiebjaaGreatDoor
end
section
/-! A string put behind the first of several rows of one's own, local blocks of other types standing. -/
namespace Go.Sx
open Go.RowKit
section
variable {P : Program} {Q : Exit → Act → World → Prop} {N : Nat} {w0 : World} {ntm : Nat} {F : List Nat → World → Prop}
end
end Go.Sx
end
section
namespace Go.Proofs.YthfpekhpeiebjaaGreatDoor
open Go.RowKit Go.Sx
noncomputable def B15 : Code := (Tryz.f15.body).getD .skip
noncomputable def sq15 (p : List Nat) : Go.Sx.K := .seq (sub B15 p)
theorem stW_one (xs : List St) : ∀ u ∈ stW xs, u.oneCell' = true := by
 intro u hu
 obtain ⟨x, _, hx⟩ := List.mem_flatMap.1 hu
 obtain ⟨kd, ik, key, t, v, src, wk, wks, bit, mask⟩ := x
 simp only [St.w, List.mem_cons, List.not_mem_nil, or_false] at hx
 rcases hx with rfl | rfl | rfl | rfl | rfl | rfl | rfl | rfl | rfl | rfl <;> rfl
theorem row_sls {base n c : Nat} {A : Option Addr} {xs : List St} {ρ : List Nat} {w : World} (h : Row base 41 10 A n c (stW xs) ρ w) (hn : n = xs.length) : SlS w A n xs := by
 refine ⟨hn, fun ha => ?_, fun a ha j u hj => ?_⟩
 ·subst ha
  rcases h.1.2 with ⟨h2, h3⟩ | ⟨g, cap, cur, hv, _⟩
  ·injection h2 with _ h4 _
   exact List.eq_nil_of_length_eq_zero (by omega)
  cases hv
 subst ha
 have hj' := (List.getElem?_eq_some_iff.1 hj).1
 have hlen := h.len
 obtain ⟨g, hg, hc⟩ := h.cell (j := j) (by omega)
 injection hg with hg
 subst hg
 rw [add_ok, Nat.zero_add, hc, hj]
def putE (w : World) (c : Cf) (wk : Int) (xs : List St) (e : Ending) (w' : World) : Prop :=
 if (chkP c wk xs).2 = 0 then ∃ A' c', e = .returned (.tuple #[.agg (c.w ++ [Value.int .i64 wk, Value.slice A' xs.length c']).toArray, .int .i64 0]) ∧ RowF w (fun _ => False) [] w.heap.size 41 10 A' xs.length c' (stW xs) [] w'
 else e = .returned (.tuple #[zscr, .int .i64 (chkP c wk xs).2]) ∧ Below w.heap.size w w'
set_option maxHeartbeats 8000000 in
set_option maxRecDepth 100000 in
theorem put_go (g s k sz sl of gp lt ea : Int) (d : Bool) (wk : Int) (A : Option Addr) (n cap : Nat) (xs : List St) (w : World) (hS : SlS w A n xs) (hn : n ≤ 10000) :
  Calls Tryz.prog 15 #[.agg #[.int .i64 g, .int .i64 s, .int .i64 k, .int .i64 sz, .int .i64 sl, .int .i64 of, .int .i64 gp, .int .i64 lt, .int .i64 ea, .bool d], .int .i64 wk, .slice A n cap] w (putE w ⟨g, s, k, sz, sl, of, gp, lt, ea, d⟩ wk xs) := by
 have hl := hS.1
 refine enterF (N := w.heap.size) (F := RowF w (fun _ => False) [] w.heap.size 41 10 none 0 0 []) (fn := Tryz.f15) (c := B15) [.agg (cfAQ g s k sz sl of gp lt ea d), .io .i64 wk, .sl A n cap] Tryz.func15 rfl rfl (Nat.le_refl _) ⟨⟨⟨World.ownsRow_nil _ _ _ _, by simp [Value.ownBlock]⟩, Nat.le_refl _⟩, FrameR.start _ [] (by simp), by simp [Value.ownBlock]⟩ ?_
 refine zG [1, 2, 3, 6] 2 ⟨.any (opsOf (sub B15 [1, 0])) 7 [], [(sq15 [1, 1])], [(1, .io .i64 wk), (2, .sl A n cap), (3, .lp 0 0), (6, .lp 1 0)], [((cfAQ g s k sz sl of gp lt ea d), 25), (zAQ0, 28)]⟩ ?_
 refine At.cutN (σ := Option Addr × Nat) (fun x => [(6, .lp 1 0), (8, .lp 2 0)]) (fun x => [((cfAQ g s k sz sl of gp lt ea d), 25), (zAQ0, 28), ([.io .i64 g, .io .i64 s, .io .i64 k, .io .i64 sz, .io .i64 sl, .io .i64 of, .io .i64 gp, .io .i64 lt, .io .i64 ea, .bo d, .io .i64 wk, .sl x.1 n x.2], 28)]) (fun x => RowF w (fun _ => False) [] w.heap.size 41 10  x.1 n x.2 (stW xs)) rfl ?_ (fun x => ?_)
 ·refine At.purify0 (fun e a w h => h.1) 20 ?_
  refine zG [3, 6, 12, 13] 2 ⟨.any (opsOf (sub B15 [1, 0])) 5 [2, 1], [], [(3, .lp 0 0), (6, .lp 1 0), (12, .io .i64 wk), (13, .sl A n cap)], [((cfAQ g s k sz sl of gp lt ea d), 25), (zAQ0, 28)]⟩ ?_
  refine At.fork [0, 3, 5] rfl (by kernel_rfl) rfl (allOf.cons ?_ (allOf.cons ?_ (allOf.cons ?_ allOf.nil)))
  ·refine zG [6, 11, 12, 13] 2 ⟨.any (opsOf (sub B15 [1, 0])) 4 [0, 2, 1], [], [(6, .lp 1 0), (11, .agg (cfAQ g s k sz sl of gp lt ea d)), (12, .io .i64 wk), (13, .sl A n cap)], [((cfAQ g s k sz sl of gp lt ea d), 25), (zAQ0, 28)]⟩ ?_
   refine At.fork [3, 5] rfl (by kernel_rfl) rfl (allOf.cons ?_ (allOf.cons ?_ allOf.nil))
   ·refine zG [6, 11, 12, 13] 2 ⟨.ops (opsOf (sub B15 [1, 0])) (((opsOf (sub B15 [1, 0])).toList.drop 3).take 1), [.any (opsOf (sub B15 [1, 0])) 3 [3, 0, 2, 1]], [(6, .lp 1 0), (11, .agg (cfAQ g s k sz sl of gp lt ea d)), (12, .io .i64 wk), (13, .sl A n cap)], [((cfAQ g s k sz sl of gp lt ea d), 25), (zAQ0, 28)]⟩ ?_
    refine At.appAny 41 10 88 none 0 0 A n cap (fun _ => False) [] w.heap.size [] (stW xs) (by kernel_rfl) (by rw [stW_len, hl]) (stW_one xs) (fun e => by rw [hl, hS.2.1 e]; rfl) (fun b hb ρ w1 hm j u hj => cell_below (hS.2.2 b hb j u hj) hm.below) (by omega) (by simp only [maxLen]; omega) (Nat.le_refl _) (fun A' c' => ?_)
    rw [Nat.zero_add, List.nil_append]
    refine zG [6, 11, 12, 14] 2 ⟨.any (opsOf (sub B15 [1, 0])) 3 [3, 0, 2, 1], [], [(6, .lp 1 0), (11, .agg (cfAQ g s k sz sl of gp lt ea d)), (12, .io .i64 wk), (14, .sl A' n c')], [((cfAQ g s k sz sl of gp lt ea d), 25), (zAQ0, 28)]⟩ ?_
    refine At.fork [4, 5] rfl (by kernel_rfl) rfl (allOf.cons ?_ (allOf.cons ?_ allOf.nil))
    ·refine zG [6, 8] 3 ⟨.exit .normal, [], [(6, .lp 1 0), (8, .lp 2 0)], [((cfAQ g s k sz sl of gp lt ea d), 25), (zAQ0, 28), ((cwAQ g s k sz sl of gp lt ea d wk A' n c'), 28)]⟩ ?_
     exact At.fin (A', c') rfl rfl (by unfold subFr; kernel_rfl) rfl (fun _ _ _ _ h => h)
    refine zG [6, 8] 3 ⟨.exit .normal, [], [(6, .lp 1 0), (8, .lp 2 0)], [((cfAQ g s k sz sl of gp lt ea d), 25), (zAQ0, 28), ((cwAQ g s k sz sl of gp lt ea d wk A' n c'), 28)]⟩ ?_
    exact At.fin (A', c') rfl rfl (by unfold subFr; kernel_rfl) rfl (fun _ _ _ _ h => h)
   refine zG [6, 8, 11, 12, 13] 3 ⟨.ops (opsOf (sub B15 [1, 0])) (((opsOf (sub B15 [1, 0])).toList.drop 3).take 1), [.any (opsOf (sub B15 [1, 0])) 2 [3, 5, 0, 2, 1]], [(6, .lp 1 0), (8, .lp 2 0), (11, .agg (cfAQ g s k sz sl of gp lt ea d)), (12, .io .i64 wk), (13, .sl A n cap)], [((cfAQ g s k sz sl of gp lt ea d), 25), (zAQ0, 28), (zAQ0, 28)]⟩ ?_
   refine At.appAny 41 10 88 none 0 0 A n cap (fun _ => False) [] w.heap.size [] (stW xs) (by kernel_rfl) (by rw [stW_len, hl]) (stW_one xs) (fun e => by rw [hl, hS.2.1 e]; rfl) (fun b hb ρ w1 hm j u hj => cell_below (hS.2.2 b hb j u hj) hm.below) (by omega) (by simp only [maxLen]; omega) (Nat.le_refl _) (fun A' c' => ?_)
   rw [Nat.zero_add, List.nil_append]
   refine zG [6, 8] 3 ⟨.exit .normal, [], [(6, .lp 1 0), (8, .lp 2 0)], [((cfAQ g s k sz sl of gp lt ea d), 25), (zAQ0, 28), ((cwAQ g s k sz sl of gp lt ea d wk A' n c'), 28)]⟩ ?_
   exact At.fin (A', c') rfl rfl (by unfold subFr; kernel_rfl) rfl (fun _ _ _ _ h => h)
  ·refine zG [3, 6, 12, 13] 2 ⟨.ops (opsOf (sub B15 [1, 0])) (((opsOf (sub B15 [1, 0])).toList.drop 3).take 1), [.any (opsOf (sub B15 [1, 0])) 4 [3, 2, 1]], [(3, .lp 0 0), (6, .lp 1 0), (12, .io .i64 wk), (13, .sl A n cap)], [((cfAQ g s k sz sl of gp lt ea d), 25), (zAQ0, 28)]⟩ ?_
   refine At.appAny 41 10 88 none 0 0 A n cap (fun _ => False) [] w.heap.size [] (stW xs) (by kernel_rfl) (by rw [stW_len, hl]) (stW_one xs) (fun e => by rw [hl, hS.2.1 e]; rfl) (fun b hb ρ w1 hm j u hj => cell_below (hS.2.2 b hb j u hj) hm.below) (by omega) (by simp only [maxLen]; omega) (Nat.le_refl _) (fun A' c' => ?_)
   rw [Nat.zero_add, List.nil_append]
   refine zG [3, 6, 12, 14] 2 ⟨.any (opsOf (sub B15 [1, 0])) 4 [3, 2, 1], [], [(3, .lp 0 0), (6, .lp 1 0), (12, .io .i64 wk), (14, .sl A' n c')], [((cfAQ g s k sz sl of gp lt ea d), 25), (zAQ0, 28)]⟩ ?_
   refine At.fork [0, 5] rfl (by kernel_rfl) rfl (allOf.cons ?_ (allOf.cons ?_ allOf.nil))
   ·refine zG [6, 11, 12, 14] 2 ⟨.any (opsOf (sub B15 [1, 0])) 3 [0, 3, 2, 1], [], [(6, .lp 1 0), (11, .agg (cfAQ g s k sz sl of gp lt ea d)), (12, .io .i64 wk), (14, .sl A' n c')], [((cfAQ g s k sz sl of gp lt ea d), 25), (zAQ0, 28)]⟩ ?_
    refine At.fork [4, 5] rfl (by kernel_rfl) rfl (allOf.cons ?_ (allOf.cons ?_ allOf.nil))
    ·refine zG [6, 8] 3 ⟨.exit .normal, [], [(6, .lp 1 0), (8, .lp 2 0)], [((cfAQ g s k sz sl of gp lt ea d), 25), (zAQ0, 28), ((cwAQ g s k sz sl of gp lt ea d wk A' n c'), 28)]⟩ ?_
     exact At.fin (A', c') rfl rfl (by unfold subFr; kernel_rfl) rfl (fun _ _ _ _ h => h)
    refine zG [6, 8] 3 ⟨.exit .normal, [], [(6, .lp 1 0), (8, .lp 2 0)], [((cfAQ g s k sz sl of gp lt ea d), 25), (zAQ0, 28), ((cwAQ g s k sz sl of gp lt ea d wk A' n c'), 28)]⟩ ?_
    exact At.fin (A', c') rfl rfl (by unfold subFr; kernel_rfl) rfl (fun _ _ _ _ h => h)
   refine zG [6, 8] 3 ⟨.exit .normal, [], [(6, .lp 1 0), (8, .lp 2 0)], [((cfAQ g s k sz sl of gp lt ea d), 25), (zAQ0, 28), ((cwAQ g s k sz sl of gp lt ea d wk A' n c'), 28)]⟩ ?_
   exact At.fin (A', c') rfl rfl (by unfold subFr; kernel_rfl) rfl (fun _ _ _ _ h => h)
  refine zG [3, 6, 8, 12, 13] 3 ⟨.any (opsOf (sub B15 [1, 0])) 4 [5, 2, 1], [], [(3, .lp 0 0), (6, .lp 1 0), (8, .lp 2 0), (12, .io .i64 wk), (13, .sl A n cap)], [((cfAQ g s k sz sl of gp lt ea d), 25), (zAQ0, 28), (zAQ0, 28)]⟩ ?_
  refine At.fork [0, 3] rfl (by kernel_rfl) rfl (allOf.cons ?_ (allOf.cons ?_ allOf.nil))
  ·refine zG [6, 8, 11, 12, 13] 3 ⟨.ops (opsOf (sub B15 [1, 0])) (((opsOf (sub B15 [1, 0])).toList.drop 3).take 1), [.any (opsOf (sub B15 [1, 0])) 2 [3, 0, 5, 2, 1]], [(6, .lp 1 0), (8, .lp 2 0), (11, .agg (cfAQ g s k sz sl of gp lt ea d)), (12, .io .i64 wk), (13, .sl A n cap)], [((cfAQ g s k sz sl of gp lt ea d), 25), (zAQ0, 28), (zAQ0, 28)]⟩ ?_
   refine At.appAny 41 10 88 none 0 0 A n cap (fun _ => False) [] w.heap.size [] (stW xs) (by kernel_rfl) (by rw [stW_len, hl]) (stW_one xs) (fun e => by rw [hl, hS.2.1 e]; rfl) (fun b hb ρ w1 hm j u hj => cell_below (hS.2.2 b hb j u hj) hm.below) (by omega) (by simp only [maxLen]; omega) (Nat.le_refl _) (fun A' c' => ?_)
   rw [Nat.zero_add, List.nil_append]
   refine zG [6, 8] 3 ⟨.exit .normal, [], [(6, .lp 1 0), (8, .lp 2 0)], [((cfAQ g s k sz sl of gp lt ea d), 25), (zAQ0, 28), ((cwAQ g s k sz sl of gp lt ea d wk A' n c'), 28)]⟩ ?_
   exact At.fin (A', c') rfl rfl (by unfold subFr; kernel_rfl) rfl (fun _ _ _ _ h => h)
  refine zG [3, 6, 8, 12, 13] 3 ⟨.ops (opsOf (sub B15 [1, 0])) (((opsOf (sub B15 [1, 0])).toList.drop 3).take 1), [.any (opsOf (sub B15 [1, 0])) 3 [3, 5, 2, 1]], [(3, .lp 0 0), (6, .lp 1 0), (8, .lp 2 0), (12, .io .i64 wk), (13, .sl A n cap)], [((cfAQ g s k sz sl of gp lt ea d), 25), (zAQ0, 28), (zAQ0, 28)]⟩ ?_
  refine At.appAny 41 10 88 none 0 0 A n cap (fun _ => False) [] w.heap.size [] (stW xs) (by kernel_rfl) (by rw [stW_len, hl]) (stW_one xs) (fun e => by rw [hl, hS.2.1 e]; rfl) (fun b hb ρ w1 hm j u hj => cell_below (hS.2.2 b hb j u hj) hm.below) (by omega) (by simp only [maxLen]; omega) (Nat.le_refl _) (fun A' c' => ?_)
  rw [Nat.zero_add, List.nil_append]
  refine zG [6, 8] 3 ⟨.exit .normal, [], [(6, .lp 1 0), (8, .lp 2 0)], [((cfAQ g s k sz sl of gp lt ea d), 25), (zAQ0, 28), ((cwAQ g s k sz sl of gp lt ea d wk A' n c'), 28)]⟩ ?_
  exact At.fin (A', c') rfl rfl (by unfold subFr; kernel_rfl) rfl (fun _ _ _ _ h => h)
 obtain ⟨A1, c1⟩ := x
 refine zG [6, 8, 17] 3 ⟨pops B15 [1, 1, 0, 0] 1, [(sq15 [1, 1, 0, 1]), (sq15 [1, 1, 1])], [(6, .lp 1 0), (8, .lp 2 0), (17, .agg (cwAQ g s k sz sl of gp lt ea d wk A1 n c1))], [((cfAQ g s k sz sl of gp lt ea d), 25), (zAQ0, 28), ((cwAQ g s k sz sl of gp lt ea d wk A1 n c1), 28)]⟩ ?_
 by_cases hc : (chkP ⟨g, s, k, sz, sl, of, gp, lt, ea, d⟩ wk xs).2 = 0
 ·refine zC RowF.stable 13 [.agg (cwAQ g s k sz sl of gp lt ea d wk A1 n c1)] (.tup [.io .i64 (chkP ⟨g, s, k, sz, sl, of, gp, lt, ea, d⟩ wk xs).1, .v (.int .i64 0)]) (fun _ _ w1 hi hf => (check_kit ⟨g, s, k, sz, sl, of, gp, lt, ea, d⟩ wk A1 n c1 xs w1 (row_sls hf.1.1 hl) (by omega)).mono fun e w2 h => ⟨h.1.trans (by rw [hc]; rfl), h.2⟩) ?_
  refine zG [6, 7] 2 ⟨.exit .ret, [], [(6, .lp 1 0), (7, .v (.int .i64 0))], [((cfAQ g s k sz sl of gp lt ea d), 25), ((cwAQ g s k sz sl of gp lt ea d wk A1 n c1), 28)]⟩ ?_
  refine zE (.tup [.agg (cwAQ g s k sz sl of gp lt ea d wk A1 n c1), .v (.int .i64 0)]) ?_
  intro ρ w9 hm' hf
  unfold putE
  rw [if_pos hc]
  refine ⟨A1, c1, ?_, hl ▸ RowF.fewer _ _ 0 (Nat.zero_le _) hf⟩
  rw [← hl]
  rfl
 refine zC RowF.stable 13 [.agg (cwAQ g s k sz sl of gp lt ea d wk A1 n c1)] (.tup [.io .i64 (chkP ⟨g, s, k, sz, sl, of, gp, lt, ea, d⟩ wk xs).1, .io .i64 (chkP ⟨g, s, k, sz, sl, of, gp, lt, ea, d⟩ wk xs).2]) (fun _ _ w1 hi hf => check_kit ⟨g, s, k, sz, sl, of, gp, lt, ea, d⟩ wk A1 n c1 xs w1 (row_sls hf.1.1 hl) (by omega)) ?_
 refine zG [6, 8, 10, 22] 3 ⟨.code (sub B15 [1, 1, 0, 1, 1]), [(sq15 [1, 1, 1])], [(6, .lp 1 0), (8, .lp 2 0), (10, .io .i64 (chkP (Cf.mk g s k sz sl of gp lt ea d) wk xs).snd), (22, .bo ((chkP (Cf.mk g s k sz sl of gp lt ea d) wk xs).snd != 0))], [((cfAQ g s k sz sl of gp lt ea d), 25), (zAQ0, 28), ((cwAQ g s k sz sl of gp lt ea d wk A1 n c1), 28)]⟩ ?_
 refine At.res 22 ((chkP (Cf.mk g s k sz sl of gp lt ea d) wk xs).snd != 0) true (by kernel_rfl) (by first | assumption | (simp only [*]; done) | (simp [*]; done)) ?_
 refine zG [6, 7] 2 ⟨.exit .ret, [], [(6, .lp 1 0), (7, .io .i64 (chkP (Cf.mk g s k sz sl of gp lt ea d) wk xs).snd)], [((cfAQ g s k sz sl of gp lt ea d), 25), (zAQ0, 28)]⟩ ?_
 refine zE (.tup [.agg zAQ0, .io .i64 (chkP (Cf.mk g s k sz sl of gp lt ea d) wk xs).snd]) ?_
 intro ρ w9 hm' hf
 unfold putE
 rw [if_neg hc]
 exact ⟨rfl, hm'.below⟩
end Go.Proofs.YthfpekhpeiebjaaGreatDoor
end
section
namespace Go.Proofs.YthfpekhpeiebjaaGreatDoor
open Go.RowKit Go.Sx
structure XSt where
 A : Option Addr
 m : Nat
 c : Nat
 acc : List UInt8
 i : Nat
end Go.Proofs.YthfpekhpeiebjaaGreatDoor
end
section
/- Plain: what is written is read. -/
namespace Go.Proofs.YthfpekhpeiebjaaGreatDoor
open Go.RowKit Go.Sx Go.Lib
theorem dec_in : ∀ (u : Nat) (b : UInt8), b ∈ Lib.decDigits u → 48 ≤ b.toNat ∧ b.toNat ≤ 57 := by
 intro u
 induction u using Nat.strongRecOn with
 | _ u ih =>
  intro b hb
  by_cases h : u < 10
  ·rw [Lib.decDigits_one h, List.mem_singleton] at hb
   rw [hb, chr u h]
   omega
  rw [Lib.decDigits, dif_neg h] at hb
  rcases List.mem_append.1 hb with hb | hb
  ·exact ih (u / 10) (by omega) b hb
  rw [List.mem_singleton.1 hb, chr (u % 10) (by omega)]
  omega
theorem itoa_in (n : Int) (b : UInt8) (hb : b ∈ Lib.itoa n) : 45 ≤ b.toNat ∧ b.toNat ≤ 57 := by
 unfold Lib.itoa at hb
 split at hb
 ·rcases List.mem_cons.1 hb with rfl | hb
  ·decide
  have := dec_in _ b hb
  omega
 have := dec_in _ b hb
 omega
theorem itoa_no (n : Int) (x : UInt8) (hx : x.toNat < 45) : ∀ b ∈ Lib.itoa n, b ≠ x := fun b hb e => by
 have := itoa_in n b hb
 rw [e] at this
 omega
theorem q1_no10 (c : UInt8) : ∀ b ∈ q1 c, b ≠ 10 := by
 intro b hb e
 subst e
 unfold q1 at hb
 split at hb
 ·rename_i h
  rw [List.mem_singleton] at hb
  subst hb
  exact absurd h (by decide)
 have hx : ∀ n, n < 16 → hexB n ≠ 10 := by decide
 simp only [List.mem_cons, List.not_mem_nil, or_false] at hb
 rcases hb with hb | hb | hb | hb
 ·exact absurd hb (by decide)
 ·exact absurd hb (by decide)
 ·exact hx (c.toNat / 16) (by have := c.toNat_lt; omega) hb.symm
 exact hx (c.toNat % 16) (by omega) hb.symm
theorem quote_no10 (k : List UInt8) : ∀ b ∈ quoteB k, b ≠ 10 := by
 intro b hb e
 subst e
 simp only [quoteB, List.mem_cons, List.mem_append, List.mem_flatMap, List.not_mem_nil, or_false] at hb
 rcases hb with hb | ⟨c, _, hc⟩ | hb
 ·exact absurd hb (by decide)
 ·exact q1_no10 c 10 hc rfl
 exact absurd hb (by decide)
theorem cutN_app : ∀ (p r : List UInt8), (∀ b ∈ p, b ≠ 10) → cutN (p ++ r) = (p ++ (cutN r).1, (cutN r).2.1, (cutN r).2.2)
 | [], r, _ => rfl
 | b :: p, r, h => by
  rw [List.cons_append, cutN, if_neg (h b (by simp)), cutN_app p r (fun c hc => h c (by simp [hc]))]
  rfl
theorem cutN_none (p : List UInt8) (h : ∀ b ∈ p, b ≠ 10) : cutN p = (p, [], false) := by
 have := cutN_app p [] h
 rw [List.append_nil] at this
 rw [this]
 simp [cutN]
theorem cutN_hit (p r : List UInt8) (h : ∀ b ∈ p, b ≠ 10) : cutN (p ++ 10 :: r) = (p, r, true) := by
 rw [cutN_app p _ h]
 simp [cutN]
theorem textW_no10 {g s k sz sl of gp lt ea : Int} (hw : wrongR g s k sz sl of gp lt ea = 0) (d : Bool) : ∀ b ∈ textW g s k sz sl of gp lt ea d, b ≠ 10 := by
 obtain ⟨hv0, hv1, hv2, _⟩ := valid_of hw
 have key : ∀ l : List (List UInt8), (∀ x ∈ l, ∀ b ∈ x, b ≠ 10) → ∀ b ∈ Lib.joinTail [32] l, b ≠ 10 := by
  intro l h b hb
  unfold Lib.joinTail at hb
  obtain ⟨y, hy, hby⟩ := List.mem_flatten.1 hb
  obtain ⟨x, hx, rfl⟩ := List.mem_map.1 hy
  rcases List.mem_append.1 hby with hb | hb
  ·rw [List.mem_singleton.1 hb]; decide
  exact h x hx b hb
 have hk : ∀ b ∈ kindW k, b ≠ 10 := by rcases hv2 with h | h | h <;> subst h <;> decide
 have hs : ∀ b ∈ saysW d, b ≠ 10 := by cases d <;> decide
 have hi : ∀ n : Int, ∀ b ∈ Lib.itoa n, b ≠ 10 := fun n => itoa_no n 10 (by decide)
 have hall : ∀ x ∈ weaveL wordsW (valsL g s k sz sl of gp lt ea d), ∀ b ∈ x, b ≠ 10 := by
  intro x hx
  simp only [weaveL, wordsW, valsL, List.mem_cons, List.not_mem_nil, or_false] at hx
  rcases hx with rfl | rfl | rfl | rfl | rfl | rfl | rfl | rfl | rfl | rfl | rfl | rfl | rfl | rfl | rfl | rfl | rfl | rfl | rfl | rfl
  all_goals first | exact hi _ | exact hk | exact hs | decide
 have e : weaveL wordsW (valsL g s k sz sl of gp lt ea d) = [103, 114, 111, 117, 112, 115] :: (weaveL wordsW (valsL g s k sz sl of gp lt ea d)).tail := rfl
 unfold textW
 rw [e, Lib.join_cons]
 intro b hb
 rcases List.mem_append.1 hb with hb | hb
 ·exact hall _ (by rw [e]; simp) b hb
 exact key _ (fun x hx => hall x (by rw [e]; exact List.mem_cons_of_mem _ hx)) b hb
theorem lineS_no10 (x : St) : ∀ b ∈ lineS x, b ≠ 10 := by
 obtain ⟨kd, ik, key, ti, v, src, wk, wks, bit, mask⟩ := x
 have hi : ∀ n : Int, ∀ b ∈ Lib.itoa n, b ≠ 10 := fun n => itoa_no n 10 (by decide)
 have hq := quote_no10 key
 intro b hb
 have app : ∀ {l r : List UInt8}, (∀ b ∈ l, b ≠ 10) → (∀ b ∈ r, b ≠ 10) → ∀ b ∈ l ++ r, b ≠ 10 := fun h1 h2 b hb => (List.mem_append.1 hb).elim (h1 b) (h2 b)
 revert b hb
 unfold lineS
 simp only
 split
 ·split
  ·exact app (app (app (app (app (by decide) hq) (by decide)) (hi _)) (by decide)) (hi _)
  split
  ·exact app (app (app (by decide) (hi _)) (by decide)) (hi _)
  decide
 split
 ·exact app (by decide) (hi _)
 split
 ·exact app (by decide) (hi _)
 split
 ·exact app (app (app (by decide) (hi _)) (by decide)) (hi _)
 decide
theorem num_itoa {n : Int} (h : in64 n) : numK (Lib.itoa n) = some n := (numK_iff _ _).2 ⟨rfl, h⟩
theorem nums1_itoa {n : Int} (h : in64 n) : numsP (Lib.itoa n) 1 = some [n] := by
 unfold numsP
 rw [pcs_none _ (itoa_no n 32 (by decide))]
 simp [num_itoa h]
theorem nums2_itoa {a b : Int} (h : in64 a) (k : in64 b) : numsP (Lib.itoa a ++ 32 :: Lib.itoa b) 2 = some [a, b] := by
 unfold numsP
 rw [pcs_hit _ _ (itoa_no a 32 (by decide)), pcs_none _ (itoa_no b 32 (by decide))]
 simp [num_itoa h, num_itoa k]
theorem cutB_hit : ∀ (p r : List UInt8), (∀ b ∈ p, b ≠ 32) → cutB (p ++ 32 :: r) = (p, r, true)
 | [], r, _ => rfl
 | c :: p, r, h => by
  have hc : c ≠ 32 := h c (by simp)
  rw [List.cons_append]
  unfold cutB
  rw [if_neg hc, cutB_hit p r (fun b hb => h b (by simp [hb]))]
theorem step_ev {key : List UInt8} {t v : Int} (ht : in64 t) (hv : in64 v) : stepP ([101, 118, 101, 110, 116, 32] ++ quoteB key ++ [32] ++ Lib.itoa t ++ [32] ++ Lib.itoa v) = some (ev key t v) := by
 have hc : cutB ([101, 118, 101, 110, 116, 32] ++ quoteB key ++ [32] ++ Lib.itoa t ++ [32] ++ Lib.itoa v) = ([101, 118, 101, 110, 116], quoteB key ++ (32 :: (Lib.itoa t ++ 32 :: Lib.itoa v)), true) := by
  rw [show [101, 118, 101, 110, 116, 32] ++ quoteB key ++ [32] ++ Lib.itoa t ++ [32] ++ Lib.itoa v = [101, 118, 101, 110, 116] ++ 32 :: (quoteB key ++ (32 :: (Lib.itoa t ++ 32 :: Lib.itoa v))) from by simp]
  exact cutB_hit _ _ (by decide)
 have hk : keyK (quoteB key ++ (32 :: (Lib.itoa t ++ 32 :: Lib.itoa v))) = some (key, 32 :: (Lib.itoa t ++ 32 :: Lib.itoa v)) := (keyK_iff _ _ _).2 rfl
 unfold stepP
 rw [hc]
 simp [hk, nums2_itoa ht hv]
theorem step_mk {src t : Int} (hs : in64 src) (ht : in64 t) : stepP ([109, 97, 114, 107, 32] ++ Lib.itoa src ++ [32] ++ Lib.itoa t) = some (mk src t) := by
 have hc : cutB ([109, 97, 114, 107, 32] ++ Lib.itoa src ++ [32] ++ Lib.itoa t) = ([109, 97, 114, 107], Lib.itoa src ++ 32 :: Lib.itoa t, true) := by
  rw [show [109, 97, 114, 107, 32] ++ Lib.itoa src ++ [32] ++ Lib.itoa t = [109, 97, 114, 107] ++ 32 :: (Lib.itoa src ++ 32 :: Lib.itoa t) from by simp]
  exact cutB_hit _ _ (by decide)
 unfold stepP
 rw [hc]
 simp [nums2_itoa hs ht]
theorem step_pk {n : Int} (hn : in64 n) : stepP ([112, 105, 99, 107, 32] ++ Lib.itoa n) = some (pk n) := by
 have hc : cutB ([112, 105, 99, 107, 32] ++ Lib.itoa n) = ([112, 105, 99, 107], Lib.itoa n, true) := cutB_hit [112, 105, 99, 107] _ (by decide)
 unfold stepP
 rw [hc]
 simp [nums1_itoa hn]
theorem step_rs {n : Int} (hn : in64 n) : stepP ([114, 101, 115, 116, 111, 114, 101, 32] ++ Lib.itoa n) = some (rs n) := by
 have hc : cutB ([114, 101, 115, 116, 111, 114, 101, 32] ++ Lib.itoa n) = ([114, 101, 115, 116, 111, 114, 101], Lib.itoa n, true) := cutB_hit [114, 101, 115, 116, 111, 114, 101] _ (by decide)
 unfold stepP
 rw [hc]
 simp [nums1_itoa hn]
theorem step_sp {n m : Int} (hn : in64 n) (hm : 0 ≤ m ∧ m < 4294967296) : stepP ([115, 112, 111, 105, 108, 32] ++ Lib.itoa n ++ [32] ++ Lib.itoa m) = some (sp n m) := by
 have hc : cutB ([115, 112, 111, 105, 108, 32] ++ Lib.itoa n ++ [32] ++ Lib.itoa m) = ([115, 112, 111, 105, 108], Lib.itoa n ++ 32 :: Lib.itoa m, true) := by
  rw [show [115, 112, 111, 105, 108, 32] ++ Lib.itoa n ++ [32] ++ Lib.itoa m = [115, 112, 111, 105, 108] ++ 32 :: (Lib.itoa n ++ 32 :: Lib.itoa m) from by simp]
  exact cutB_hit _ _ (by decide)
 unfold stepP
 rw [hc]
 simp [nums2_itoa hn (show in64 m from ⟨by omega, by omega⟩), hm]
theorem step_line {c : Cf} {x : St} (hm : mayB c x = true) (ho : x.ok) : stepP (lineS x) = some x := by
 obtain ⟨kd, ik, key, ti, v, src, wk, wks, bit, mask⟩ := x
 obtain ⟨i0, i1, i2, i3, i4, i5, i6⟩ := ho
 simp only at i0 i1 i2 i3 i4 i5 i6
 unfold lineS
 dsimp only
 by_cases h1 : kd = 1
 ·subst h1
  rw [mayB_1 rfl] at hm
  simp only [Bool.and_eq_true, beq_iff_eq] at hm
  obtain ⟨rfl, rfl, rfl, rfl, hi⟩ := hm
  unfold itB at hi
  rw [if_pos rfl]
  split at hi
  ·rename_i h
   subst h
   simp only [Bool.and_eq_true, decide_eq_true_eq, beq_iff_eq] at hi
   obtain ⟨_, _, rfl⟩ := hi
   rw [if_pos rfl]
   exact step_ev i0 i1
  rename_i h
  rw [if_neg h]
  split at hi
  ·rename_i h2
   subst h2
   simp only [Bool.and_eq_true, decide_eq_true_eq, beq_iff_eq] at hi
   obtain ⟨_, _, _, rfl, rfl⟩ := hi
   rw [if_pos rfl]
   exact step_mk i2 i0
  rename_i h2
  rw [if_neg h2]
  split at hi
  ·rename_i h3
   subst h3
   simp only [Bool.and_eq_true, decide_eq_true_eq, beq_iff_eq] at hi
   obtain ⟨rfl, rfl, rfl, rfl⟩ := hi
   decide
  cases hi
 rw [mayB_n h1] at hm
 simp only [Bool.and_eq_true, decide_eq_true_eq, beq_iff_eq] at hm
 obtain ⟨⟨rfl, rfl, rfl, rfl, rfl⟩, hm⟩ := hm
 rw [if_neg h1]
 split at hm
 ·rename_i h
  subst h
  simp only [Bool.and_eq_true, decide_eq_true_eq, beq_iff_eq] at hm
  obtain ⟨rfl, rfl, rfl, _⟩ := hm
  rw [if_pos rfl]
  exact step_pk i3
 rename_i h
 rw [if_neg h]
 split at hm
 ·rename_i h3
  subst h3
  simp only [Bool.and_eq_true, decide_eq_true_eq, beq_iff_eq] at hm
  obtain ⟨rfl, rfl, rfl, rfl⟩ := hm
  decide
 split at hm
 ·rename_i h4
  subst h4
  simp only [Bool.and_eq_true, decide_eq_true_eq, beq_iff_eq] at hm
  obtain ⟨rfl, rfl, rfl, _⟩ := hm
  rw [if_pos rfl]
  exact step_rs i4
 rename_i h4
 rw [if_neg h4]
 split at hm
 ·rename_i h5
  subst h5
  simp only [Bool.and_eq_true, decide_eq_true_eq, beq_iff_eq] at hm
  obtain ⟨rfl, rfl, _⟩ := hm
  rw [if_pos rfl]
  exact step_sp i5 i6
 cases hm
theorem cutsP_line {l r : List UInt8} (h : ∀ b ∈ l, b ≠ 10) : cutsP (l ++ 10 :: r) = (l, true) :: cutsP r := by
 have hc := cutN_hit l r h
 cases l with
 | nil => exact cutsP_cons hc
 | cons y l => exact cutsP_cons hc
theorem pref_app (p l : List UInt8) : Lib.hasPrefix (p ++ l) p = true := by simp [Lib.hasPrefix]
theorem trim_app (p l : List UInt8) : Lib.trimPrefix (p ++ l) p = l := by simp [Lib.trimPrefix, pref_app]
theorem run_lines {c : Cf} {wk : Int} : ∀ (xs : List St) (acc : List St) (n : Nat) (rest : List UInt8), (∀ x ∈ xs, mayB c x = true ∧ x.ok) → runL (cutsP ((xs.flatMap fun x => lineS x ++ [10]) ++ rest)) (n + 2) c wk acc = runL (cutsP rest) (n + 2 + xs.length) c wk (acc ++ xs)
 | [], acc, n, rest, _ => by simp
 | x :: xs, acc, n, rest, h => by
  have hx := h x (by simp)
  rw [List.flatMap_cons, show lineS x ++ [10] ++ List.flatMap (fun x => lineS x ++ [10]) xs ++ rest = lineS x ++ 10 :: ((List.flatMap (fun x => lineS x ++ [10]) xs) ++ rest) from by simp]
  rw [cutsP_line (lineS_no10 x), runL_cons, step2_ok (step_line hx.1 hx.2) hx.1]
  simp only
  have ih := run_lines (c := c) (wk := wk) xs (acc ++ [x]) (n + 1) rest (fun y hy => h y (by simp [hy]))
  rw [show n + 3 = n + 1 + 2 from rfl, ih, List.length_cons, List.append_assoc, List.singleton_append]
  congr 1
  omega
theorem run_head {c : Cf} {wk : Int} (hwr : c.wr = 0) (h1 : 1 ≤ wk) (h2 : wk ≤ c.g) (rest : List UInt8) : runL (cutsP ([106, 111, 98, 32] ++ c.text ++ [10, 119, 111, 114, 107, 101, 114, 115, 32] ++ Lib.itoa wk ++ [10] ++ rest)) 0 cf0 0 [] = runL (cutsP rest) 2 c wk [] := by
 have hg : c.g ≤ 32768 := by
  obtain ⟨g, s, k, sz, sl, of, gp, lt, ea, d⟩ := c
  exact (valid_of hwr).1.2
 have ht : ∀ b ∈ c.text, b ≠ 10 := by
  obtain ⟨g, s, k, sz, sl, of, gp, lt, ea, d⟩ := c
  exact textW_no10 hwr d
 have app : ∀ {l r : List UInt8}, (∀ b ∈ l, b ≠ 10) → (∀ b ∈ r, b ≠ 10) → ∀ b ∈ l ++ r, b ≠ 10 := fun h1 h2 b hb => (List.mem_append.1 hb).elim (h1 b) (h2 b)
 rw [show [106, 111, 98, 32] ++ c.text ++ [10, 119, 111, 114, 107, 101, 114, 115, 32] ++ Lib.itoa wk ++ [10] ++ rest = (jobT ++ c.text) ++ 10 :: ((worT ++ Lib.itoa wk) ++ 10 :: rest) from by simp [jobT, worT]]
 rw [cutsP_line (app (by decide) ht), runL_cons, step0_ok (pref_app _ _) (by rw [trim_app]; exact (cfgP_iff _ _).2 ⟨hwr, rfl⟩)]
 simp only
 rw [cutsP_line (app (by decide) (itoa_no wk 10 (by decide))), runL_cons, step1_ok (pref_app _ _) (by rw [trim_app]; exact nums1_itoa ⟨by omega, by omega⟩) (by omega)]
theorem parse_script {c : Cf} {wk : Int} {xs : List St} (h : (chkP c wk xs).2 = 0) (ho : ∀ x ∈ xs, x.ok) : parseS (scriptB c wk xs) = ⟨xs.length + 2, c, wk, xs, none⟩ := by
 obtain ⟨hwr, h1, h2, hm⟩ := chk_ok h
 unfold parseS scriptB
 rw [run_head hwr h1 h2]
 have := run_lines (c := c) (wk := wk) xs [] 0 [] (fun x hx => ⟨hm x hx, ho x hx⟩)
 rw [List.append_nil] at this
 rw [this, cutsP_nil, List.nil_append]
 simp [runL]
 omega
end Go.Proofs.YthfpekhpeiebjaaGreatDoor
end
