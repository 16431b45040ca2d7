/- Joined texts: XH, U. -/
import Derived.Test.YthfpekhpeiebjaaGreatDoorTAS
import Derived.Lib.SmallJoins
import Derived.WideKeyArgs
import Derived.Deep.Slices
set_option linter.unusedSimpArgs false
set_option linter.unusedVariables false
namespace Go.Sx
open Go
def cwAT (g s k sz sl of gp lt ea : Int) (d : Bool) (wk : Int) (A : Option Addr) (n c : Nat) : List SV := [.io .i64 g, .io .i64 s, .io .i64 k, .io .i64 sz, .io .i64 sl, .io .i64 of, .io .i64 gp, .io .i64 lt, .io .i64 ea, .bo d, .io .i64 wk, .sl A n c]
def zAT0 : List SV := [.agg [.v (.int .i64 0), .v (.int .i64 0), .v (.int .i64 0), .v (.int .i64 0), .v (.int .i64 0), .v (.int .i64 0), .v (.int .i64 0), .v (.int .i64 0), .v (.int .i64 0), .v (.bool false), .v (.int .i64 0), .v (.slice none 0 0)], .agg [.v (.int .i64 0), .v (.int .i64 0), .v (.int .i64 0), .v (.int .i64 0), .v (.int .i64 0), .v (.int .i64 0), .v (.int .i64 0), .v (.int .i64 0), .v (.int .i64 0), .v (.bool false), .v (.int .i64 0), .v (.slice none 0 0)]]
def zAT1 : List SV := [.v (.int .i64 0), .v (.int .i64 0), .v (.int .i64 0), .v (.int .i64 0), .v (.int .i64 0), .v (.int .i64 0), .v (.int .i64 0), .v (.int .i64 0), .v (.int .i64 0), .v (.bool false), .v (.int .i64 0), .v (.slice none 0 0)]
def pAT2 : List Nat := [1, 1, 1, 1, 1, 1, 1, 0]
def pAT3 : List Nat := [1, 1, 1, 1, 1, 0, 0]
def pAT4 : List Nat := [1, 1, 1, 1, 1, 0, 1]
def pAT5 : List Nat := [1, 1, 1, 1, 1, 1, 1]
def pAT6 : List Nat := [1, 1, 1, 1, 1, 1]
def pAT7 : List Nat := [1, 0, 1, 2, 1]
end Go.Sx
section
namespace Go.Proofs.YthfpekhpeiebjaaGreatDoor
open Go.RowKit Go.Sx
def goneX : List SV := [.v (.int .i64 0), .v (.int .i64 0), .v (.string ⟨#[]⟩), .v (.int .i64 0), .v (.int .i64 0), .v (.int .i64 0), .v (.int .i64 0), .v (.int .i64 0), .v (.int .i64 99), .v (.int .u32 0)]
theorem perm3 {α : Type} (a b c : α) : [c, a, b].Perm [a, b, c] := (List.Perm.swap a c [b]).trans ((List.Perm.swap b c []).cons a)
theorem slsX_nil {w : World} : SlS w none 0 [] := ⟨rfl, fun _ => rfl, fun a h => (by cases h)⟩
theorem rowX_sls {b n c : Nat} {A : Option Addr} {L : List Rw} {zs : List St} {ρ : List Nat} {w : World} (h : Rws b L ρ w) (hx : (⟨41, 10, A, n, c, stW zs⟩ : Rw) ∈ L) (hl : n = zs.length) : SlS w A n zs :=
 ⟨hl, fun e => (by
  have h1 := (h.isNil hx e).1
  exact List.eq_nil_of_length_eq_zero (by simp only at h1; omega)), fun a ha => h.src hx ha⟩
theorem stepR_len {ln : List UInt8} {en : Bool} {n n2 : Nat} {c c2 : Cf} {wk wk2 : Int} {xs xs2 : List St} (h : stepR ln en n c wk xs = .go n2 c2 wk2 xs2) : xs2.length ≤ xs.length + 1 := by
 unfold stepR at h
 split at h
 ·cases h
 split at h
 ·split at h
  ·split at h
   ·injection h with _ _ _ h4
    rw [← h4]
    omega
   cases h
  cases h
 ·split at h
  ·split at h
   ·split at h
    ·cases h
    injection h with _ _ _ h4
    rw [← h4]
    omega
   cases h
  cases h
 split at h
 ·split at h
  ·injection h with _ _ _ h4
   rw [← h4]
   simp
  cases h
 cases h
theorem runL_len : ∀ (ls : List (List UInt8 × Bool)) (n : Nat) (c : Cf) (wk : Int) (xs : List St), (runL ls n c wk xs).xs.length ≤ xs.length + ls.length
 | [], n, c, wk, xs => Nat.le_refl _
 | (ln, en) :: ls, n, c, wk, xs => by
  rw [runL_cons]
  cases h : stepR ln en n c wk xs with
  | go n2 c2 wk2 xs2 =>
   have h1 := runL_len ls n2 c2 wk2 xs2
   have h2 := stepR_len h
   simp only [List.length_cons]
   omega
  | ret => exact Nat.le_add_right _ _
  | brk => exact Nat.le_add_right _ _
theorem cutsF_len : ∀ (f : Nat) (t : List UInt8), (cutsF f t).length ≤ f
 | 0, t => Nat.le_refl _
 | f + 1, t => by
  unfold cutsF
  split
  ·exact Nat.zero_le _
  rw [List.length_cons]
  exact Nat.succ_le_succ (cutsF_len f _)
theorem parse_len (t : List UInt8) : (parseS t).xs.length ≤ t.length := by
 have h1 := runL_len (cutsP t) 0 cf0 0 []
 have h2 := cutsF_len t.length t
 unfold parseS
 unfold cutsP at h1 ⊢
 simp only [List.length_nil] at h1
 omega
noncomputable def B3 : Code := (Tryz.f3.body).getD .skip
noncomputable def sq3 (p : List Nat) : Go.Sx.K := .seq (sub B3 p)
set_option maxHeartbeats 20000000 in
set_option maxRecDepth 100000 in
theorem parse_true (t : List UInt8) (w : World) (hw : Wd w) :
  Calls Tryz.prog 3 #[.string (mkB t)] w fun e w' => e = .returned (.bool true) ∧ Below w.heap.size w w' := by
 refine enterF (N := w.heap.size) (F := Rws w.heap.size []) (fn := Tryz.f3) (c := B3) [.so (mkB t)] Tryz.func3 rfl rfl (Nat.le_refl _) (Rws.none _ _ _) ?_
 refine zTq Rws.stable Rws.fewer [0, 15] 0 ?_
 rcases zB (decide ((↑(mkB t).size : Int) > 20000)) with b0 | b0
 ·refine zR 15 b0 ?_
  refine zT Rws.stable Rws.fewer [] 0 ⟨pops B3 [1, 0, 1, 2, 0] 0, [(sq3 pAT7), (sq3 [1, 1])], [], []⟩ ?_
  refine zC Rws.stable 8 [] (.v (.bool true)) (fun _ _ w1 hi _ => known_true w1 (hw.below hi.mem.below)) ?_
  refine zT Rws.stable Rws.fewer [2] 0 ⟨.exit .ret, [], [(2, .v (.bool true))], []⟩ ?_
  refine zE (.v (.bool true)) ?_
  intro ρ w9 hm' hf
  exact ⟨rfl, hm'.below⟩
 refine zR 15 b0 ?_
 refine zT Rws.stable Rws.fewer [0, 18] 0 ⟨pops B3 [1, 1, 0] 1, [(sq3 [1, 1, 1])], [(0, .so (mkB t)), (18, .so (mkB t))], []⟩ ?_
 have hlen : t.length ≤ 20000 := by
  have := of_decide_eq_false b0
  rw [mkB_size] at this
  omega
 clear b0
 cases hok : (parseS t).ok with
 | true =>
  have hxl := parse_len t
  rcases hR : parseS t with ⟨n, ⟨g, s, k, sz, sl, of, gp, lt, ea, d⟩, wk, xs, stop⟩
  rw [hR] at hxl hok
  simp only at hxl
  refine At.rowCall (e := 41) (size := 10) 9 [.so (mkB t)] (stW xs) (fun A' n' c' => .tup [.agg (cwAT g s k sz sl of gp lt ea d wk A' n' c'), .io .i64 (n : Int), .v (.int .i64 0)]) (by kernel_rfl) (by kernel_rfl) (by kernel_rfl) rfl (fun ρ w1 hm hf => (parse_kit t (by omega) w1 (hw.below hm.below)).mono fun e w2 h => by rw [hR] at h; unfold parseE at h; rw [if_pos hok] at h; obtain ⟨A', c', h1, h2⟩ := h; exact ⟨A', _, c', h1, h2⟩) (fun A1 n1 q1 hl1 => ?_)
  obtain rfl : n1 = xs.length := by rw [stW_len] at hl1; omega
  refine zT Rws.stable Rws.fewer [0, 3, 4, 5, 24] 1 ⟨pops B3 [1, 1, 1, 0] 1, [(sq3 [1, 1, 1, 1])], [(0, .so (mkB t)), (3, .lp 0 0), (4, .io .i64 (↑n : Int)), (5, .v (.int .i64 0)), (24, .so (mkB t))], [((cwAT g s k sz sl of gp lt ea d wk A1 xs.length q1), 28)]⟩ ?_
  refine At.rowCall (e := 41) (size := 10) 9 [.so (mkB t)] (stW xs) (fun A' n' c' => .tup [.agg (cwAT g s k sz sl of gp lt ea d wk A' n' c'), .io .i64 (n : Int), .v (.int .i64 0)]) (by kernel_rfl) (by kernel_rfl) (by kernel_rfl) rfl (fun ρ w1 hm hf => (parse_kit t (by omega) w1 (hw.below hm.below)).mono fun e w2 h => by rw [hR] at h; unfold parseE at h; rw [if_pos hok] at h; obtain ⟨A', c', h1, h2⟩ := h; exact ⟨A', _, c', h1, h2⟩) (fun A2 n2 q2 hl2 => ?_)
  obtain rfl : n2 = xs.length := by rw [stW_len] at hl2; omega
  refine zT Rws.stable Rws.fewer [3, 4, 5, 6, 30] 2 ⟨pops B3 [1, 1, 1, 1, 0] 1, [(sq3 [1, 1, 1, 1, 1])], [(3, .lp 0 0), (4, .io .i64 (↑n : Int)), (5, .v (.int .i64 0)), (6, .lp 1 0), (30, .so (mkB t))], [((cwAT g s k sz sl of gp lt ea d wk A1 xs.length q1), 28), ((cwAT g s k sz sl of gp lt ea d wk A2 xs.length q2), 28)]⟩ ?_
  refine At.rowCall (e := 41) (size := 10) 10 [.so (mkB t)] (stW xs) (fun A' n' c' => .tup [.agg (cwAT g s k sz sl of gp lt ea d wk A' n' c'), .io .i64 (n : Int), .v (.bool true)]) (by kernel_rfl) (by kernel_rfl) (by kernel_rfl) rfl (fun ρ w1 hm hf => (rparse_any t (by omega) w1).mono fun e w2 h => by rw [hR] at h; unfold parseRE at h; rw [if_pos hok] at h; obtain ⟨A', c', h1, h2⟩ := h; exact ⟨A', _, c', h1, h2⟩) (fun A3 n3 q3 hl3 => ?_)
  obtain rfl : n3 = xs.length := by rw [stW_len] at hl3; omega
  refine zTq Rws.stable Rws.fewer [3, 5, 6, 9, 11, 38] 3 ?_
  refine At.res 38 ((↑n : Int) != (↑n : Int)) false (by kernel_rfl) (by first | assumption | (simp only [*]; done) | (simp [*]; done)) ?_
  refine zT Rws.stable Rws.fewer [3, 6, 9, 52, 53, 54] 3 ⟨pops B3 pAT3 20, [(sq3 pAT4), (sq3 pAT6)], [(3, .lp 0 0), (6, .lp 1 0), (9, .lp 2 0), (52, .v (.bool false)), (53, .agg (cwAT g s k sz sl of gp lt ea d wk A1 xs.length q1)), (54, .agg (cwAT g s k sz sl of gp lt ea d wk A3 xs.length q3))], [((cwAT g s k sz sl of gp lt ea d wk A1 xs.length q1), 28), ((cwAT g s k sz sl of gp lt ea d wk A2 xs.length q2), 28), ((cwAT g s k sz sl of gp lt ea d wk A3 xs.length q3), 28)]⟩ ?_
  refine zC Rws.stable 11 [.agg (cwAT g s k sz sl of gp lt ea d wk A1 xs.length q1), .agg (cwAT g s k sz sl of gp lt ea d wk A3 xs.length q3)] (.v (.bool true)) (fun _ _ w1 hi hf => (same_go g s k sz sl of gp lt ea d wk A1 xs.length q1 xs g s k sz sl of gp lt ea d wk A3 xs.length q3 xs w1 (rowX_sls hf (.tail _ (.tail _ (.head _))) rfl) (rowX_sls hf (.head _) rfl) (by omega) (by omega)).mono fun e w2 h => by rw [decide_eq_true ⟨rfl, rfl, rfl⟩] at h; exact h) ?_
  refine zT Rws.stable Rws.fewer [3, 6, 9, 12] 3 ⟨.code (sub B3 [1, 1, 1, 1, 1, 1, 0, 1, 4]), [.block 0, (sq3 pAT5)], [(3, .lp 0 0), (6, .lp 1 0), (9, .lp 2 0), (12, .v (.int .i64 0))], [((cwAT g s k sz sl of gp lt ea d wk A1 xs.length q1), 28), ((cwAT g s k sz sl of gp lt ea d wk A2 xs.length q2), 28), ((cwAT g s k sz sl of gp lt ea d wk A3 xs.length q3), 28)]⟩ ?_
  refine At.canonT [12] _ rfl ?_
  refine At.mono (F' := Rws w.heap.size [⟨41, 10, A1, xs.length, q1, stW xs⟩, ⟨41, 10, A3, xs.length, q3, stW xs⟩, ⟨41, 10, A2, xs.length, q2, stW xs⟩]) (fun ρ w1 h => h.perm (perm3 _ _ _)) ?_
  refine At.loop (σ := Nat × List Value) (sub B3 [1, 1, 1, 1, 1, 1, 0, 1, 4, 4]) (fun u => [(3, .lp 0 0), (6, .lp 1 0), (9, .lp 2 0), (12, .io .i64 (u.1 : Int))]) (fun _ => [((cwAT g s k sz sl of gp lt ea d wk A1 xs.length q1), 28), ((cwAT g s k sz sl of gp lt ea d wk A2 xs.length q2), 28), ((cwAT g s k sz sl of gp lt ea d wk A3 xs.length q3), 28)]) (fun u ρ w1 => Rws w.heap.size [⟨41, 10, A1, xs.length, q1, u.2⟩, ⟨41, 10, A3, xs.length, q3, stW xs⟩, ⟨41, 10, A2, xs.length, q2, stW xs⟩] ρ w1 ∧ u.1 ≤ xs.length) (fun u => xs.length - u.1) (0, stW xs) (by kernel_rfl) (by unfold subFr; kernel_rfl) (by kernel_rfl) (fun _ _ _ _ h => ⟨h, Nat.zero_le _⟩) ?_
  rintro ⟨i, ys⟩
  refine At.pure fun hi => ?_
  simp only at hi
  dsimp only
  refine zTq Rws.stable Rws.fewer [3, 6, 9, 12, 62] 3 ?_
  rcases zB (decide ((↑i : Int) < (↑xs.length : Int))) with b0 | b0
  ·refine zR 62 b0 ?_
   let kn0 : K := .next (Sx.Next w.heap.size w Tryz.f3.ntmps (fun u => [(3, .lp 0 0), (6, .lp 1 0), (9, .lp 2 0), (12, .io .i64 (↑u.fst : Int))]) (fun x => [((cwAT g s k sz sl of gp lt ea d wk A1 xs.length q1), 28), ((cwAT g s k sz sl of gp lt ea d wk A2 xs.length q2), 28), ((cwAT g s k sz sl of gp lt ea d wk A3 xs.length q3), 28)]) (fun u ρ w1 => Rws w.heap.size [Rw.mk 41 10 A1 xs.length q1 u.snd, Rw.mk 41 10 A3 xs.length q3 (stW xs), Rw.mk 41 10 A2 xs.length q2 (stW xs)] ρ w1 ∧ u.fst ≤ xs.length) (fun u => xs.length - u.fst) (i, ys))
   refine zT Rws.stable Rws.fewer [3, 6, 9, 12, 66, 67, 68] 3 ⟨pops B3 [1, 1, 1, 1, 1, 1, 0, 1, 4, 4, 1, 0, 4] 4, [.block 1, (sq3 [1, 1, 1, 1, 1, 1, 0, 1, 4, 4, 1, 1]), kn0, .block 0, (sq3 pAT5)], [(3, .lp 0 0), (6, .lp 1 0), (9, .lp 2 0), (12, .io .i64 (↑i : Int)), (66, .sl A1 xs.length q1), (67, .io .i64 (↑i : Int)), (68, .agg [.v (.int .i64 0), .v (.int .i64 0), .v (.string (ByteArray.mk #[])), .v (.int .i64 0), .v (.int .i64 0), .v (.int .i64 0), .v (.int .i64 0), .v (.int .i64 0), .v (.int .i64 99), .v (.int IntKind.u32 0)])], [((cwAT g s k sz sl of gp lt ea d wk A1 xs.length q1), 28), ((cwAT g s k sz sl of gp lt ea d wk A2 xs.length q2), 28), ((cwAT g s k sz sl of gp lt ea d wk A3 xs.length q3), 28)]⟩ ?_
   have hin : i < xs.length := by have := of_decide_eq_true b0; omega
   clear b0
   refine At.know (p := ∃ a, A1 = some a) (fun ρ w1 h => h.some (.head _) (show 0 < xs.length by omega)) fun ⟨a, ha⟩ => ?_
   rw [ha]
   refine At.idx a xs.length 10 (i : Int) (by kernel_rfl) (by omega) (by omega) Rws.stable ?_
   refine At.stRN ((i : Int).toNat * 10) (a.add ((i : Int).toNat * 10)) goneX (by kernel_rfl) rfl (by rw [Int.toNat_natCast]; show i * 10 + 10 ≤ xs.length * 10; omega) (fun zs => ?_)
   rw [← ha]
   refine zT Rws.stable Rws.fewer [3, 6, 9, 12] 3 ⟨.exit .normal, [kn0, .block 0, (sq3 pAT5)], [(3, .lp 0 0), (6, .lp 1 0), (9, .lp 2 0), (12, .io .i64 (IntKind.i64.wrap ((↑i : Int) + 1)))], [((cwAT g s k sz sl of gp lt ea d wk A1 xs.length q1), 28), ((cwAT g s k sz sl of gp lt ea d wk A2 xs.length q2), 28), ((cwAT g s k sz sl of gp lt ea d wk A3 xs.length q3), 28)]⟩ ?_
   have hw3 : IntKind.i64.wrap ((i : Int) + 1) = ((i + 1 : Nat) : Int) := by
    rw [wrap63 (by omega) (by omega)]
    omega
   rw [hw3]
   refine At.next (σ := Nat × List Value) (i + 1, zs) rfl rfl (by unfold subFr; kernel_rfl) (by kernel_rfl) (fun _ _ _ _ h => ⟨h, hin⟩) ?_
   show xs.length - (i + 1) < xs.length - i
   omega
  refine zR 62 b0 ?_
  refine zT Rws.stable Rws.fewer [70, 71] 0 ⟨pops B3 pAT2 2, [(sq3 pAT7)], [(70, .agg (cwAT g s k sz sl of gp lt ea d wk A2 xs.length q2)), (71, .agg (cwAT g s k sz sl of gp lt ea d wk A3 xs.length q3))], []⟩ ?_
  refine At.mono (F' := Rws w.heap.size [⟨41, 10, A3, xs.length, q3, stW xs⟩, ⟨41, 10, A2, xs.length, q2, stW xs⟩]) (fun ρ w1 h => h.sub (List.sublist_cons_self ..)) ?_
  refine zC Rws.stable 11 [.agg (cwAT g s k sz sl of gp lt ea d wk A2 xs.length q2), .agg (cwAT g s k sz sl of gp lt ea d wk A3 xs.length q3)] (.v (.bool true)) (fun _ _ w1 hi hf => (same_go g s k sz sl of gp lt ea d wk A2 xs.length q2 xs g s k sz sl of gp lt ea d wk A3 xs.length q3 xs w1 (rowX_sls hf (.tail _ (.head _)) rfl) (rowX_sls hf (.head _) rfl) (by omega) (by omega)).mono fun e w2 h => by rw [decide_eq_true ⟨rfl, rfl, rfl⟩] at h; exact h) ?_
  refine zT Rws.stable Rws.fewer [73] 0 ⟨pops B3 pAT2 4, [(sq3 pAT7)], [(73, .v (.bool true))], []⟩ ?_
  refine zC Rws.stable 8 [] (.v (.bool true)) (fun _ _ w1 hi _ => known_true w1 (hw.below hi.mem.below)) ?_
  refine zT Rws.stable Rws.fewer [2] 0 ⟨.exit .ret, [], [(2, .v (.bool true))], []⟩ ?_
  refine zE (.v (.bool true)) ?_
  intro ρ w9 hm' hf
  exact ⟨rfl, hm'.below⟩
 | false =>
  rcases hR : parseS t with ⟨n, ⟨g, s, k, sz, sl, of, gp, lt, ea, d⟩, wk, xs, stop⟩
  rw [hR] at hok
  refine zC Rws.stable 9 [.so (mkB t)] (.tup [.agg zAT1, .io .i64 (n : Int), .v (.int .i64 370)]) (fun _ _ w1 hi _ => (parse_kit t (by omega) w1 (hw.below hi.mem.below)).mono fun e w2 h => by rw [hR] at h; unfold parseE at h; rw [if_neg (by rw [hok]; decide)] at h; exact h) ?_
  refine zT Rws.stable Rws.fewer [0, 3, 4, 5, 24] 1 ⟨pops B3 [1, 1, 1, 0] 1, [(sq3 [1, 1, 1, 1])], [(0, .so (mkB t)), (3, .lp 0 0), (4, .io .i64 (↑n : Int)), (5, .v (.int .i64 370)), (24, .so (mkB t))], [(zAT1, 28)]⟩ ?_
  refine zC Rws.stable 9 [.so (mkB t)] (.tup [.agg zAT1, .io .i64 (n : Int), .v (.int .i64 370)]) (fun _ _ w1 hi _ => (parse_kit t (by omega) w1 (hw.below hi.mem.below)).mono fun e w2 h => by rw [hR] at h; unfold parseE at h; rw [if_neg (by rw [hok]; decide)] at h; exact h) ?_
  refine zT Rws.stable Rws.fewer [3, 4, 5, 6, 30] 2 ⟨pops B3 [1, 1, 1, 1, 0] 1, [(sq3 [1, 1, 1, 1, 1])], [(3, .lp 0 0), (4, .io .i64 (↑n : Int)), (5, .v (.int .i64 370)), (6, .lp 1 0), (30, .so (mkB t))], [(zAT1, 28), (zAT1, 28)]⟩ ?_
  refine zC Rws.stable 10 [.so (mkB t)] (.tup [.agg zAT1, .io .i64 (n : Int), .v (.bool false)]) (fun _ _ w1 hi _ => (rparse_any t (by omega) w1).mono fun e w2 h => by rw [hR] at h; unfold parseRE at h; rw [if_neg (by rw [hok]; decide)] at h; exact h) ?_
  refine zTq Rws.stable Rws.fewer [3, 5, 6, 9, 11, 38] 3 ?_
  refine At.res 38 ((↑n : Int) != (↑n : Int)) false (by kernel_rfl) (by first | assumption | (simp only [*]; done) | (simp [*]; done)) ?_
  refine zT Rws.stable Rws.fewer [3, 6, 9, 52, 53, 54] 3 ⟨pops B3 pAT3 20, [(sq3 pAT4), (sq3 pAT6)], [(3, .lp 0 0), (6, .lp 1 0), (9, .lp 2 0), (52, .v (.bool false)), (53, .agg zAT1), (54, .agg zAT1)], [(zAT1, 28), (zAT1, 28), (zAT1, 28)]⟩ ?_
  refine zC Rws.stable 11 zAT0 (.v (.bool true)) (fun _ _ w1 hi hf => (same_go 0 0 0 0 0 0 0 0 0 false 0 none 0 0 [] 0 0 0 0 0 0 0 0 0 false 0 none 0 0 [] w1 slsX_nil slsX_nil (by omega) (by omega)).mono fun e w2 h => by rw [decide_eq_true ⟨rfl, rfl, rfl⟩] at h; exact h) ?_
  refine zT Rws.stable Rws.fewer [3, 6, 9, 12] 3 ⟨.code (sub B3 [1, 1, 1, 1, 1, 1, 0, 1, 4]), [.block 0, (sq3 pAT5)], [(3, .lp 0 0), (6, .lp 1 0), (9, .lp 2 0), (12, .v (.int .i64 0))], [(zAT1, 28), (zAT1, 28), (zAT1, 28)]⟩ ?_
  refine At.canonT [12] _ rfl ?_
  refine At.loop (σ := PI1) (sub B3 [1, 1, 1, 1, 1, 1, 0, 1, 4, 4]) (fun u => [(3, .lp 0 0), (6, .lp 1 0), (9, .lp 2 0), (12, .io .i64 (u.i : Int))]) (fun _ => [(zAT1, 28), (zAT1, 28), (zAT1, 28)]) (fun u ρ w1 => Rws w.heap.size [] ρ w1) (fun u => 0) ⟨0⟩ (by kernel_rfl) (by unfold subFr; kernel_rfl) (by kernel_rfl) (fun _ _ _ _ h => h) ?_
  rintro ⟨i⟩
  dsimp only
  refine zTq Rws.stable Rws.fewer [3, 6, 9, 12, 62] 3 ?_
  refine At.res 62 (false) false (by kernel_rfl) (by first | assumption | (simp only [*]; done) | (simp [*]; done)) ?_
  refine zT Rws.stable Rws.fewer [70, 71] 0 ⟨pops B3 pAT2 2, [(sq3 pAT7)], [(70, .agg zAT1), (71, .agg zAT1)], []⟩ ?_
  refine zC Rws.stable 11 zAT0 (.v (.bool true)) (fun _ _ w1 hi hf => (same_go 0 0 0 0 0 0 0 0 0 false 0 none 0 0 [] 0 0 0 0 0 0 0 0 0 false 0 none 0 0 [] w1 slsX_nil slsX_nil (by omega) (by omega)).mono fun e w2 h => by rw [decide_eq_true ⟨rfl, rfl, rfl⟩] at h; exact h) ?_
  refine zT Rws.stable Rws.fewer [73] 0 ⟨pops B3 pAT2 4, [(sq3 pAT7)], [(73, .v (.bool true))], []⟩ ?_
  refine zC Rws.stable 8 [] (.v (.bool true)) (fun _ _ w1 hi _ => known_true w1 (hw.below hi.mem.below)) ?_
  refine zT Rws.stable Rws.fewer [2] 0 ⟨.exit .ret, [], [(2, .v (.bool true))], []⟩ ?_
  refine zE (.v (.bool true)) ?_
  intro ρ w9 hm' hf
  exact ⟨rfl, hm'.below⟩
end Go.Proofs.YthfpekhpeiebjaaGreatDoor
end
section
/- A script handed in, taken apart. -/
set_option maxRecDepth 100000
namespace Go.Proofs.YthfpekhpeiebjaaGreatDoor
open Go.Joins Go.ChangeShapes Go.WideShapes Go.RowKit Go.Deep Go.Sx
section
variable {H : Type} {enc : TypeId × Value → H} {w : World} {base : Nat} {spare : Nat → Bool} {held : Bool}
instance : Inhabited St := ⟨⟨0, 0, [], 0, 0, 0, 0, 0, 0, 0⟩⟩
end
end Go.Proofs.YthfpekhpeiebjaaGreatDoor
end
