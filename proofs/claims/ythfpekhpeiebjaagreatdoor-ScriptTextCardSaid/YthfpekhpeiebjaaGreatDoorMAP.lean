/- Joined texts: LM, SS, LP. -/
import Derived.Test.YthfpekhpeiebjaaGreatDoorMAO
set_option linter.unusedSimpArgs false
set_option linter.unusedVariables false
namespace Go.Sx
open Go
def cwAP (g s k sz sl of gp lt ea : Int) (d : Bool) (wk : Int) (A : Option Addr) (n c : Nat) : List SV := [.io .i64 g, .io .i64 s, .io .i64 k, .io .i64 sz, .io .i64 sl, .io .i64 of, .io .i64 gp, .io .i64 lt, .io .i64 ea, .bo d, .io .i64 wk, .sl A n c]
def zAP0 : List SV := [.v (.int .i64 0), .v (.int .i64 0), .v (.int .i64 0), .v (.int .i64 0), .v (.int .i64 0), .v (.int .i64 0), .v (.int .i64 0), .v (.int .i64 0), .v (.int .i64 0), .v (.bool false), .v (.int .i64 0), .v (.slice none 0 0)]
def zAP1 : List SV := [.v (.int .i64 0), .v (.int .i64 0), .v (.string (ByteArray.mk #[])), .v (.int .i64 0), .v (.int .i64 0), .v (.int .i64 0), .v (.int .i64 0), .v (.int .i64 0), .v (.int .i64 4242), .v (.int IntKind.u32 0)]
def pAP2 : List Nat := [1, 1, 0, 1, 4, 4, 1, 0, 4, 1]
def pAP3 : List Nat := [1, 1, 0, 1, 4, 4, 1, 1]
def pAP4 : List Nat := [1, 0]
end Go.Sx
section
namespace Go.Proofs.YthfpekhpeiebjaaGreatDoor
open Go.RowKit Go.Sx
theorem capRow {base e size n c : Nat} {A : Option Addr} {xs : List Value} {ρ : List Nat} {w : World} (h : Row base e size A n c xs ρ w) (hn : 0 < n) : n ≤ c := by
 rcases h.1.2 with ⟨_, h'⟩ | ⟨g, cap, cur, hv, _, _, hnc, _⟩
 ·omega
 injection hv with hv _ hcc
 omega
theorem mapadd0 (A : Option Addr) : A.map (fun a => a.add 0) = A := by cases A <;> simp [Addr.add]
noncomputable def B21 : Code := (Tryz.f21.body).getD .skip
def markW : List Value := [.int .i64 0, .int .i64 0, .string ⟨#[]⟩, .int .i64 0, .int .i64 0, .int .i64 0, .int .i64 0, .int .i64 0, .int .i64 4242, .int .u32 0]
set_option maxHeartbeats 20000000 in
set_option maxRecDepth 100000 in
theorem lent_any (g s k sz sl of gp lt ea : Int) (d : Bool) (wk : Int) (A : Option Addr) (n cap : Nat) (xs : List St) (w : World) (hS : SlS w A n xs) (hn : n ≤ 10000) :
  Calls Tryz.prog 21 #[.agg #[.int .i64 g, .int .i64 s, .int .i64 k, .int .i64 sz, .int .i64 sl, .int .i64 of, .int .i64 gp, .int .i64 lt, .int .i64 ea, .bool d, .int .i64 wk, .slice A n cap]] w fun e w' => ∃ A' n' c', e = .returned (.agg #[.int .i64 g, .int .i64 s, .int .i64 k, .int .i64 sz, .int .i64 sl, .int .i64 of, .int .i64 gp, .int .i64 lt, .int .i64 ea, .bool d, .int .i64 wk, .slice A' n c']) ∧ RowF w (fun _ => False) [] w.heap.size 41 10 A' n' c' (stW xs ++ markW) [] w' := by
 have hl := hS.1
 refine enterF (N := w.heap.size) (F := RowF w (fun _ => False) [] w.heap.size 41 10 none 0 0 []) (fn := Tryz.f21) (c := B21) [.agg (cwAP g s k sz sl of gp lt ea d wk A n cap)] Tryz.func21 rfl rfl (Nat.le_refl _) ⟨⟨⟨World.ownsRow_nil _ _ _ _, by simp [Value.ownBlock]⟩, Nat.le_refl _⟩, FrameR.start _ [] (by simp), by simp [Value.ownBlock]⟩ ?_
 refine zT RowF.stable RowF.fewer [1, 2] 2 ⟨.any (opsOf (sub B21 pAP4)) 12 [], [.seq (sub B21 [1, 1])], [(1, .lp 0 0), (2, .lp 1 0)], [((cwAP g s k sz sl of gp lt ea d wk A n cap), 28), (zAP0, 28)]⟩ ?_
 refine At.cutN (σ := Option Addr × Nat) (fun x => [(1, .lp 0 0), (2, .lp 1 0)]) (fun x => [([.io .i64 g, .io .i64 s, .io .i64 k, .io .i64 sz, .io .i64 sl, .io .i64 of, .io .i64 gp, .io .i64 lt, .io .i64 ea, .bo d, .io .i64 wk, .sl x.1 n x.2], 28), (zAP0, 28)]) (fun x ρ w1 => RowF w (fun _ => False) [] w.heap.size 41 10 x.1 (n + 1) x.2 (stW xs ++ markW) ρ w1) rfl ?_ (fun x => ?_)
 ·refine At.purify0 (fun e a w h => h.1) 20 ?_
  refine At.takeLoadL (fun e a w h => h.1) 1 (.sl A n cap) [2, 5, 9, 11] (by kernel_rfl) (by kernel_rfl) (by kernel_rfl) ?_
  refine zT RowF.stable RowF.fewer [1, 2, 4, 6, 9] 2 ⟨.any (opsOf (sub B21 pAP4)) 8 [1, 6, 3, 0], [], [(1, .lp 0 0), (2, .lp 1 0), (4, .sl A n cap), (6, .agg zAP1), (9, .lp 0 11)], [((cwAP g s k sz sl of gp lt ea d wk A n cap), 28), (zAP0, 28)]⟩ ?_
  refine At.fork [2, 4, 7] rfl (by kernel_rfl) rfl (allOf.cons ?_ (allOf.cons ?_ (allOf.cons ?_ allOf.nil)))
  ·refine zT RowF.stable RowF.fewer [1, 2, 4, 6, 9] 2 ⟨.ops (opsOf (sub B21 pAP4)) (((opsOf (sub B21 pAP4)).toList.drop 2).take 1), [.any (opsOf (sub B21 pAP4)) 7 [2, 1, 6, 3, 0]], [(1, .lp 0 0), (2, .lp 1 0), (4, .sl A n cap), (6, .agg zAP1), (9, .lp 0 11)], [((cwAP g s k sz sl of gp lt ea d wk A n cap), 28), (zAP0, 28)]⟩ ?_
   refine At.appAny 41 10 88 none 0 0 A n cap (fun _ => False) [] w.heap.size [] (stW xs) (by kernel_rfl) (by rw [stW_len, hl]) (stW_one xs) (fun e => by rw [hl, hS.2.1 e]; rfl) (fun b hb ρ w1 hm => (hS.below hm.below).2.2 b hb) (by omega) (by simp only [maxLen]; omega) (Nat.le_refl _) (fun A1 c1 => ?_)
   rw [Nat.zero_add, List.nil_append]
   refine zT RowF.stable RowF.fewer [1, 2, 5, 6, 9] 2 ⟨.any (opsOf (sub B21 pAP4)) 7 [2, 1, 6, 3, 0], [], [(1, .lp 0 0), (2, .lp 1 0), (5, .sl A1 n c1), (6, .agg zAP1), (9, .lp 0 11)], [((cwAP g s k sz sl of gp lt ea d wk A n cap), 28), (zAP0, 28)]⟩ ?_
   refine At.fork [4, 7] rfl (by kernel_rfl) rfl (allOf.cons ?_ (allOf.cons ?_ allOf.nil))
   ·refine zT RowF.stable RowF.fewer [1, 2, 5, 7, 9] 3 ⟨.any (opsOf (sub B21 pAP4)) 6 [4, 2, 1, 6, 3, 0], [], [(1, .lp 0 0), (2, .lp 1 0), (5, .sl A1 n c1), (7, .ls 2 0 1 1), (9, .lp 0 11)], [((cwAP g s k sz sl of gp lt ea d wk A n cap), 28), (zAP0, 28), (zAP1, 41)]⟩ ?_
    refine At.fork [5, 7] rfl (by kernel_rfl) rfl (allOf.cons ?_ (allOf.cons ?_ allOf.nil))
    ·refine zT RowF.stable RowF.fewer [1, 2, 5, 7, 9] 3 ⟨.ops (opsOf (sub B21 pAP4)) (((opsOf (sub B21 pAP4)).toList.drop 5).take 1), [.any (opsOf (sub B21 pAP4)) 5 [5, 4, 2, 1, 6, 3, 0]], [(1, .lp 0 0), (2, .lp 1 0), (5, .sl A1 n c1), (7, .ls 2 0 1 1), (9, .lp 0 11)], [((cwAP g s k sz sl of gp lt ea d wk A n cap), 28), (zAP0, 28), (zAP1, 41)]⟩ ?_
     refine At.app (26) (41) (10) (88) (A1) (n) (c1) (1) (zAP1) _ _ _ _ ([.int .i64 0, .int .i64 0, .string (ByteArray.mk #[]), .int .i64 0, .int .i64 0, .int .i64 0, .int .i64 0, .int .i64 0, .int .i64 4242, .int IntKind.u32 0]) (by kernel_rfl) (fun ρ => by kernel_rfl) (by first | omega | (simp only [Go.maxLen]; omega)) (by first | omega | (simp only [Go.maxLen]; omega)) (by first | omega | (simp only [Go.maxLen]; omega)) fun A0 c0 => ?_
     refine zT RowF.stable RowF.fewer [1, 2, 8, 11] 2 ⟨.ops (opsOf (sub B21 pAP4)) (((opsOf (sub B21 pAP4)).toList.drop 9).take 1), [.any (opsOf (sub B21 pAP4)) 2 [9, 8, 7, 5, 4, 2, 1, 6, 3, 0]], [(1, .lp 0 0), (2, .lp 1 0), (8, .sl A0 (n + 1) c0), (11, .io .i64 (↑n : Int))], [((cwAP g s k sz sl of gp lt ea d wk A n cap), 28), (zAP0, 28)]⟩ ?_
     refine At.slx A0 (n + 1) c0 none (n : Int) 10 (.sl A0 n c0) (by kernel_rfl) RowF.stable (by decide) (by simp) (fun ρ w1 _ hf => ⟨by have := capRow hf.1.1 (by omega); omega, by simp [SV.den, mapadd0]⟩) ?_
     refine zT RowF.stable RowF.fewer [1, 2] 2 ⟨.exit .normal, [], [(1, .lp 0 0), (2, .lp 1 0)], [((cwAP g s k sz sl of gp lt ea d wk A0 n c0), 28), (zAP0, 28)]⟩ ?_
     exact At.fin (A0, c0) rfl rfl (by unfold subFr; kernel_rfl) (by kernel_rfl) (fun ρ a w1 hi h => h)
    refine zT RowF.stable RowF.fewer [1, 2, 5, 7, 10] 3 ⟨.any (opsOf (sub B21 pAP4)) 5 [7, 4, 2, 1, 6, 3, 0], [], [(1, .lp 0 0), (2, .lp 1 0), (5, .sl A1 n c1), (7, .ls 2 0 1 1), (10, .sl A n cap)], [((cwAP g s k sz sl of gp lt ea d wk A n cap), 28), (zAP0, 28), (zAP1, 41)]⟩ ?_
    refine At.fork [5, 8] rfl (by kernel_rfl) rfl (allOf.cons ?_ (allOf.cons ?_ allOf.nil))
    ·refine zT RowF.stable RowF.fewer [1, 2, 5, 7, 10] 3 ⟨.ops (opsOf (sub B21 pAP4)) (((opsOf (sub B21 pAP4)).toList.drop 5).take 1), [.any (opsOf (sub B21 pAP4)) 4 [5, 7, 4, 2, 1, 6, 3, 0]], [(1, .lp 0 0), (2, .lp 1 0), (5, .sl A1 n c1), (7, .ls 2 0 1 1), (10, .sl A n cap)], [((cwAP g s k sz sl of gp lt ea d wk A n cap), 28), (zAP0, 28), (zAP1, 41)]⟩ ?_
     refine At.app (26) (41) (10) (88) (A1) (n) (c1) (1) (zAP1) _ _ _ _ ([.int .i64 0, .int .i64 0, .string (ByteArray.mk #[]), .int .i64 0, .int .i64 0, .int .i64 0, .int .i64 0, .int .i64 0, .int .i64 4242, .int IntKind.u32 0]) (by kernel_rfl) (fun ρ => by kernel_rfl) (by first | omega | (simp only [Go.maxLen]; omega)) (by first | omega | (simp only [Go.maxLen]; omega)) (by first | omega | (simp only [Go.maxLen]; omega)) fun A1 c1 => ?_
     refine zT RowF.stable RowF.fewer [1, 2, 8, 11] 2 ⟨.ops (opsOf (sub B21 pAP4)) (((opsOf (sub B21 pAP4)).toList.drop 9).take 1), [.any (opsOf (sub B21 pAP4)) 2 [9, 8, 5, 7, 4, 2, 1, 6, 3, 0]], [(1, .lp 0 0), (2, .lp 1 0), (8, .sl A1 (n + 1) c1), (11, .io .i64 (↑n : Int))], [((cwAP g s k sz sl of gp lt ea d wk A n cap), 28), (zAP0, 28)]⟩ ?_
     refine At.slx A1 (n + 1) c1 none (n : Int) 10 (.sl A1 n c1) (by kernel_rfl) RowF.stable (by decide) (by simp) (fun ρ w1 _ hf => ⟨by have := capRow hf.1.1 (by omega); omega, by simp [SV.den, mapadd0]⟩) ?_
     refine zT RowF.stable RowF.fewer [1, 2] 2 ⟨.exit .normal, [], [(1, .lp 0 0), (2, .lp 1 0)], [((cwAP g s k sz sl of gp lt ea d wk A1 n c1), 28), (zAP0, 28)]⟩ ?_
     exact At.fin (A1, c1) rfl rfl (by unfold subFr; kernel_rfl) (by kernel_rfl) (fun ρ a w1 hi h => h)
    refine zT RowF.stable RowF.fewer [1, 2, 5, 7, 11] 3 ⟨.ops (opsOf (sub B21 pAP4)) (((opsOf (sub B21 pAP4)).toList.drop 5).take 1), [.any (opsOf (sub B21 pAP4)) 3 [5, 8, 7, 4, 2, 1, 6, 3, 0]], [(1, .lp 0 0), (2, .lp 1 0), (5, .sl A1 n c1), (7, .ls 2 0 1 1), (11, .io .i64 (↑n : Int))], [((cwAP g s k sz sl of gp lt ea d wk A n cap), 28), (zAP0, 28), (zAP1, 41)]⟩ ?_
    refine At.app (26) (41) (10) (88) (A1) (n) (c1) (1) (zAP1) _ _ _ _ ([.int .i64 0, .int .i64 0, .string (ByteArray.mk #[]), .int .i64 0, .int .i64 0, .int .i64 0, .int .i64 0, .int .i64 0, .int .i64 4242, .int IntKind.u32 0]) (by kernel_rfl) (fun ρ => by kernel_rfl) (by first | omega | (simp only [Go.maxLen]; omega)) (by first | omega | (simp only [Go.maxLen]; omega)) (by first | omega | (simp only [Go.maxLen]; omega)) fun A2 c2 => ?_
    refine zT RowF.stable RowF.fewer [1, 2, 8, 11] 2 ⟨.ops (opsOf (sub B21 pAP4)) (((opsOf (sub B21 pAP4)).toList.drop 9).take 1), [.any (opsOf (sub B21 pAP4)) 2 [9, 5, 8, 7, 4, 2, 1, 6, 3, 0]], [(1, .lp 0 0), (2, .lp 1 0), (8, .sl A2 (n + 1) c2), (11, .io .i64 (↑n : Int))], [((cwAP g s k sz sl of gp lt ea d wk A n cap), 28), (zAP0, 28)]⟩ ?_
    refine At.slx A2 (n + 1) c2 none (n : Int) 10 (.sl A2 n c2) (by kernel_rfl) RowF.stable (by decide) (by simp) (fun ρ w1 _ hf => ⟨by have := capRow hf.1.1 (by omega); omega, by simp [SV.den, mapadd0]⟩) ?_
    refine zT RowF.stable RowF.fewer [1, 2] 2 ⟨.exit .normal, [], [(1, .lp 0 0), (2, .lp 1 0)], [((cwAP g s k sz sl of gp lt ea d wk A2 n c2), 28), (zAP0, 28)]⟩ ?_
    exact At.fin (A2, c2) rfl rfl (by unfold subFr; kernel_rfl) (by kernel_rfl) (fun ρ a w1 hi h => h)
   refine zT RowF.stable RowF.fewer [1, 2, 5, 6, 10] 2 ⟨.any (opsOf (sub B21 pAP4)) 6 [7, 2, 1, 6, 3, 0], [], [(1, .lp 0 0), (2, .lp 1 0), (5, .sl A1 n c1), (6, .agg zAP1), (10, .sl A n cap)], [((cwAP g s k sz sl of gp lt ea d wk A n cap), 28), (zAP0, 28)]⟩ ?_
   refine At.fork [4, 8] rfl (by kernel_rfl) rfl (allOf.cons ?_ (allOf.cons ?_ allOf.nil))
   ·refine zT RowF.stable RowF.fewer [1, 2, 5, 7, 10] 3 ⟨.any (opsOf (sub B21 pAP4)) 5 [4, 7, 2, 1, 6, 3, 0], [], [(1, .lp 0 0), (2, .lp 1 0), (5, .sl A1 n c1), (7, .ls 2 0 1 1), (10, .sl A n cap)], [((cwAP g s k sz sl of gp lt ea d wk A n cap), 28), (zAP0, 28), (zAP1, 41)]⟩ ?_
    refine At.fork [5, 8] rfl (by kernel_rfl) rfl (allOf.cons ?_ (allOf.cons ?_ allOf.nil))
    ·refine zT RowF.stable RowF.fewer [1, 2, 5, 7, 10] 3 ⟨.ops (opsOf (sub B21 pAP4)) (((opsOf (sub B21 pAP4)).toList.drop 5).take 1), [.any (opsOf (sub B21 pAP4)) 4 [5, 4, 7, 2, 1, 6, 3, 0]], [(1, .lp 0 0), (2, .lp 1 0), (5, .sl A1 n c1), (7, .ls 2 0 1 1), (10, .sl A n cap)], [((cwAP g s k sz sl of gp lt ea d wk A n cap), 28), (zAP0, 28), (zAP1, 41)]⟩ ?_
     refine At.app (26) (41) (10) (88) (A1) (n) (c1) (1) (zAP1) _ _ _ _ ([.int .i64 0, .int .i64 0, .string (ByteArray.mk #[]), .int .i64 0, .int .i64 0, .int .i64 0, .int .i64 0, .int .i64 0, .int .i64 4242, .int IntKind.u32 0]) (by kernel_rfl) (fun ρ => by kernel_rfl) (by first | omega | (simp only [Go.maxLen]; omega)) (by first | omega | (simp only [Go.maxLen]; omega)) (by first | omega | (simp only [Go.maxLen]; omega)) fun A3 c3 => ?_
     refine zT RowF.stable RowF.fewer [1, 2, 8, 11] 2 ⟨.ops (opsOf (sub B21 pAP4)) (((opsOf (sub B21 pAP4)).toList.drop 9).take 1), [.any (opsOf (sub B21 pAP4)) 2 [9, 8, 5, 4, 7, 2, 1, 6, 3, 0]], [(1, .lp 0 0), (2, .lp 1 0), (8, .sl A3 (n + 1) c3), (11, .io .i64 (↑n : Int))], [((cwAP g s k sz sl of gp lt ea d wk A n cap), 28), (zAP0, 28)]⟩ ?_
     refine At.slx A3 (n + 1) c3 none (n : Int) 10 (.sl A3 n c3) (by kernel_rfl) RowF.stable (by decide) (by simp) (fun ρ w1 _ hf => ⟨by have := capRow hf.1.1 (by omega); omega, by simp [SV.den, mapadd0]⟩) ?_
     refine zT RowF.stable RowF.fewer [1, 2] 2 ⟨.exit .normal, [], [(1, .lp 0 0), (2, .lp 1 0)], [((cwAP g s k sz sl of gp lt ea d wk A3 n c3), 28), (zAP0, 28)]⟩ ?_
     exact At.fin (A3, c3) rfl rfl (by unfold subFr; kernel_rfl) (by kernel_rfl) (fun ρ a w1 hi h => h)
    refine zT RowF.stable RowF.fewer [1, 2, 5, 7, 11] 3 ⟨.ops (opsOf (sub B21 pAP4)) (((opsOf (sub B21 pAP4)).toList.drop 5).take 1), [.any (opsOf (sub B21 pAP4)) 3 [5, 8, 4, 7, 2, 1, 6, 3, 0]], [(1, .lp 0 0), (2, .lp 1 0), (5, .sl A1 n c1), (7, .ls 2 0 1 1), (11, .io .i64 (↑n : Int))], [((cwAP g s k sz sl of gp lt ea d wk A n cap), 28), (zAP0, 28), (zAP1, 41)]⟩ ?_
    refine At.app (26) (41) (10) (88) (A1) (n) (c1) (1) (zAP1) _ _ _ _ ([.int .i64 0, .int .i64 0, .string (ByteArray.mk #[]), .int .i64 0, .int .i64 0, .int .i64 0, .int .i64 0, .int .i64 0, .int .i64 4242, .int IntKind.u32 0]) (by kernel_rfl) (fun ρ => by kernel_rfl) (by first | omega | (simp only [Go.maxLen]; omega)) (by first | omega | (simp only [Go.maxLen]; omega)) (by first | omega | (simp only [Go.maxLen]; omega)) fun A4 c4 => ?_
    refine zT RowF.stable RowF.fewer [1, 2, 8, 11] 2 ⟨.ops (opsOf (sub B21 pAP4)) (((opsOf (sub B21 pAP4)).toList.drop 9).take 1), [.any (opsOf (sub B21 pAP4)) 2 [9, 5, 8, 4, 7, 2, 1, 6, 3, 0]], [(1, .lp 0 0), (2, .lp 1 0), (8, .sl A4 (n + 1) c4), (11, .io .i64 (↑n : Int))], [((cwAP g s k sz sl of gp lt ea d wk A n cap), 28), (zAP0, 28)]⟩ ?_
    refine At.slx A4 (n + 1) c4 none (n : Int) 10 (.sl A4 n c4) (by kernel_rfl) RowF.stable (by decide) (by simp) (fun ρ w1 _ hf => ⟨by have := capRow hf.1.1 (by omega); omega, by simp [SV.den, mapadd0]⟩) ?_
    refine zT RowF.stable RowF.fewer [1, 2] 2 ⟨.exit .normal, [], [(1, .lp 0 0), (2, .lp 1 0)], [((cwAP g s k sz sl of gp lt ea d wk A4 n c4), 28), (zAP0, 28)]⟩ ?_
    exact At.fin (A4, c4) rfl rfl (by unfold subFr; kernel_rfl) (by kernel_rfl) (fun ρ a w1 hi h => h)
   refine zT RowF.stable RowF.fewer [1, 2, 5, 7, 11] 3 ⟨.ops (opsOf (sub B21 pAP4)) (((opsOf (sub B21 pAP4)).toList.drop 5).take 1), [.any (opsOf (sub B21 pAP4)) 3 [5, 4, 8, 7, 2, 1, 6, 3, 0]], [(1, .lp 0 0), (2, .lp 1 0), (5, .sl A1 n c1), (7, .ls 2 0 1 1), (11, .io .i64 (↑n : Int))], [((cwAP g s k sz sl of gp lt ea d wk A n cap), 28), (zAP0, 28), (zAP1, 41)]⟩ ?_
   refine At.app (26) (41) (10) (88) (A1) (n) (c1) (1) (zAP1) _ _ _ _ ([.int .i64 0, .int .i64 0, .string (ByteArray.mk #[]), .int .i64 0, .int .i64 0, .int .i64 0, .int .i64 0, .int .i64 0, .int .i64 4242, .int IntKind.u32 0]) (by kernel_rfl) (fun ρ => by kernel_rfl) (by first | omega | (simp only [Go.maxLen]; omega)) (by first | omega | (simp only [Go.maxLen]; omega)) (by first | omega | (simp only [Go.maxLen]; omega)) fun A5 c5 => ?_
   refine zT RowF.stable RowF.fewer [1, 2, 8, 11] 2 ⟨.ops (opsOf (sub B21 pAP4)) (((opsOf (sub B21 pAP4)).toList.drop 9).take 1), [.any (opsOf (sub B21 pAP4)) 2 [9, 5, 4, 8, 7, 2, 1, 6, 3, 0]], [(1, .lp 0 0), (2, .lp 1 0), (8, .sl A5 (n + 1) c5), (11, .io .i64 (↑n : Int))], [((cwAP g s k sz sl of gp lt ea d wk A n cap), 28), (zAP0, 28)]⟩ ?_
   refine At.slx A5 (n + 1) c5 none (n : Int) 10 (.sl A5 n c5) (by kernel_rfl) RowF.stable (by decide) (by simp) (fun ρ w1 _ hf => ⟨by have := capRow hf.1.1 (by omega); omega, by simp [SV.den, mapadd0]⟩) ?_
   refine zT RowF.stable RowF.fewer [1, 2] 2 ⟨.exit .normal, [], [(1, .lp 0 0), (2, .lp 1 0)], [((cwAP g s k sz sl of gp lt ea d wk A5 n c5), 28), (zAP0, 28)]⟩ ?_
   exact At.fin (A5, c5) rfl rfl (by unfold subFr; kernel_rfl) (by kernel_rfl) (fun ρ a w1 hi h => h)
  ·refine zT RowF.stable RowF.fewer [1, 2, 4, 7, 9] 3 ⟨.any (opsOf (sub B21 pAP4)) 7 [4, 1, 6, 3, 0], [], [(1, .lp 0 0), (2, .lp 1 0), (4, .sl A n cap), (7, .ls 2 0 1 1), (9, .lp 0 11)], [((cwAP g s k sz sl of gp lt ea d wk A n cap), 28), (zAP0, 28), (zAP1, 41)]⟩ ?_
   refine At.fork [2, 7] rfl (by kernel_rfl) rfl (allOf.cons ?_ (allOf.cons ?_ allOf.nil))
   ·refine zT RowF.stable RowF.fewer [1, 2, 4, 7, 9] 3 ⟨.ops (opsOf (sub B21 pAP4)) (((opsOf (sub B21 pAP4)).toList.drop 2).take 1), [.any (opsOf (sub B21 pAP4)) 6 [2, 4, 1, 6, 3, 0]], [(1, .lp 0 0), (2, .lp 1 0), (4, .sl A n cap), (7, .ls 2 0 1 1), (9, .lp 0 11)], [((cwAP g s k sz sl of gp lt ea d wk A n cap), 28), (zAP0, 28), (zAP1, 41)]⟩ ?_
    refine At.appAny 41 10 88 none 0 0 A n cap (fun _ => False) [] w.heap.size [] (stW xs) (by kernel_rfl) (by rw [stW_len, hl]) (stW_one xs) (fun e => by rw [hl, hS.2.1 e]; rfl) (fun b hb ρ w1 hm => (hS.below hm.below).2.2 b hb) (by omega) (by simp only [maxLen]; omega) (Nat.le_refl _) (fun A1 c1 => ?_)
    rw [Nat.zero_add, List.nil_append]
    refine zT RowF.stable RowF.fewer [1, 2, 5, 7, 9] 3 ⟨.any (opsOf (sub B21 pAP4)) 6 [2, 4, 1, 6, 3, 0], [], [(1, .lp 0 0), (2, .lp 1 0), (5, .sl A1 n c1), (7, .ls 2 0 1 1), (9, .lp 0 11)], [((cwAP g s k sz sl of gp lt ea d wk A n cap), 28), (zAP0, 28), (zAP1, 41)]⟩ ?_
    refine At.fork [5, 7] rfl (by kernel_rfl) rfl (allOf.cons ?_ (allOf.cons ?_ allOf.nil))
    ·refine zT RowF.stable RowF.fewer [1, 2, 5, 7, 9] 3 ⟨.ops (opsOf (sub B21 pAP4)) (((opsOf (sub B21 pAP4)).toList.drop 5).take 1), [.any (opsOf (sub B21 pAP4)) 5 [5, 2, 4, 1, 6, 3, 0]], [(1, .lp 0 0), (2, .lp 1 0), (5, .sl A1 n c1), (7, .ls 2 0 1 1), (9, .lp 0 11)], [((cwAP g s k sz sl of gp lt ea d wk A n cap), 28), (zAP0, 28), (zAP1, 41)]⟩ ?_
     refine At.app (26) (41) (10) (88) (A1) (n) (c1) (1) (zAP1) _ _ _ _ ([.int .i64 0, .int .i64 0, .string (ByteArray.mk #[]), .int .i64 0, .int .i64 0, .int .i64 0, .int .i64 0, .int .i64 0, .int .i64 4242, .int IntKind.u32 0]) (by kernel_rfl) (fun ρ => by kernel_rfl) (by first | omega | (simp only [Go.maxLen]; omega)) (by first | omega | (simp only [Go.maxLen]; omega)) (by first | omega | (simp only [Go.maxLen]; omega)) fun A0 c0 => ?_
     refine zT RowF.stable RowF.fewer [1, 2, 8, 11] 2 ⟨.ops (opsOf (sub B21 pAP4)) (((opsOf (sub B21 pAP4)).toList.drop 9).take 1), [.any (opsOf (sub B21 pAP4)) 2 [9, 8, 7, 5, 2, 4, 1, 6, 3, 0]], [(1, .lp 0 0), (2, .lp 1 0), (8, .sl A0 (n + 1) c0), (11, .io .i64 (↑n : Int))], [((cwAP g s k sz sl of gp lt ea d wk A n cap), 28), (zAP0, 28)]⟩ ?_
     refine At.slx A0 (n + 1) c0 none (n : Int) 10 (.sl A0 n c0) (by kernel_rfl) RowF.stable (by decide) (by simp) (fun ρ w1 _ hf => ⟨by have := capRow hf.1.1 (by omega); omega, by simp [SV.den, mapadd0]⟩) ?_
     refine zT RowF.stable RowF.fewer [1, 2] 2 ⟨.exit .normal, [], [(1, .lp 0 0), (2, .lp 1 0)], [((cwAP g s k sz sl of gp lt ea d wk A0 n c0), 28), (zAP0, 28)]⟩ ?_
     exact At.fin (A0, c0) rfl rfl (by unfold subFr; kernel_rfl) (by kernel_rfl) (fun ρ a w1 hi h => h)
    refine zT RowF.stable RowF.fewer [1, 2, 5, 7, 10] 3 ⟨.any (opsOf (sub B21 pAP4)) 5 [7, 2, 4, 1, 6, 3, 0], [], [(1, .lp 0 0), (2, .lp 1 0), (5, .sl A1 n c1), (7, .ls 2 0 1 1), (10, .sl A n cap)], [((cwAP g s k sz sl of gp lt ea d wk A n cap), 28), (zAP0, 28), (zAP1, 41)]⟩ ?_
    refine At.fork [5, 8] rfl (by kernel_rfl) rfl (allOf.cons ?_ (allOf.cons ?_ allOf.nil))
    ·refine zT RowF.stable RowF.fewer [1, 2, 5, 7, 10] 3 ⟨.ops (opsOf (sub B21 pAP4)) (((opsOf (sub B21 pAP4)).toList.drop 5).take 1), [.any (opsOf (sub B21 pAP4)) 4 [5, 7, 2, 4, 1, 6, 3, 0]], [(1, .lp 0 0), (2, .lp 1 0), (5, .sl A1 n c1), (7, .ls 2 0 1 1), (10, .sl A n cap)], [((cwAP g s k sz sl of gp lt ea d wk A n cap), 28), (zAP0, 28), (zAP1, 41)]⟩ ?_
     refine At.app (26) (41) (10) (88) (A1) (n) (c1) (1) (zAP1) _ _ _ _ ([.int .i64 0, .int .i64 0, .string (ByteArray.mk #[]), .int .i64 0, .int .i64 0, .int .i64 0, .int .i64 0, .int .i64 0, .int .i64 4242, .int IntKind.u32 0]) (by kernel_rfl) (fun ρ => by kernel_rfl) (by first | omega | (simp only [Go.maxLen]; omega)) (by first | omega | (simp only [Go.maxLen]; omega)) (by first | omega | (simp only [Go.maxLen]; omega)) fun A1 c1 => ?_
     refine zT RowF.stable RowF.fewer [1, 2, 8, 11] 2 ⟨.ops (opsOf (sub B21 pAP4)) (((opsOf (sub B21 pAP4)).toList.drop 9).take 1), [.any (opsOf (sub B21 pAP4)) 2 [9, 8, 5, 7, 2, 4, 1, 6, 3, 0]], [(1, .lp 0 0), (2, .lp 1 0), (8, .sl A1 (n + 1) c1), (11, .io .i64 (↑n : Int))], [((cwAP g s k sz sl of gp lt ea d wk A n cap), 28), (zAP0, 28)]⟩ ?_
     refine At.slx A1 (n + 1) c1 none (n : Int) 10 (.sl A1 n c1) (by kernel_rfl) RowF.stable (by decide) (by simp) (fun ρ w1 _ hf => ⟨by have := capRow hf.1.1 (by omega); omega, by simp [SV.den, mapadd0]⟩) ?_
     refine zT RowF.stable RowF.fewer [1, 2] 2 ⟨.exit .normal, [], [(1, .lp 0 0), (2, .lp 1 0)], [((cwAP g s k sz sl of gp lt ea d wk A1 n c1), 28), (zAP0, 28)]⟩ ?_
     exact At.fin (A1, c1) rfl rfl (by unfold subFr; kernel_rfl) (by kernel_rfl) (fun ρ a w1 hi h => h)
    refine zT RowF.stable RowF.fewer [1, 2, 5, 7, 11] 3 ⟨.ops (opsOf (sub B21 pAP4)) (((opsOf (sub B21 pAP4)).toList.drop 5).take 1), [.any (opsOf (sub B21 pAP4)) 3 [5, 8, 7, 2, 4, 1, 6, 3, 0]], [(1, .lp 0 0), (2, .lp 1 0), (5, .sl A1 n c1), (7, .ls 2 0 1 1), (11, .io .i64 (↑n : Int))], [((cwAP g s k sz sl of gp lt ea d wk A n cap), 28), (zAP0, 28), (zAP1, 41)]⟩ ?_
    refine At.app (26) (41) (10) (88) (A1) (n) (c1) (1) (zAP1) _ _ _ _ ([.int .i64 0, .int .i64 0, .string (ByteArray.mk #[]), .int .i64 0, .int .i64 0, .int .i64 0, .int .i64 0, .int .i64 0, .int .i64 4242, .int IntKind.u32 0]) (by kernel_rfl) (fun ρ => by kernel_rfl) (by first | omega | (simp only [Go.maxLen]; omega)) (by first | omega | (simp only [Go.maxLen]; omega)) (by first | omega | (simp only [Go.maxLen]; omega)) fun A2 c2 => ?_
    refine zT RowF.stable RowF.fewer [1, 2, 8, 11] 2 ⟨.ops (opsOf (sub B21 pAP4)) (((opsOf (sub B21 pAP4)).toList.drop 9).take 1), [.any (opsOf (sub B21 pAP4)) 2 [9, 5, 8, 7, 2, 4, 1, 6, 3, 0]], [(1, .lp 0 0), (2, .lp 1 0), (8, .sl A2 (n + 1) c2), (11, .io .i64 (↑n : Int))], [((cwAP g s k sz sl of gp lt ea d wk A n cap), 28), (zAP0, 28)]⟩ ?_
    refine At.slx A2 (n + 1) c2 none (n : Int) 10 (.sl A2 n c2) (by kernel_rfl) RowF.stable (by decide) (by simp) (fun ρ w1 _ hf => ⟨by have := capRow hf.1.1 (by omega); omega, by simp [SV.den, mapadd0]⟩) ?_
    refine zT RowF.stable RowF.fewer [1, 2] 2 ⟨.exit .normal, [], [(1, .lp 0 0), (2, .lp 1 0)], [((cwAP g s k sz sl of gp lt ea d wk A2 n c2), 28), (zAP0, 28)]⟩ ?_
    exact At.fin (A2, c2) rfl rfl (by unfold subFr; kernel_rfl) (by kernel_rfl) (fun ρ a w1 hi h => h)
   refine zT RowF.stable RowF.fewer [1, 2, 4, 7, 10] 3 ⟨.any (opsOf (sub B21 pAP4)) 6 [7, 4, 1, 6, 3, 0], [], [(1, .lp 0 0), (2, .lp 1 0), (4, .sl A n cap), (7, .ls 2 0 1 1), (10, .sl A n cap)], [((cwAP g s k sz sl of gp lt ea d wk A n cap), 28), (zAP0, 28), (zAP1, 41)]⟩ ?_
   refine At.fork [2, 8] rfl (by kernel_rfl) rfl (allOf.cons ?_ (allOf.cons ?_ allOf.nil))
   ·refine zT RowF.stable RowF.fewer [1, 2, 4, 7, 10] 3 ⟨.ops (opsOf (sub B21 pAP4)) (((opsOf (sub B21 pAP4)).toList.drop 2).take 1), [.any (opsOf (sub B21 pAP4)) 5 [2, 7, 4, 1, 6, 3, 0]], [(1, .lp 0 0), (2, .lp 1 0), (4, .sl A n cap), (7, .ls 2 0 1 1), (10, .sl A n cap)], [((cwAP g s k sz sl of gp lt ea d wk A n cap), 28), (zAP0, 28), (zAP1, 41)]⟩ ?_
    refine At.appAny 41 10 88 none 0 0 A n cap (fun _ => False) [] w.heap.size [] (stW xs) (by kernel_rfl) (by rw [stW_len, hl]) (stW_one xs) (fun e => by rw [hl, hS.2.1 e]; rfl) (fun b hb ρ w1 hm => (hS.below hm.below).2.2 b hb) (by omega) (by simp only [maxLen]; omega) (Nat.le_refl _) (fun A1 c1 => ?_)
    rw [Nat.zero_add, List.nil_append]
    refine zT RowF.stable RowF.fewer [1, 2, 5, 7, 10] 3 ⟨.any (opsOf (sub B21 pAP4)) 5 [2, 7, 4, 1, 6, 3, 0], [], [(1, .lp 0 0), (2, .lp 1 0), (5, .sl A1 n c1), (7, .ls 2 0 1 1), (10, .sl A n cap)], [((cwAP g s k sz sl of gp lt ea d wk A n cap), 28), (zAP0, 28), (zAP1, 41)]⟩ ?_
    refine At.fork [5, 8] rfl (by kernel_rfl) rfl (allOf.cons ?_ (allOf.cons ?_ allOf.nil))
    ·refine zT RowF.stable RowF.fewer [1, 2, 5, 7, 10] 3 ⟨.ops (opsOf (sub B21 pAP4)) (((opsOf (sub B21 pAP4)).toList.drop 5).take 1), [.any (opsOf (sub B21 pAP4)) 4 [5, 2, 7, 4, 1, 6, 3, 0]], [(1, .lp 0 0), (2, .lp 1 0), (5, .sl A1 n c1), (7, .ls 2 0 1 1), (10, .sl A n cap)], [((cwAP g s k sz sl of gp lt ea d wk A n cap), 28), (zAP0, 28), (zAP1, 41)]⟩ ?_
     refine At.app (26) (41) (10) (88) (A1) (n) (c1) (1) (zAP1) _ _ _ _ ([.int .i64 0, .int .i64 0, .string (ByteArray.mk #[]), .int .i64 0, .int .i64 0, .int .i64 0, .int .i64 0, .int .i64 0, .int .i64 4242, .int IntKind.u32 0]) (by kernel_rfl) (fun ρ => by kernel_rfl) (by first | omega | (simp only [Go.maxLen]; omega)) (by first | omega | (simp only [Go.maxLen]; omega)) (by first | omega | (simp only [Go.maxLen]; omega)) fun A0 c0 => ?_
     refine zT RowF.stable RowF.fewer [1, 2, 8, 11] 2 ⟨.ops (opsOf (sub B21 pAP4)) (((opsOf (sub B21 pAP4)).toList.drop 9).take 1), [.any (opsOf (sub B21 pAP4)) 2 [9, 8, 5, 2, 7, 4, 1, 6, 3, 0]], [(1, .lp 0 0), (2, .lp 1 0), (8, .sl A0 (n + 1) c0), (11, .io .i64 (↑n : Int))], [((cwAP g s k sz sl of gp lt ea d wk A n cap), 28), (zAP0, 28)]⟩ ?_
     refine At.slx A0 (n + 1) c0 none (n : Int) 10 (.sl A0 n c0) (by kernel_rfl) RowF.stable (by decide) (by simp) (fun ρ w1 _ hf => ⟨by have := capRow hf.1.1 (by omega); omega, by simp [SV.den, mapadd0]⟩) ?_
     refine zT RowF.stable RowF.fewer [1, 2] 2 ⟨.exit .normal, [], [(1, .lp 0 0), (2, .lp 1 0)], [((cwAP g s k sz sl of gp lt ea d wk A0 n c0), 28), (zAP0, 28)]⟩ ?_
     exact At.fin (A0, c0) rfl rfl (by unfold subFr; kernel_rfl) (by kernel_rfl) (fun ρ a w1 hi h => h)
    refine zT RowF.stable RowF.fewer [1, 2, 5, 7, 11] 3 ⟨.ops (opsOf (sub B21 pAP4)) (((opsOf (sub B21 pAP4)).toList.drop 5).take 1), [.any (opsOf (sub B21 pAP4)) 3 [5, 8, 2, 7, 4, 1, 6, 3, 0]], [(1, .lp 0 0), (2, .lp 1 0), (5, .sl A1 n c1), (7, .ls 2 0 1 1), (11, .io .i64 (↑n : Int))], [((cwAP g s k sz sl of gp lt ea d wk A n cap), 28), (zAP0, 28), (zAP1, 41)]⟩ ?_
    refine At.app (26) (41) (10) (88) (A1) (n) (c1) (1) (zAP1) _ _ _ _ ([.int .i64 0, .int .i64 0, .string (ByteArray.mk #[]), .int .i64 0, .int .i64 0, .int .i64 0, .int .i64 0, .int .i64 0, .int .i64 4242, .int IntKind.u32 0]) (by kernel_rfl) (fun ρ => by kernel_rfl) (by first | omega | (simp only [Go.maxLen]; omega)) (by first | omega | (simp only [Go.maxLen]; omega)) (by first | omega | (simp only [Go.maxLen]; omega)) fun A1 c1 => ?_
    refine zT RowF.stable RowF.fewer [1, 2, 8, 11] 2 ⟨.ops (opsOf (sub B21 pAP4)) (((opsOf (sub B21 pAP4)).toList.drop 9).take 1), [.any (opsOf (sub B21 pAP4)) 2 [9, 5, 8, 2, 7, 4, 1, 6, 3, 0]], [(1, .lp 0 0), (2, .lp 1 0), (8, .sl A1 (n + 1) c1), (11, .io .i64 (↑n : Int))], [((cwAP g s k sz sl of gp lt ea d wk A n cap), 28), (zAP0, 28)]⟩ ?_
    refine At.slx A1 (n + 1) c1 none (n : Int) 10 (.sl A1 n c1) (by kernel_rfl) RowF.stable (by decide) (by simp) (fun ρ w1 _ hf => ⟨by have := capRow hf.1.1 (by omega); omega, by simp [SV.den, mapadd0]⟩) ?_
    refine zT RowF.stable RowF.fewer [1, 2] 2 ⟨.exit .normal, [], [(1, .lp 0 0), (2, .lp 1 0)], [((cwAP g s k sz sl of gp lt ea d wk A1 n c1), 28), (zAP0, 28)]⟩ ?_
    exact At.fin (A1, c1) rfl rfl (by unfold subFr; kernel_rfl) (by kernel_rfl) (fun ρ a w1 hi h => h)
   refine zT RowF.stable RowF.fewer [1, 2, 4, 7, 11] 3 ⟨.ops (opsOf (sub B21 pAP4)) (((opsOf (sub B21 pAP4)).toList.drop 2).take 1), [.any (opsOf (sub B21 pAP4)) 4 [2, 8, 7, 4, 1, 6, 3, 0]], [(1, .lp 0 0), (2, .lp 1 0), (4, .sl A n cap), (7, .ls 2 0 1 1), (11, .io .i64 (↑n : Int))], [((cwAP g s k sz sl of gp lt ea d wk A n cap), 28), (zAP0, 28), (zAP1, 41)]⟩ ?_
   refine At.appAny 41 10 88 none 0 0 A n cap (fun _ => False) [] w.heap.size [] (stW xs) (by kernel_rfl) (by rw [stW_len, hl]) (stW_one xs) (fun e => by rw [hl, hS.2.1 e]; rfl) (fun b hb ρ w1 hm => (hS.below hm.below).2.2 b hb) (by omega) (by simp only [maxLen]; omega) (Nat.le_refl _) (fun A1 c1 => ?_)
   rw [Nat.zero_add, List.nil_append]
   refine zT RowF.stable RowF.fewer [1, 2, 5, 7, 11] 3 ⟨.ops (opsOf (sub B21 pAP4)) (((opsOf (sub B21 pAP4)).toList.drop 5).take 1), [.any (opsOf (sub B21 pAP4)) 3 [5, 2, 8, 7, 4, 1, 6, 3, 0]], [(1, .lp 0 0), (2, .lp 1 0), (5, .sl A1 n c1), (7, .ls 2 0 1 1), (11, .io .i64 (↑n : Int))], [((cwAP g s k sz sl of gp lt ea d wk A n cap), 28), (zAP0, 28), (zAP1, 41)]⟩ ?_
   refine At.app (26) (41) (10) (88) (A1) (n) (c1) (1) (zAP1) _ _ _ _ ([.int .i64 0, .int .i64 0, .string (ByteArray.mk #[]), .int .i64 0, .int .i64 0, .int .i64 0, .int .i64 0, .int .i64 0, .int .i64 4242, .int IntKind.u32 0]) (by kernel_rfl) (fun ρ => by kernel_rfl) (by first | omega | (simp only [Go.maxLen]; omega)) (by first | omega | (simp only [Go.maxLen]; omega)) (by first | omega | (simp only [Go.maxLen]; omega)) fun A0 c0 => ?_
   refine zT RowF.stable RowF.fewer [1, 2, 8, 11] 2 ⟨.ops (opsOf (sub B21 pAP4)) (((opsOf (sub B21 pAP4)).toList.drop 9).take 1), [.any (opsOf (sub B21 pAP4)) 2 [9, 5, 2, 8, 7, 4, 1, 6, 3, 0]], [(1, .lp 0 0), (2, .lp 1 0), (8, .sl A0 (n + 1) c0), (11, .io .i64 (↑n : Int))], [((cwAP g s k sz sl of gp lt ea d wk A n cap), 28), (zAP0, 28)]⟩ ?_
   refine At.slx A0 (n + 1) c0 none (n : Int) 10 (.sl A0 n c0) (by kernel_rfl) RowF.stable (by decide) (by simp) (fun ρ w1 _ hf => ⟨by have := capRow hf.1.1 (by omega); omega, by simp [SV.den, mapadd0]⟩) ?_
   refine zT RowF.stable RowF.fewer [1, 2] 2 ⟨.exit .normal, [], [(1, .lp 0 0), (2, .lp 1 0)], [((cwAP g s k sz sl of gp lt ea d wk A0 n c0), 28), (zAP0, 28)]⟩ ?_
   exact At.fin (A0, c0) rfl rfl (by unfold subFr; kernel_rfl) (by kernel_rfl) (fun ρ a w1 hi h => h)
  refine zT RowF.stable RowF.fewer [1, 2, 4, 6, 10] 2 ⟨.any (opsOf (sub B21 pAP4)) 7 [7, 1, 6, 3, 0], [], [(1, .lp 0 0), (2, .lp 1 0), (4, .sl A n cap), (6, .agg zAP1), (10, .sl A n cap)], [((cwAP g s k sz sl of gp lt ea d wk A n cap), 28), (zAP0, 28)]⟩ ?_
  refine At.fork [2, 4, 8] rfl (by kernel_rfl) rfl (allOf.cons ?_ (allOf.cons ?_ (allOf.cons ?_ allOf.nil)))
  ·refine zT RowF.stable RowF.fewer [1, 2, 4, 6, 10] 2 ⟨.ops (opsOf (sub B21 pAP4)) (((opsOf (sub B21 pAP4)).toList.drop 2).take 1), [.any (opsOf (sub B21 pAP4)) 6 [2, 7, 1, 6, 3, 0]], [(1, .lp 0 0), (2, .lp 1 0), (4, .sl A n cap), (6, .agg zAP1), (10, .sl A n cap)], [((cwAP g s k sz sl of gp lt ea d wk A n cap), 28), (zAP0, 28)]⟩ ?_
   refine At.appAny 41 10 88 none 0 0 A n cap (fun _ => False) [] w.heap.size [] (stW xs) (by kernel_rfl) (by rw [stW_len, hl]) (stW_one xs) (fun e => by rw [hl, hS.2.1 e]; rfl) (fun b hb ρ w1 hm => (hS.below hm.below).2.2 b hb) (by omega) (by simp only [maxLen]; omega) (Nat.le_refl _) (fun A1 c1 => ?_)
   rw [Nat.zero_add, List.nil_append]
   refine zT RowF.stable RowF.fewer [1, 2, 5, 6, 10] 2 ⟨.any (opsOf (sub B21 pAP4)) 6 [2, 7, 1, 6, 3, 0], [], [(1, .lp 0 0), (2, .lp 1 0), (5, .sl A1 n c1), (6, .agg zAP1), (10, .sl A n cap)], [((cwAP g s k sz sl of gp lt ea d wk A n cap), 28), (zAP0, 28)]⟩ ?_
   refine At.fork [4, 8] rfl (by kernel_rfl) rfl (allOf.cons ?_ (allOf.cons ?_ allOf.nil))
   ·refine zT RowF.stable RowF.fewer [1, 2, 5, 7, 10] 3 ⟨.any (opsOf (sub B21 pAP4)) 5 [4, 2, 7, 1, 6, 3, 0], [], [(1, .lp 0 0), (2, .lp 1 0), (5, .sl A1 n c1), (7, .ls 2 0 1 1), (10, .sl A n cap)], [((cwAP g s k sz sl of gp lt ea d wk A n cap), 28), (zAP0, 28), (zAP1, 41)]⟩ ?_
    refine At.fork [5, 8] rfl (by kernel_rfl) rfl (allOf.cons ?_ (allOf.cons ?_ allOf.nil))
    ·refine zT RowF.stable RowF.fewer [1, 2, 5, 7, 10] 3 ⟨.ops (opsOf (sub B21 pAP4)) (((opsOf (sub B21 pAP4)).toList.drop 5).take 1), [.any (opsOf (sub B21 pAP4)) 4 [5, 4, 2, 7, 1, 6, 3, 0]], [(1, .lp 0 0), (2, .lp 1 0), (5, .sl A1 n c1), (7, .ls 2 0 1 1), (10, .sl A n cap)], [((cwAP g s k sz sl of gp lt ea d wk A n cap), 28), (zAP0, 28), (zAP1, 41)]⟩ ?_
     refine At.app (26) (41) (10) (88) (A1) (n) (c1) (1) (zAP1) _ _ _ _ ([.int .i64 0, .int .i64 0, .string (ByteArray.mk #[]), .int .i64 0, .int .i64 0, .int .i64 0, .int .i64 0, .int .i64 0, .int .i64 4242, .int IntKind.u32 0]) (by kernel_rfl) (fun ρ => by kernel_rfl) (by first | omega | (simp only [Go.maxLen]; omega)) (by first | omega | (simp only [Go.maxLen]; omega)) (by first | omega | (simp only [Go.maxLen]; omega)) fun A0 c0 => ?_
     refine zT RowF.stable RowF.fewer [1, 2, 8, 11] 2 ⟨.ops (opsOf (sub B21 pAP4)) (((opsOf (sub B21 pAP4)).toList.drop 9).take 1), [.any (opsOf (sub B21 pAP4)) 2 [9, 8, 5, 4, 2, 7, 1, 6, 3, 0]], [(1, .lp 0 0), (2, .lp 1 0), (8, .sl A0 (n + 1) c0), (11, .io .i64 (↑n : Int))], [((cwAP g s k sz sl of gp lt ea d wk A n cap), 28), (zAP0, 28)]⟩ ?_
     refine At.slx A0 (n + 1) c0 none (n : Int) 10 (.sl A0 n c0) (by kernel_rfl) RowF.stable (by decide) (by simp) (fun ρ w1 _ hf => ⟨by have := capRow hf.1.1 (by omega); omega, by simp [SV.den, mapadd0]⟩) ?_
     refine zT RowF.stable RowF.fewer [1, 2] 2 ⟨.exit .normal, [], [(1, .lp 0 0), (2, .lp 1 0)], [((cwAP g s k sz sl of gp lt ea d wk A0 n c0), 28), (zAP0, 28)]⟩ ?_
     exact At.fin (A0, c0) rfl rfl (by unfold subFr; kernel_rfl) (by kernel_rfl) (fun ρ a w1 hi h => h)
    refine zT RowF.stable RowF.fewer [1, 2, 5, 7, 11] 3 ⟨.ops (opsOf (sub B21 pAP4)) (((opsOf (sub B21 pAP4)).toList.drop 5).take 1), [.any (opsOf (sub B21 pAP4)) 3 [5, 8, 4, 2, 7, 1, 6, 3, 0]], [(1, .lp 0 0), (2, .lp 1 0), (5, .sl A1 n c1), (7, .ls 2 0 1 1), (11, .io .i64 (↑n : Int))], [((cwAP g s k sz sl of gp lt ea d wk A n cap), 28), (zAP0, 28), (zAP1, 41)]⟩ ?_
    refine At.app (26) (41) (10) (88) (A1) (n) (c1) (1) (zAP1) _ _ _ _ ([.int .i64 0, .int .i64 0, .string (ByteArray.mk #[]), .int .i64 0, .int .i64 0, .int .i64 0, .int .i64 0, .int .i64 0, .int .i64 4242, .int IntKind.u32 0]) (by kernel_rfl) (fun ρ => by kernel_rfl) (by first | omega | (simp only [Go.maxLen]; omega)) (by first | omega | (simp only [Go.maxLen]; omega)) (by first | omega | (simp only [Go.maxLen]; omega)) fun A1 c1 => ?_
    refine zT RowF.stable RowF.fewer [1, 2, 8, 11] 2 ⟨.ops (opsOf (sub B21 pAP4)) (((opsOf (sub B21 pAP4)).toList.drop 9).take 1), [.any (opsOf (sub B21 pAP4)) 2 [9, 5, 8, 4, 2, 7, 1, 6, 3, 0]], [(1, .lp 0 0), (2, .lp 1 0), (8, .sl A1 (n + 1) c1), (11, .io .i64 (↑n : Int))], [((cwAP g s k sz sl of gp lt ea d wk A n cap), 28), (zAP0, 28)]⟩ ?_
    refine At.slx A1 (n + 1) c1 none (n : Int) 10 (.sl A1 n c1) (by kernel_rfl) RowF.stable (by decide) (by simp) (fun ρ w1 _ hf => ⟨by have := capRow hf.1.1 (by omega); omega, by simp [SV.den, mapadd0]⟩) ?_
    refine zT RowF.stable RowF.fewer [1, 2] 2 ⟨.exit .normal, [], [(1, .lp 0 0), (2, .lp 1 0)], [((cwAP g s k sz sl of gp lt ea d wk A1 n c1), 28), (zAP0, 28)]⟩ ?_
    exact At.fin (A1, c1) rfl rfl (by unfold subFr; kernel_rfl) (by kernel_rfl) (fun ρ a w1 hi h => h)
   refine zT RowF.stable RowF.fewer [1, 2, 5, 7, 11] 3 ⟨.ops (opsOf (sub B21 pAP4)) (((opsOf (sub B21 pAP4)).toList.drop 5).take 1), [.any (opsOf (sub B21 pAP4)) 3 [5, 4, 8, 2, 7, 1, 6, 3, 0]], [(1, .lp 0 0), (2, .lp 1 0), (5, .sl A1 n c1), (7, .ls 2 0 1 1), (11, .io .i64 (↑n : Int))], [((cwAP g s k sz sl of gp lt ea d wk A n cap), 28), (zAP0, 28), (zAP1, 41)]⟩ ?_
   refine At.app (26) (41) (10) (88) (A1) (n) (c1) (1) (zAP1) _ _ _ _ ([.int .i64 0, .int .i64 0, .string (ByteArray.mk #[]), .int .i64 0, .int .i64 0, .int .i64 0, .int .i64 0, .int .i64 0, .int .i64 4242, .int IntKind.u32 0]) (by kernel_rfl) (fun ρ => by kernel_rfl) (by first | omega | (simp only [Go.maxLen]; omega)) (by first | omega | (simp only [Go.maxLen]; omega)) (by first | omega | (simp only [Go.maxLen]; omega)) fun A2 c2 => ?_
   refine zT RowF.stable RowF.fewer [1, 2, 8, 11] 2 ⟨.ops (opsOf (sub B21 pAP4)) (((opsOf (sub B21 pAP4)).toList.drop 9).take 1), [.any (opsOf (sub B21 pAP4)) 2 [9, 5, 4, 8, 2, 7, 1, 6, 3, 0]], [(1, .lp 0 0), (2, .lp 1 0), (8, .sl A2 (n + 1) c2), (11, .io .i64 (↑n : Int))], [((cwAP g s k sz sl of gp lt ea d wk A n cap), 28), (zAP0, 28)]⟩ ?_
   refine At.slx A2 (n + 1) c2 none (n : Int) 10 (.sl A2 n c2) (by kernel_rfl) RowF.stable (by decide) (by simp) (fun ρ w1 _ hf => ⟨by have := capRow hf.1.1 (by omega); omega, by simp [SV.den, mapadd0]⟩) ?_
   refine zT RowF.stable RowF.fewer [1, 2] 2 ⟨.exit .normal, [], [(1, .lp 0 0), (2, .lp 1 0)], [((cwAP g s k sz sl of gp lt ea d wk A2 n c2), 28), (zAP0, 28)]⟩ ?_
   exact At.fin (A2, c2) rfl rfl (by unfold subFr; kernel_rfl) (by kernel_rfl) (fun ρ a w1 hi h => h)
  ·refine zT RowF.stable RowF.fewer [1, 2, 4, 7, 10] 3 ⟨.any (opsOf (sub B21 pAP4)) 6 [4, 7, 1, 6, 3, 0], [], [(1, .lp 0 0), (2, .lp 1 0), (4, .sl A n cap), (7, .ls 2 0 1 1), (10, .sl A n cap)], [((cwAP g s k sz sl of gp lt ea d wk A n cap), 28), (zAP0, 28), (zAP1, 41)]⟩ ?_
   refine At.fork [2, 8] rfl (by kernel_rfl) rfl (allOf.cons ?_ (allOf.cons ?_ allOf.nil))
   ·refine zT RowF.stable RowF.fewer [1, 2, 4, 7, 10] 3 ⟨.ops (opsOf (sub B21 pAP4)) (((opsOf (sub B21 pAP4)).toList.drop 2).take 1), [.any (opsOf (sub B21 pAP4)) 5 [2, 4, 7, 1, 6, 3, 0]], [(1, .lp 0 0), (2, .lp 1 0), (4, .sl A n cap), (7, .ls 2 0 1 1), (10, .sl A n cap)], [((cwAP g s k sz sl of gp lt ea d wk A n cap), 28), (zAP0, 28), (zAP1, 41)]⟩ ?_
    refine At.appAny 41 10 88 none 0 0 A n cap (fun _ => False) [] w.heap.size [] (stW xs) (by kernel_rfl) (by rw [stW_len, hl]) (stW_one xs) (fun e => by rw [hl, hS.2.1 e]; rfl) (fun b hb ρ w1 hm => (hS.below hm.below).2.2 b hb) (by omega) (by simp only [maxLen]; omega) (Nat.le_refl _) (fun A1 c1 => ?_)
    rw [Nat.zero_add, List.nil_append]
    refine zT RowF.stable RowF.fewer [1, 2, 5, 7, 10] 3 ⟨.any (opsOf (sub B21 pAP4)) 5 [2, 4, 7, 1, 6, 3, 0], [], [(1, .lp 0 0), (2, .lp 1 0), (5, .sl A1 n c1), (7, .ls 2 0 1 1), (10, .sl A n cap)], [((cwAP g s k sz sl of gp lt ea d wk A n cap), 28), (zAP0, 28), (zAP1, 41)]⟩ ?_
    refine At.fork [5, 8] rfl (by kernel_rfl) rfl (allOf.cons ?_ (allOf.cons ?_ allOf.nil))
    ·refine zT RowF.stable RowF.fewer [1, 2, 5, 7, 10] 3 ⟨.ops (opsOf (sub B21 pAP4)) (((opsOf (sub B21 pAP4)).toList.drop 5).take 1), [.any (opsOf (sub B21 pAP4)) 4 [5, 2, 4, 7, 1, 6, 3, 0]], [(1, .lp 0 0), (2, .lp 1 0), (5, .sl A1 n c1), (7, .ls 2 0 1 1), (10, .sl A n cap)], [((cwAP g s k sz sl of gp lt ea d wk A n cap), 28), (zAP0, 28), (zAP1, 41)]⟩ ?_
     refine At.app (26) (41) (10) (88) (A1) (n) (c1) (1) (zAP1) _ _ _ _ ([.int .i64 0, .int .i64 0, .string (ByteArray.mk #[]), .int .i64 0, .int .i64 0, .int .i64 0, .int .i64 0, .int .i64 0, .int .i64 4242, .int IntKind.u32 0]) (by kernel_rfl) (fun ρ => by kernel_rfl) (by first | omega | (simp only [Go.maxLen]; omega)) (by first | omega | (simp only [Go.maxLen]; omega)) (by first | omega | (simp only [Go.maxLen]; omega)) fun A0 c0 => ?_
     refine zT RowF.stable RowF.fewer [1, 2, 8, 11] 2 ⟨.ops (opsOf (sub B21 pAP4)) (((opsOf (sub B21 pAP4)).toList.drop 9).take 1), [.any (opsOf (sub B21 pAP4)) 2 [9, 8, 5, 2, 4, 7, 1, 6, 3, 0]], [(1, .lp 0 0), (2, .lp 1 0), (8, .sl A0 (n + 1) c0), (11, .io .i64 (↑n : Int))], [((cwAP g s k sz sl of gp lt ea d wk A n cap), 28), (zAP0, 28)]⟩ ?_
     refine At.slx A0 (n + 1) c0 none (n : Int) 10 (.sl A0 n c0) (by kernel_rfl) RowF.stable (by decide) (by simp) (fun ρ w1 _ hf => ⟨by have := capRow hf.1.1 (by omega); omega, by simp [SV.den, mapadd0]⟩) ?_
     refine zT RowF.stable RowF.fewer [1, 2] 2 ⟨.exit .normal, [], [(1, .lp 0 0), (2, .lp 1 0)], [((cwAP g s k sz sl of gp lt ea d wk A0 n c0), 28), (zAP0, 28)]⟩ ?_
     exact At.fin (A0, c0) rfl rfl (by unfold subFr; kernel_rfl) (by kernel_rfl) (fun ρ a w1 hi h => h)
    refine zT RowF.stable RowF.fewer [1, 2, 5, 7, 11] 3 ⟨.ops (opsOf (sub B21 pAP4)) (((opsOf (sub B21 pAP4)).toList.drop 5).take 1), [.any (opsOf (sub B21 pAP4)) 3 [5, 8, 2, 4, 7, 1, 6, 3, 0]], [(1, .lp 0 0), (2, .lp 1 0), (5, .sl A1 n c1), (7, .ls 2 0 1 1), (11, .io .i64 (↑n : Int))], [((cwAP g s k sz sl of gp lt ea d wk A n cap), 28), (zAP0, 28), (zAP1, 41)]⟩ ?_
    refine At.app (26) (41) (10) (88) (A1) (n) (c1) (1) (zAP1) _ _ _ _ ([.int .i64 0, .int .i64 0, .string (ByteArray.mk #[]), .int .i64 0, .int .i64 0, .int .i64 0, .int .i64 0, .int .i64 0, .int .i64 4242, .int IntKind.u32 0]) (by kernel_rfl) (fun ρ => by kernel_rfl) (by first | omega | (simp only [Go.maxLen]; omega)) (by first | omega | (simp only [Go.maxLen]; omega)) (by first | omega | (simp only [Go.maxLen]; omega)) fun A1 c1 => ?_
    refine zT RowF.stable RowF.fewer [1, 2, 8, 11] 2 ⟨.ops (opsOf (sub B21 pAP4)) (((opsOf (sub B21 pAP4)).toList.drop 9).take 1), [.any (opsOf (sub B21 pAP4)) 2 [9, 5, 8, 2, 4, 7, 1, 6, 3, 0]], [(1, .lp 0 0), (2, .lp 1 0), (8, .sl A1 (n + 1) c1), (11, .io .i64 (↑n : Int))], [((cwAP g s k sz sl of gp lt ea d wk A n cap), 28), (zAP0, 28)]⟩ ?_
    refine At.slx A1 (n + 1) c1 none (n : Int) 10 (.sl A1 n c1) (by kernel_rfl) RowF.stable (by decide) (by simp) (fun ρ w1 _ hf => ⟨by have := capRow hf.1.1 (by omega); omega, by simp [SV.den, mapadd0]⟩) ?_
    refine zT RowF.stable RowF.fewer [1, 2] 2 ⟨.exit .normal, [], [(1, .lp 0 0), (2, .lp 1 0)], [((cwAP g s k sz sl of gp lt ea d wk A1 n c1), 28), (zAP0, 28)]⟩ ?_
    exact At.fin (A1, c1) rfl rfl (by unfold subFr; kernel_rfl) (by kernel_rfl) (fun ρ a w1 hi h => h)
   refine zT RowF.stable RowF.fewer [1, 2, 4, 7, 11] 3 ⟨.ops (opsOf (sub B21 pAP4)) (((opsOf (sub B21 pAP4)).toList.drop 2).take 1), [.any (opsOf (sub B21 pAP4)) 4 [2, 8, 4, 7, 1, 6, 3, 0]], [(1, .lp 0 0), (2, .lp 1 0), (4, .sl A n cap), (7, .ls 2 0 1 1), (11, .io .i64 (↑n : Int))], [((cwAP g s k sz sl of gp lt ea d wk A n cap), 28), (zAP0, 28), (zAP1, 41)]⟩ ?_
   refine At.appAny 41 10 88 none 0 0 A n cap (fun _ => False) [] w.heap.size [] (stW xs) (by kernel_rfl) (by rw [stW_len, hl]) (stW_one xs) (fun e => by rw [hl, hS.2.1 e]; rfl) (fun b hb ρ w1 hm => (hS.below hm.below).2.2 b hb) (by omega) (by simp only [maxLen]; omega) (Nat.le_refl _) (fun A1 c1 => ?_)
   rw [Nat.zero_add, List.nil_append]
   refine zT RowF.stable RowF.fewer [1, 2, 5, 7, 11] 3 ⟨.ops (opsOf (sub B21 pAP4)) (((opsOf (sub B21 pAP4)).toList.drop 5).take 1), [.any (opsOf (sub B21 pAP4)) 3 [5, 2, 8, 4, 7, 1, 6, 3, 0]], [(1, .lp 0 0), (2, .lp 1 0), (5, .sl A1 n c1), (7, .ls 2 0 1 1), (11, .io .i64 (↑n : Int))], [((cwAP g s k sz sl of gp lt ea d wk A n cap), 28), (zAP0, 28), (zAP1, 41)]⟩ ?_
   refine At.app (26) (41) (10) (88) (A1) (n) (c1) (1) (zAP1) _ _ _ _ ([.int .i64 0, .int .i64 0, .string (ByteArray.mk #[]), .int .i64 0, .int .i64 0, .int .i64 0, .int .i64 0, .int .i64 0, .int .i64 4242, .int IntKind.u32 0]) (by kernel_rfl) (fun ρ => by kernel_rfl) (by first | omega | (simp only [Go.maxLen]; omega)) (by first | omega | (simp only [Go.maxLen]; omega)) (by first | omega | (simp only [Go.maxLen]; omega)) fun A0 c0 => ?_
   refine zT RowF.stable RowF.fewer [1, 2, 8, 11] 2 ⟨.ops (opsOf (sub B21 pAP4)) (((opsOf (sub B21 pAP4)).toList.drop 9).take 1), [.any (opsOf (sub B21 pAP4)) 2 [9, 5, 2, 8, 4, 7, 1, 6, 3, 0]], [(1, .lp 0 0), (2, .lp 1 0), (8, .sl A0 (n + 1) c0), (11, .io .i64 (↑n : Int))], [((cwAP g s k sz sl of gp lt ea d wk A n cap), 28), (zAP0, 28)]⟩ ?_
   refine At.slx A0 (n + 1) c0 none (n : Int) 10 (.sl A0 n c0) (by kernel_rfl) RowF.stable (by decide) (by simp) (fun ρ w1 _ hf => ⟨by have := capRow hf.1.1 (by omega); omega, by simp [SV.den, mapadd0]⟩) ?_
   refine zT RowF.stable RowF.fewer [1, 2] 2 ⟨.exit .normal, [], [(1, .lp 0 0), (2, .lp 1 0)], [((cwAP g s k sz sl of gp lt ea d wk A0 n c0), 28), (zAP0, 28)]⟩ ?_
   exact At.fin (A0, c0) rfl rfl (by unfold subFr; kernel_rfl) (by kernel_rfl) (fun ρ a w1 hi h => h)
  refine zT RowF.stable RowF.fewer [1, 2, 4, 6, 11] 2 ⟨.any (opsOf (sub B21 pAP4)) 6 [8, 7, 1, 6, 3, 0], [], [(1, .lp 0 0), (2, .lp 1 0), (4, .sl A n cap), (6, .agg zAP1), (11, .io .i64 (↑n : Int))], [((cwAP g s k sz sl of gp lt ea d wk A n cap), 28), (zAP0, 28)]⟩ ?_
  refine At.fork [2, 4] rfl (by kernel_rfl) rfl (allOf.cons ?_ (allOf.cons ?_ allOf.nil))
  ·refine zT RowF.stable RowF.fewer [1, 2, 4, 6, 11] 2 ⟨.ops (opsOf (sub B21 pAP4)) (((opsOf (sub B21 pAP4)).toList.drop 2).take 1), [.any (opsOf (sub B21 pAP4)) 5 [2, 8, 7, 1, 6, 3, 0]], [(1, .lp 0 0), (2, .lp 1 0), (4, .sl A n cap), (6, .agg zAP1), (11, .io .i64 (↑n : Int))], [((cwAP g s k sz sl of gp lt ea d wk A n cap), 28), (zAP0, 28)]⟩ ?_
   refine At.appAny 41 10 88 none 0 0 A n cap (fun _ => False) [] w.heap.size [] (stW xs) (by kernel_rfl) (by rw [stW_len, hl]) (stW_one xs) (fun e => by rw [hl, hS.2.1 e]; rfl) (fun b hb ρ w1 hm => (hS.below hm.below).2.2 b hb) (by omega) (by simp only [maxLen]; omega) (Nat.le_refl _) (fun A1 c1 => ?_)
   rw [Nat.zero_add, List.nil_append]
   refine zT RowF.stable RowF.fewer [1, 2, 5, 7, 11] 3 ⟨.ops (opsOf (sub B21 pAP4)) (((opsOf (sub B21 pAP4)).toList.drop 5).take 1), [.any (opsOf (sub B21 pAP4)) 3 [5, 4, 2, 8, 7, 1, 6, 3, 0]], [(1, .lp 0 0), (2, .lp 1 0), (5, .sl A1 n c1), (7, .ls 2 0 1 1), (11, .io .i64 (↑n : Int))], [((cwAP g s k sz sl of gp lt ea d wk A n cap), 28), (zAP0, 28), (zAP1, 41)]⟩ ?_
   refine At.app (26) (41) (10) (88) (A1) (n) (c1) (1) (zAP1) _ _ _ _ ([.int .i64 0, .int .i64 0, .string (ByteArray.mk #[]), .int .i64 0, .int .i64 0, .int .i64 0, .int .i64 0, .int .i64 0, .int .i64 4242, .int IntKind.u32 0]) (by kernel_rfl) (fun ρ => by kernel_rfl) (by first | omega | (simp only [Go.maxLen]; omega)) (by first | omega | (simp only [Go.maxLen]; omega)) (by first | omega | (simp only [Go.maxLen]; omega)) fun A0 c0 => ?_
   refine zT RowF.stable RowF.fewer [1, 2, 8, 11] 2 ⟨.ops (opsOf (sub B21 pAP4)) (((opsOf (sub B21 pAP4)).toList.drop 9).take 1), [.any (opsOf (sub B21 pAP4)) 2 [9, 5, 4, 2, 8, 7, 1, 6, 3, 0]], [(1, .lp 0 0), (2, .lp 1 0), (8, .sl A0 (n + 1) c0), (11, .io .i64 (↑n : Int))], [((cwAP g s k sz sl of gp lt ea d wk A n cap), 28), (zAP0, 28)]⟩ ?_
   refine At.slx A0 (n + 1) c0 none (n : Int) 10 (.sl A0 n c0) (by kernel_rfl) RowF.stable (by decide) (by simp) (fun ρ w1 _ hf => ⟨by have := capRow hf.1.1 (by omega); omega, by simp [SV.den, mapadd0]⟩) ?_
   refine zT RowF.stable RowF.fewer [1, 2] 2 ⟨.exit .normal, [], [(1, .lp 0 0), (2, .lp 1 0)], [((cwAP g s k sz sl of gp lt ea d wk A0 n c0), 28), (zAP0, 28)]⟩ ?_
   exact At.fin (A0, c0) rfl rfl (by unfold subFr; kernel_rfl) (by kernel_rfl) (fun ρ a w1 hi h => h)
  refine zT RowF.stable RowF.fewer [1, 2, 4, 7, 11] 3 ⟨.ops (opsOf (sub B21 pAP4)) (((opsOf (sub B21 pAP4)).toList.drop 2).take 1), [.any (opsOf (sub B21 pAP4)) 4 [2, 4, 8, 7, 1, 6, 3, 0]], [(1, .lp 0 0), (2, .lp 1 0), (4, .sl A n cap), (7, .ls 2 0 1 1), (11, .io .i64 (↑n : Int))], [((cwAP g s k sz sl of gp lt ea d wk A n cap), 28), (zAP0, 28), (zAP1, 41)]⟩ ?_
  refine At.appAny 41 10 88 none 0 0 A n cap (fun _ => False) [] w.heap.size [] (stW xs) (by kernel_rfl) (by rw [stW_len, hl]) (stW_one xs) (fun e => by rw [hl, hS.2.1 e]; rfl) (fun b hb ρ w1 hm => (hS.below hm.below).2.2 b hb) (by omega) (by simp only [maxLen]; omega) (Nat.le_refl _) (fun A1 c1 => ?_)
  rw [Nat.zero_add, List.nil_append]
  refine zT RowF.stable RowF.fewer [1, 2, 5, 7, 11] 3 ⟨.ops (opsOf (sub B21 pAP4)) (((opsOf (sub B21 pAP4)).toList.drop 5).take 1), [.any (opsOf (sub B21 pAP4)) 3 [5, 2, 4, 8, 7, 1, 6, 3, 0]], [(1, .lp 0 0), (2, .lp 1 0), (5, .sl A1 n c1), (7, .ls 2 0 1 1), (11, .io .i64 (↑n : Int))], [((cwAP g s k sz sl of gp lt ea d wk A n cap), 28), (zAP0, 28), (zAP1, 41)]⟩ ?_
  refine At.app (26) (41) (10) (88) (A1) (n) (c1) (1) (zAP1) _ _ _ _ ([.int .i64 0, .int .i64 0, .string (ByteArray.mk #[]), .int .i64 0, .int .i64 0, .int .i64 0, .int .i64 0, .int .i64 0, .int .i64 4242, .int IntKind.u32 0]) (by kernel_rfl) (fun ρ => by kernel_rfl) (by first | omega | (simp only [Go.maxLen]; omega)) (by first | omega | (simp only [Go.maxLen]; omega)) (by first | omega | (simp only [Go.maxLen]; omega)) fun A0 c0 => ?_
  refine zT RowF.stable RowF.fewer [1, 2, 8, 11] 2 ⟨.ops (opsOf (sub B21 pAP4)) (((opsOf (sub B21 pAP4)).toList.drop 9).take 1), [.any (opsOf (sub B21 pAP4)) 2 [9, 5, 2, 4, 8, 7, 1, 6, 3, 0]], [(1, .lp 0 0), (2, .lp 1 0), (8, .sl A0 (n + 1) c0), (11, .io .i64 (↑n : Int))], [((cwAP g s k sz sl of gp lt ea d wk A n cap), 28), (zAP0, 28)]⟩ ?_
  refine At.slx A0 (n + 1) c0 none (n : Int) 10 (.sl A0 n c0) (by kernel_rfl) RowF.stable (by decide) (by simp) (fun ρ w1 _ hf => ⟨by have := capRow hf.1.1 (by omega); omega, by simp [SV.den, mapadd0]⟩) ?_
  refine zT RowF.stable RowF.fewer [1, 2] 2 ⟨.exit .normal, [], [(1, .lp 0 0), (2, .lp 1 0)], [((cwAP g s k sz sl of gp lt ea d wk A0 n c0), 28), (zAP0, 28)]⟩ ?_
  exact At.fin (A0, c0) rfl rfl (by unfold subFr; kernel_rfl) (by kernel_rfl) (fun ρ a w1 hi h => h)
 refine zT RowF.stable RowF.fewer [2] 2 ⟨.exit .ret, [], [(2, .lp 1 0)], [([.io .i64 g, .io .i64 s, .io .i64 k, .io .i64 sz, .io .i64 sl, .io .i64 of, .io .i64 gp, .io .i64 lt, .io .i64 ea, .bo d, .io .i64 wk, .sl x.fst n x.snd], 28), ([.io .i64 g, .io .i64 s, .io .i64 k, .io .i64 sz, .io .i64 sl, .io .i64 of, .io .i64 gp, .io .i64 lt, .io .i64 ea, .bo d, .io .i64 wk, .sl x.fst n x.snd], 28)]⟩ ?_
 refine zE (.agg [.io .i64 g, .io .i64 s, .io .i64 k, .io .i64 sz, .io .i64 sl, .io .i64 of, .io .i64 gp, .io .i64 lt, .io .i64 ea, .bo d, .io .i64 wk, .sl x.fst n x.snd]) ?_
 intro ρ w9 hm' hf
 exact ⟨x.1, n + 1, x.2, rfl, RowF.fewer _ _ 0 (Nat.zero_le _) hf⟩
end Go.Proofs.YthfpekhpeiebjaaGreatDoor
end
section
namespace Go.Proofs.YthfpekhpeiebjaaGreatDoor
open Go.RowKit Go.Sx
noncomputable def B11 : Code := (Tryz.f11.body).getD .skip
theorem cf_beq (ga sa ka sza sla ofa gpa lta eaa gb sb kb szb slb ofb gpb ltb eab : Int) (da db : Bool) : (ga == gb && (sa == sb && (ka == kb && (sza == szb && (sla == slb && (ofa == ofb && (gpa == gpb && (lta == ltb && (eaa == eab && (da == db && true)))))))))) = decide (((Cf.mk ga sa ka sza sla ofa gpa lta eaa da) : Cf) = (Cf.mk gb sb kb szb slb ofb gpb ltb eab db)) := by
 rw [Bool.eq_iff_iff]
 simp [and_assoc]
theorem cf_ne {ga sa ka sza sla ofa gpa lta eaa gb sb kb szb slb ofb gpb ltb eab : Int} {da db : Bool} (h : (!(ga == gb && (sa == sb && (ka == kb && (sza == szb && (sla == slb && (ofa == ofb && (gpa == gpb && (lta == ltb && (eaa == eab && (da == db && true))))))))))) = true) : ((Cf.mk ga sa ka sza sla ofa gpa lta eaa da) : Cf) ≠ (Cf.mk gb sb kb szb slb ofb gpb ltb eab db) := fun e => by
 rw [cf_beq, decide_eq_true e] at h
 cases h
theorem cf_eq {ga sa ka sza sla ofa gpa lta eaa gb sb kb szb slb ofb gpb ltb eab : Int} {da db : Bool} (h : (!(ga == gb && (sa == sb && (ka == kb && (sza == szb && (sla == slb && (ofa == ofb && (gpa == gpb && (lta == ltb && (eaa == eab && (da == db && true))))))))))) = false) : ((Cf.mk ga sa ka sza sla ofa gpa lta eaa da) : Cf) = (Cf.mk gb sb kb szb slb ofb gpb ltb eab db) := by
 rw [cf_beq] at h
 exact of_decide_eq_true (by simpa only [Bool.not_eq_false'] using h)
theorem st_beq (kda ika tia va srca wka wksa bita maska kdb ikb tib vb srcb wkb wksb bitb maskb : Int) (keya keyb : List UInt8) : (kda == kdb && ((ika == ikb && ((mkB keya).toList == (mkB keyb).toList && (tia == tib && (va == vb && (srca == srcb && true))))) && (wka == wkb && (wksa == wksb && (bita == bitb && (maska == maskb && true)))))) = decide (((St.mk kda ika keya tia va srca wka wksa bita maska) : St) = (St.mk kdb ikb keyb tib vb srcb wkb wksb bitb maskb)) := by
 rw [Bool.eq_iff_iff, str_beq]
 simp [and_assoc]
theorem st_ne {kda ika tia va srca wka wksa bita maska kdb ikb tib vb srcb wkb wksb bitb maskb : Int} {keya keyb : List UInt8} (h : (!(kda == kdb && ((ika == ikb && ((mkB keya).toList == (mkB keyb).toList && (tia == tib && (va == vb && (srca == srcb && true))))) && (wka == wkb && (wksa == wksb && (bita == bitb && (maska == maskb && true))))))) = true) : ((St.mk kda ika keya tia va srca wka wksa bita maska) : St) ≠ (St.mk kdb ikb keyb tib vb srcb wkb wksb bitb maskb) := fun e => by
 rw [st_beq, decide_eq_true e] at h
 cases h
theorem st_eq {kda ika tia va srca wka wksa bita maska kdb ikb tib vb srcb wkb wksb bitb maskb : Int} {keya keyb : List UInt8} (h : (!(kda == kdb && ((ika == ikb && ((mkB keya).toList == (mkB keyb).toList && (tia == tib && (va == vb && (srca == srcb && true))))) && (wka == wkb && (wksa == wksb && (bita == bitb && (maska == maskb && true))))))) = false) : ((St.mk kda ika keya tia va srca wka wksa bita maska) : St) = (St.mk kdb ikb keyb tib vb srcb wkb wksb bitb maskb) := by
 rw [st_beq] at h
 exact of_decide_eq_true (by simpa only [Bool.not_eq_false'] using h)
def frS (i : Nat) : Fr := [(2, .lp 0 0), (3, .lp 1 0), (5, .io .i64 (i : Int))]
def locS (c : Cf) (wk : Int) (A : Option Addr) (n cap : Nat) (c2 : Cf) (wk2 : Int) (B : Option Addr) (m cap2 : Nat) (_ : Nat) : Sx.Loc := match c, c2 with
 | (Cf.mk ga sa ka sza sla ofa gpa lta eaa da), (Cf.mk gb sb kb szb slb ofb gpb ltb eab db) => [((cwAP ga sa ka sza sla ofa gpa lta eaa da wk A n cap), 28), ((cwAP gb sb kb szb slb ofb gpb ltb eab db wk2 B m cap2), 28)]
set_option maxHeartbeats 8000000 in
set_option maxRecDepth 100000 in
theorem same_go (ga sa ka sza sla ofa gpa lta eaa : Int) (da : Bool) (wka : Int) (A : Option Addr) (n ca : Nat) (xs : List St) (gb sb kb szb slb ofb gpb ltb eab : Int) (db : Bool) (wkb : Int) (B : Option Addr) (m cb : Nat) (ys : List St) (w : World) (hS : SlS w A n xs) (hT : SlS w B m ys) (hn : n ≤ 1048576) (hm2 : m ≤ 1048576) :
  Calls Tryz.prog 11 #[.agg #[.int .i64 ga, .int .i64 sa, .int .i64 ka, .int .i64 sza, .int .i64 sla, .int .i64 ofa, .int .i64 gpa, .int .i64 lta, .int .i64 eaa, .bool da, .int .i64 wka, .slice A n ca], .agg #[.int .i64 gb, .int .i64 sb, .int .i64 kb, .int .i64 szb, .int .i64 slb, .int .i64 ofb, .int .i64 gpb, .int .i64 ltb, .int .i64 eab, .bool db, .int .i64 wkb, .slice B m cb]] w fun e w' => e = .returned (.bool (decide (((Cf.mk ga sa ka sza sla ofa gpa lta eaa da) : Cf) = (Cf.mk gb sb kb szb slb ofb gpb ltb eab db) ∧ wka = wkb ∧ xs = ys))) ∧ Below w.heap.size w w' := by
 refine enter (fn := Tryz.f11) (c := B11) [.agg (cwAP ga sa ka sza sla ofa gpa lta eaa da wka A n ca), .agg (cwAP gb sb kb szb slb ofb gpb ltb eab db wkb B m cb)] Tryz.func11 rfl rfl ?_
 refine zNq [2, 3, 11] 2 ?_
 rcases Bool.eq_false_or_eq_true (!(ga == gb && (sa == sb && (ka == kb && (sza == szb && (sla == slb && (ofa == ofb && (gpa == gpb && (lta == ltb && (eaa == eab && (da == db && true))))))))))) with b0 | b0
 ·refine zR 11 b0 ?_
  refine zN [4] 0 ⟨.exit .ret, [], [(4, .v (.bool false))], []⟩ ?_
  refine zE (.v (.bool false)) ?_
  have hne : (Cf.mk ga sa ka sza sla ofa gpa lta eaa da) ≠ (Cf.mk gb sb kb szb slb ofb gpb ltb eab db) := cf_ne b0
  rw [show decide ((Cf.mk ga sa ka sza sla ofa gpa lta eaa da) = (Cf.mk gb sb kb szb slb ofb gpb ltb eab db) ∧ wka = wkb ∧ xs = ys) = false from decide_eq_false fun ⟨e1, e2, e3⟩ => hne e1]
  intro ρ w9 hm' hf
  exact ⟨rfl, hm'.below⟩
 refine zR 11 b0 ?_
 refine zN [2, 3, 18] 2 ⟨pops B11 [1, 0, 0] 13, [.seq (sub B11 [1, 0, 1]), .seq (sub B11 [1, 1])], [(2, .lp 0 0), (3, .lp 1 0), (18, .bo (wka != wkb))], [((cwAP ga sa ka sza sla ofa gpa lta eaa da wka A n ca), 28), ((cwAP gb sb kb szb slb ofb gpb ltb eab db wkb B m cb), 28)]⟩ ?_
 rcases Bool.eq_false_or_eq_true (wka != wkb) with b1 | b1
 ·refine zR 18 b1 ?_
  refine zN [4] 0 ⟨.exit .ret, [], [(4, .v (.bool false))], []⟩ ?_
  refine zE (.v (.bool false)) ?_
  have hne : wka ≠ wkb := by simpa using b1
  rw [show decide ((Cf.mk ga sa ka sza sla ofa gpa lta eaa da) = (Cf.mk gb sb kb szb slb ofb gpb ltb eab db) ∧ wka = wkb ∧ xs = ys) = false from decide_eq_false fun ⟨e1, e2, e3⟩ => hne e2]
  intro ρ w9 hm' hf
  exact ⟨rfl, hm'.below⟩
 refine zR 18 b1 ?_
 refine zNq [2, 3, 26] 2 ?_
 rcases Bool.eq_false_or_eq_true ((↑n : Int) != (↑m : Int)) with b2 | b2
 ·refine zR 26 b2 ?_
  refine zN [4] 0 ⟨.exit .ret, [], [(4, .v (.bool false))], []⟩ ?_
  refine zE (.v (.bool false)) ?_
  have hne : n ≠ m := by simp at b2; omega
  rw [show decide ((Cf.mk ga sa ka sza sla ofa gpa lta eaa da) = (Cf.mk gb sb kb szb slb ofb gpb ltb eab db) ∧ wka = wkb ∧ xs = ys) = false from decide_eq_false fun ⟨e1, e2, e3⟩ => hne (by rw [hS.1, hT.1, e3])]
  intro ρ w9 hm' hf
  exact ⟨rfl, hm'.below⟩
 refine zR 26 b2 ?_
 refine zN [2, 3, 5] 2 ⟨.code (sub B11 [1, 1, 0, 1, 4]), [.block 0, .seq (sub B11 [1, 1, 1])], [(2, .lp 0 0), (3, .lp 1 0), (5, .v (.int .i64 0))], [((cwAP ga sa ka sza sla ofa gpa lta eaa da wka A n ca), 28), ((cwAP gb sb kb szb slb ofb gpb ltb eab db wkb B m cb), 28)]⟩ ?_
 have he1 : (Cf.mk ga sa ka sza sla ofa gpa lta eaa da) = (Cf.mk gb sb kb szb slb ofb gpb ltb eab db) := cf_eq b0
 have he2 : wka = wkb := by simpa using b1
 have hnm : n = m := by simp at b2; omega
 clear b0 b1 b2
 refine At.canonT [5] _ rfl ?_
 refine At.loop (σ := Nat) (sub B11 [1, 1, 0, 1, 4, 4]) frS (locS (Cf.mk ga sa ka sza sla ofa gpa lta eaa da) wka A n ca (Cf.mk gb sb kb szb slb ofb gpb ltb eab db) wkb B m cb) (fun i _ _ => True ∧ (i ≤ n ∧ ∀ k, k < i → xs[k]? = ys[k]?)) (fun i => n - i) 0 (by kernel_rfl) (by unfold subFr; kernel_rfl) (by kernel_rfl) (fun _ _ _ _ h => ⟨trivial, Nat.zero_le _, fun k hk => absurd hk (Nat.not_lt_zero k)⟩) ?_
 intro i
 refine At.pure fun ⟨h1, h2⟩ => ?_
 refine zNq [2, 3, 5, 31] 2 ?_
 rcases Bool.eq_false_or_eq_true (decide ((↑i : Int) < (↑n : Int))) with b0 | b0
 ·refine zR 31 b0 ?_
  refine zN [2, 3, 5, 35, 36] 2 ⟨pqops B11 [1, 1, 0, 1, 4, 4, 1, 0, 4, 0] 3, [.seq (sub B11 pAP2), .block 1, .seq (sub B11 pAP3), .next (Sx.Next w.heap.size w Tryz.f11.ntmps frS (locS (Cf.mk ga sa ka sza sla ofa gpa lta eaa da) wka A n ca (Cf.mk gb sb kb szb slb ofb gpb ltb eab db) wkb B m cb) (fun i x x_1 => True ∧ i ≤ n ∧ ∀ (k : Nat), k < i → xs[k]? = ys[k]?) (fun i => n - i) i), .block 0, .seq (sub B11 [1, 1, 1])], [(2, .lp 0 0), (3, .lp 1 0), (5, .io .i64 (↑i : Int)), (35, .sl A n ca), (36, .io .i64 (↑i : Int))], [((cwAP ga sa ka sza sla ofa gpa lta eaa da wka A n ca), 28), ((cwAP gb sb kb szb slb ofb gpb ltb eab db wkb B m cb), 28)]⟩ ?_
  have hi : i < n := by have := of_decide_eq_true b0; omega
  clear b0
  obtain ⟨x, hx⟩ : ∃ x, xs[i]? = some x := ⟨_, List.getElem?_eq_getElem (by rw [← hS.1]; exact hi)⟩
  obtain ⟨y, hy⟩ : ∃ y, ys[i]? = some y := ⟨_, List.getElem?_eq_getElem (by rw [← hT.1]; omega)⟩
  obtain ⟨a, rfl, hcell⟩ := hS.get hx
  obtain ⟨b, rfl, hcel2⟩ := hT.get hy
  obtain ⟨kda, ika, keya, tia, va, srca, wkc, wksa, bita, maska⟩ := x
  obtain ⟨kdb, ikb, keyb, tib, vb, srcb, wkd, wksb, bitb, maskb⟩ := y
  refine At.idx a n 10 (i : Int) (by kernel_rfl) (by omega) (by omega) noF_stable ?_
  refine At.lda (a.add ((i : Int).toNat * 10)) 10 [.io .i64 kda, .io .i64 ika, .so (mkB keya), .io .i64 tia, .io .i64 va, .io .i64 srca, .io .i64 wkc, .io .i64 wksa, .io .i64 bita, .io .u32 maska] (by kernel_rfl) rfl noF_stable (fun ρ w1 hm' hf j v2 hj => cell_below (hcell j v2 hj) hm'.below) ?_
  let kn0 : K := .next (Sx.Next w.heap.size w Tryz.f11.ntmps frS (locS (Cf.mk ga sa ka sza sla ofa gpa lta eaa da) wka (some a) n ca (Cf.mk gb sb kb szb slb ofb gpb ltb eab db) wkb (some b) m cb) (fun i x x_1 => True ∧ i ≤ n ∧ ∀ (k : Nat), k < i → xs[k]? = ys[k]?) (fun i => n - i) i)
  refine zN [2, 3, 5, 38, 40, 41] 2 ⟨pqops B11 [1, 1, 0, 1, 4, 4, 1, 0, 4, 0] 8, [.seq (sub B11 pAP2), .block 1, .seq (sub B11 pAP3), kn0, .block 0, .seq (sub B11 [1, 1, 1])], [(2, .lp 0 0), (3, .lp 1 0), (5, .io .i64 (↑i : Int)), (38, .agg [.io .i64 kda, .io .i64 ika, .so (mkB keya), .io .i64 tia, .io .i64 va, .io .i64 srca, .io .i64 wkc, .io .i64 wksa, .io .i64 bita, .io IntKind.u32 maska]), (40, .sl (some b) m cb), (41, .io .i64 (↑i : Int))], [((cwAP ga sa ka sza sla ofa gpa lta eaa da wka (some a) n ca), 28), ((cwAP gb sb kb szb slb ofb gpb ltb eab db wkb (some b) m cb), 28)]⟩ ?_
  refine At.idx b m 10 (i : Int) (by kernel_rfl) (by omega) (by omega) noF_stable ?_
  refine At.lda (b.add ((i : Int).toNat * 10)) 10 [.io .i64 kdb, .io .i64 ikb, .so (mkB keyb), .io .i64 tib, .io .i64 vb, .io .i64 srcb, .io .i64 wkd, .io .i64 wksb, .io .i64 bitb, .io .u32 maskb] (by kernel_rfl) rfl noF_stable (fun ρ w1 hm' hf j v2 hj => cell_below (hcel2 j v2 hj) hm'.below) ?_
  refine zNq [2, 3, 5, 44] 2 ?_
  rcases Bool.eq_false_or_eq_true (!(kda == kdb && (ika == ikb && ((mkB keya).toList == (mkB keyb).toList && (tia == tib && (va == vb && (srca == srcb && true)))) && (wkc == wkd && (wksa == wksb && (bita == bitb && (maska == maskb && true))))))) with b0 | b0
  ·refine zR 44 b0 ?_
   refine zN [4] 0 ⟨.exit .ret, [], [(4, .v (.bool false))], []⟩ ?_
   refine zE (.v (.bool false)) ?_
   have hne : ((St.mk kda ika keya tia va srca wkc wksa bita maska) : St) ≠ (St.mk kdb ikb keyb tib vb srcb wkd wksb bitb maskb) := st_ne b0
   rw [show decide ((Cf.mk ga sa ka sza sla ofa gpa lta eaa da) = (Cf.mk gb sb kb szb slb ofb gpb ltb eab db) ∧ wka = wkb ∧ xs = ys) = false from decide_eq_false fun ⟨e1, e2, e3⟩ => hne (by rw [e3, hy] at hx; exact (Option.some.inj hx).symm)]
   intro ρ w9 hm' hf
   exact ⟨rfl, hm'.below⟩
  refine zR 44 b0 ?_
  refine zN [2, 3, 5] 2 ⟨.exit .normal, [kn0, .block 0, .seq (sub B11 [1, 1, 1])], [(2, .lp 0 0), (3, .lp 1 0), (5, .io .i64 (IntKind.i64.wrap ((↑i : Int) + 1)))], [((cwAP ga sa ka sza sla ofa gpa lta eaa da wka (some a) n ca), 28), ((cwAP gb sb kb szb slb ofb gpb ltb eab db wkb (some b) m cb), 28)]⟩ ?_
  have heq : ((St.mk kda ika keya tia va srca wkc wksa bita maska) : St) = (St.mk kdb ikb keyb tib vb srcb wkd wksb bitb maskb) := st_eq b0
  have hw3 : IntKind.i64.wrap ((i : Int) + 1) = ((i + 1 : Nat) : Int) := by
   rw [wrap63 (by omega) (by omega)]
   omega
  rw [hw3]
  refine At.next (σ := Nat) (i + 1) rfl rfl (by unfold subFr; kernel_rfl) (by kernel_rfl) ?_ ?_
  ·intro ρ a' w' hi' hf
   refine ⟨trivial, by omega, fun k hk => ?_⟩
   by_cases hki : k = i
   ·subst hki
    rw [hx, hy, heq]
   exact h2 k (by omega)
  show n - (i + 1) < n - i
  omega
 refine zR 31 b0 ?_
 refine zN [4] 0 ⟨.exit .ret, [], [(4, .v (.bool true))], []⟩ ?_
 refine zE (.v (.bool true)) ?_
 have hi : ¬ (i : Int) < (n : Int) := of_decide_eq_false b0
 rw [show decide ((Cf.mk ga sa ka sza sla ofa gpa lta eaa da) = (Cf.mk gb sb kb szb slb ofb gpb ltb eab db) ∧ wka = wkb ∧ xs = ys) = true from decide_eq_true ⟨he1, he2, List.ext_getElem? fun k => if hk : k < i then h2 k hk else by rw [List.getElem?_eq_none (by rw [← hS.1]; omega), List.getElem?_eq_none (by rw [← hT.1]; omega)]⟩]
 intro ρ w9 hm' hf
 exact ⟨rfl, hm'.below⟩
end Go.Proofs.YthfpekhpeiebjaaGreatDoor
end
section
namespace Go.Proofs.YthfpekhpeiebjaaGreatDoor
open Go.RowKit Go.Sx
noncomputable def B25 : Code := (Tryz.f25.body).getD .skip
section
variable {P : Program} {N : Nat} {w0 : World} {ntm : Nat} {F : List Nat → World → Prop}
end
set_option maxHeartbeats 20000000 in
set_option maxRecDepth 100000 in
theorem kept_any (g s k sz sl of gp lt ea : Int) (d : Bool) (wk : Int) (a : Addr) (n c : Nat) (B : Option Addr) (cb : Nat) (xs : List St) (w : World) (hA : SlS w (some a) n xs) (hB : SlS w B n xs) (hn : n ≤ 10000) (hc : n + 1 ≤ c) (hmk : w.cell? ((a.add ((n : Int).toNat * 10)).add 8) = some (.int .i64 4242)) :
  Calls Tryz.prog 25 #[.agg #[.int .i64 g, .int .i64 s, .int .i64 k, .int .i64 sz, .int .i64 sl, .int .i64 of, .int .i64 gp, .int .i64 lt, .int .i64 ea, .bool d, .int .i64 wk, .slice (some a) n c], .agg #[.int .i64 g, .int .i64 s, .int .i64 k, .int .i64 sz, .int .i64 sl, .int .i64 of, .int .i64 gp, .int .i64 lt, .int .i64 ea, .bool d, .int .i64 wk, .slice B n cb]] w fun e w' => e = .returned (.bool true) ∧ Below w.heap.size w w' := by
 refine enter (fn := Tryz.f25) (c := B25) [.agg (cwAP g s k sz sl of gp lt ea d wk (some a) n c), .agg (cwAP g s k sz sl of gp lt ea d wk B n cb)] Tryz.func25 rfl rfl ?_
 refine zN [2, 3, 5, 6] 2 ⟨pqops B25 [1, 0] 2, [.seq (sub B25 [1, 1])], [(2, .lp 0 0), (3, .lp 1 0), (5, .agg (cwAP g s k sz sl of gp lt ea d wk (some a) n c)), (6, .agg (cwAP g s k sz sl of gp lt ea d wk B n cb))], [((cwAP g s k sz sl of gp lt ea d wk (some a) n c), 28), ((cwAP g s k sz sl of gp lt ea d wk B n cb), 28)]⟩ ?_
 refine zC noF_stable 11 [.agg (cwAP g s k sz sl of gp lt ea d wk (some a) n c), .agg (cwAP g s k sz sl of gp lt ea d wk B n cb)] (.v (.bool true)) (fun _ _ w1 hm _ => (same_go g s k sz sl of gp lt ea d wk (some a) n c xs g s k sz sl of gp lt ea d wk B n cb xs w1 (hA.below hm.mem.below) (hB.below hm.mem.below) (by omega) (by omega)).mono fun e w2 h => ⟨h.1.trans (by rw [decide_eq_true (by simp)]; rfl), h.2⟩) ?_
 refine zN [3, 8, 10, 14] 2 ⟨pqops B25 [1, 0] 10, [.seq (sub B25 [1, 1])], [(3, .lp 1 0), (8, .v (.bool true)), (10, .sl (some a) n c), (14, .io .i64 (IntKind.i64.wrap ((↑n : Int) + 1)))], [((cwAP g s k sz sl of gp lt ea d wk (some a) n c), 28), ((cwAP g s k sz sl of gp lt ea d wk B n cb), 28)]⟩ ?_
 have hw3 : IntKind.i64.wrap ((n : Int) + 1) = ((n + 1 : Nat) : Int) := by
  rw [wrap63 (by omega) (by omega)]
  omega
 rw [hw3]
 refine At.slx (some a) n c none ((n + 1 : Nat) : Int) 10 (.sl (some a) (n + 1) c) (by kernel_rfl) noF_stable (by decide) (by simp; omega) (fun ρ w1 _ hf => ⟨by omega, by simp [SV.den, Addr.add]⟩) ?_
 refine zN [8, 15, 18] 0 ⟨pqops B25 [1, 0] 14, [.seq (sub B25 [1, 1])], [(8, .v (.bool true)), (15, .sl (some a) (n + 1) c), (18, .io .i64 (↑n : Int))], []⟩ ?_
 refine At.idx a (n + 1) 10 (n : Int) (by kernel_rfl) (by omega) (by omega) noF_stable ?_
 refine At.fax (a.add ((n : Int).toNat * 10)) 8 (by kernel_rfl) noF_stable ?_
 refine At.ldx ((a.add ((n : Int).toNat * 10)).add 8) (.v (.int .i64 4242)) (by kernel_rfl) noF_stable (fun ρ w1 hm' hf => cell_below hmk hm'.below) ?_
 refine zN [4] 0 ⟨.exit .ret, [], [(4, .v (.bool true))], []⟩ ?_
 refine zE (.v (.bool true)) ?_
 intro ρ w9 hm' hf
 exact ⟨rfl, hm'.below⟩
end Go.Proofs.YthfpekhpeiebjaaGreatDoor
end
