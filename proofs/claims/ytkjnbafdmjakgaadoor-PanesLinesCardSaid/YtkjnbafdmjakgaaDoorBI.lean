import Derived.Test.YtkjnbafdmjakgaaDoorBG
import Derived.Test.YtkjnbafdmjakgaaDoorKD
set_option linter.unusedSimpArgs false
set_option linter.unusedVariables false
namespace Go.Proofs.YtkjnbafdmjakgaaDoor
open Go.RowKit Go.Sx

theorem blk {w w1 : World} {a : Nat} {o : Obj} (hb : Below w.heap.size w w1) (h : w.heap[a]? = some o) : w1.heap[a]? = some o := by
  rw [hb.block a (Array.getElem?_eq_some_iff.1 h).1]
  exact h
theorem itoa_10 : Lib.itoa 10 = [49, 48] := by
  unfold Lib.itoa
  rw [if_neg (by decide), show (10 : Int).toNat = 10 from rfl, Lib.decDigits, dif_neg (by decide), Lib.decDigits_one (by decide)]
  rfl
theorem itoa_d (n : Nat) (h : n < 10) : Lib.itoa (n : Int) = [UInt8.ofNat (48 + n)] := by
  unfold Lib.itoa
  rw [if_neg (by omega), Int.toNat_natCast, Lib.decDigits_one h]
theorem itoa_m2 : Lib.itoa (-2) = [45, 50] := by
  unfold Lib.itoa
  rw [if_pos (by decide), show (-2 : Int).natAbs = 2 from rfl, Lib.decDigits_one (by decide)]
  rfl
theorem known_line : lineB [97] 0 10 3 2 3 6 (-2) 7 = [34, 97, 34, 32, 108, 97, 116, 101, 32, 48, 32, 49, 48, 32, 50, 32, 51, 32, 54, 32, 45, 50, 32, 55] := by
  unfold lineB
  simp only [List.flatMap_cons, List.flatMap_nil, itoa_10, itoa_m2, show Lib.itoa 0 = [48] from itoa_d 0 (by decide), show Lib.itoa 2 = [50] from itoa_d 2 (by decide), show Lib.itoa 3 = [51] from itoa_d 3 (by decide), show Lib.itoa 6 = [54] from itoa_d 6 (by decide), show Lib.itoa 7 = [55] from itoa_d 7 (by decide)]
  decide
theorem known_parse : parseK [34, 97, 34, 32, 108, 97, 116, 101, 32, 48, 32, 49, 48, 32, 50, 32, 51, 32, 54, 32, 45, 50, 32, 55] = some ⟨[97], 0, 10, 3, 2, 3, 6, -2, 7⟩ := by
  have hk : keyK [34, 97, 34, 32, 108, 97, 116, 101, 32, 48, 32, 49, 48, 32, 50, 32, 51, 32, 54, 32, 45, 50, 32, 55] = some ([97], [32, 108, 97, 116, 101, 32, 48, 32, 49, 48, 32, 50, 32, 51, 32, 54, 32, 45, 50, 32, 55]) := (keyK_iff _ _ _).2 (by decide)
  have hp : pcs [] [32, 108, 97, 116, 101, 32, 48, 32, 49, 48, 32, 50, 32, 51, 32, 54, 32, 45, 50, 32, 55] = [[], [108, 97, 116, 101], [48], [49, 48], [50], [51], [54], [45, 50], [55]] := by decide
  have n0 : numK [48] = some 0 := (numK_iff _ _).2 ⟨(itoa_d 0 (by decide)).symm, by unfold in64; omega⟩
  have n1 : numK [49, 48] = some 10 := (numK_iff _ _).2 ⟨itoa_10.symm, by unfold in64; omega⟩
  have n2 : numK [50] = some 2 := (numK_iff _ _).2 ⟨(itoa_d 2 (by decide)).symm, by unfold in64; omega⟩
  have n3 : numK [51] = some 3 := (numK_iff _ _).2 ⟨(itoa_d 3 (by decide)).symm, by unfold in64; omega⟩
  have n6 : numK [54] = some 6 := (numK_iff _ _).2 ⟨(itoa_d 6 (by decide)).symm, by unfold in64; omega⟩
  have nm : numK [45, 50] = some (-2) := (numK_iff _ _).2 ⟨itoa_m2.symm, by unfold in64; omega⟩
  have n7 : numK [55] = some 7 := (numK_iff _ _).2 ⟨(itoa_d 7 (by decide)).symm, by unfold in64; omega⟩
  unfold parseK
  rw [hk]
  simp only
  rw [hp]
  simp only [parseP]
  rw [if_neg (by decide)]
  simp only [List.mapM_cons, List.mapM_nil, n0, n1, n2, n3, n6, nm, n7]
  rfl

noncomputable def B25 : Code := (Tryd.f25.body).getD .skip
set_option maxHeartbeats 20000000 in
set_option maxRecDepth 100000 in
theorem alike_one (a b : Nat) (w : World) (ha : w.heap[a]? = some (.cells oneV.toArray 29 (0, 0))) (hb : w.heap[b]? = some (.cells oneV.toArray 29 (0, 0))) :
    Calls Tryd.prog 25 #[.slice (some ⟨a, 0, none⟩) 1 1, .slice (some ⟨b, 0, none⟩) 1 1] w fun e w' => e = .returned (.bool true) ∧ Below w.heap.size w w' := by
  refine enter (fn := Tryd.f25) (c := B25) [.sl (some ⟨a, 0, none⟩) 1 1, .sl (some ⟨b, 0, none⟩) 1 1] Tryd.func25 rfl rfl ?_
  refine At.to (noF_stable) (noF_fewer) 20 300 [0, 1, 10] 0 ⟨pops B25 [1, 0] 6, [.seq (sub B25 [1, 1])], [(0, .sl (some (Addr.mk a 0 none)) 1 1), (1, .sl (some (Addr.mk b 0 none)) 1 1), (10, .bo true)], []⟩ (by kernel_rfl) (by kernel_rfl) ?_
  refine At.res 10 (true) true (by kernel_rfl) (by first | assumption | (simp only [*]; done) | (simp [*]; done)) ?_
  refine At.to (noF_stable) (noF_fewer) 20 300 [10, 11, 12] 0 ⟨pops B25 [1, 0] 8, [.seq (sub B25 [1, 1])], [(10, .v (.bool true)), (11, .sl (some (Addr.mk a 0 none)) 1 1), (12, .sl (some (Addr.mk b 0 none)) 1 1)], []⟩ (by kernel_rfl) (by kernel_rfl) ?_
  refine At.call noF_stable 26 [.sl (some ⟨a, 0, none⟩) 1 1, .sl (some ⟨b, 0, none⟩) 1 1] (.v (.bool true)) (by kernel_rfl) (by kernel_rfl) (by kernel_rfl) (fun _ _ w1 hi _ => begins_one a b w1 (blk hi.mem.below ha) (blk hi.mem.below hb)) ?_
  refine At.to (noF_stable) (noF_fewer) 20 300 [4] 0 ⟨.exit .ret, [], [(4, .v (.bool true))], []⟩ (by kernel_rfl) (by kernel_rfl) ?_
  refine At.ret (by kernel_rfl) (.v (.bool true)) (by kernel_rfl) ?_
  intro ρ w9 hm' hf
  exact ⟨rfl, hm'.below⟩

noncomputable def B7 : Code := (Tryd.f7.body).getD .skip
set_option maxHeartbeats 20000000 in
set_option maxRecDepth 100000 in
theorem known_any (w : World) (htp : Lib.TabIs Tryd.prog w "internal/strconv.uint64pow10" .u64 Lib.pow10Tab)
    {tp1 tp2 : TypeId} {q1 q2 : Value} (hs1 : w.var? Tryd.prog "strconv.ErrSyntax" = some #[.iface tp1 q1]) (hs2 : w.var? Tryd.prog "strconv.ErrRange" = some #[.iface tp2 q2]) {m : Int} (hm : w.cell? ⟨3, 0, none⟩ = some (.int .i64 m)) :
    Calls Tryd.prog 7 #[] w fun e w' => e = .returned (.bool true) ∧ Below w.heap.size w w' := by
  refine enter (fn := Tryd.f7) (c := B7) [] Tryd.func7 rfl rfl ?_
  refine At.to (noF_stable) (noF_fewer) 20 300 [1, 10] 1 ⟨pops B7 [1, 1, 0] 1, [.seq (sub B7 [1, 1, 1])], [(1, .lp 0 0), (10, .agg [.v (.string (ByteArray.mk #[97])), .v (.int .i64 0), .v (.int .i64 10), .v (.int .i64 3), .v (.int .i64 2), .v (.int .i64 3), .v (.int .i64 6), .v (.int .i64 (-2)), .v (.int .i64 7)])], [([.v (.string (ByteArray.mk #[97])), .v (.int .i64 0), .v (.int .i64 10), .v (.int .i64 3), .v (.int .i64 2), .v (.int .i64 3), .v (.int .i64 6), .v (.int .i64 (-2)), .v (.int .i64 7)], 29)]⟩ (by kernel_rfl) (by kernel_rfl) ?_
  refine At.call noF_stable 15 [.agg one] (.tup [.v (.string ⟨#[34, 97, 34, 32, 108, 97, 116, 101, 32, 48, 32, 49, 48, 32, 50, 32, 51, 32, 54, 32, 45, 50, 32, 55]⟩), .v (.int .i64 0)]) (by kernel_rfl) (by kernel_rfl) (by kernel_rfl) (fun _ _ w1 hi _ => (line_ok [97] 0 10 3 2 3 6 (-2) 7 (by decide) (.inr (.inr rfl)) (by unfold in64; omega) (by unfold in64; omega) (by unfold in64; omega) (by unfold in64; omega) (by unfold in64; omega) (by unfold in64; omega) (by unfold in64; omega) w1 (tab_below htp hi.mem.below rfl)).mono fun e w2 h => ⟨h.1.trans (by rw [known_line]; rfl), h.2⟩) ?_
  refine At.to (noF_stable) (noF_fewer) 20 300 [1, 2, 3, 15] 1 ⟨pops B7 [1, 1, 1, 0] 1, [.seq (sub B7 [1, 1, 1, 1])], [(1, .lp 0 0), (2, .v (.string (ByteArray.mk #[34, 97, 34, 32, 108, 97, 116, 101, 32, 48, 32, 49, 48, 32, 50, 32, 51, 32, 54, 32, 45, 50, 32, 55]))), (3, .v (.int .i64 0)), (15, .v (.string (ByteArray.mk #[34, 97, 34, 32, 108, 97, 116, 101, 32, 48, 32, 49, 48, 32, 50, 32, 51, 32, 54, 32, 45, 50, 32, 55])))], [([.v (.string (ByteArray.mk #[97])), .v (.int .i64 0), .v (.int .i64 10), .v (.int .i64 3), .v (.int .i64 2), .v (.int .i64 3), .v (.int .i64 6), .v (.int .i64 (-2)), .v (.int .i64 7)], 29)]⟩ (by kernel_rfl) (by kernel_rfl) ?_
  refine At.call noF_stable 8 [.v (.string ⟨#[34, 97, 34, 32, 108, 97, 116, 101, 32, 48, 32, 49, 48, 32, 50, 32, 51, 32, 54, 32, 45, 50, 32, 55]⟩)] (.tup [.agg one, .v (.int .i64 0)]) (by kernel_rfl) (by kernel_rfl) (by kernel_rfl) (fun _ _ w1 hi _ => (parse_any [34, 97, 34, 32, 108, 97, 116, 101, 32, 48, 32, 49, 48, 32, 50, 32, 51, 32, 54, 32, 45, 50, 32, 55] (by decide) w1 (tab_below htp hi.mem.below rfl) (var_below hs1 hi.mem.below) (var_below hs2 hi.mem.below) (cell_below hm hi.mem.below)).mono fun e w2 h => ⟨h.1.trans (by rw [known_parse]; rfl), h.2⟩) ?_
  refine At.to (noF_stable) (noF_fewer) 20 300 [34, 36, 38] 4 ⟨pops B7 [1, 1, 1, 1, 0] 20, [.seq (sub B7 [1, 1, 1, 1, 1])], [(34, .v (.bool true)), (36, .ls 2 0 1 1), (38, .ls 3 0 1 1)], [([.v (.string (ByteArray.mk #[97])), .v (.int .i64 0), .v (.int .i64 10), .v (.int .i64 3), .v (.int .i64 2), .v (.int .i64 3), .v (.int .i64 6), .v (.int .i64 (-2)), .v (.int .i64 7)], 29), ([.v (.string (ByteArray.mk #[97])), .v (.int .i64 0), .v (.int .i64 10), .v (.int .i64 3), .v (.int .i64 2), .v (.int .i64 3), .v (.int .i64 6), .v (.int .i64 (-2)), .v (.int .i64 7)], 29), ([.v (.string (ByteArray.mk #[97])), .v (.int .i64 0), .v (.int .i64 10), .v (.int .i64 3), .v (.int .i64 2), .v (.int .i64 3), .v (.int .i64 6), .v (.int .i64 (-2)), .v (.int .i64 7)], 29), ([.v (.string (ByteArray.mk #[97])), .v (.int .i64 0), .v (.int .i64 10), .v (.int .i64 3), .v (.int .i64 2), .v (.int .i64 3), .v (.int .i64 6), .v (.int .i64 (-2)), .v (.int .i64 7)], 29)]⟩ (by kernel_rfl) (by kernel_rfl) ?_
  refine At.call noF_stable 25 [.ls 2 0 1 1, .ls 3 0 1 1] (.v (.bool true)) (by kernel_rfl) (by kernel_rfl) (by kernel_rfl) (fun ρ _ w1 hi _ => alike_one (nth ρ 2) (nth ρ 3) w1 (hi.mem.cells 2 one 29 rfl) (hi.mem.cells 3 one 29 rfl)) ?_
  refine At.to (noF_stable) (noF_fewer) 20 300 [0] 0 ⟨.exit .ret, [], [(0, .v (.bool true))], []⟩ (by kernel_rfl) (by kernel_rfl) ?_
  refine At.ret (by kernel_rfl) (.v (.bool true)) (by kernel_rfl) ?_
  intro ρ w9 hm' hf
  exact ⟨rfl, hm'.below⟩

end Go.Proofs.YtkjnbafdmjakgaaDoor
