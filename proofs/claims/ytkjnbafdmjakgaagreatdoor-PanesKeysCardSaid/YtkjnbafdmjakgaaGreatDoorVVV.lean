/- Steps whose checks by the kernel are auto parameters. -/
import Derived.Test.YtkjnbafdmjakgaaGreatDoorVAC
set_option linter.unusedSimpArgs false
set_option linter.unusedVariables false
namespace Go.Sx
open Go Go.RowKit
theorem zB (b : Bool) : b = true ∨ b = false := Bool.eq_false_or_eq_true b
section
variable {P : Program} {Q : Exit → Act → World → Prop} {N : Nat} {w0 : World} {ntm : Nat} {F : List Nat → World → Prop}
variable [Md]
theorem zR {s : S} (t : Nat) {b d : Bool} (hb : b = d) (h : At P Q N w0 ntm F (s.res t d)) (hl : look s.fr t = some (.bo b) := by kernel_rfl) : At P Q N w0 ntm F s := At.res t b d hl hb h
theorem zT {j : Nat} (hF : Stable F) (hF' : FewerK j F) (ts : List Nat) (k : Nat) {s : S} (s' : S) (h : At P Q N w0 ntm F s') (hs : (srun P ntm 0 300 s).keep ts k = s' := by kernel_rfl) (hsc : (scopedFr k s'.fr && (scopedLoc k s'.loc && Nat.ble j k)) = true := by kernel_rfl) : At P Q N w0 ntm F s := At.toJ hF hF' 0 300 ts k s' hs hsc h
theorem zU {j : Nat} (hF : Stable F) (hF' : FewerK j F) (ts : List Nat) (k : Nat) {s : S} (s' : S) (h : At P Q N w0 ntm F s') (hs : (srun P ntm 20 300 s).keep ts k = s' := by kernel_rfl) (hsc : (scopedFr k s'.fr && (scopedLoc k s'.loc && Nat.ble j k)) = true := by kernel_rfl) : At P Q N w0 ntm F s := At.toJ hF hF' 20 300 ts k s' hs hsc h
theorem zTq {j : Nat} (hF : Stable F) (hF' : FewerK j F) (ts : List Nat) (k : Nat) {s : S} (h : At P Q N w0 ntm F ((srun P ntm 0 300 s).keep ts k)) (hsc : (scopedFr k ((srun P ntm 0 300 s).keep ts k).fr && (scopedLoc k ((srun P ntm 0 300 s).keep ts k).loc && Nat.ble j k)) = true := by kernel_rfl) : At P Q N w0 ntm F s := At.toJ hF hF' 0 300 ts k _ rfl hsc h
theorem zUq {j : Nat} (hF : Stable F) (hF' : FewerK j F) (ts : List Nat) (k : Nat) {s : S} (h : At P Q N w0 ntm F ((srun P ntm 20 300 s).keep ts k)) (hsc : (scopedFr k ((srun P ntm 20 300 s).keep ts k).fr && (scopedLoc k ((srun P ntm 20 300 s).keep ts k).loc && Nat.ble j k)) = true := by kernel_rfl) : At P Q N w0 ntm F s := At.toJ hF hF' 20 300 ts k _ rfl hsc h
theorem zN (ts : List Nat) (k : Nat) {s : S} (s' : S) (h : At P Q N w0 ntm noF s') (hs : (srun P ntm 0 300 s).keep ts k = s' := by kernel_rfl) (hsc : (scopedFr k s'.fr && scopedLoc k s'.loc) = true := by kernel_rfl) : At P Q N w0 ntm noF s := At.to noF_stable noF_fewer 0 300 ts k s' hs hsc h
theorem zM (ts : List Nat) (k : Nat) {s : S} (s' : S) (h : At P Q N w0 ntm noF s') (hs : (srun P ntm 20 300 s).keep ts k = s' := by kernel_rfl) (hsc : (scopedFr k s'.fr && scopedLoc k s'.loc) = true := by kernel_rfl) : At P Q N w0 ntm noF s := At.to noF_stable noF_fewer 20 300 ts k s' hs hsc h
theorem zNq (ts : List Nat) (k : Nat) {s : S} (h : At P Q N w0 ntm noF ((srun P ntm 0 300 s).keep ts k)) (hsc : (scopedFr k ((srun P ntm 0 300 s).keep ts k).fr && scopedLoc k ((srun P ntm 0 300 s).keep ts k).loc) = true := by kernel_rfl) : At P Q N w0 ntm noF s := At.to noF_stable noF_fewer 0 300 ts k _ rfl hsc h
theorem zMq (ts : List Nat) (k : Nat) {s : S} (h : At P Q N w0 ntm noF ((srun P ntm 20 300 s).keep ts k)) (hsc : (scopedFr k ((srun P ntm 20 300 s).keep ts k).fr && scopedLoc k ((srun P ntm 20 300 s).keep ts k).loc) = true := by kernel_rfl) : At P Q N w0 ntm noF s := At.to noF_stable noF_fewer 20 300 ts k _ rfl hsc h
theorem zF {w1 : World} {ok : Nat → Prop} {ρ0 : List Nat} {base e size n c : Nat} {A : Option Addr} {xs : List Value} (ts : List Nat) (k : Nat) {s : S} (s' : S) (h : At P Q N w0 ntm (RowF w1 ok ρ0 base e size A n c xs) s') (hs : (srun P ntm 0 300 s).keep ts k = s' := by kernel_rfl) (hsc : (scopedFr k s'.fr && (scopedLoc k s'.loc && Nat.ble ρ0.length k)) = true := by kernel_rfl) : At P Q N w0 ntm (RowF w1 ok ρ0 base e size A n c xs) s := At.toJ RowF.stable RowF.fewer 0 300 ts k s' hs hsc h
theorem zG {w1 : World} {ok : Nat → Prop} {ρ0 : List Nat} {base e size n c : Nat} {A : Option Addr} {xs : List Value} (ts : List Nat) (k : Nat) {s : S} (s' : S) (h : At P Q N w0 ntm (RowF w1 ok ρ0 base e size A n c xs) s') (hs : (srun P ntm 20 300 s).keep ts k = s' := by kernel_rfl) (hsc : (scopedFr k s'.fr && (scopedLoc k s'.loc && Nat.ble ρ0.length k)) = true := by kernel_rfl) : At P Q N w0 ntm (RowF w1 ok ρ0 base e size A n c xs) s := At.toJ RowF.stable RowF.fewer 20 300 ts k s' hs hsc h
theorem zH {w1 : World} {ok : Nat → Prop} {ρ0 : List Nat} {base e size n c : Nat} {A : Option Addr} {xs : List Value} {L : List (Option Addr × List Value)} (ts : List Nat) (k : Nat) {s : S} (s' : S) (h : At P Q N w0 ntm (RowE w1 ok ρ0 base e size A n c xs L) s') (hs : (srun P ntm 0 300 s).keep ts k = s' := by kernel_rfl) (hsc : (scopedFr k s'.fr && (scopedLoc k s'.loc && Nat.ble ρ0.length k)) = true := by kernel_rfl) : At P Q N w0 ntm (RowE w1 ok ρ0 base e size A n c xs L) s := At.toJ RowE.stable RowE.fewer 0 300 ts k s' hs hsc h
theorem zI {w1 : World} {ok : Nat → Prop} {ρ0 : List Nat} {base e size n c : Nat} {A : Option Addr} {xs : List Value} {L : List (Option Addr × List Value)} (ts : List Nat) (k : Nat) {s : S} (s' : S) (h : At P Q N w0 ntm (RowE w1 ok ρ0 base e size A n c xs L) s') (hs : (srun P ntm 20 300 s).keep ts k = s' := by kernel_rfl) (hsc : (scopedFr k s'.fr && (scopedLoc k s'.loc && Nat.ble ρ0.length k)) = true := by kernel_rfl) : At P Q N w0 ntm (RowE w1 ok ρ0 base e size A n c xs L) s := At.toJ RowE.stable RowE.fewer 20 300 ts k s' hs hsc h
theorem zC (hF : Stable F) {s : S} (g : FuncId) (vs : List SV) (r : SV) (hr : ∀ ρ a w, Inv N w0 ntm ρ s.fr s.loc a w → F ρ w → Calls P g (SV.denL ρ vs).toArray w fun e w' => e = .returned (r.den ρ) ∧ Below w.heap.size w w')
    (h : At P Q N w0 ntm F (s.tail ntm r)) (hc : s.call? = some (g, vs) := by kernel_rfl) (hb : bodied P g = true := by kernel_rfl) (hd : s.dstOk ntm = true := by kernel_rfl) : At P Q N w0 ntm F s := At.call hF g vs r hc hb hd hr h
end
section
variable {P : Program} {N : Nat} {w0 : World} {ntm : Nat} {F : List Nat → World → Prop}
theorem zE {fn : Func} {R : Ending → World → Prop} {s : S} (r : SV) (h : ∀ ρ w, WInv N w0 ρ s.loc w → F ρ w → R (.returned (r.den ρ)) w) (hd : s.done = true := by kernel_rfl) (hr : resS P fn s = some r := by kernel_rfl) : At P (bodyPost P fn R) N w0 ntm F s := At.ret hd r hr h
end
end Go.Sx
