/-
  QuerierFew: the runs up to the loop for 1 to 3 members. Own work; printed by program.
-/
import Derived.Test.YtjmnfkeeiegfdaaGreatDoorFewA
namespace Go.Proofs.YtjmnfkeeiegfdaaGreatDoor
open Go Go.AM
theorem good_1_1 (nv : Value) (y : Nat → Value) : GoodA 1 nv 1 1 y := by unfold GoodA; kernel_rfl
theorem good_1_3 (nv : Value) (y : Nat → Value) : GoodA 1 nv 3 0 y := by unfold GoodA; kernel_rfl
theorem good_1_5 (nv : Value) (y : Nat → Value) : GoodA 1 nv 5 0 y := by unfold GoodA; kernel_rfl
theorem good_2_1 (nv : Value) (y : Nat → Value) : GoodA 2 nv 1 2 y := by unfold GoodA; kernel_rfl
theorem good_2_3 (nv : Value) (y : Nat → Value) : GoodA 2 nv 3 1 y := by unfold GoodA; kernel_rfl
theorem good_2_5 (nv : Value) (y : Nat → Value) : GoodA 2 nv 5 0 y := by unfold GoodA; kernel_rfl
theorem good_3_1 (nv : Value) (y : Nat → Value) : GoodA 3 nv 1 3 y := by unfold GoodA; kernel_rfl
theorem good_3_3 (nv : Value) (y : Nat → Value) : GoodA 3 nv 3 2 y := by unfold GoodA; kernel_rfl
theorem good_3_5 (nv : Value) (y : Nat → Value) : GoodA 3 nv 5 1 y := by unfold GoodA; kernel_rfl
end Go.Proofs.YtjmnfkeeiegfdaaGreatDoor
