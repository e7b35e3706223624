/-
  QuerierFew: the runs up to the loop for 4 to 6 members. Own work; printed by program.
-/
import Derived.Test.YtjmnfkeeiegfdaaGreatDoorFewA
namespace Go.Proofs.YtjmnfkeeiegfdaaGreatDoor
open Go Go.AM
theorem good_4_1 (nv : Value) (y : Nat → Value) : GoodA 4 nv 1 4 y := by unfold GoodA; kernel_rfl
theorem good_4_3 (nv : Value) (y : Nat → Value) : GoodA 4 nv 3 3 y := by unfold GoodA; kernel_rfl
theorem good_4_5 (nv : Value) (y : Nat → Value) : GoodA 4 nv 5 2 y := by unfold GoodA; kernel_rfl
theorem good_5_1 (nv : Value) (y : Nat → Value) : GoodA 5 nv 1 5 y := by unfold GoodA; kernel_rfl
theorem good_5_3 (nv : Value) (y : Nat → Value) : GoodA 5 nv 3 4 y := by unfold GoodA; kernel_rfl
theorem good_5_5 (nv : Value) (y : Nat → Value) : GoodA 5 nv 5 3 y := by unfold GoodA; kernel_rfl
theorem good_6_1 (nv : Value) (y : Nat → Value) : GoodA 6 nv 1 6 y := by unfold GoodA; kernel_rfl
theorem good_6_3 (nv : Value) (y : Nat → Value) : GoodA 6 nv 3 5 y := by unfold GoodA; kernel_rfl
theorem good_6_5 (nv : Value) (y : Nat → Value) : GoodA 6 nv 5 4 y := by unfold GoodA; kernel_rfl
end Go.Proofs.YtjmnfkeeiegfdaaGreatDoor
