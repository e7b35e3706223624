/-
  QuerierFew: the runs up to the loop for 7 to 9 members. Own work; printed by program.
-/
import Derived.Test.YtjmnfkeeiegfdaaGreatDoorFewA
namespace Go.Proofs.YtjmnfkeeiegfdaaGreatDoor
open Go Go.AM
theorem good_7_1 (nv : Value) (y : Nat → Value) : GoodA 7 nv 1 7 y := by unfold GoodA; kernel_rfl
theorem good_7_3 (nv : Value) (y : Nat → Value) : GoodA 7 nv 3 6 y := by unfold GoodA; kernel_rfl
theorem good_7_5 (nv : Value) (y : Nat → Value) : GoodA 7 nv 5 5 y := by unfold GoodA; kernel_rfl
theorem good_8_1 (nv : Value) (y : Nat → Value) : GoodA 8 nv 1 8 y := by unfold GoodA; kernel_rfl
theorem good_8_3 (nv : Value) (y : Nat → Value) : GoodA 8 nv 3 7 y := by unfold GoodA; kernel_rfl
theorem good_8_5 (nv : Value) (y : Nat → Value) : GoodA 8 nv 5 6 y := by unfold GoodA; kernel_rfl
theorem good_9_1 (nv : Value) (y : Nat → Value) : GoodA 9 nv 1 9 y := by unfold GoodA; kernel_rfl
theorem good_9_3 (nv : Value) (y : Nat → Value) : GoodA 9 nv 3 8 y := by unfold GoodA; kernel_rfl
theorem good_9_5 (nv : Value) (y : Nat → Value) : GoodA 9 nv 5 7 y := by unfold GoodA; kernel_rfl
end Go.Proofs.YtjmnfkeeiegfdaaGreatDoor
