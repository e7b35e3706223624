/-
  QuerierFew: what awake answers. Own work.
-/
import Derived.Test.YtjmnfkeeiegfdaaGreatDoorFew0
namespace Go.Proofs.YtjmnfkeeiegfdaaGreatDoor
open Go Go.AM
theorem awake_run : pureOut ⟨.nil, 100000⟩ (.bool true) (arun T 100000 (.call 9 [] ⟨.nil, 100000⟩)) = true := by kernel_rfl
theorem awake_ok : HCall Tryz.prog 9 [] ⟨.nil, 100000⟩ fun e' h' => e' = .returned (.bool true) ∧ h' = ⟨.nil, 100000⟩ := HCall.pure okT awake_run rfl
end Go.Proofs.YtjmnfkeeiegfdaaGreatDoor
