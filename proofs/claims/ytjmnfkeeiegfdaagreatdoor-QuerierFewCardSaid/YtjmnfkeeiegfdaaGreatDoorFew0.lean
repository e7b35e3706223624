/-
  QuerierFew: the machine's table of the program. Own work.
-/
import Derived.Test.YtjmnfkeeiegfdaaGreatDoorAm8
import Derived.Test.YtjmnfkeeiegfdaaGreatDoorProg
import Derived.KernelRfl
namespace Go.Proofs.YtjmnfkeeiegfdaaGreatDoor
open Go Go.AM
noncomputable def T : Tbl := tblOf Tryz.prog [(129, .indexByteString), (288, .countString)]
theorem x129 : ExtOk Tryz.prog 129 .indexByteString := ⟨_, _, Tryz.func129, by kernel_rfl, by kernel_rfl, by kernel_rfl, by kernel_rfl, rfl⟩
theorem x288 : ExtOk Tryz.prog 288 .countString := ⟨_, _, Tryz.func288, by kernel_rfl, by kernel_rfl, by kernel_rfl, by kernel_rfl, rfl⟩
theorem okT : TOk T Tryz.prog := tok (by kernel_rfl) (by kernel_rfl) (fun p hp => by
  rcases List.mem_cons.1 hp with rfl | hp
  · exact x129
  · rcases List.mem_cons.1 hp with rfl | hp
    · exact x288
    · cases hp)
end Go.Proofs.YtjmnfkeeiegfdaaGreatDoor
