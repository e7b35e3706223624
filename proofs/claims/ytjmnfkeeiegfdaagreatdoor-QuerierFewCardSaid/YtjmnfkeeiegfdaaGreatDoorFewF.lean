/-
  QuerierFew: the closed facts of the row, one by one. Own work; printed by program.
-/
import Derived.Test.YtjmnfkeeiegfdaaGreatDoorRows
import Derived.JoinedOf
import Derived.KernelRfl
namespace Go.Proofs.YtjmnfkeeiegfdaaGreatDoor
open Go
section
variable (P : Program) (f : FuncId) (fn : Func) (s : ChangeSpec) (c : OpenClaim)
def cf0 : Bool := c.wf (OpenSpec.ofChange s)
def cf1 : Bool := laidOutB P
def cf2 : Bool := mapsRowed P
def cf3 : Bool := fn.params.all (P.readableRec ·)
def cf4 : Bool := namedTie P c.named s.vars
def cf5 : Bool := (c.stops == [])
def cf6 : Bool := (P.stops == [])
def cf7 : Bool := (c.knobs == [])
def cf8 : Bool := (P.stopKnobs == [])
def cf9 : Bool := (c.inPlace == P.inPlace f)
def cf10 : Bool := (c.unfollowed == P.unfollowed f)
def cf11 : Bool := (c.recurses == P.recurses f)
def cf12 : Bool := (c.named == P.varsNamed f)
def cf13 : Bool := (c.maps == (fn.params.toList ++ s.plain.varTypes P).any (P.mapsRec ·))
def cf14 : Bool := (c.ifaces == (fn.params.toList ++ s.plain.varTypes P).any (P.ifacesRec ·))
def cf15 : Bool := (c.mapsOut == P.mapsAmong fn.resultTypes.toList)
def cf16 : Bool := (c.loops == (fn.params.toList ++ s.plain.varTypes P).any (P.loopsFrom ·))
def cf17 : Bool := (c.wideKeys == (fn.params.toList ++ s.plain.varTypes P ++ fn.resultTypes.toList).any (P.wideKeysFrom ·))
def cf18 : Bool := s.vars.all (P.varReadable ·)
def cf19 : Bool := fn.resultTypes.all (fun t => P.readableRec t && decide (t < P.types.size))
def cf20 : Bool := (c.ifacesOut == fn.resultTypes.toList.any (P.ifacesRec ·))
def cf21 : Bool := (c.loopsOut == fn.resultTypes.toList.any (P.loopsFrom ·))
def cf22 : Bool := (c.plainKeys == P.plainKeys)
def cf23 : Bool := c.shortTexts.isNone
def cf24 : Bool := P.stopsHeard
def cf25 : Bool := P.mayEnter
def cf26 : Bool := (c.lifted == P.liftsFinal)
def cf27 : Bool := (P.make == some c.make)
def cf28 : Bool := (c.kinds == (if c.domain.isEmpty then [] else fn.params.toList.map fun t => match P.underlying t with | some (.int k) => some k | _ => none))
def cf29 : Bool := (c.pinned == c.pinnedBy)
def cf30 : Bool := (c.veiled == (fn.params.toList ++ s.plain.varTypes P ++ fn.resultTypes.toList).any (P.veiledRec ·))
def cf31 : Bool := c.veiledFits P fn.params.toList (fn.params.toList ++ s.plain.varTypes P ++ fn.resultTypes.toList)
end
theorem cf0_ok : cf0 Rows.querierFewSpec Rows.querierFewRow = true := by kernel_rfl
theorem cf1_ok : cf1 Tryz.prog = true := by kernel_rfl
theorem cf2_ok : cf2 Tryz.prog = true := by kernel_rfl
theorem cf3_ok : cf3 Tryz.prog Tryz.f3 = true := by kernel_rfl
theorem cf4_ok : cf4 Tryz.prog Rows.querierFewSpec Rows.querierFewRow = true := by kernel_rfl
theorem cf5_ok : cf5 Rows.querierFewRow = true := by kernel_rfl
theorem cf6_ok : cf6 Tryz.prog = true := by kernel_rfl
theorem cf7_ok : cf7 Rows.querierFewRow = true := by kernel_rfl
theorem cf8_ok : cf8 Tryz.prog = true := by kernel_rfl
theorem cf9_ok : cf9 Tryz.prog 3 Rows.querierFewRow = true := by kernel_rfl
theorem cf10_ok : cf10 Tryz.prog 3 Rows.querierFewRow = true := by kernel_rfl
theorem cf11_ok : cf11 Tryz.prog 3 Rows.querierFewRow = true := by kernel_rfl
theorem cf12_ok : cf12 Tryz.prog 3 Rows.querierFewRow = true := by kernel_rfl
theorem cf13_ok : cf13 Tryz.prog Tryz.f3 Rows.querierFewSpec Rows.querierFewRow = true := by kernel_rfl
theorem cf14_ok : cf14 Tryz.prog Tryz.f3 Rows.querierFewSpec Rows.querierFewRow = true := by kernel_rfl
theorem cf15_ok : cf15 Tryz.prog Tryz.f3 Rows.querierFewRow = true := by kernel_rfl
theorem cf16_ok : cf16 Tryz.prog Tryz.f3 Rows.querierFewSpec Rows.querierFewRow = true := by kernel_rfl
theorem cf17_ok : cf17 Tryz.prog Tryz.f3 Rows.querierFewSpec Rows.querierFewRow = true := by kernel_rfl
theorem cf18_ok : cf18 Tryz.prog Rows.querierFewSpec = true := by kernel_rfl
theorem cf19_ok : cf19 Tryz.prog Tryz.f3 = true := by kernel_rfl
theorem cf20_ok : cf20 Tryz.prog Tryz.f3 Rows.querierFewRow = true := by kernel_rfl
theorem cf21_ok : cf21 Tryz.prog Tryz.f3 Rows.querierFewRow = true := by kernel_rfl
theorem cf22_ok : cf22 Tryz.prog Rows.querierFewRow = true := by kernel_rfl
theorem cf23_ok : cf23 Rows.querierFewRow = true := by kernel_rfl
theorem cf24_ok : cf24 Tryz.prog = true := by kernel_rfl
theorem cf25_ok : cf25 Tryz.prog = true := by kernel_rfl
theorem cf26_ok : cf26 Tryz.prog Rows.querierFewRow = true := by kernel_rfl
theorem cf27_ok : cf27 Tryz.prog Rows.querierFewRow = true := by kernel_rfl
theorem cf28_ok : cf28 Tryz.prog Tryz.f3 Rows.querierFewRow = true := by kernel_rfl
theorem cf29_ok : cf29 Rows.querierFewRow = true := by kernel_rfl
theorem cf30_ok : cf30 Tryz.prog Tryz.f3 Rows.querierFewSpec Rows.querierFewRow = true := by kernel_rfl
theorem cf31_ok : cf31 Tryz.prog Tryz.f3 Rows.querierFewSpec Rows.querierFewRow = true := by kernel_rfl
end Go.Proofs.YtjmnfkeeiegfdaaGreatDoor
