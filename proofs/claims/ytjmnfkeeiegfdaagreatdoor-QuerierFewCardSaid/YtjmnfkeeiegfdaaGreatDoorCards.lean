/-
  DERIVED. GIVEN WITH THE SEED: THE CARDS: each row of YtjmnfkeeiegfdaaGreatDoorRows.lean that lists a variable, with what it lists TIED to the program's text (the seventh form; the later family's looks); each row that meets fmt, with fmt's text TOLD by the authors' own Lean function (tested against real Go, not proved from fmt's source: count such statements apart). THE CARD IS WHAT COUNTS. Prove the row's statement (the work); the ties are given (YtjmnfkeeiegfdaaGreatDoorTie.lean); close each card by the builder's one call (the guide's Derived/Test/ToyasCard.lean, 'card_holds'). Laid BY PROGRAM, IN A SANDBOX (cutbox-door.mjs). By AI agents, Wed Nov 11 2026. No macro, syntax, notation, axiom, sorry.
-/
import Derived.Test.YtjmnfkeeiegfdaaGreatDoorRows
import GoSem.ClaimSeven
namespace Go.Proofs.YtjmnfkeeiegfdaaGreatDoor
namespace Rows

/-- THE TIED CARD OF 'tidewracklaw27.QuerierFew'. -/
def querierFewCard : Claim7 := { stood := { row := querierFewRow, standIns := [], harness := (true, "a9415ddd56a2de660d856dbb0d0b8afcfbdba080225895ae011940b6d2dafa2c"), looks := true }, kinds := [], alts := [], laidByText := true, laidKinds := [.data, .data, .widerDeep, .widerDeep, .data, .data, .data, .data, .data, .data, .sentinel, .sentinel, .pinned, .pinned, .pinned], laidTests := true, laidLooks := .later }
def QuerierFewCardSaid : Prop := Claim7.holds Tryz.pinned (.plain (OpenSpec.ofChange querierFewSpec)) querierFewCard

/-- THE SECOND FORM's CARD OF 'tidewracklaw27.QuerierFew'. -/
def querierFewUptoCard : Claim7 := { stood := { row := querierFewUptoRow, standIns := [], harness := (true, "a9415ddd56a2de660d856dbb0d0b8afcfbdba080225895ae011940b6d2dafa2c"), looks := true }, kinds := [], alts := [], laidByText := true, laidKinds := [.data, .data, .widerDeep, .widerDeep, .data, .data, .data, .data, .data, .data, .sentinel, .sentinel, .pinned, .pinned, .pinned], laidTests := true, laidLooks := .later }
def QuerierFewUptoCardSaid : Prop := Claim7.holds Tryz.pinned (.plain (OpenSpec.upto querierFewSpec)) querierFewUptoCard
end Rows
end Go.Proofs.YtjmnfkeeiegfdaaGreatDoor
