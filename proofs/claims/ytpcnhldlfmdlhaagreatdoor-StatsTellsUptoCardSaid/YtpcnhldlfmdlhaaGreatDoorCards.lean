/-
  DERIVED. GIVEN WITH THE SEED: THE CARDS: each row of YtpcnhldlfmdlhaaGreatDoorRows.lean that lists a variable, with what it lists TIED to the program's text (the seventh form; the later family's looks); each row that meets fmt, with fmt's text TOLD by the authors' own Lean function (tested against real Go, not proved from fmt's source: count such statements apart). THE CARD IS WHAT COUNTS. Prove the row's statement (the work); the ties are given (YtpcnhldlfmdlhaaGreatDoorTie.lean); close each card by the builder's one call (the guide's Derived/Test/ToyasCard.lean, 'card_holds'). Laid BY PROGRAM, IN A SANDBOX (cutbox-door.mjs). By AI agents, Wed Nov 11 2026. No macro, syntax, notation, axiom, sorry.
-/
import Derived.Test.YtpcnhldlfmdlhaaGreatDoorRows
import GoSem.ClaimSeven
namespace Go.Proofs.YtpcnhldlfmdlhaaGreatDoor
namespace Rows

/-- THE TIED CARD OF 'appleloftlaw.StatsTells'. -/
def statsTellsCard : Claim7 := { stood := { row := statsTellsRow, standIns := [], harness := (true, "9360392728192db1bc37d8140cd7c2c7e500bb0fe8d74c12cf9b2ff81586f950"), looks := false }, kinds := [], alts := [], laidByText := true, laidKinds := [.data, .data, .data], laidTests := true, laidLooks := .later }
def StatsTellsCardSaid : Prop := Claim7.holds Tryz.pinned (.plain (OpenSpec.ofChange statsTellsSpec)) statsTellsCard

/-- THE SECOND FORM's CARD OF 'appleloftlaw.StatsTells'. -/
def statsTellsUptoCard : Claim7 := { stood := { row := statsTellsUptoRow, standIns := [], harness := (true, "9360392728192db1bc37d8140cd7c2c7e500bb0fe8d74c12cf9b2ff81586f950"), looks := false }, kinds := [], alts := [], laidByText := true, laidKinds := [.data, .data, .data], laidTests := true, laidLooks := .later }
def StatsTellsUptoCardSaid : Prop := Claim7.holds Tryz.pinned (.plain (OpenSpec.upto statsTellsSpec)) statsTellsUptoCard
end Rows
end Go.Proofs.YtpcnhldlfmdlhaaGreatDoor
