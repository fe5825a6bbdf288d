/-
  DERIVED. GIVEN WITH THE SEED: THE CARDS: each row of YtgjlchcfdbmmlaaGreatDoorRows.lean that lists a variable, with what it lists TIED to the program's text (the seventh form; the later family's looks); each row that meets fmt, with fmt's text TOLD by the authors' own Lean function (tested against real Go, not proved from fmt's source: count such statements apart). THE CARD IS WHAT COUNTS. Prove the row's statement (the work); the ties are given (YtgjlchcfdbmmlaaGreatDoorTie.lean); close each card by the builder's one call (the guide's Derived/Test/ToyasCard.lean, 'card_holds'). Laid BY PROGRAM, IN A SANDBOX (cutbox-door.mjs). By AI agents, Wed Nov 11 2026. No macro, syntax, notation, axiom, sorry.
-/
import Derived.Test.YtgjlchcfdbmmlaaGreatDoorRows
import GoSem.ClaimSeven
namespace Go.Proofs.YtgjlchcfdbmmlaaGreatDoor
namespace Rows

/-- THE TIED CARD OF 'fastilaw07.ObjectPuts'. -/
def objectPutsCard : Claim7 := { stood := { row := objectPutsRow, standIns := [], harness := (true, "0dc66cb2d21fa89719d2f87237a5229af3c04bcbdc4fd77be089a5f578a9e852"), looks := true }, kinds := [], alts := [], laidByText := true, laidKinds := [.data, .pinned], laidTests := true, laidLooks := .later }
def ObjectPutsCardSaid : Prop := Claim7.holds Tryz.pinned (.plain (OpenSpec.ofChange objectPutsSpec)) objectPutsCard

/-- THE SECOND FORM's CARD OF 'fastilaw07.ObjectPuts'. -/
def objectPutsUptoCard : Claim7 := { stood := { row := objectPutsUptoRow, standIns := [], harness := (true, "0dc66cb2d21fa89719d2f87237a5229af3c04bcbdc4fd77be089a5f578a9e852"), looks := true }, kinds := [], alts := [], laidByText := true, laidKinds := [.data, .pinned], laidTests := true, laidLooks := .later }
def ObjectPutsUptoCardSaid : Prop := Claim7.holds Tryz.pinned (.plain (OpenSpec.upto objectPutsSpec)) objectPutsUptoCard
end Rows
end Go.Proofs.YtgjlchcfdbmmlaaGreatDoor
