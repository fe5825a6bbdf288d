/-
  DERIVED. GIVEN WITH THE SEED: THE CARDS: each row of YtgjlchcfdbmmlaaDoorRows.lean that lists a variable, with what it lists TIED to the program's text (the seventh form; the later family's looks); each row that meets fmt, with fmt's text TOLD by the authors' own Lean function (tested against real Go, not proved from fmt's source: count such statements apart). THE CARD IS WHAT COUNTS. Prove the row's statement (the work); the ties are given (YtgjlchcfdbmmlaaDoorTie.lean); close each card by the builder's one call (the guide's Derived/Test/ToyasCard.lean, 'card_holds'). Laid BY PROGRAM, IN A SANDBOX (cutbox-door.mjs). By AI agents, Wed Nov 11 2026. No macro, syntax, notation, axiom, sorry.
-/
import Derived.Test.YtgjlchcfdbmmlaaDoorRows
import GoSem.ClaimSeven
namespace Go.Proofs.YtgjlchcfdbmmlaaDoor
namespace Rows

/-- THE TIED CARD OF 'fastilaw07.ObjectBack'. -/
def objectBackCard : Claim7 := { stood := { row := objectBackRow, standIns := [], harness := (true, "0240e41168d0cfac4f4d8ebf493754cd7ce9dbe56eb2a39a4e66bc99aabf87df"), looks := true }, kinds := [], alts := [], laidByText := true, laidKinds := [.data, .pinned], laidTests := true, laidLooks := .later }
def ObjectBackCardSaid : Prop := Claim7.holds Tryd.pinned (.plain (OpenSpec.ofChange objectBackSpec)) objectBackCard

/-- THE TIED CARD OF 'fastilaw07.ObjectTakes'. -/
def objectTakesCard : Claim7 := { stood := { row := objectTakesRow, standIns := [], harness := (true, "0240e41168d0cfac4f4d8ebf493754cd7ce9dbe56eb2a39a4e66bc99aabf87df"), looks := true }, kinds := [], alts := [], laidByText := true, laidKinds := [.data, .pinned], laidTests := true, laidLooks := .later }
def ObjectTakesCardSaid : Prop := Claim7.holds Tryd.pinned (.plain (OpenSpec.ofChange objectTakesSpec)) objectTakesCard

/-- THE TIED CARD OF 'fastilaw07.ObjectRows'. -/
def objectRowsCard : Claim7 := { stood := { row := objectRowsRow, standIns := [], harness := (true, "0240e41168d0cfac4f4d8ebf493754cd7ce9dbe56eb2a39a4e66bc99aabf87df"), looks := true }, kinds := [], alts := [], laidByText := true, laidKinds := [.data, .pinned], laidTests := true, laidLooks := .later }
def ObjectRowsCardSaid : Prop := Claim7.holds Tryd.pinned (.plain (OpenSpec.ofChange objectRowsSpec)) objectRowsCard

/-- THE SECOND FORM's CARD OF 'fastilaw07.ObjectBack'. -/
def objectBackUptoCard : Claim7 := { stood := { row := objectBackUptoRow, standIns := [], harness := (true, "0240e41168d0cfac4f4d8ebf493754cd7ce9dbe56eb2a39a4e66bc99aabf87df"), looks := true }, kinds := [], alts := [], laidByText := true, laidKinds := [.data, .pinned], laidTests := true, laidLooks := .later }
def ObjectBackUptoCardSaid : Prop := Claim7.holds Tryd.pinned (.plain (OpenSpec.upto objectBackSpec)) objectBackUptoCard

/-- THE SECOND FORM's CARD OF 'fastilaw07.ObjectTakes'. -/
def objectTakesUptoCard : Claim7 := { stood := { row := objectTakesUptoRow, standIns := [], harness := (true, "0240e41168d0cfac4f4d8ebf493754cd7ce9dbe56eb2a39a4e66bc99aabf87df"), looks := true }, kinds := [], alts := [], laidByText := true, laidKinds := [.data, .pinned], laidTests := true, laidLooks := .later }
def ObjectTakesUptoCardSaid : Prop := Claim7.holds Tryd.pinned (.plain (OpenSpec.upto objectTakesSpec)) objectTakesUptoCard

/-- THE SECOND FORM's CARD OF 'fastilaw07.ObjectRows'. -/
def objectRowsUptoCard : Claim7 := { stood := { row := objectRowsUptoRow, standIns := [], harness := (true, "0240e41168d0cfac4f4d8ebf493754cd7ce9dbe56eb2a39a4e66bc99aabf87df"), looks := true }, kinds := [], alts := [], laidByText := true, laidKinds := [.data, .pinned], laidTests := true, laidLooks := .later }
def ObjectRowsUptoCardSaid : Prop := Claim7.holds Tryd.pinned (.plain (OpenSpec.upto objectRowsSpec)) objectRowsUptoCard
end Rows
end Go.Proofs.YtgjlchcfdbmmlaaDoor
