/-
  DERIVED. GIVEN WITH THE SEED: THE CARDS: each row of YteljihpheffjnaaDoorRows.lean that lists a variable, with what it lists TIED to the program's text (the seventh form; the later family's looks); each row that meets fmt, with fmt's text TOLD by the authors' own Lean function (tested against real Go, not proved from fmt's source: count such statements apart). THE CARD IS WHAT COUNTS. Prove the row's statement (the work); the ties are given (YteljihpheffjnaaDoorTie.lean); close each card by the builder's one call (the guide's Derived/Test/ToyasCard.lean, 'card_holds'). Laid BY PROGRAM, IN A SANDBOX (cutbox-door.mjs). By AI agents, Wed Nov 11 2026. No macro, syntax, notation, axiom, sorry.
-/
import Derived.Test.YteljihpheffjnaaDoorRows
import GoSem.ClaimSeven
namespace Go.Proofs.YteljihpheffjnaaDoor
namespace Rows

/-- THE TIED CARD OF 'fastilaw06.TapeNil'. -/
def tapeNilCard : Claim7 := { stood := { row := tapeNilRow, standIns := [], harness := (true, "7d15fc413f3189d2ddef6287b06f4b6d933365a4e06035f5cbc031f001b8b208"), looks := false }, kinds := [], alts := [], laidByText := true, laidKinds := [.data, .pinned], laidTests := true, laidLooks := .later }
def TapeNilCardSaid : Prop := Claim7.holds Tryd.pinned (.plain (OpenSpec.ofChange tapeNilSpec)) tapeNilCard

/-- THE TIED CARD OF 'fastilaw06.TapeWhole'. -/
def tapeWholeCard : Claim7 := { stood := { row := tapeWholeRow, standIns := [], harness := (true, "7d15fc413f3189d2ddef6287b06f4b6d933365a4e06035f5cbc031f001b8b208"), looks := false }, kinds := [], alts := [], laidByText := true, laidKinds := [.data, .pinned], laidTests := true, laidLooks := .later }
def TapeWholeCardSaid : Prop := Claim7.holds Tryd.pinned (.plain (OpenSpec.ofChange tapeWholeSpec)) tapeWholeCard

/-- THE TIED CARD OF 'fastilaw06.TapePlays'. -/
def tapePlaysCard : Claim7 := { stood := { row := tapePlaysRow, standIns := [], harness := (true, "7d15fc413f3189d2ddef6287b06f4b6d933365a4e06035f5cbc031f001b8b208"), looks := false }, kinds := [], alts := [], laidByText := true, laidKinds := [.data, .pinned], laidTests := true, laidLooks := .later }
def TapePlaysCardSaid : Prop := Claim7.holds Tryd.pinned (.plain (OpenSpec.ofChange tapePlaysSpec)) tapePlaysCard

/-- THE TIED CARD OF 'fastilaw06.TapeKept'. -/
def tapeKeptCard : Claim7 := { stood := { row := tapeKeptRow, standIns := [], harness := (true, "7d15fc413f3189d2ddef6287b06f4b6d933365a4e06035f5cbc031f001b8b208"), looks := false }, kinds := [], alts := [], laidByText := true, laidKinds := [.data, .pinned], laidTests := true, laidLooks := .later }
def TapeKeptCardSaid : Prop := Claim7.holds Tryd.pinned (.plain (OpenSpec.ofChange tapeKeptSpec)) tapeKeptCard

/-- THE SECOND FORM's CARD OF 'fastilaw06.TapeNil'. -/
def tapeNilUptoCard : Claim7 := { stood := { row := tapeNilUptoRow, standIns := [], harness := (true, "7d15fc413f3189d2ddef6287b06f4b6d933365a4e06035f5cbc031f001b8b208"), looks := false }, kinds := [], alts := [], laidByText := true, laidKinds := [.data, .pinned], laidTests := true, laidLooks := .later }
def TapeNilUptoCardSaid : Prop := Claim7.holds Tryd.pinned (.plain (OpenSpec.upto tapeNilSpec)) tapeNilUptoCard

/-- THE SECOND FORM's CARD OF 'fastilaw06.TapeWhole'. -/
def tapeWholeUptoCard : Claim7 := { stood := { row := tapeWholeUptoRow, standIns := [], harness := (true, "7d15fc413f3189d2ddef6287b06f4b6d933365a4e06035f5cbc031f001b8b208"), looks := false }, kinds := [], alts := [], laidByText := true, laidKinds := [.data, .pinned], laidTests := true, laidLooks := .later }
def TapeWholeUptoCardSaid : Prop := Claim7.holds Tryd.pinned (.plain (OpenSpec.upto tapeWholeSpec)) tapeWholeUptoCard

/-- THE SECOND FORM's CARD OF 'fastilaw06.TapePlays'. -/
def tapePlaysUptoCard : Claim7 := { stood := { row := tapePlaysUptoRow, standIns := [], harness := (true, "7d15fc413f3189d2ddef6287b06f4b6d933365a4e06035f5cbc031f001b8b208"), looks := false }, kinds := [], alts := [], laidByText := true, laidKinds := [.data, .pinned], laidTests := true, laidLooks := .later }
def TapePlaysUptoCardSaid : Prop := Claim7.holds Tryd.pinned (.plain (OpenSpec.upto tapePlaysSpec)) tapePlaysUptoCard

/-- THE SECOND FORM's CARD OF 'fastilaw06.TapeKept'. -/
def tapeKeptUptoCard : Claim7 := { stood := { row := tapeKeptUptoRow, standIns := [], harness := (true, "7d15fc413f3189d2ddef6287b06f4b6d933365a4e06035f5cbc031f001b8b208"), looks := false }, kinds := [], alts := [], laidByText := true, laidKinds := [.data, .pinned], laidTests := true, laidLooks := .later }
def TapeKeptUptoCardSaid : Prop := Claim7.holds Tryd.pinned (.plain (OpenSpec.upto tapeKeptSpec)) tapeKeptUptoCard
end Rows
end Go.Proofs.YteljihpheffjnaaDoor
