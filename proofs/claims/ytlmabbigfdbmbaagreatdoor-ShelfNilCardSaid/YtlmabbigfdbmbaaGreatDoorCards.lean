/-
  DERIVED. GIVEN WITH THE SEED: THE CARDS: each row of YtlmabbigfdbmbaaGreatDoorRows.lean that lists a variable, with what it lists TIED to the program's text (the seventh form; the later family's looks); each row that meets fmt, with fmt's text TOLD by the authors' own Lean function (tested against real Go, not proved from fmt's source: count such statements apart). THE CARD IS WHAT COUNTS. Prove the row's statement (the work); the ties are given (YtlmabbigfdbmbaaGreatDoorTie.lean); close each card by the builder's one call (the guide's Derived/Test/ToyasCard.lean, 'card_holds'). Laid BY PROGRAM, IN A SANDBOX (cutbox-door.mjs). By AI agents, Wed Nov 11 2026. No macro, syntax, notation, axiom, sorry.
-/
import Derived.Test.YtlmabbigfdbmbaaGreatDoorRows
import GoSem.ClaimSeven
namespace Go.Proofs.YtlmabbigfdbmbaaGreatDoor
namespace Rows

/-- THE TIED CARD OF 'fastilaw08.ShelfNil'. -/
def shelfNilCard : Claim7 := { stood := { row := shelfNilRow, standIns := [], harness := (true, "09affa9e424901a284d4c23a5a2b0012313e53380900286030e6e70b0611129d"), looks := true }, kinds := [], alts := [], laidByText := true, laidKinds := [.data, .pinned], laidTests := true, laidLooks := .later }
def ShelfNilCardSaid : Prop := Claim7.holds Tryz.pinned (.plain (OpenSpec.ofChange shelfNilSpec)) shelfNilCard

/-- THE TIED CARD OF 'fastilaw08.ShelfIds'. -/
def shelfIdsCard : Claim7 := { stood := { row := shelfIdsRow, standIns := [], harness := (true, "09affa9e424901a284d4c23a5a2b0012313e53380900286030e6e70b0611129d"), looks := true }, kinds := [], alts := [], laidByText := true, laidKinds := [.data, .pinned], laidTests := true, laidLooks := .later }
def ShelfIdsCardSaid : Prop := Claim7.holds Tryz.pinned (.plain (OpenSpec.ofChange shelfIdsSpec)) shelfIdsCard

/-- THE TIED CARD OF 'fastilaw08.ShelfKept'. -/
def shelfKeptCard : Claim7 := { stood := { row := shelfKeptRow, standIns := [], harness := (true, "09affa9e424901a284d4c23a5a2b0012313e53380900286030e6e70b0611129d"), looks := true }, kinds := [], alts := [], laidByText := true, laidKinds := [.data, .pinned], laidTests := true, laidLooks := .later }
def ShelfKeptCardSaid : Prop := Claim7.holds Tryz.pinned (.plain (OpenSpec.ofChange shelfKeptSpec)) shelfKeptCard

/-- THE TIED CARD OF 'fastilaw08.ShelfPlays'. -/
def shelfPlaysCard : Claim7 := { stood := { row := shelfPlaysRow, standIns := [], harness := (true, "09affa9e424901a284d4c23a5a2b0012313e53380900286030e6e70b0611129d"), looks := true }, kinds := [], alts := [], laidByText := true, laidKinds := [.data, .pinned], laidTests := true, laidLooks := .later }
def ShelfPlaysCardSaid : Prop := Claim7.holds Tryz.pinned (.plain (OpenSpec.ofChange shelfPlaysSpec)) shelfPlaysCard

/-- THE TIED CARD OF 'fastilaw29.ReachShared'. -/
def reachSharedCard : Claim7 := { stood := { row := reachSharedRow, standIns := [], harness := (true, "09affa9e424901a284d4c23a5a2b0012313e53380900286030e6e70b0611129d"), looks := true }, kinds := [], alts := [], laidByText := true, laidKinds := [.data, .pinned], laidTests := true, laidLooks := .later }
def ReachSharedCardSaid : Prop := Claim7.holds Tryz.pinned (.plain (OpenSpec.ofChange reachSharedSpec)) reachSharedCard

/-- THE TIED CARD OF 'fastilaw29.ReachNamed'. -/
def reachNamedCard : Claim7 := { stood := { row := reachNamedRow, standIns := [], harness := (true, "09affa9e424901a284d4c23a5a2b0012313e53380900286030e6e70b0611129d"), looks := true }, kinds := [], alts := [], laidByText := true, laidKinds := [.data, .pinned], laidTests := true, laidLooks := .later }
def ReachNamedCardSaid : Prop := Claim7.holds Tryz.pinned (.plain (OpenSpec.ofChange reachNamedSpec)) reachNamedCard

/-- THE TIED CARD OF 'fastilaw29.ReachMore'. -/
def reachMoreCard : Claim7 := { stood := { row := reachMoreRow, standIns := [], harness := (true, "09affa9e424901a284d4c23a5a2b0012313e53380900286030e6e70b0611129d"), looks := true }, kinds := [], alts := [], laidByText := true, laidKinds := [.data, .pinned], laidTests := true, laidLooks := .later }
def ReachMoreCardSaid : Prop := Claim7.holds Tryz.pinned (.plain (OpenSpec.ofChange reachMoreSpec)) reachMoreCard

/-- THE TIED CARD OF 'fastilaw29.ReachTells'. -/
def reachTellsCard : Claim7 := { stood := { row := reachTellsRow, standIns := [], harness := (true, "09affa9e424901a284d4c23a5a2b0012313e53380900286030e6e70b0611129d"), looks := true }, kinds := [], alts := [], laidByText := true, laidKinds := [.data, .pinned], laidTests := true, laidLooks := .later }
def ReachTellsCardSaid : Prop := Claim7.holds Tryz.pinned (.plain (OpenSpec.ofChange reachTellsSpec)) reachTellsCard

/-- THE TIED CARD OF 'fastilaw29.ReachNil'. -/
def reachNilCard : Claim7 := { stood := { row := reachNilRow, standIns := [], harness := (true, "09affa9e424901a284d4c23a5a2b0012313e53380900286030e6e70b0611129d"), looks := true }, kinds := [], alts := [], laidByText := true, laidKinds := [.data, .pinned], laidTests := true, laidLooks := .later }
def ReachNilCardSaid : Prop := Claim7.holds Tryz.pinned (.plain (OpenSpec.ofChange reachNilSpec)) reachNilCard

/-- THE SECOND FORM's CARD OF 'fastilaw08.ShelfNil'. -/
def shelfNilUptoCard : Claim7 := { stood := { row := shelfNilUptoRow, standIns := [], harness := (true, "09affa9e424901a284d4c23a5a2b0012313e53380900286030e6e70b0611129d"), looks := true }, kinds := [], alts := [], laidByText := true, laidKinds := [.data, .pinned], laidTests := true, laidLooks := .later }
def ShelfNilUptoCardSaid : Prop := Claim7.holds Tryz.pinned (.plain (OpenSpec.upto shelfNilSpec)) shelfNilUptoCard

/-- THE SECOND FORM's CARD OF 'fastilaw08.ShelfIds'. -/
def shelfIdsUptoCard : Claim7 := { stood := { row := shelfIdsUptoRow, standIns := [], harness := (true, "09affa9e424901a284d4c23a5a2b0012313e53380900286030e6e70b0611129d"), looks := true }, kinds := [], alts := [], laidByText := true, laidKinds := [.data, .pinned], laidTests := true, laidLooks := .later }
def ShelfIdsUptoCardSaid : Prop := Claim7.holds Tryz.pinned (.plain (OpenSpec.upto shelfIdsSpec)) shelfIdsUptoCard

/-- THE SECOND FORM's CARD OF 'fastilaw08.ShelfKept'. -/
def shelfKeptUptoCard : Claim7 := { stood := { row := shelfKeptUptoRow, standIns := [], harness := (true, "09affa9e424901a284d4c23a5a2b0012313e53380900286030e6e70b0611129d"), looks := true }, kinds := [], alts := [], laidByText := true, laidKinds := [.data, .pinned], laidTests := true, laidLooks := .later }
def ShelfKeptUptoCardSaid : Prop := Claim7.holds Tryz.pinned (.plain (OpenSpec.upto shelfKeptSpec)) shelfKeptUptoCard

/-- THE SECOND FORM's CARD OF 'fastilaw08.ShelfPlays'. -/
def shelfPlaysUptoCard : Claim7 := { stood := { row := shelfPlaysUptoRow, standIns := [], harness := (true, "09affa9e424901a284d4c23a5a2b0012313e53380900286030e6e70b0611129d"), looks := true }, kinds := [], alts := [], laidByText := true, laidKinds := [.data, .pinned], laidTests := true, laidLooks := .later }
def ShelfPlaysUptoCardSaid : Prop := Claim7.holds Tryz.pinned (.plain (OpenSpec.upto shelfPlaysSpec)) shelfPlaysUptoCard

/-- THE SECOND FORM's CARD OF 'fastilaw29.ReachShared'. -/
def reachSharedUptoCard : Claim7 := { stood := { row := reachSharedUptoRow, standIns := [], harness := (true, "09affa9e424901a284d4c23a5a2b0012313e53380900286030e6e70b0611129d"), looks := true }, kinds := [], alts := [], laidByText := true, laidKinds := [.data, .pinned], laidTests := true, laidLooks := .later }
def ReachSharedUptoCardSaid : Prop := Claim7.holds Tryz.pinned (.plain (OpenSpec.upto reachSharedSpec)) reachSharedUptoCard

/-- THE SECOND FORM's CARD OF 'fastilaw29.ReachNamed'. -/
def reachNamedUptoCard : Claim7 := { stood := { row := reachNamedUptoRow, standIns := [], harness := (true, "09affa9e424901a284d4c23a5a2b0012313e53380900286030e6e70b0611129d"), looks := true }, kinds := [], alts := [], laidByText := true, laidKinds := [.data, .pinned], laidTests := true, laidLooks := .later }
def ReachNamedUptoCardSaid : Prop := Claim7.holds Tryz.pinned (.plain (OpenSpec.upto reachNamedSpec)) reachNamedUptoCard

/-- THE SECOND FORM's CARD OF 'fastilaw29.ReachMore'. -/
def reachMoreUptoCard : Claim7 := { stood := { row := reachMoreUptoRow, standIns := [], harness := (true, "09affa9e424901a284d4c23a5a2b0012313e53380900286030e6e70b0611129d"), looks := true }, kinds := [], alts := [], laidByText := true, laidKinds := [.data, .pinned], laidTests := true, laidLooks := .later }
def ReachMoreUptoCardSaid : Prop := Claim7.holds Tryz.pinned (.plain (OpenSpec.upto reachMoreSpec)) reachMoreUptoCard

/-- THE SECOND FORM's CARD OF 'fastilaw29.ReachTells'. -/
def reachTellsUptoCard : Claim7 := { stood := { row := reachTellsUptoRow, standIns := [], harness := (true, "09affa9e424901a284d4c23a5a2b0012313e53380900286030e6e70b0611129d"), looks := true }, kinds := [], alts := [], laidByText := true, laidKinds := [.data, .pinned], laidTests := true, laidLooks := .later }
def ReachTellsUptoCardSaid : Prop := Claim7.holds Tryz.pinned (.plain (OpenSpec.upto reachTellsSpec)) reachTellsUptoCard

/-- THE SECOND FORM's CARD OF 'fastilaw29.ReachNil'. -/
def reachNilUptoCard : Claim7 := { stood := { row := reachNilUptoRow, standIns := [], harness := (true, "09affa9e424901a284d4c23a5a2b0012313e53380900286030e6e70b0611129d"), looks := true }, kinds := [], alts := [], laidByText := true, laidKinds := [.data, .pinned], laidTests := true, laidLooks := .later }
def ReachNilUptoCardSaid : Prop := Claim7.holds Tryz.pinned (.plain (OpenSpec.upto reachNilSpec)) reachNilUptoCard
end Rows
end Go.Proofs.YtlmabbigfdbmbaaGreatDoor
