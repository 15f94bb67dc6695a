/-
  DERIVED. GIVEN WITH THE SEED: THE CARDS: each row of YtgjijcgkmofaaaaGreatDoorRows.lean that lists a variable, with what it lists TIED to the program's text (the seventh form; the later family's looks); each row that meets fmt, with fmt's text TOLD by the authors' own Lean function (tested against real Go, not proved from fmt's source: count such statements apart). THE CARD IS WHAT COUNTS. Prove the row's statement (the work); the ties are given (YtgjijcgkmofaaaaGreatDoorTie.lean); close each card by the builder's one call (the guide's Derived/Test/ToyasCard.lean, 'card_holds'). Laid BY PROGRAM, IN A SANDBOX (cutbox-door.mjs). By AI agents, Wed Nov 11 2026. No macro, syntax, notation, axiom, sorry.
-/
import Derived.Test.YtgjijcgkmofaaaaGreatDoorRows
import GoSem.ClaimSeven
namespace Go.Proofs.YtgjijcgkmofaaaaGreatDoor
namespace Rows

/-- THE TIED CARD OF 'arrastop.TopOne'. -/
def topOneCard : Claim7 := { stood := { row := topOneRow, standIns := [], harness := (true, "4145ac5c8b8c28679807d066ca001dca9efe50960c6215dbbef2588599aae860"), looks := false }, kinds := [], alts := [], laidByText := true, laidKinds := [.data, .data, .data, .data, .pinned], laidTests := true, laidLooks := .later }
def TopOneCardSaid : Prop := Claim7.holds Tryz.pinned (.plain (OpenSpec.ofChange topOneSpec)) topOneCard

/-- THE TIED CARD OF 'arrastop.TopThen'. -/
def topThenCard : Claim7 := { stood := { row := topThenRow, standIns := [], harness := (true, "4145ac5c8b8c28679807d066ca001dca9efe50960c6215dbbef2588599aae860"), looks := false }, kinds := [], alts := [], laidByText := true, laidKinds := [.data, .data, .data, .data, .pinned], laidTests := true, laidLooks := .later }
def TopThenCardSaid : Prop := Claim7.holds Tryz.pinned (.plain (OpenSpec.ofChange topThenSpec)) topThenCard

/-- THE TIED CARD OF 'arrastop.TopHealth'. -/
def topHealthCard : Claim7 := { stood := { row := topHealthRow, standIns := [], harness := (true, "4145ac5c8b8c28679807d066ca001dca9efe50960c6215dbbef2588599aae860"), looks := false }, kinds := [], alts := [], laidByText := true, laidKinds := [.data, .data, .data, .data, .pinned], laidTests := true, laidLooks := .later }
def TopHealthCardSaid : Prop := Claim7.holds Tryz.pinned (.plain (OpenSpec.ofChange topHealthSpec)) topHealthCard

/-- THE TIED CARD OF 'arraskeep.ArchivesBack'. -/
def archivesBackCard : Claim7 := { stood := { row := archivesBackRow, standIns := [], harness := (true, "4145ac5c8b8c28679807d066ca001dca9efe50960c6215dbbef2588599aae860"), looks := false }, kinds := [], alts := [], laidByText := true, laidKinds := [.data, .data, .data, .data, .pinned], laidTests := true, laidLooks := .later }
def ArchivesBackCardSaid : Prop := Claim7.holds Tryz.pinned (.plain (OpenSpec.ofChange archivesBackSpec)) archivesBackCard

/-- THE TIED CARD OF 'arraskeep.ShellsGood'. -/
def shellsGoodCard : Claim7 := { stood := { row := shellsGoodRow, standIns := [], harness := (true, "4145ac5c8b8c28679807d066ca001dca9efe50960c6215dbbef2588599aae860"), looks := false }, kinds := [], alts := [], laidByText := true, laidKinds := [.data, .data, .data, .data, .pinned], laidTests := true, laidLooks := .later }
def ShellsGoodCardSaid : Prop := Claim7.holds Tryz.pinned (.plain (OpenSpec.ofChange shellsGoodSpec)) shellsGoodCard

/-- THE TIED CARD OF 'arrastop.TopAfter'. -/
def topAfterCard : Claim7 := { stood := { row := topAfterRow, standIns := [], harness := (true, "4145ac5c8b8c28679807d066ca001dca9efe50960c6215dbbef2588599aae860"), looks := false }, kinds := [], alts := [], laidByText := true, laidKinds := [.data, .data, .data, .data, .pinned], laidTests := true, laidLooks := .later }
def TopAfterCardSaid : Prop := Claim7.holds Tryz.pinned (.plain (OpenSpec.ofChange topAfterSpec)) topAfterCard

/-- THE TIED CARD OF 'arrastop.TopNames'. -/
def topNamesCard : Claim7 := { stood := { row := topNamesRow, standIns := [], harness := (true, "4145ac5c8b8c28679807d066ca001dca9efe50960c6215dbbef2588599aae860"), looks := false }, kinds := [], alts := [], laidByText := true, laidKinds := [.data, .data, .data, .data, .pinned], laidTests := true, laidLooks := .later }
def TopNamesCardSaid : Prop := Claim7.holds Tryz.pinned (.plain (OpenSpec.ofChange topNamesSpec)) topNamesCard

/-- THE TIED CARD OF 'arrastop.TopScrub'. -/
def topScrubCard : Claim7 := { stood := { row := topScrubRow, standIns := [], harness := (true, "4145ac5c8b8c28679807d066ca001dca9efe50960c6215dbbef2588599aae860"), looks := false }, kinds := [], alts := [], laidByText := true, laidKinds := [.data, .data, .data, .data, .pinned], laidTests := true, laidLooks := .later }
def TopScrubCardSaid : Prop := Claim7.holds Tryz.pinned (.plain (OpenSpec.ofChange topScrubSpec)) topScrubCard

/-- THE TIED CARD OF 'arrastop.TopSteps'. -/
def topStepsCard : Claim7 := { stood := { row := topStepsRow, standIns := [], harness := (true, "4145ac5c8b8c28679807d066ca001dca9efe50960c6215dbbef2588599aae860"), looks := false }, kinds := [], alts := [], laidByText := true, laidKinds := [.data, .data, .data, .data, .pinned], laidTests := true, laidLooks := .later }
def TopStepsCardSaid : Prop := Claim7.holds Tryz.pinned (.plain (OpenSpec.ofChange topStepsSpec)) topStepsCard

/-- THE TIED CARD OF 'arrastop.TopTwice'. -/
def topTwiceCard : Claim7 := { stood := { row := topTwiceRow, standIns := [], harness := (true, "4145ac5c8b8c28679807d066ca001dca9efe50960c6215dbbef2588599aae860"), looks := false }, kinds := [], alts := [], laidByText := true, laidKinds := [.data, .data, .data, .data, .pinned], laidTests := true, laidLooks := .later }
def TopTwiceCardSaid : Prop := Claim7.holds Tryz.pinned (.plain (OpenSpec.ofChange topTwiceSpec)) topTwiceCard

/-- THE SECOND FORM's CARD OF 'arrastop.TopOne'. -/
def topOneUptoCard : Claim7 := { stood := { row := topOneUptoRow, standIns := [], harness := (true, "4145ac5c8b8c28679807d066ca001dca9efe50960c6215dbbef2588599aae860"), looks := false }, kinds := [], alts := [], laidByText := true, laidKinds := [.data, .data, .data, .data, .pinned], laidTests := true, laidLooks := .later }
def TopOneUptoCardSaid : Prop := Claim7.holds Tryz.pinned (.plain (OpenSpec.upto topOneSpec)) topOneUptoCard

/-- THE SECOND FORM's CARD OF 'arrastop.TopThen'. -/
def topThenUptoCard : Claim7 := { stood := { row := topThenUptoRow, standIns := [], harness := (true, "4145ac5c8b8c28679807d066ca001dca9efe50960c6215dbbef2588599aae860"), looks := false }, kinds := [], alts := [], laidByText := true, laidKinds := [.data, .data, .data, .data, .pinned], laidTests := true, laidLooks := .later }
def TopThenUptoCardSaid : Prop := Claim7.holds Tryz.pinned (.plain (OpenSpec.upto topThenSpec)) topThenUptoCard

/-- THE SECOND FORM's CARD OF 'arrastop.TopHealth'. -/
def topHealthUptoCard : Claim7 := { stood := { row := topHealthUptoRow, standIns := [], harness := (true, "4145ac5c8b8c28679807d066ca001dca9efe50960c6215dbbef2588599aae860"), looks := false }, kinds := [], alts := [], laidByText := true, laidKinds := [.data, .data, .data, .data, .pinned], laidTests := true, laidLooks := .later }
def TopHealthUptoCardSaid : Prop := Claim7.holds Tryz.pinned (.plain (OpenSpec.upto topHealthSpec)) topHealthUptoCard

/-- THE SECOND FORM's CARD OF 'arraskeep.ArchivesBack'. -/
def archivesBackUptoCard : Claim7 := { stood := { row := archivesBackUptoRow, standIns := [], harness := (true, "4145ac5c8b8c28679807d066ca001dca9efe50960c6215dbbef2588599aae860"), looks := false }, kinds := [], alts := [], laidByText := true, laidKinds := [.data, .data, .data, .data, .pinned], laidTests := true, laidLooks := .later }
def ArchivesBackUptoCardSaid : Prop := Claim7.holds Tryz.pinned (.plain (OpenSpec.upto archivesBackSpec)) archivesBackUptoCard

/-- THE SECOND FORM's CARD OF 'arraskeep.ShellsGood'. -/
def shellsGoodUptoCard : Claim7 := { stood := { row := shellsGoodUptoRow, standIns := [], harness := (true, "4145ac5c8b8c28679807d066ca001dca9efe50960c6215dbbef2588599aae860"), looks := false }, kinds := [], alts := [], laidByText := true, laidKinds := [.data, .data, .data, .data, .pinned], laidTests := true, laidLooks := .later }
def ShellsGoodUptoCardSaid : Prop := Claim7.holds Tryz.pinned (.plain (OpenSpec.upto shellsGoodSpec)) shellsGoodUptoCard

/-- THE SECOND FORM's CARD OF 'arrastop.TopAfter'. -/
def topAfterUptoCard : Claim7 := { stood := { row := topAfterUptoRow, standIns := [], harness := (true, "4145ac5c8b8c28679807d066ca001dca9efe50960c6215dbbef2588599aae860"), looks := false }, kinds := [], alts := [], laidByText := true, laidKinds := [.data, .data, .data, .data, .pinned], laidTests := true, laidLooks := .later }
def TopAfterUptoCardSaid : Prop := Claim7.holds Tryz.pinned (.plain (OpenSpec.upto topAfterSpec)) topAfterUptoCard

/-- THE SECOND FORM's CARD OF 'arrastop.TopNames'. -/
def topNamesUptoCard : Claim7 := { stood := { row := topNamesUptoRow, standIns := [], harness := (true, "4145ac5c8b8c28679807d066ca001dca9efe50960c6215dbbef2588599aae860"), looks := false }, kinds := [], alts := [], laidByText := true, laidKinds := [.data, .data, .data, .data, .pinned], laidTests := true, laidLooks := .later }
def TopNamesUptoCardSaid : Prop := Claim7.holds Tryz.pinned (.plain (OpenSpec.upto topNamesSpec)) topNamesUptoCard

/-- THE SECOND FORM's CARD OF 'arrastop.TopScrub'. -/
def topScrubUptoCard : Claim7 := { stood := { row := topScrubUptoRow, standIns := [], harness := (true, "4145ac5c8b8c28679807d066ca001dca9efe50960c6215dbbef2588599aae860"), looks := false }, kinds := [], alts := [], laidByText := true, laidKinds := [.data, .data, .data, .data, .pinned], laidTests := true, laidLooks := .later }
def TopScrubUptoCardSaid : Prop := Claim7.holds Tryz.pinned (.plain (OpenSpec.upto topScrubSpec)) topScrubUptoCard

/-- THE SECOND FORM's CARD OF 'arrastop.TopSteps'. -/
def topStepsUptoCard : Claim7 := { stood := { row := topStepsUptoRow, standIns := [], harness := (true, "4145ac5c8b8c28679807d066ca001dca9efe50960c6215dbbef2588599aae860"), looks := false }, kinds := [], alts := [], laidByText := true, laidKinds := [.data, .data, .data, .data, .pinned], laidTests := true, laidLooks := .later }
def TopStepsUptoCardSaid : Prop := Claim7.holds Tryz.pinned (.plain (OpenSpec.upto topStepsSpec)) topStepsUptoCard

/-- THE SECOND FORM's CARD OF 'arrastop.TopTwice'. -/
def topTwiceUptoCard : Claim7 := { stood := { row := topTwiceUptoRow, standIns := [], harness := (true, "4145ac5c8b8c28679807d066ca001dca9efe50960c6215dbbef2588599aae860"), looks := false }, kinds := [], alts := [], laidByText := true, laidKinds := [.data, .data, .data, .data, .pinned], laidTests := true, laidLooks := .later }
def TopTwiceUptoCardSaid : Prop := Claim7.holds Tryz.pinned (.plain (OpenSpec.upto topTwiceSpec)) topTwiceUptoCard
end Rows
end Go.Proofs.YtgjijcgkmofaaaaGreatDoor
