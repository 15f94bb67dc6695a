/-
  DERIVED. GIVEN WITH THE SEED: THE CARDS: each row of YtokpjgpdkmimgaaDoorRows.lean that lists a variable, with what it lists TIED to the program's text (the seventh form; the later family's looks); each row that meets fmt, with fmt's text TOLD by the authors' own Lean function (tested against real Go, not proved from fmt's source: count such statements apart). THE CARD IS WHAT COUNTS. Prove the row's statement (the work); the ties are given (YtokpjgpdkmimgaaDoorTie.lean); close each card by the builder's one call (the guide's Derived/Test/ToyasCard.lean, 'card_holds'). Laid BY PROGRAM, IN A SANDBOX (cutbox-door.mjs). By AI agents, Wed Nov 11 2026. No macro, syntax, notation, axiom, sorry.
-/
import Derived.Test.YtokpjgpdkmimgaaDoorRows
import GoSem.ClaimSeven
namespace Go.Proofs.YtokpjgpdkmimgaaDoor
namespace Rows

/-- THE TIED CARD OF 'arraslaw.CatalogDecodes'. -/
def catalogDecodesCard : Claim7 := { stood := { row := catalogDecodesRow, standIns := [], harness := (true, "aaf75e7a6ca32311bc04a36109c6d78565647e927d29d38afb6c36808b9d317b"), looks := false }, kinds := [], alts := [], laidByText := true, laidKinds := [.data, .pinned], laidTests := true, laidLooks := .later }
def CatalogDecodesCardSaid : Prop := Claim7.holds Tryd.pinned (.plain (OpenSpec.ofChange catalogDecodesSpec)) catalogDecodesCard

/-- THE TIED CARD OF 'arraskeep.SectorsBack'. -/
def sectorsBackCard : Claim7 := { stood := { row := sectorsBackRow, standIns := [], harness := (true, "aaf75e7a6ca32311bc04a36109c6d78565647e927d29d38afb6c36808b9d317b"), looks := false }, kinds := [], alts := [], laidByText := true, laidKinds := [.data, .pinned], laidTests := true, laidLooks := .later }
def SectorsBackCardSaid : Prop := Claim7.holds Tryd.pinned (.plain (OpenSpec.ofChange sectorsBackSpec)) sectorsBackCard

/-- THE TIED CARD OF 'arraslaw.ArchiveOpens'. -/
def archiveOpensCard : Claim7 := { stood := { row := archiveOpensRow, standIns := [], harness := (true, "aaf75e7a6ca32311bc04a36109c6d78565647e927d29d38afb6c36808b9d317b"), looks := false }, kinds := [], alts := [], laidByText := true, laidKinds := [.data, .pinned], laidTests := true, laidLooks := .later }
def ArchiveOpensCardSaid : Prop := Claim7.holds Tryd.pinned (.plain (OpenSpec.ofChange archiveOpensSpec)) archiveOpensCard

/-- THE TIED CARD OF 'arraslaw.ArchiveNames'. -/
def archiveNamesCard : Claim7 := { stood := { row := archiveNamesRow, standIns := [], harness := (true, "aaf75e7a6ca32311bc04a36109c6d78565647e927d29d38afb6c36808b9d317b"), looks := false }, kinds := [], alts := [], laidByText := true, laidKinds := [.data, .pinned], laidTests := true, laidLooks := .later }
def ArchiveNamesCardSaid : Prop := Claim7.holds Tryd.pinned (.plain (OpenSpec.ofChange archiveNamesSpec)) archiveNamesCard

/-- THE TIED CARD OF 'arraskeep.CatalogsBack'. -/
def catalogsBackCard : Claim7 := { stood := { row := catalogsBackRow, standIns := [], harness := (true, "aaf75e7a6ca32311bc04a36109c6d78565647e927d29d38afb6c36808b9d317b"), looks := false }, kinds := [], alts := [], laidByText := true, laidKinds := [.data, .pinned], laidTests := true, laidLooks := .later }
def CatalogsBackCardSaid : Prop := Claim7.holds Tryd.pinned (.plain (OpenSpec.ofChange catalogsBackSpec)) catalogsBackCard

/-- THE TIED CARD OF 'arraslaw.ArchiveGets'. -/
def archiveGetsCard : Claim7 := { stood := { row := archiveGetsRow, standIns := [], harness := (true, "aaf75e7a6ca32311bc04a36109c6d78565647e927d29d38afb6c36808b9d317b"), looks := false }, kinds := [], alts := [], laidByText := true, laidKinds := [.data, .pinned], laidTests := true, laidLooks := .later }
def ArchiveGetsCardSaid : Prop := Claim7.holds Tryd.pinned (.plain (OpenSpec.ofChange archiveGetsSpec)) archiveGetsCard

/-- THE TIED CARD OF 'arraskeep.ArraysStand'. -/
def arraysStandCard : Claim7 := { stood := { row := arraysStandRow, standIns := [], harness := (true, "aaf75e7a6ca32311bc04a36109c6d78565647e927d29d38afb6c36808b9d317b"), looks := false }, kinds := [], alts := [], laidByText := true, laidKinds := [.data, .data, .data], laidTests := true, laidLooks := .later }
def ArraysStandCardSaid : Prop := Claim7.holds Tryd.pinned (.plain (OpenSpec.ofChange arraysStandSpec)) arraysStandCard

/-- THE TIED CARD OF 'arraskeep.ArraysParity'. -/
def arraysParityCard : Claim7 := { stood := { row := arraysParityRow, standIns := [], harness := (true, "aaf75e7a6ca32311bc04a36109c6d78565647e927d29d38afb6c36808b9d317b"), looks := false }, kinds := [], alts := [], laidByText := true, laidKinds := [.data, .data, .data], laidTests := true, laidLooks := .later }
def ArraysParityCardSaid : Prop := Claim7.holds Tryd.pinned (.plain (OpenSpec.ofChange arraysParitySpec)) arraysParityCard

/-- THE TIED CARD OF 'arraskeep.WritesStay'. -/
def writesStayCard : Claim7 := { stood := { row := writesStayRow, standIns := [], harness := (true, "aaf75e7a6ca32311bc04a36109c6d78565647e927d29d38afb6c36808b9d317b"), looks := false }, kinds := [], alts := [], laidByText := true, laidKinds := [.data, .data, .data], laidTests := true, laidLooks := .later }
def WritesStayCardSaid : Prop := Claim7.holds Tryd.pinned (.plain (OpenSpec.ofChange writesStaySpec)) writesStayCard

/-- THE TIED CARD OF 'arraskeep.StreamsBack'. -/
def streamsBackCard : Claim7 := { stood := { row := streamsBackRow, standIns := [], harness := (true, "aaf75e7a6ca32311bc04a36109c6d78565647e927d29d38afb6c36808b9d317b"), looks := false }, kinds := [], alts := [], laidByText := true, laidKinds := [.data, .data, .data], laidTests := true, laidLooks := .later }
def StreamsBackCardSaid : Prop := Claim7.holds Tryd.pinned (.plain (OpenSpec.ofChange streamsBackSpec)) streamsBackCard

/-- THE SECOND FORM's CARD OF 'arraslaw.CatalogDecodes'. -/
def catalogDecodesUptoCard : Claim7 := { stood := { row := catalogDecodesUptoRow, standIns := [], harness := (true, "aaf75e7a6ca32311bc04a36109c6d78565647e927d29d38afb6c36808b9d317b"), looks := false }, kinds := [], alts := [], laidByText := true, laidKinds := [.data, .pinned], laidTests := true, laidLooks := .later }
def CatalogDecodesUptoCardSaid : Prop := Claim7.holds Tryd.pinned (.plain (OpenSpec.upto catalogDecodesSpec)) catalogDecodesUptoCard

/-- THE SECOND FORM's CARD OF 'arraskeep.SectorsBack'. -/
def sectorsBackUptoCard : Claim7 := { stood := { row := sectorsBackUptoRow, standIns := [], harness := (true, "aaf75e7a6ca32311bc04a36109c6d78565647e927d29d38afb6c36808b9d317b"), looks := false }, kinds := [], alts := [], laidByText := true, laidKinds := [.data, .pinned], laidTests := true, laidLooks := .later }
def SectorsBackUptoCardSaid : Prop := Claim7.holds Tryd.pinned (.plain (OpenSpec.upto sectorsBackSpec)) sectorsBackUptoCard

/-- THE SECOND FORM's CARD OF 'arraslaw.ArchiveOpens'. -/
def archiveOpensUptoCard : Claim7 := { stood := { row := archiveOpensUptoRow, standIns := [], harness := (true, "aaf75e7a6ca32311bc04a36109c6d78565647e927d29d38afb6c36808b9d317b"), looks := false }, kinds := [], alts := [], laidByText := true, laidKinds := [.data, .pinned], laidTests := true, laidLooks := .later }
def ArchiveOpensUptoCardSaid : Prop := Claim7.holds Tryd.pinned (.plain (OpenSpec.upto archiveOpensSpec)) archiveOpensUptoCard

/-- THE SECOND FORM's CARD OF 'arraslaw.ArchiveNames'. -/
def archiveNamesUptoCard : Claim7 := { stood := { row := archiveNamesUptoRow, standIns := [], harness := (true, "aaf75e7a6ca32311bc04a36109c6d78565647e927d29d38afb6c36808b9d317b"), looks := false }, kinds := [], alts := [], laidByText := true, laidKinds := [.data, .pinned], laidTests := true, laidLooks := .later }
def ArchiveNamesUptoCardSaid : Prop := Claim7.holds Tryd.pinned (.plain (OpenSpec.upto archiveNamesSpec)) archiveNamesUptoCard

/-- THE SECOND FORM's CARD OF 'arraskeep.CatalogsBack'. -/
def catalogsBackUptoCard : Claim7 := { stood := { row := catalogsBackUptoRow, standIns := [], harness := (true, "aaf75e7a6ca32311bc04a36109c6d78565647e927d29d38afb6c36808b9d317b"), looks := false }, kinds := [], alts := [], laidByText := true, laidKinds := [.data, .pinned], laidTests := true, laidLooks := .later }
def CatalogsBackUptoCardSaid : Prop := Claim7.holds Tryd.pinned (.plain (OpenSpec.upto catalogsBackSpec)) catalogsBackUptoCard

/-- THE SECOND FORM's CARD OF 'arraslaw.ArchiveGets'. -/
def archiveGetsUptoCard : Claim7 := { stood := { row := archiveGetsUptoRow, standIns := [], harness := (true, "aaf75e7a6ca32311bc04a36109c6d78565647e927d29d38afb6c36808b9d317b"), looks := false }, kinds := [], alts := [], laidByText := true, laidKinds := [.data, .pinned], laidTests := true, laidLooks := .later }
def ArchiveGetsUptoCardSaid : Prop := Claim7.holds Tryd.pinned (.plain (OpenSpec.upto archiveGetsSpec)) archiveGetsUptoCard

/-- THE SECOND FORM's CARD OF 'arraskeep.ArraysStand'. -/
def arraysStandUptoCard : Claim7 := { stood := { row := arraysStandUptoRow, standIns := [], harness := (true, "aaf75e7a6ca32311bc04a36109c6d78565647e927d29d38afb6c36808b9d317b"), looks := false }, kinds := [], alts := [], laidByText := true, laidKinds := [.data, .data, .data], laidTests := true, laidLooks := .later }
def ArraysStandUptoCardSaid : Prop := Claim7.holds Tryd.pinned (.plain (OpenSpec.upto arraysStandSpec)) arraysStandUptoCard

/-- THE SECOND FORM's CARD OF 'arraskeep.ArraysParity'. -/
def arraysParityUptoCard : Claim7 := { stood := { row := arraysParityUptoRow, standIns := [], harness := (true, "aaf75e7a6ca32311bc04a36109c6d78565647e927d29d38afb6c36808b9d317b"), looks := false }, kinds := [], alts := [], laidByText := true, laidKinds := [.data, .data, .data], laidTests := true, laidLooks := .later }
def ArraysParityUptoCardSaid : Prop := Claim7.holds Tryd.pinned (.plain (OpenSpec.upto arraysParitySpec)) arraysParityUptoCard

/-- THE SECOND FORM's CARD OF 'arraskeep.WritesStay'. -/
def writesStayUptoCard : Claim7 := { stood := { row := writesStayUptoRow, standIns := [], harness := (true, "aaf75e7a6ca32311bc04a36109c6d78565647e927d29d38afb6c36808b9d317b"), looks := false }, kinds := [], alts := [], laidByText := true, laidKinds := [.data, .data, .data], laidTests := true, laidLooks := .later }
def WritesStayUptoCardSaid : Prop := Claim7.holds Tryd.pinned (.plain (OpenSpec.upto writesStaySpec)) writesStayUptoCard

/-- THE SECOND FORM's CARD OF 'arraskeep.StreamsBack'. -/
def streamsBackUptoCard : Claim7 := { stood := { row := streamsBackUptoRow, standIns := [], harness := (true, "aaf75e7a6ca32311bc04a36109c6d78565647e927d29d38afb6c36808b9d317b"), looks := false }, kinds := [], alts := [], laidByText := true, laidKinds := [.data, .data, .data], laidTests := true, laidLooks := .later }
def StreamsBackUptoCardSaid : Prop := Claim7.holds Tryd.pinned (.plain (OpenSpec.upto streamsBackSpec)) streamsBackUptoCard
end Rows
end Go.Proofs.YtokpjgpdkmimgaaDoor
