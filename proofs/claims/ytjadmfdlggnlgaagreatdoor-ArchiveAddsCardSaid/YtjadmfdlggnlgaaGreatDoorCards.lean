/-
  DERIVED. GIVEN WITH THE SEED: THE CARDS: each row of YtjadmfdlggnlgaaGreatDoorRows.lean that lists a variable, with what it lists TIED to the program's text (the seventh form; the later family's looks); each row that meets fmt, with fmt's text TOLD by the authors' own Lean function (tested against real Go, not proved from fmt's source: count such statements apart). THE CARD IS WHAT COUNTS. Prove the row's statement (the work); the ties are given (YtjadmfdlggnlgaaGreatDoorTie.lean); close each card by the builder's one call (the guide's Derived/Test/ToyasCard.lean, 'card_holds'). Laid BY PROGRAM, IN A SANDBOX (cutbox-door.mjs). By AI agents, Wed Nov 11 2026. No macro, syntax, notation, axiom, sorry.
-/
import Derived.Test.YtjadmfdlggnlgaaGreatDoorRows
import GoSem.ClaimSeven
namespace Go.Proofs.YtjadmfdlggnlgaaGreatDoor
namespace Rows

/-- THE TIED CARD OF 'arraslaw.ArchiveAdds'. -/
def archiveAddsCard : Claim7 := { stood := { row := archiveAddsRow, standIns := [], harness := (true, "799c68e937588680ed98f62b9b26bb30e59ddf9e4fe4854cc2f9cb87152c3a1a"), looks := false }, kinds := [], alts := [], laidByText := true, laidKinds := [.data, .pinned], laidTests := true, laidLooks := .later }
def ArchiveAddsCardSaid : Prop := Claim7.holds Tryz.pinned (.plain (OpenSpec.ofChange archiveAddsSpec)) archiveAddsCard

/-- THE SECOND FORM's CARD OF 'arraslaw.ArchiveAdds'. -/
def archiveAddsUptoCard : Claim7 := { stood := { row := archiveAddsUptoRow, standIns := [], harness := (true, "799c68e937588680ed98f62b9b26bb30e59ddf9e4fe4854cc2f9cb87152c3a1a"), looks := false }, kinds := [], alts := [], laidByText := true, laidKinds := [.data, .pinned], laidTests := true, laidLooks := .later }
def ArchiveAddsUptoCardSaid : Prop := Claim7.holds Tryz.pinned (.plain (OpenSpec.upto archiveAddsSpec)) archiveAddsUptoCard
end Rows
end Go.Proofs.YtjadmfdlggnlgaaGreatDoor
