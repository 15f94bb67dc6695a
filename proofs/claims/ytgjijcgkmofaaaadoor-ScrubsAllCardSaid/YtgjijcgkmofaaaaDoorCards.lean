/-
  DERIVED. GIVEN WITH THE SEED: THE CARDS: each row of YtgjijcgkmofaaaaDoorRows.lean that lists a variable, with what it lists TIED to the program's text (the seventh form; the later family's looks); each row that meets fmt, with fmt's text TOLD by the authors' own Lean function (tested against real Go, not proved from fmt's source: count such statements apart). THE CARD IS WHAT COUNTS. Prove the row's statement (the work); the ties are given (YtgjijcgkmofaaaaDoorTie.lean); close each card by the builder's one call (the guide's Derived/Test/ToyasCard.lean, 'card_holds'). Laid BY PROGRAM, IN A SANDBOX (cutbox-door.mjs). By AI agents, Wed Nov 11 2026. No macro, syntax, notation, axiom, sorry.
-/
import Derived.Test.YtgjijcgkmofaaaaDoorRows
import GoSem.ClaimSeven
namespace Go.Proofs.YtgjijcgkmofaaaaDoor
namespace Rows

/-- THE TIED CARD OF 'arraskeep.HealsAll'. -/
def healsAllCard : Claim7 := { stood := { row := healsAllRow, standIns := [], harness := (true, "9a9447b5b8d0a4e2fddcc02ab5d94264b343256b15549c376071bf0c111eadae"), looks := false }, kinds := [], alts := [], laidByText := true, laidKinds := [.data, .data, .data], laidTests := true, laidLooks := .later }
def HealsAllCardSaid : Prop := Claim7.holds Tryd.pinned (.plain (OpenSpec.ofChange healsAllSpec)) healsAllCard

/-- THE TIED CARD OF 'arraskeep.ScrubsAll'. -/
def scrubsAllCard : Claim7 := { stood := { row := scrubsAllRow, standIns := [], harness := (true, "9a9447b5b8d0a4e2fddcc02ab5d94264b343256b15549c376071bf0c111eadae"), looks := false }, kinds := [], alts := [], laidByText := true, laidKinds := [.data, .data, .data], laidTests := true, laidLooks := .later }
def ScrubsAllCardSaid : Prop := Claim7.holds Tryd.pinned (.plain (OpenSpec.ofChange scrubsAllSpec)) scrubsAllCard

/-- THE SECOND FORM's CARD OF 'arraskeep.HealsAll'. -/
def healsAllUptoCard : Claim7 := { stood := { row := healsAllUptoRow, standIns := [], harness := (true, "9a9447b5b8d0a4e2fddcc02ab5d94264b343256b15549c376071bf0c111eadae"), looks := false }, kinds := [], alts := [], laidByText := true, laidKinds := [.data, .data, .data], laidTests := true, laidLooks := .later }
def HealsAllUptoCardSaid : Prop := Claim7.holds Tryd.pinned (.plain (OpenSpec.upto healsAllSpec)) healsAllUptoCard

/-- THE SECOND FORM's CARD OF 'arraskeep.ScrubsAll'. -/
def scrubsAllUptoCard : Claim7 := { stood := { row := scrubsAllUptoRow, standIns := [], harness := (true, "9a9447b5b8d0a4e2fddcc02ab5d94264b343256b15549c376071bf0c111eadae"), looks := false }, kinds := [], alts := [], laidByText := true, laidKinds := [.data, .data, .data], laidTests := true, laidLooks := .later }
def ScrubsAllUptoCardSaid : Prop := Claim7.holds Tryd.pinned (.plain (OpenSpec.upto scrubsAllSpec)) scrubsAllUptoCard
end Rows
end Go.Proofs.YtgjijcgkmofaaaaDoor
