/-
  No cell of these rows narrows 'for every input' (looked for: loops, veiled, ifaces, maps, wideKeys, modest, calm, conditions, laid).
  DERIVED. THE GIVEN ROWS OF THIS SEAT. 34 by the template 'for every input the law returns true; each argument reads behind the call as it read before'; 0 by the template 'total and deterministic' (their statements: YtdogkekeccbpnaaTotals.lean).
  GIVEN WITH THE SEED: the statements are not yours to turn. If you find one false, say at which input.
  Laid BY PROGRAM, IN A SANDBOX (cutbox-rows.mjs): the forced cells as the released guide's own fill.sh prints them over the translation 5824359f8388645b… (all of the seat's roots in one cut). By AI agents, Wed Nov 11 2026. No macro, syntax, notation, axiom, sorry.
-/
import Derived.Test.YtdogkekeccbpnaaChecked
import GoSem.Claim
import GoSem.ClaimJoined
import GoSem.ClaimMapViews
import Derived.JoinedTies
import Derived.KernelRfl
namespace Go.Proofs.Ytdogkekeccbpnaa
/- THE CELL 'sum', in the pinned program and in every row, IS THE sha256 OF THE DUMP (.gsa) THAT YtdogkekeccbpnaaProg.lean LOADS. Nothing in Lean hashes anything: it is a label: what it is worth is what the hold of that sum in a sandbox is worth. -/
noncomputable def Try.pinned : Pinned := { name := "ytdogkekeccbpnaa", sum := "5824359f8388645b21415011ce042c3b7b936d7c066beda445ee483e606c3b88", checked := Try.checked }
namespace Rows
def none {H : Type} : Left H := { results := [], args := [] }

/-- 'arraslaw.Names': WHATEVER THE INPUT: true; the input reads as it did. -/
def namesSpec : ChangeSpec := { name := "names", fn := fun _ => fun
  | [] => { results := [.lit (.bool true)], args := [] }
  | _ => none }
def namesRow : OpenClaim := { program := "ytdogkekeccbpnaa", sum := "5824359f8388645b21415011ce042c3b7b936d7c066beda445ee483e606c3b88", func := "arras/arraslaw.Names", spec := "names", apart := false }
def NamesSaid : Prop := namesRow.holds Try.pinned (OpenSpec.ofChange namesSpec)

/-- ITS FALSE NEIGHBOUR: 'it returns false'. Refute it at one input. -/
def namesWrong : ChangeSpec := { name := "names", fn := fun _ => fun
  | [] => { results := [.lit (.bool false)], args := [] }
  | _ => none }
def NamesWrongFalsely : Prop := namesRow.holds Try.pinned (OpenSpec.ofChange namesWrong)

/-- 'arraslaw.StreamSectors': WHATEVER THE INPUT: true; the input reads as it did. -/
def streamSectorsSpec : ChangeSpec := { name := "streamSectors", fn := fun _ => fun
  | [d] => { results := [.lit (.bool true)], args := [d] }
  | _ => none }
def streamSectorsRow : OpenClaim := { program := "ytdogkekeccbpnaa", sum := "5824359f8388645b21415011ce042c3b7b936d7c066beda445ee483e606c3b88", func := "arras/arraslaw.StreamSectors", spec := "streamSectors", apart := false }
def StreamSectorsSaid : Prop := streamSectorsRow.holds Try.pinned (OpenSpec.ofChange streamSectorsSpec)

/-- ITS FALSE NEIGHBOUR: 'it returns false'. Refute it at one input. -/
def streamSectorsWrong : ChangeSpec := { name := "streamSectors", fn := fun _ => fun
  | [d] => { results := [.lit (.bool false)], args := [d] }
  | _ => none }
def StreamSectorsWrongFalsely : Prop := streamSectorsRow.holds Try.pinned (OpenSpec.ofChange streamSectorsWrong)

/-- 'arraslaw.SumOf': WHATEVER THE INPUT: true; the input reads as it did. -/
def sumOfSpec : ChangeSpec := { name := "sumOf", fn := fun _ => fun
  | [d] => { results := [.lit (.bool true)], args := [d] }
  | _ => none }
def sumOfRow : OpenClaim := { program := "ytdogkekeccbpnaa", sum := "5824359f8388645b21415011ce042c3b7b936d7c066beda445ee483e606c3b88", func := "arras/arraslaw.SumOf", spec := "sumOf", apart := false }
def SumOfSaid : Prop := sumOfRow.holds Try.pinned (OpenSpec.ofChange sumOfSpec)

/-- ITS FALSE NEIGHBOUR: 'it returns false'. Refute it at one input. -/
def sumOfWrong : ChangeSpec := { name := "sumOf", fn := fun _ => fun
  | [d] => { results := [.lit (.bool false)], args := [d] }
  | _ => none }
def SumOfWrongFalsely : Prop := sumOfRow.holds Try.pinned (OpenSpec.ofChange sumOfWrong)

/-- 'arraslaw.DeviceCopies': WHATEVER THE INPUT: true; the input reads as it did. -/
def deviceCopiesSpec : ChangeSpec := { name := "deviceCopies", fn := fun _ => fun
  | [d] => { results := [.lit (.bool true)], args := [d] }
  | _ => none }
def deviceCopiesRow : OpenClaim := { program := "ytdogkekeccbpnaa", sum := "5824359f8388645b21415011ce042c3b7b936d7c066beda445ee483e606c3b88", func := "arras/arraslaw.DeviceCopies", spec := "deviceCopies", apart := false }
def DeviceCopiesSaid : Prop := deviceCopiesRow.holds Try.pinned (OpenSpec.ofChange deviceCopiesSpec)

/-- ITS FALSE NEIGHBOUR: 'it returns false'. Refute it at one input. -/
def deviceCopiesWrong : ChangeSpec := { name := "deviceCopies", fn := fun _ => fun
  | [d] => { results := [.lit (.bool false)], args := [d] }
  | _ => none }
def DeviceCopiesWrongFalsely : Prop := deviceCopiesRow.holds Try.pinned (OpenSpec.ofChange deviceCopiesWrong)

/-- 'arraslaw.CatalogCopies': WHATEVER THE INPUT: true; the input reads as it did. -/
def catalogCopiesSpec : ChangeSpec := { name := "catalogCopies", fn := fun _ => fun
  | [d] => { results := [.lit (.bool true)], args := [d] }
  | _ => none }
def catalogCopiesRow : OpenClaim := { program := "ytdogkekeccbpnaa", sum := "5824359f8388645b21415011ce042c3b7b936d7c066beda445ee483e606c3b88", func := "arras/arraslaw.CatalogCopies", spec := "catalogCopies", apart := false }
def CatalogCopiesSaid : Prop := catalogCopiesRow.holds Try.pinned (OpenSpec.ofChange catalogCopiesSpec)

/-- ITS FALSE NEIGHBOUR: 'it returns false'. Refute it at one input. -/
def catalogCopiesWrong : ChangeSpec := { name := "catalogCopies", fn := fun _ => fun
  | [d] => { results := [.lit (.bool false)], args := [d] }
  | _ => none }
def CatalogCopiesWrongFalsely : Prop := catalogCopiesRow.holds Try.pinned (OpenSpec.ofChange catalogCopiesWrong)

/-- 'arraslaw.CatalogNames': WHATEVER THE INPUT: true; the input reads as it did. -/
def catalogNamesSpec : ChangeSpec := { name := "catalogNames", fn := fun _ => fun
  | [d] => { results := [.lit (.bool true)], args := [d] }
  | _ => none }
def catalogNamesRow : OpenClaim := { program := "ytdogkekeccbpnaa", sum := "5824359f8388645b21415011ce042c3b7b936d7c066beda445ee483e606c3b88", func := "arras/arraslaw.CatalogNames", spec := "catalogNames", unfollowed := true, recurses := true, apart := false }
def CatalogNamesSaid : Prop := catalogNamesRow.holds Try.pinned (OpenSpec.ofChange catalogNamesSpec)

/-- ITS FALSE NEIGHBOUR: 'it returns false'. Refute it at one input. -/
def catalogNamesWrong : ChangeSpec := { name := "catalogNames", fn := fun _ => fun
  | [d] => { results := [.lit (.bool false)], args := [d] }
  | _ => none }
def CatalogNamesWrongFalsely : Prop := catalogNamesRow.holds Try.pinned (OpenSpec.ofChange catalogNamesWrong)

/-- 'arraslaw.DeviceChecks': WHATEVER THE INPUT: true; the input reads as it did. -/
def deviceChecksSpec : ChangeSpec := { name := "deviceChecks", fn := fun _ => fun
  | [d] => { results := [.lit (.bool true)], args := [d] }
  | _ => none }
def deviceChecksRow : OpenClaim := { program := "ytdogkekeccbpnaa", sum := "5824359f8388645b21415011ce042c3b7b936d7c066beda445ee483e606c3b88", func := "arras/arraslaw.DeviceChecks", spec := "deviceChecks", unfollowed := true, recurses := true, apart := false }
def DeviceChecksSaid : Prop := deviceChecksRow.holds Try.pinned (OpenSpec.ofChange deviceChecksSpec)

/-- ITS FALSE NEIGHBOUR: 'it returns false'. Refute it at one input. -/
def deviceChecksWrong : ChangeSpec := { name := "deviceChecks", fn := fun _ => fun
  | [d] => { results := [.lit (.bool false)], args := [d] }
  | _ => none }
def DeviceChecksWrongFalsely : Prop := deviceChecksRow.holds Try.pinned (OpenSpec.ofChange deviceChecksWrong)

/-- 'arraslaw.ArrayCopies': WHATEVER THE INPUT: true; the input reads as it did. -/
def arrayCopiesSpec : ChangeSpec := { name := "arrayCopies", fn := fun _ => fun
  | [d] => { results := [.lit (.bool true)], args := [d] }
  | _ => none }
def arrayCopiesRow : OpenClaim := { program := "ytdogkekeccbpnaa", sum := "5824359f8388645b21415011ce042c3b7b936d7c066beda445ee483e606c3b88", func := "arras/arraslaw.ArrayCopies", spec := "arrayCopies", apart := false }
def ArrayCopiesSaid : Prop := arrayCopiesRow.holds Try.pinned (OpenSpec.ofChange arrayCopiesSpec)

/-- ITS FALSE NEIGHBOUR: 'it returns false'. Refute it at one input. -/
def arrayCopiesWrong : ChangeSpec := { name := "arrayCopies", fn := fun _ => fun
  | [d] => { results := [.lit (.bool false)], args := [d] }
  | _ => none }
def ArrayCopiesWrongFalsely : Prop := arrayCopiesRow.holds Try.pinned (OpenSpec.ofChange arrayCopiesWrong)

/-- 'arraslaw.SectorDecodes': WHATEVER THE INPUT: true; the input reads as it did. -/
def sectorDecodesSpec : ChangeSpec := { name := "sectorDecodes", fn := fun _ => fun
  | [d1, d2] => { results := [.lit (.bool true)], args := [d1, d2] }
  | _ => none }
def sectorDecodesRow : OpenClaim := { program := "ytdogkekeccbpnaa", sum := "5824359f8388645b21415011ce042c3b7b936d7c066beda445ee483e606c3b88", func := "arras/arraslaw.SectorDecodes", spec := "sectorDecodes", apart := false }
def SectorDecodesSaid : Prop := sectorDecodesRow.holds Try.pinned (OpenSpec.ofChange sectorDecodesSpec)

/-- ITS FALSE NEIGHBOUR: 'it returns false'. Refute it at one input. -/
def sectorDecodesWrong : ChangeSpec := { name := "sectorDecodes", fn := fun _ => fun
  | [d1, d2] => { results := [.lit (.bool false)], args := [d1, d2] }
  | _ => none }
def SectorDecodesWrongFalsely : Prop := sectorDecodesRow.holds Try.pinned (OpenSpec.ofChange sectorDecodesWrong)

/-- 'arraslaw.ArrayChecks': WHATEVER THE INPUT: true; the input reads as it did. -/
def arrayChecksSpec : ChangeSpec := { name := "arrayChecks", fn := fun _ => fun
  | [d] => { results := [.lit (.bool true)], args := [d] }
  | _ => none }
def arrayChecksRow : OpenClaim := { program := "ytdogkekeccbpnaa", sum := "5824359f8388645b21415011ce042c3b7b936d7c066beda445ee483e606c3b88", func := "arras/arraslaw.ArrayChecks", spec := "arrayChecks", unfollowed := true, recurses := true, apart := false }
def ArrayChecksSaid : Prop := arrayChecksRow.holds Try.pinned (OpenSpec.ofChange arrayChecksSpec)

/-- ITS FALSE NEIGHBOUR: 'it returns false'. Refute it at one input. -/
def arrayChecksWrong : ChangeSpec := { name := "arrayChecks", fn := fun _ => fun
  | [d] => { results := [.lit (.bool false)], args := [d] }
  | _ => none }
def ArrayChecksWrongFalsely : Prop := arrayChecksRow.holds Try.pinned (OpenSpec.ofChange arrayChecksWrong)

/-- 'arraslaw.ArchiveFiles': WHATEVER THE INPUT: true; the input reads as it did. -/
def archiveFilesSpec : ChangeSpec := { name := "archiveFiles", fn := fun _ => fun
  | [d] => { results := [.lit (.bool true)], args := [d] }
  | _ => none }
def archiveFilesRow : OpenClaim := { program := "ytdogkekeccbpnaa", sum := "5824359f8388645b21415011ce042c3b7b936d7c066beda445ee483e606c3b88", func := "arras/arraslaw.ArchiveFiles", spec := "archiveFiles", unfollowed := true, recurses := true, apart := false }
def ArchiveFilesSaid : Prop := archiveFilesRow.holds Try.pinned (OpenSpec.ofChange archiveFilesSpec)

/-- ITS FALSE NEIGHBOUR: 'it returns false'. Refute it at one input. -/
def archiveFilesWrong : ChangeSpec := { name := "archiveFiles", fn := fun _ => fun
  | [d] => { results := [.lit (.bool false)], args := [d] }
  | _ => none }
def ArchiveFilesWrongFalsely : Prop := archiveFilesRow.holds Try.pinned (OpenSpec.ofChange archiveFilesWrong)

/-- 'arraslaw.CatalogChecks': WHATEVER THE INPUT: true; the input reads as it did. -/
def catalogChecksSpec : ChangeSpec := { name := "catalogChecks", fn := fun _ => fun
  | [d] => { results := [.lit (.bool true)], args := [d] }
  | _ => none }
def catalogChecksRow : OpenClaim := { program := "ytdogkekeccbpnaa", sum := "5824359f8388645b21415011ce042c3b7b936d7c066beda445ee483e606c3b88", func := "arras/arraslaw.CatalogChecks", spec := "catalogChecks", unfollowed := true, recurses := true, apart := false }
def CatalogChecksSaid : Prop := catalogChecksRow.holds Try.pinned (OpenSpec.ofChange catalogChecksSpec)

/-- ITS FALSE NEIGHBOUR: 'it returns false'. Refute it at one input. -/
def catalogChecksWrong : ChangeSpec := { name := "catalogChecks", fn := fun _ => fun
  | [d] => { results := [.lit (.bool false)], args := [d] }
  | _ => none }
def CatalogChecksWrongFalsely : Prop := catalogChecksRow.holds Try.pinned (OpenSpec.ofChange catalogChecksWrong)

/-- 'arraslaw.PressPacks': WHATEVER THE INPUT: true; the input reads as it did. -/
def pressPacksSpec : ChangeSpec := { name := "pressPacks", fn := fun _ => fun
  | [d] => { results := [.lit (.bool true)], args := [d] }
  | _ => none }
def pressPacksRow : OpenClaim := { program := "ytdogkekeccbpnaa", sum := "5824359f8388645b21415011ce042c3b7b936d7c066beda445ee483e606c3b88", func := "arras/arraslaw.PressPacks", spec := "pressPacks", unfollowed := true, recurses := true, apart := false }
def PressPacksSaid : Prop := pressPacksRow.holds Try.pinned (OpenSpec.ofChange pressPacksSpec)

/-- ITS FALSE NEIGHBOUR: 'it returns false'. Refute it at one input. -/
def pressPacksWrong : ChangeSpec := { name := "pressPacks", fn := fun _ => fun
  | [d] => { results := [.lit (.bool false)], args := [d] }
  | _ => none }
def PressPacksWrongFalsely : Prop := pressPacksRow.holds Try.pinned (OpenSpec.ofChange pressPacksWrong)

/-- 'arraslaw.DeviceLoses': WHATEVER THE INPUT: true; the input reads as it did. -/
def deviceLosesSpec : ChangeSpec := { name := "deviceLoses", fn := fun _ => fun
  | [d1, d2] => { results := [.lit (.bool true)], args := [d1, d2] }
  | _ => none }
def deviceLosesRow : OpenClaim := { program := "ytdogkekeccbpnaa", sum := "5824359f8388645b21415011ce042c3b7b936d7c066beda445ee483e606c3b88", func := "arras/arraslaw.DeviceLoses", spec := "deviceLoses", unfollowed := true, recurses := true, apart := false }
def DeviceLosesSaid : Prop := deviceLosesRow.holds Try.pinned (OpenSpec.ofChange deviceLosesSpec)

/-- ITS FALSE NEIGHBOUR: 'it returns false'. Refute it at one input. -/
def deviceLosesWrong : ChangeSpec := { name := "deviceLoses", fn := fun _ => fun
  | [d1, d2] => { results := [.lit (.bool false)], args := [d1, d2] }
  | _ => none }
def DeviceLosesWrongFalsely : Prop := deviceLosesRow.holds Try.pinned (OpenSpec.ofChange deviceLosesWrong)

/-- 'arraslaw.CatalogNexts': WHATEVER THE INPUT: true; the input reads as it did. -/
def catalogNextsSpec : ChangeSpec := { name := "catalogNexts", fn := fun _ => fun
  | [d] => { results := [.lit (.bool true)], args := [d] }
  | _ => none }
def catalogNextsRow : OpenClaim := { program := "ytdogkekeccbpnaa", sum := "5824359f8388645b21415011ce042c3b7b936d7c066beda445ee483e606c3b88", func := "arras/arraslaw.CatalogNexts", spec := "catalogNexts", unfollowed := true, recurses := true, apart := false }
def CatalogNextsSaid : Prop := catalogNextsRow.holds Try.pinned (OpenSpec.ofChange catalogNextsSpec)

/-- ITS FALSE NEIGHBOUR: 'it returns false'. Refute it at one input. -/
def catalogNextsWrong : ChangeSpec := { name := "catalogNexts", fn := fun _ => fun
  | [d] => { results := [.lit (.bool false)], args := [d] }
  | _ => none }
def CatalogNextsWrongFalsely : Prop := catalogNextsRow.holds Try.pinned (OpenSpec.ofChange catalogNextsWrong)

/-- 'arraslaw.DeviceTurns': WHATEVER THE INPUT: true; the input reads as it did. -/
def deviceTurnsSpec : ChangeSpec := { name := "deviceTurns", fn := fun _ => fun
  | [d1, d2, d3, d4] => { results := [.lit (.bool true)], args := [d1, d2, d3, d4] }
  | _ => none }
def deviceTurnsRow : OpenClaim := { program := "ytdogkekeccbpnaa", sum := "5824359f8388645b21415011ce042c3b7b936d7c066beda445ee483e606c3b88", func := "arras/arraslaw.DeviceTurns", spec := "deviceTurns", unfollowed := true, recurses := true, apart := false }
def DeviceTurnsSaid : Prop := deviceTurnsRow.holds Try.pinned (OpenSpec.ofChange deviceTurnsSpec)

/-- ITS FALSE NEIGHBOUR: 'it returns false'. Refute it at one input. -/
def deviceTurnsWrong : ChangeSpec := { name := "deviceTurns", fn := fun _ => fun
  | [d1, d2, d3, d4] => { results := [.lit (.bool false)], args := [d1, d2, d3, d4] }
  | _ => none }
def DeviceTurnsWrongFalsely : Prop := deviceTurnsRow.holds Try.pinned (OpenSpec.ofChange deviceTurnsWrong)

/-- 'arraslaw.CatalogEncodes': WHATEVER THE INPUT: true; the input reads as it did. -/
def catalogEncodesSpec : ChangeSpec := { name := "catalogEncodes", fn := fun _ => fun
  | [d] => { results := [.lit (.bool true)], args := [d] }
  | _ => none }
def catalogEncodesRow : OpenClaim := { program := "ytdogkekeccbpnaa", sum := "5824359f8388645b21415011ce042c3b7b936d7c066beda445ee483e606c3b88", func := "arras/arraslaw.CatalogEncodes", spec := "catalogEncodes", unfollowed := true, recurses := true, apart := false }
def CatalogEncodesSaid : Prop := catalogEncodesRow.holds Try.pinned (OpenSpec.ofChange catalogEncodesSpec)

/-- ITS FALSE NEIGHBOUR: 'it returns false'. Refute it at one input. -/
def catalogEncodesWrong : ChangeSpec := { name := "catalogEncodes", fn := fun _ => fun
  | [d] => { results := [.lit (.bool false)], args := [d] }
  | _ => none }
def CatalogEncodesWrongFalsely : Prop := catalogEncodesRow.holds Try.pinned (OpenSpec.ofChange catalogEncodesWrong)

/-- 'arraslaw.PressUnpacks': WHATEVER THE INPUT: true; the input reads as it did. -/
def pressUnpacksSpec : ChangeSpec := { name := "pressUnpacks", fn := fun _ => fun
  | [d] => { results := [.lit (.bool true)], args := [d] }
  | _ => none }
def pressUnpacksRow : OpenClaim := { program := "ytdogkekeccbpnaa", sum := "5824359f8388645b21415011ce042c3b7b936d7c066beda445ee483e606c3b88", func := "arras/arraslaw.PressUnpacks", spec := "pressUnpacks", inPlace := ["internal/abi.NoEscape"], apart := false }
def PressUnpacksSaid : Prop := pressUnpacksRow.holds Try.pinned (OpenSpec.ofChange pressUnpacksSpec)

/-- ITS FALSE NEIGHBOUR: 'it returns false'. Refute it at one input. -/
def pressUnpacksWrong : ChangeSpec := { name := "pressUnpacks", fn := fun _ => fun
  | [d] => { results := [.lit (.bool false)], args := [d] }
  | _ => none }
def PressUnpacksWrongFalsely : Prop := pressUnpacksRow.holds Try.pinned (OpenSpec.ofChange pressUnpacksWrong)

/-- 'arraslaw.DeviceReads': WHATEVER THE INPUT: true; the input reads as it did. -/
def deviceReadsSpec : ChangeSpec := { name := "deviceReads", fn := fun _ => fun
  | [d1, d2, d3] => { results := [.lit (.bool true)], args := [d1, d2, d3] }
  | _ => none }
def deviceReadsRow : OpenClaim := { program := "ytdogkekeccbpnaa", sum := "5824359f8388645b21415011ce042c3b7b936d7c066beda445ee483e606c3b88", func := "arras/arraslaw.DeviceReads", spec := "deviceReads", unfollowed := true, recurses := true, apart := false }
def DeviceReadsSaid : Prop := deviceReadsRow.holds Try.pinned (OpenSpec.ofChange deviceReadsSpec)

/-- ITS FALSE NEIGHBOUR: 'it returns false'. Refute it at one input. -/
def deviceReadsWrong : ChangeSpec := { name := "deviceReads", fn := fun _ => fun
  | [d1, d2, d3] => { results := [.lit (.bool false)], args := [d1, d2, d3] }
  | _ => none }
def DeviceReadsWrongFalsely : Prop := deviceReadsRow.holds Try.pinned (OpenSpec.ofChange deviceReadsWrong)

/-- 'arraslaw.CatalogFinds': WHATEVER THE INPUT: true; the input reads as it did. -/
def catalogFindsSpec : ChangeSpec := { name := "catalogFinds", fn := fun _ => fun
  | [d1, d2] => { results := [.lit (.bool true)], args := [d1, d2] }
  | _ => none }
def catalogFindsRow : OpenClaim := { program := "ytdogkekeccbpnaa", sum := "5824359f8388645b21415011ce042c3b7b936d7c066beda445ee483e606c3b88", func := "arras/arraslaw.CatalogFinds", spec := "catalogFinds", inPlace := ["internal/bytealg.abigen_runtime_cmpstring"], unfollowed := true, recurses := true, apart := false }
def CatalogFindsSaid : Prop := catalogFindsRow.holds Try.pinned (OpenSpec.ofChange catalogFindsSpec)

/-- ITS FALSE NEIGHBOUR: 'it returns false'. Refute it at one input. -/
def catalogFindsWrong : ChangeSpec := { name := "catalogFinds", fn := fun _ => fun
  | [d1, d2] => { results := [.lit (.bool false)], args := [d1, d2] }
  | _ => none }
def CatalogFindsWrongFalsely : Prop := catalogFindsRow.holds Try.pinned (OpenSpec.ofChange catalogFindsWrong)

/-- 'arraslaw.ArrayReads': WHATEVER THE INPUT: true; the input reads as it did. -/
def arrayReadsSpec : ChangeSpec := { name := "arrayReads", fn := fun _ => fun
  | [d1, d2] => { results := [.lit (.bool true)], args := [d1, d2] }
  | _ => none }
def arrayReadsRow : OpenClaim := { program := "ytdogkekeccbpnaa", sum := "5824359f8388645b21415011ce042c3b7b936d7c066beda445ee483e606c3b88", func := "arras/arraslaw.ArrayReads", spec := "arrayReads", unfollowed := true, recurses := true, apart := false }
def ArrayReadsSaid : Prop := arrayReadsRow.holds Try.pinned (OpenSpec.ofChange arrayReadsSpec)

/-- ITS FALSE NEIGHBOUR: 'it returns false'. Refute it at one input. -/
def arrayReadsWrong : ChangeSpec := { name := "arrayReads", fn := fun _ => fun
  | [d1, d2] => { results := [.lit (.bool false)], args := [d1, d2] }
  | _ => none }
def ArrayReadsWrongFalsely : Prop := arrayReadsRow.holds Try.pinned (OpenSpec.ofChange arrayReadsWrong)

/-- 'arraslaw.StreamReads': WHATEVER THE INPUT: true; the input reads as it did. -/
def streamReadsSpec : ChangeSpec := { name := "streamReads", fn := fun _ => fun
  | [d1, d2, d3] => { results := [.lit (.bool true)], args := [d1, d2, d3] }
  | _ => none }
def streamReadsRow : OpenClaim := { program := "ytdogkekeccbpnaa", sum := "5824359f8388645b21415011ce042c3b7b936d7c066beda445ee483e606c3b88", func := "arras/arraslaw.StreamReads", spec := "streamReads", unfollowed := true, recurses := true, apart := false }
def StreamReadsSaid : Prop := streamReadsRow.holds Try.pinned (OpenSpec.ofChange streamReadsSpec)

/-- ITS FALSE NEIGHBOUR: 'it returns false'. Refute it at one input. -/
def streamReadsWrong : ChangeSpec := { name := "streamReads", fn := fun _ => fun
  | [d1, d2, d3] => { results := [.lit (.bool false)], args := [d1, d2, d3] }
  | _ => none }
def StreamReadsWrongFalsely : Prop := streamReadsRow.holds Try.pinned (OpenSpec.ofChange streamReadsWrong)

/-- 'arraslaw.HealBads': WHATEVER THE INPUT: true; the input reads as it did. -/
def healBadsSpec : ChangeSpec := { name := "healBads", fn := fun _ => fun
  | [d1, d2] => { results := [.lit (.bool true)], args := [d1, d2] }
  | _ => none }
def healBadsRow : OpenClaim := { program := "ytdogkekeccbpnaa", sum := "5824359f8388645b21415011ce042c3b7b936d7c066beda445ee483e606c3b88", func := "arras/arraslaw.HealBads", spec := "healBads", unfollowed := true, recurses := true, apart := false }
def HealBadsSaid : Prop := healBadsRow.holds Try.pinned (OpenSpec.ofChange healBadsSpec)

/-- ITS FALSE NEIGHBOUR: 'it returns false'. Refute it at one input. -/
def healBadsWrong : ChangeSpec := { name := "healBads", fn := fun _ => fun
  | [d1, d2] => { results := [.lit (.bool false)], args := [d1, d2] }
  | _ => none }
def HealBadsWrongFalsely : Prop := healBadsRow.holds Try.pinned (OpenSpec.ofChange healBadsWrong)

/-- 'arraslaw.SectorEncodes': WHATEVER THE INPUT: true; the input reads as it did. -/
def sectorEncodesSpec : ChangeSpec := { name := "sectorEncodes", fn := fun _ => fun
  | [d1, d2] => { results := [.lit (.bool true)], args := [d1, d2] }
  | _ => none }
def sectorEncodesRow : OpenClaim := { program := "ytdogkekeccbpnaa", sum := "5824359f8388645b21415011ce042c3b7b936d7c066beda445ee483e606c3b88", func := "arras/arraslaw.SectorEncodes", spec := "sectorEncodes", inPlace := ["internal/abi.NoEscape", "internal/bytealg.MakeNoZero"], apart := false }
def SectorEncodesSaid : Prop := sectorEncodesRow.holds Try.pinned (OpenSpec.ofChange sectorEncodesSpec)

/-- ITS FALSE NEIGHBOUR: 'it returns false'. Refute it at one input. -/
def sectorEncodesWrong : ChangeSpec := { name := "sectorEncodes", fn := fun _ => fun
  | [d1, d2] => { results := [.lit (.bool false)], args := [d1, d2] }
  | _ => none }
def SectorEncodesWrongFalsely : Prop := sectorEncodesRow.holds Try.pinned (OpenSpec.ofChange sectorEncodesWrong)

/-- 'arraslaw.ScrubHealth': WHATEVER THE INPUT: true; the input reads as it did. -/
def scrubHealthSpec : ChangeSpec := { name := "scrubHealth", fn := fun _ => fun
  | [d] => { results := [.lit (.bool true)], args := [d] }
  | _ => none }
def scrubHealthRow : OpenClaim := { program := "ytdogkekeccbpnaa", sum := "5824359f8388645b21415011ce042c3b7b936d7c066beda445ee483e606c3b88", func := "arras/arraslaw.ScrubHealth", spec := "scrubHealth", unfollowed := true, recurses := true, apart := false }
def ScrubHealthSaid : Prop := scrubHealthRow.holds Try.pinned (OpenSpec.ofChange scrubHealthSpec)

/-- ITS FALSE NEIGHBOUR: 'it returns false'. Refute it at one input. -/
def scrubHealthWrong : ChangeSpec := { name := "scrubHealth", fn := fun _ => fun
  | [d] => { results := [.lit (.bool false)], args := [d] }
  | _ => none }
def ScrubHealthWrongFalsely : Prop := scrubHealthRow.holds Try.pinned (OpenSpec.ofChange scrubHealthWrong)

/-- 'arraslaw.DeviceNews': WHATEVER THE INPUT: true; the input reads as it did. -/
def deviceNewsSpec : ChangeSpec := { name := "deviceNews", fn := fun _ => fun
  | [d1, d2] => { results := [.lit (.bool true)], args := [d1, d2] }
  | _ => none }
def deviceNewsRow : OpenClaim := { program := "ytdogkekeccbpnaa", sum := "5824359f8388645b21415011ce042c3b7b936d7c066beda445ee483e606c3b88", func := "arras/arraslaw.DeviceNews", spec := "deviceNews", inPlace := ["internal/abi.NoEscape", "internal/bytealg.MakeNoZero"], apart := false }
def DeviceNewsSaid : Prop := deviceNewsRow.holds Try.pinned (OpenSpec.ofChange deviceNewsSpec)

/-- ITS FALSE NEIGHBOUR: 'it returns false'. Refute it at one input. -/
def deviceNewsWrong : ChangeSpec := { name := "deviceNews", fn := fun _ => fun
  | [d1, d2] => { results := [.lit (.bool false)], args := [d1, d2] }
  | _ => none }
def DeviceNewsWrongFalsely : Prop := deviceNewsRow.holds Try.pinned (OpenSpec.ofChange deviceNewsWrong)

/-- 'arraslaw.ArrayNews': WHATEVER THE INPUT: true; the input reads as it did. -/
def arrayNewsSpec : ChangeSpec := { name := "arrayNews", fn := fun _ => fun
  | [d] => { results := [.lit (.bool true)], args := [d] }
  | _ => none }
def arrayNewsRow : OpenClaim := { program := "ytdogkekeccbpnaa", sum := "5824359f8388645b21415011ce042c3b7b936d7c066beda445ee483e606c3b88", func := "arras/arraslaw.ArrayNews", spec := "arrayNews", inPlace := ["internal/abi.NoEscape", "internal/bytealg.MakeNoZero"], apart := false }
def ArrayNewsSaid : Prop := arrayNewsRow.holds Try.pinned (OpenSpec.ofChange arrayNewsSpec)

/-- ITS FALSE NEIGHBOUR: 'it returns false'. Refute it at one input. -/
def arrayNewsWrong : ChangeSpec := { name := "arrayNews", fn := fun _ => fun
  | [d] => { results := [.lit (.bool false)], args := [d] }
  | _ => none }
def ArrayNewsWrongFalsely : Prop := arrayNewsRow.holds Try.pinned (OpenSpec.ofChange arrayNewsWrong)

/-- 'arraslaw.ArchiveNews': WHATEVER THE INPUT: true; the input reads as it did. -/
def archiveNewsSpec : ChangeSpec := { name := "archiveNews", fn := fun _ => fun
  | [d] => { results := [.lit (.bool true)], args := [d] }
  | _ => none }
def archiveNewsRow : OpenClaim := { program := "ytdogkekeccbpnaa", sum := "5824359f8388645b21415011ce042c3b7b936d7c066beda445ee483e606c3b88", func := "arras/arraslaw.ArchiveNews", spec := "archiveNews", inPlace := ["internal/abi.NoEscape", "internal/bytealg.MakeNoZero"], apart := false }
def ArchiveNewsSaid : Prop := archiveNewsRow.holds Try.pinned (OpenSpec.ofChange archiveNewsSpec)

/-- ITS FALSE NEIGHBOUR: 'it returns false'. Refute it at one input. -/
def archiveNewsWrong : ChangeSpec := { name := "archiveNews", fn := fun _ => fun
  | [d] => { results := [.lit (.bool false)], args := [d] }
  | _ => none }
def ArchiveNewsWrongFalsely : Prop := archiveNewsRow.holds Try.pinned (OpenSpec.ofChange archiveNewsWrong)

/-- 'arraslaw.DeviceWrites': WHATEVER THE INPUT: true; the input reads as it did. -/
def deviceWritesSpec : ChangeSpec := { name := "deviceWrites", fn := fun _ => fun
  | [d1, d2, d3, d4] => { results := [.lit (.bool true)], args := [d1, d2, d3, d4] }
  | _ => none }
def deviceWritesRow : OpenClaim := { program := "ytdogkekeccbpnaa", sum := "5824359f8388645b21415011ce042c3b7b936d7c066beda445ee483e606c3b88", func := "arras/arraslaw.DeviceWrites", spec := "deviceWrites", inPlace := ["internal/abi.NoEscape", "internal/bytealg.MakeNoZero"], unfollowed := true, recurses := true, apart := false }
def DeviceWritesSaid : Prop := deviceWritesRow.holds Try.pinned (OpenSpec.ofChange deviceWritesSpec)

/-- ITS FALSE NEIGHBOUR: 'it returns false'. Refute it at one input. -/
def deviceWritesWrong : ChangeSpec := { name := "deviceWrites", fn := fun _ => fun
  | [d1, d2, d3, d4] => { results := [.lit (.bool false)], args := [d1, d2, d3, d4] }
  | _ => none }
def DeviceWritesWrongFalsely : Prop := deviceWritesRow.holds Try.pinned (OpenSpec.ofChange deviceWritesWrong)

/-- 'arraslaw.ArrayReplaces': WHATEVER THE INPUT: true; the input reads as it did. -/
def arrayReplacesSpec : ChangeSpec := { name := "arrayReplaces", fn := fun _ => fun
  | [d1, d2] => { results := [.lit (.bool true)], args := [d1, d2] }
  | _ => none }
def arrayReplacesRow : OpenClaim := { program := "ytdogkekeccbpnaa", sum := "5824359f8388645b21415011ce042c3b7b936d7c066beda445ee483e606c3b88", func := "arras/arraslaw.ArrayReplaces", spec := "arrayReplaces", inPlace := ["internal/abi.NoEscape", "internal/bytealg.MakeNoZero"], unfollowed := true, recurses := true, apart := false }
def ArrayReplacesSaid : Prop := arrayReplacesRow.holds Try.pinned (OpenSpec.ofChange arrayReplacesSpec)

/-- ITS FALSE NEIGHBOUR: 'it returns false'. Refute it at one input. -/
def arrayReplacesWrong : ChangeSpec := { name := "arrayReplaces", fn := fun _ => fun
  | [d1, d2] => { results := [.lit (.bool false)], args := [d1, d2] }
  | _ => none }
def ArrayReplacesWrongFalsely : Prop := arrayReplacesRow.holds Try.pinned (OpenSpec.ofChange arrayReplacesWrong)

/-- 'arraslaw.ArrayWrites': WHATEVER THE INPUT: true; the input reads as it did. -/
def arrayWritesSpec : ChangeSpec := { name := "arrayWrites", fn := fun _ => fun
  | [d1, d2, d3] => { results := [.lit (.bool true)], args := [d1, d2, d3] }
  | _ => none }
def arrayWritesRow : OpenClaim := { program := "ytdogkekeccbpnaa", sum := "5824359f8388645b21415011ce042c3b7b936d7c066beda445ee483e606c3b88", func := "arras/arraslaw.ArrayWrites", spec := "arrayWrites", inPlace := ["internal/abi.NoEscape", "internal/bytealg.MakeNoZero"], unfollowed := true, recurses := true, apart := false }
def ArrayWritesSaid : Prop := arrayWritesRow.holds Try.pinned (OpenSpec.ofChange arrayWritesSpec)

/-- ITS FALSE NEIGHBOUR: 'it returns false'. Refute it at one input. -/
def arrayWritesWrong : ChangeSpec := { name := "arrayWrites", fn := fun _ => fun
  | [d1, d2, d3] => { results := [.lit (.bool false)], args := [d1, d2, d3] }
  | _ => none }
def ArrayWritesWrongFalsely : Prop := arrayWritesRow.holds Try.pinned (OpenSpec.ofChange arrayWritesWrong)

/-- 'arraslaw.HealSectors': WHATEVER THE INPUT: true; the input reads as it did. -/
def healSectorsSpec : ChangeSpec := { name := "healSectors", fn := fun _ => fun
  | [d1, d2] => { results := [.lit (.bool true)], args := [d1, d2] }
  | _ => none }
def healSectorsRow : OpenClaim := { program := "ytdogkekeccbpnaa", sum := "5824359f8388645b21415011ce042c3b7b936d7c066beda445ee483e606c3b88", func := "arras/arraslaw.HealSectors", spec := "healSectors", inPlace := ["internal/abi.NoEscape", "internal/bytealg.MakeNoZero"], unfollowed := true, recurses := true, apart := false }
def HealSectorsSaid : Prop := healSectorsRow.holds Try.pinned (OpenSpec.ofChange healSectorsSpec)

/-- ITS FALSE NEIGHBOUR: 'it returns false'. Refute it at one input. -/
def healSectorsWrong : ChangeSpec := { name := "healSectors", fn := fun _ => fun
  | [d1, d2] => { results := [.lit (.bool false)], args := [d1, d2] }
  | _ => none }
def HealSectorsWrongFalsely : Prop := healSectorsRow.holds Try.pinned (OpenSpec.ofChange healSectorsWrong)

/-- 'arraslaw.StreamWrites': WHATEVER THE INPUT: true; the input reads as it did. -/
def streamWritesSpec : ChangeSpec := { name := "streamWrites", fn := fun _ => fun
  | [d1, d2, d3] => { results := [.lit (.bool true)], args := [d1, d2, d3] }
  | _ => none }
def streamWritesRow : OpenClaim := { program := "ytdogkekeccbpnaa", sum := "5824359f8388645b21415011ce042c3b7b936d7c066beda445ee483e606c3b88", func := "arras/arraslaw.StreamWrites", spec := "streamWrites", inPlace := ["internal/abi.NoEscape", "internal/bytealg.MakeNoZero"], unfollowed := true, recurses := true, apart := false }
def StreamWritesSaid : Prop := streamWritesRow.holds Try.pinned (OpenSpec.ofChange streamWritesSpec)

/-- ITS FALSE NEIGHBOUR: 'it returns false'. Refute it at one input. -/
def streamWritesWrong : ChangeSpec := { name := "streamWrites", fn := fun _ => fun
  | [d1, d2, d3] => { results := [.lit (.bool false)], args := [d1, d2, d3] }
  | _ => none }
def StreamWritesWrongFalsely : Prop := streamWritesRow.holds Try.pinned (OpenSpec.ofChange streamWritesWrong)

/-- 'arraslaw.ScrubSteps': WHATEVER THE INPUT: true; the input reads as it did. -/
def scrubStepsSpec : ChangeSpec := { name := "scrubSteps", fn := fun _ => fun
  | [d1, d2, d3] => { results := [.lit (.bool true)], args := [d1, d2, d3] }
  | _ => none }
def scrubStepsRow : OpenClaim := { program := "ytdogkekeccbpnaa", sum := "5824359f8388645b21415011ce042c3b7b936d7c066beda445ee483e606c3b88", func := "arras/arraslaw.ScrubSteps", spec := "scrubSteps", inPlace := ["internal/abi.NoEscape", "internal/bytealg.MakeNoZero"], unfollowed := true, recurses := true, apart := false }
def ScrubStepsSaid : Prop := scrubStepsRow.holds Try.pinned (OpenSpec.ofChange scrubStepsSpec)

/-- ITS FALSE NEIGHBOUR: 'it returns false'. Refute it at one input. -/
def scrubStepsWrong : ChangeSpec := { name := "scrubSteps", fn := fun _ => fun
  | [d1, d2, d3] => { results := [.lit (.bool false)], args := [d1, d2, d3] }
  | _ => none }
def ScrubStepsWrongFalsely : Prop := scrubStepsRow.holds Try.pinned (OpenSpec.ofChange scrubStepsWrong)

/- THE SECOND FORM. 'bulk': how many values and letters a reading holds, each counted each time it is reached (what is shared counts as often as it is met; a slice's spare places count too). A statement '..UptoSaid' is the law's where the arguments, and the package variables that the reading takes, are together of bulk at most 1048576: NARROWER than '..Said'. Prove '..Said' where nothing that the law and all that it calls make is longer than what came in: it says more and counts as full. Else prove '..UptoSaid'. A law counts once. -/
mutual
def uptoBulk {H : Type} : DataW H → Nat
  | .lit (.string bytes) => bytes.length + 1
  | .lit _ => 1
  | .nil => 1
  | .ptr d => uptoBulk d + 1
  | .slice elems spare => uptoBulkAll elems + uptoBulkAll spare + 1
  | .agg parts => uptoBulkAll parts + 1
  | .iface _ d => uptoBulk d + 1
  | .map entries => uptoBulkEntries entries + 1
  | .held _ => 1
def uptoBulkAll {H : Type} : List (DataW H) → Nat
  | [] => 0
  | d :: r => uptoBulk d + uptoBulkAll r
def uptoBulkEntries {H : Type} : List (Lit × DataW H) → Nat
  | [] => 0
  | x :: r => uptoBulkEntry x + uptoBulkEntries r
def uptoBulkEntry {H : Type} : Lit × DataW H → Nat
  | (.string bytes, d) => bytes.length + uptoBulk d + 1
  | (_, d) => uptoBulk d + 1
 end
def uptoSmall : (H : Type) → List (DataW H) → Bool := fun _ ds => decide (uptoBulkAll ds ≤ 1048576)
def OpenSpec.upto (s : _root_.Go.ChangeSpec) : _root_.Go.OpenSpec := { _root_.Go.OpenSpec.ofChange s with cond := some uptoSmall }

/-- 'arraslaw.Names', WHERE WHAT IT READS IS OF BULK AT MOST 1048576: true; the input reads as it did. -/
def namesUptoRow : OpenClaim := { program := "ytdogkekeccbpnaa", sum := "5824359f8388645b21415011ce042c3b7b936d7c066beda445ee483e606c3b88", func := "arras/arraslaw.Names", spec := "names", apart := false, narrowed := true }
def NamesUptoSaid : Prop := namesUptoRow.holds Try.pinned (OpenSpec.upto namesSpec)

/-- 'arraslaw.StreamSectors', WHERE WHAT IT READS IS OF BULK AT MOST 1048576: true; the input reads as it did. -/
def streamSectorsUptoRow : OpenClaim := { program := "ytdogkekeccbpnaa", sum := "5824359f8388645b21415011ce042c3b7b936d7c066beda445ee483e606c3b88", func := "arras/arraslaw.StreamSectors", spec := "streamSectors", apart := false, narrowed := true }
def StreamSectorsUptoSaid : Prop := streamSectorsUptoRow.holds Try.pinned (OpenSpec.upto streamSectorsSpec)

/-- 'arraslaw.SumOf', WHERE WHAT IT READS IS OF BULK AT MOST 1048576: true; the input reads as it did. -/
def sumOfUptoRow : OpenClaim := { program := "ytdogkekeccbpnaa", sum := "5824359f8388645b21415011ce042c3b7b936d7c066beda445ee483e606c3b88", func := "arras/arraslaw.SumOf", spec := "sumOf", apart := false, narrowed := true }
def SumOfUptoSaid : Prop := sumOfUptoRow.holds Try.pinned (OpenSpec.upto sumOfSpec)

/-- 'arraslaw.DeviceCopies', WHERE WHAT IT READS IS OF BULK AT MOST 1048576: true; the input reads as it did. -/
def deviceCopiesUptoRow : OpenClaim := { program := "ytdogkekeccbpnaa", sum := "5824359f8388645b21415011ce042c3b7b936d7c066beda445ee483e606c3b88", func := "arras/arraslaw.DeviceCopies", spec := "deviceCopies", apart := false, narrowed := true }
def DeviceCopiesUptoSaid : Prop := deviceCopiesUptoRow.holds Try.pinned (OpenSpec.upto deviceCopiesSpec)

/-- 'arraslaw.CatalogCopies', WHERE WHAT IT READS IS OF BULK AT MOST 1048576: true; the input reads as it did. -/
def catalogCopiesUptoRow : OpenClaim := { program := "ytdogkekeccbpnaa", sum := "5824359f8388645b21415011ce042c3b7b936d7c066beda445ee483e606c3b88", func := "arras/arraslaw.CatalogCopies", spec := "catalogCopies", apart := false, narrowed := true }
def CatalogCopiesUptoSaid : Prop := catalogCopiesUptoRow.holds Try.pinned (OpenSpec.upto catalogCopiesSpec)

/-- 'arraslaw.CatalogNames', WHERE WHAT IT READS IS OF BULK AT MOST 1048576: true; the input reads as it did. -/
def catalogNamesUptoRow : OpenClaim := { program := "ytdogkekeccbpnaa", sum := "5824359f8388645b21415011ce042c3b7b936d7c066beda445ee483e606c3b88", func := "arras/arraslaw.CatalogNames", spec := "catalogNames", unfollowed := true, recurses := true, apart := false, narrowed := true }
def CatalogNamesUptoSaid : Prop := catalogNamesUptoRow.holds Try.pinned (OpenSpec.upto catalogNamesSpec)

/-- 'arraslaw.DeviceChecks', WHERE WHAT IT READS IS OF BULK AT MOST 1048576: true; the input reads as it did. -/
def deviceChecksUptoRow : OpenClaim := { program := "ytdogkekeccbpnaa", sum := "5824359f8388645b21415011ce042c3b7b936d7c066beda445ee483e606c3b88", func := "arras/arraslaw.DeviceChecks", spec := "deviceChecks", unfollowed := true, recurses := true, apart := false, narrowed := true }
def DeviceChecksUptoSaid : Prop := deviceChecksUptoRow.holds Try.pinned (OpenSpec.upto deviceChecksSpec)

/-- 'arraslaw.ArrayCopies', WHERE WHAT IT READS IS OF BULK AT MOST 1048576: true; the input reads as it did. -/
def arrayCopiesUptoRow : OpenClaim := { program := "ytdogkekeccbpnaa", sum := "5824359f8388645b21415011ce042c3b7b936d7c066beda445ee483e606c3b88", func := "arras/arraslaw.ArrayCopies", spec := "arrayCopies", apart := false, narrowed := true }
def ArrayCopiesUptoSaid : Prop := arrayCopiesUptoRow.holds Try.pinned (OpenSpec.upto arrayCopiesSpec)

/-- 'arraslaw.SectorDecodes', WHERE WHAT IT READS IS OF BULK AT MOST 1048576: true; the input reads as it did. -/
def sectorDecodesUptoRow : OpenClaim := { program := "ytdogkekeccbpnaa", sum := "5824359f8388645b21415011ce042c3b7b936d7c066beda445ee483e606c3b88", func := "arras/arraslaw.SectorDecodes", spec := "sectorDecodes", apart := false, narrowed := true }
def SectorDecodesUptoSaid : Prop := sectorDecodesUptoRow.holds Try.pinned (OpenSpec.upto sectorDecodesSpec)

/-- 'arraslaw.ArrayChecks', WHERE WHAT IT READS IS OF BULK AT MOST 1048576: true; the input reads as it did. -/
def arrayChecksUptoRow : OpenClaim := { program := "ytdogkekeccbpnaa", sum := "5824359f8388645b21415011ce042c3b7b936d7c066beda445ee483e606c3b88", func := "arras/arraslaw.ArrayChecks", spec := "arrayChecks", unfollowed := true, recurses := true, apart := false, narrowed := true }
def ArrayChecksUptoSaid : Prop := arrayChecksUptoRow.holds Try.pinned (OpenSpec.upto arrayChecksSpec)

/-- 'arraslaw.ArchiveFiles', WHERE WHAT IT READS IS OF BULK AT MOST 1048576: true; the input reads as it did. -/
def archiveFilesUptoRow : OpenClaim := { program := "ytdogkekeccbpnaa", sum := "5824359f8388645b21415011ce042c3b7b936d7c066beda445ee483e606c3b88", func := "arras/arraslaw.ArchiveFiles", spec := "archiveFiles", unfollowed := true, recurses := true, apart := false, narrowed := true }
def ArchiveFilesUptoSaid : Prop := archiveFilesUptoRow.holds Try.pinned (OpenSpec.upto archiveFilesSpec)

/-- 'arraslaw.CatalogChecks', WHERE WHAT IT READS IS OF BULK AT MOST 1048576: true; the input reads as it did. -/
def catalogChecksUptoRow : OpenClaim := { program := "ytdogkekeccbpnaa", sum := "5824359f8388645b21415011ce042c3b7b936d7c066beda445ee483e606c3b88", func := "arras/arraslaw.CatalogChecks", spec := "catalogChecks", unfollowed := true, recurses := true, apart := false, narrowed := true }
def CatalogChecksUptoSaid : Prop := catalogChecksUptoRow.holds Try.pinned (OpenSpec.upto catalogChecksSpec)

/-- 'arraslaw.PressPacks', WHERE WHAT IT READS IS OF BULK AT MOST 1048576: true; the input reads as it did. -/
def pressPacksUptoRow : OpenClaim := { program := "ytdogkekeccbpnaa", sum := "5824359f8388645b21415011ce042c3b7b936d7c066beda445ee483e606c3b88", func := "arras/arraslaw.PressPacks", spec := "pressPacks", unfollowed := true, recurses := true, apart := false, narrowed := true }
def PressPacksUptoSaid : Prop := pressPacksUptoRow.holds Try.pinned (OpenSpec.upto pressPacksSpec)

/-- 'arraslaw.DeviceLoses', WHERE WHAT IT READS IS OF BULK AT MOST 1048576: true; the input reads as it did. -/
def deviceLosesUptoRow : OpenClaim := { program := "ytdogkekeccbpnaa", sum := "5824359f8388645b21415011ce042c3b7b936d7c066beda445ee483e606c3b88", func := "arras/arraslaw.DeviceLoses", spec := "deviceLoses", unfollowed := true, recurses := true, apart := false, narrowed := true }
def DeviceLosesUptoSaid : Prop := deviceLosesUptoRow.holds Try.pinned (OpenSpec.upto deviceLosesSpec)

/-- 'arraslaw.CatalogNexts', WHERE WHAT IT READS IS OF BULK AT MOST 1048576: true; the input reads as it did. -/
def catalogNextsUptoRow : OpenClaim := { program := "ytdogkekeccbpnaa", sum := "5824359f8388645b21415011ce042c3b7b936d7c066beda445ee483e606c3b88", func := "arras/arraslaw.CatalogNexts", spec := "catalogNexts", unfollowed := true, recurses := true, apart := false, narrowed := true }
def CatalogNextsUptoSaid : Prop := catalogNextsUptoRow.holds Try.pinned (OpenSpec.upto catalogNextsSpec)

/-- 'arraslaw.DeviceTurns', WHERE WHAT IT READS IS OF BULK AT MOST 1048576: true; the input reads as it did. -/
def deviceTurnsUptoRow : OpenClaim := { program := "ytdogkekeccbpnaa", sum := "5824359f8388645b21415011ce042c3b7b936d7c066beda445ee483e606c3b88", func := "arras/arraslaw.DeviceTurns", spec := "deviceTurns", unfollowed := true, recurses := true, apart := false, narrowed := true }
def DeviceTurnsUptoSaid : Prop := deviceTurnsUptoRow.holds Try.pinned (OpenSpec.upto deviceTurnsSpec)

/-- 'arraslaw.CatalogEncodes', WHERE WHAT IT READS IS OF BULK AT MOST 1048576: true; the input reads as it did. -/
def catalogEncodesUptoRow : OpenClaim := { program := "ytdogkekeccbpnaa", sum := "5824359f8388645b21415011ce042c3b7b936d7c066beda445ee483e606c3b88", func := "arras/arraslaw.CatalogEncodes", spec := "catalogEncodes", unfollowed := true, recurses := true, apart := false, narrowed := true }
def CatalogEncodesUptoSaid : Prop := catalogEncodesUptoRow.holds Try.pinned (OpenSpec.upto catalogEncodesSpec)

/-- 'arraslaw.PressUnpacks', WHERE WHAT IT READS IS OF BULK AT MOST 1048576: true; the input reads as it did. -/
def pressUnpacksUptoRow : OpenClaim := { program := "ytdogkekeccbpnaa", sum := "5824359f8388645b21415011ce042c3b7b936d7c066beda445ee483e606c3b88", func := "arras/arraslaw.PressUnpacks", spec := "pressUnpacks", inPlace := ["internal/abi.NoEscape"], apart := false, narrowed := true }
def PressUnpacksUptoSaid : Prop := pressUnpacksUptoRow.holds Try.pinned (OpenSpec.upto pressUnpacksSpec)

/-- 'arraslaw.DeviceReads', WHERE WHAT IT READS IS OF BULK AT MOST 1048576: true; the input reads as it did. -/
def deviceReadsUptoRow : OpenClaim := { program := "ytdogkekeccbpnaa", sum := "5824359f8388645b21415011ce042c3b7b936d7c066beda445ee483e606c3b88", func := "arras/arraslaw.DeviceReads", spec := "deviceReads", unfollowed := true, recurses := true, apart := false, narrowed := true }
def DeviceReadsUptoSaid : Prop := deviceReadsUptoRow.holds Try.pinned (OpenSpec.upto deviceReadsSpec)

/-- 'arraslaw.CatalogFinds', WHERE WHAT IT READS IS OF BULK AT MOST 1048576: true; the input reads as it did. -/
def catalogFindsUptoRow : OpenClaim := { program := "ytdogkekeccbpnaa", sum := "5824359f8388645b21415011ce042c3b7b936d7c066beda445ee483e606c3b88", func := "arras/arraslaw.CatalogFinds", spec := "catalogFinds", inPlace := ["internal/bytealg.abigen_runtime_cmpstring"], unfollowed := true, recurses := true, apart := false, narrowed := true }
def CatalogFindsUptoSaid : Prop := catalogFindsUptoRow.holds Try.pinned (OpenSpec.upto catalogFindsSpec)

/-- 'arraslaw.ArrayReads', WHERE WHAT IT READS IS OF BULK AT MOST 1048576: true; the input reads as it did. -/
def arrayReadsUptoRow : OpenClaim := { program := "ytdogkekeccbpnaa", sum := "5824359f8388645b21415011ce042c3b7b936d7c066beda445ee483e606c3b88", func := "arras/arraslaw.ArrayReads", spec := "arrayReads", unfollowed := true, recurses := true, apart := false, narrowed := true }
def ArrayReadsUptoSaid : Prop := arrayReadsUptoRow.holds Try.pinned (OpenSpec.upto arrayReadsSpec)

/-- 'arraslaw.StreamReads', WHERE WHAT IT READS IS OF BULK AT MOST 1048576: true; the input reads as it did. -/
def streamReadsUptoRow : OpenClaim := { program := "ytdogkekeccbpnaa", sum := "5824359f8388645b21415011ce042c3b7b936d7c066beda445ee483e606c3b88", func := "arras/arraslaw.StreamReads", spec := "streamReads", unfollowed := true, recurses := true, apart := false, narrowed := true }
def StreamReadsUptoSaid : Prop := streamReadsUptoRow.holds Try.pinned (OpenSpec.upto streamReadsSpec)

/-- 'arraslaw.HealBads', WHERE WHAT IT READS IS OF BULK AT MOST 1048576: true; the input reads as it did. -/
def healBadsUptoRow : OpenClaim := { program := "ytdogkekeccbpnaa", sum := "5824359f8388645b21415011ce042c3b7b936d7c066beda445ee483e606c3b88", func := "arras/arraslaw.HealBads", spec := "healBads", unfollowed := true, recurses := true, apart := false, narrowed := true }
def HealBadsUptoSaid : Prop := healBadsUptoRow.holds Try.pinned (OpenSpec.upto healBadsSpec)

/-- 'arraslaw.SectorEncodes', WHERE WHAT IT READS IS OF BULK AT MOST 1048576: true; the input reads as it did. -/
def sectorEncodesUptoRow : OpenClaim := { program := "ytdogkekeccbpnaa", sum := "5824359f8388645b21415011ce042c3b7b936d7c066beda445ee483e606c3b88", func := "arras/arraslaw.SectorEncodes", spec := "sectorEncodes", inPlace := ["internal/abi.NoEscape", "internal/bytealg.MakeNoZero"], apart := false, narrowed := true }
def SectorEncodesUptoSaid : Prop := sectorEncodesUptoRow.holds Try.pinned (OpenSpec.upto sectorEncodesSpec)

/-- 'arraslaw.ScrubHealth', WHERE WHAT IT READS IS OF BULK AT MOST 1048576: true; the input reads as it did. -/
def scrubHealthUptoRow : OpenClaim := { program := "ytdogkekeccbpnaa", sum := "5824359f8388645b21415011ce042c3b7b936d7c066beda445ee483e606c3b88", func := "arras/arraslaw.ScrubHealth", spec := "scrubHealth", unfollowed := true, recurses := true, apart := false, narrowed := true }
def ScrubHealthUptoSaid : Prop := scrubHealthUptoRow.holds Try.pinned (OpenSpec.upto scrubHealthSpec)

/-- 'arraslaw.DeviceNews', WHERE WHAT IT READS IS OF BULK AT MOST 1048576: true; the input reads as it did. -/
def deviceNewsUptoRow : OpenClaim := { program := "ytdogkekeccbpnaa", sum := "5824359f8388645b21415011ce042c3b7b936d7c066beda445ee483e606c3b88", func := "arras/arraslaw.DeviceNews", spec := "deviceNews", inPlace := ["internal/abi.NoEscape", "internal/bytealg.MakeNoZero"], apart := false, narrowed := true }
def DeviceNewsUptoSaid : Prop := deviceNewsUptoRow.holds Try.pinned (OpenSpec.upto deviceNewsSpec)

/-- 'arraslaw.ArrayNews', WHERE WHAT IT READS IS OF BULK AT MOST 1048576: true; the input reads as it did. -/
def arrayNewsUptoRow : OpenClaim := { program := "ytdogkekeccbpnaa", sum := "5824359f8388645b21415011ce042c3b7b936d7c066beda445ee483e606c3b88", func := "arras/arraslaw.ArrayNews", spec := "arrayNews", inPlace := ["internal/abi.NoEscape", "internal/bytealg.MakeNoZero"], apart := false, narrowed := true }
def ArrayNewsUptoSaid : Prop := arrayNewsUptoRow.holds Try.pinned (OpenSpec.upto arrayNewsSpec)

/-- 'arraslaw.ArchiveNews', WHERE WHAT IT READS IS OF BULK AT MOST 1048576: true; the input reads as it did. -/
def archiveNewsUptoRow : OpenClaim := { program := "ytdogkekeccbpnaa", sum := "5824359f8388645b21415011ce042c3b7b936d7c066beda445ee483e606c3b88", func := "arras/arraslaw.ArchiveNews", spec := "archiveNews", inPlace := ["internal/abi.NoEscape", "internal/bytealg.MakeNoZero"], apart := false, narrowed := true }
def ArchiveNewsUptoSaid : Prop := archiveNewsUptoRow.holds Try.pinned (OpenSpec.upto archiveNewsSpec)

/-- 'arraslaw.DeviceWrites', WHERE WHAT IT READS IS OF BULK AT MOST 1048576: true; the input reads as it did. -/
def deviceWritesUptoRow : OpenClaim := { program := "ytdogkekeccbpnaa", sum := "5824359f8388645b21415011ce042c3b7b936d7c066beda445ee483e606c3b88", func := "arras/arraslaw.DeviceWrites", spec := "deviceWrites", inPlace := ["internal/abi.NoEscape", "internal/bytealg.MakeNoZero"], unfollowed := true, recurses := true, apart := false, narrowed := true }
def DeviceWritesUptoSaid : Prop := deviceWritesUptoRow.holds Try.pinned (OpenSpec.upto deviceWritesSpec)

/-- 'arraslaw.ArrayReplaces', WHERE WHAT IT READS IS OF BULK AT MOST 1048576: true; the input reads as it did. -/
def arrayReplacesUptoRow : OpenClaim := { program := "ytdogkekeccbpnaa", sum := "5824359f8388645b21415011ce042c3b7b936d7c066beda445ee483e606c3b88", func := "arras/arraslaw.ArrayReplaces", spec := "arrayReplaces", inPlace := ["internal/abi.NoEscape", "internal/bytealg.MakeNoZero"], unfollowed := true, recurses := true, apart := false, narrowed := true }
def ArrayReplacesUptoSaid : Prop := arrayReplacesUptoRow.holds Try.pinned (OpenSpec.upto arrayReplacesSpec)

/-- 'arraslaw.ArrayWrites', WHERE WHAT IT READS IS OF BULK AT MOST 1048576: true; the input reads as it did. -/
def arrayWritesUptoRow : OpenClaim := { program := "ytdogkekeccbpnaa", sum := "5824359f8388645b21415011ce042c3b7b936d7c066beda445ee483e606c3b88", func := "arras/arraslaw.ArrayWrites", spec := "arrayWrites", inPlace := ["internal/abi.NoEscape", "internal/bytealg.MakeNoZero"], unfollowed := true, recurses := true, apart := false, narrowed := true }
def ArrayWritesUptoSaid : Prop := arrayWritesUptoRow.holds Try.pinned (OpenSpec.upto arrayWritesSpec)

/-- 'arraslaw.HealSectors', WHERE WHAT IT READS IS OF BULK AT MOST 1048576: true; the input reads as it did. -/
def healSectorsUptoRow : OpenClaim := { program := "ytdogkekeccbpnaa", sum := "5824359f8388645b21415011ce042c3b7b936d7c066beda445ee483e606c3b88", func := "arras/arraslaw.HealSectors", spec := "healSectors", inPlace := ["internal/abi.NoEscape", "internal/bytealg.MakeNoZero"], unfollowed := true, recurses := true, apart := false, narrowed := true }
def HealSectorsUptoSaid : Prop := healSectorsUptoRow.holds Try.pinned (OpenSpec.upto healSectorsSpec)

/-- 'arraslaw.StreamWrites', WHERE WHAT IT READS IS OF BULK AT MOST 1048576: true; the input reads as it did. -/
def streamWritesUptoRow : OpenClaim := { program := "ytdogkekeccbpnaa", sum := "5824359f8388645b21415011ce042c3b7b936d7c066beda445ee483e606c3b88", func := "arras/arraslaw.StreamWrites", spec := "streamWrites", inPlace := ["internal/abi.NoEscape", "internal/bytealg.MakeNoZero"], unfollowed := true, recurses := true, apart := false, narrowed := true }
def StreamWritesUptoSaid : Prop := streamWritesUptoRow.holds Try.pinned (OpenSpec.upto streamWritesSpec)

/-- 'arraslaw.ScrubSteps', WHERE WHAT IT READS IS OF BULK AT MOST 1048576: true; the input reads as it did. -/
def scrubStepsUptoRow : OpenClaim := { program := "ytdogkekeccbpnaa", sum := "5824359f8388645b21415011ce042c3b7b936d7c066beda445ee483e606c3b88", func := "arras/arraslaw.ScrubSteps", spec := "scrubSteps", inPlace := ["internal/abi.NoEscape", "internal/bytealg.MakeNoZero"], unfollowed := true, recurses := true, apart := false, narrowed := true }
def ScrubStepsUptoSaid : Prop := scrubStepsUptoRow.holds Try.pinned (OpenSpec.upto scrubStepsSpec)

end Rows
end Go.Proofs.Ytdogkekeccbpnaa
