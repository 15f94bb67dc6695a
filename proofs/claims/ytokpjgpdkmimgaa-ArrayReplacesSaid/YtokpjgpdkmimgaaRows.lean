/-
  No cell of these rows narrows 'for every input' (looked for: loops, veiled, ifaces, maps, wideKeys, modest, calm, conditions, laid).
  DERIVED. THE GIVEN ROWS OF THIS SEAT. 8 by the template 'for every input the law returns true; each argument reads behind the call as it read before'; 0 by the template 'total and deterministic' (their statements: YtokpjgpdkmimgaaTotals.lean).
  GIVEN WITH THE SEED: the statements are not yours to turn. If you find one false, say at which input.
  Laid BY PROGRAM, IN A SANDBOX (cutbox-rows.mjs): the forced cells as the released guide's own fill.sh prints them over the translation 8a0efb5788ff3668… (all of the seat's roots in one cut). By AI agents, Wed Nov 11 2026. No macro, syntax, notation, axiom, sorry.
-/
import Derived.Test.YtokpjgpdkmimgaaChecked
import GoSem.Claim
import GoSem.ClaimJoined
import GoSem.ClaimMapViews
import Derived.JoinedTies
import Derived.KernelRfl
namespace Go.Proofs.Ytokpjgpdkmimgaa
/- THE CELL 'sum', in the pinned program and in every row, IS THE sha256 OF THE DUMP (.gsa) THAT YtokpjgpdkmimgaaProg.lean LOADS. Nothing in Lean hashes anything: it is a label: what it is worth is what the hold of that sum in a sandbox is worth. -/
noncomputable def Try.pinned : Pinned := { name := "ytokpjgpdkmimgaa", sum := "8a0efb5788ff3668f3114893b9eac66b43b67fefb162f569b9becafd619627bf", checked := Try.checked }
namespace Rows
def none {H : Type} : Left H := { results := [], args := [] }

/-- 'arraskeep.SumsTell': WHATEVER THE INPUT: true; the input reads as it did. -/
def sumsTellSpec : ChangeSpec := { name := "sumsTell", fn := fun _ => fun
  | [d1, d2, d3] => { results := [.lit (.bool true)], args := [d1, d2, d3] }
  | _ => none }
def sumsTellRow : OpenClaim := { program := "ytokpjgpdkmimgaa", sum := "8a0efb5788ff3668f3114893b9eac66b43b67fefb162f569b9becafd619627bf", func := "arras/arraskeep.SumsTell", spec := "sumsTell", apart := false }
def SumsTellSaid : Prop := sumsTellRow.holds Try.pinned (OpenSpec.ofChange sumsTellSpec)

/-- ITS FALSE NEIGHBOUR: 'it returns false'. Refute it at one input. -/
def sumsTellWrong : ChangeSpec := { name := "sumsTell", fn := fun _ => fun
  | [d1, d2, d3] => { results := [.lit (.bool false)], args := [d1, d2, d3] }
  | _ => none }
def SumsTellWrongFalsely : Prop := sumsTellRow.holds Try.pinned (OpenSpec.ofChange sumsTellWrong)

/-- 'arraskeep.PacksShort': WHATEVER THE INPUT: true; the input reads as it did. -/
def packsShortSpec : ChangeSpec := { name := "packsShort", fn := fun _ => fun
  | [d1, d2] => { results := [.lit (.bool true)], args := [d1, d2] }
  | _ => none }
def packsShortRow : OpenClaim := { program := "ytokpjgpdkmimgaa", sum := "8a0efb5788ff3668f3114893b9eac66b43b67fefb162f569b9becafd619627bf", func := "arras/arraskeep.PacksShort", spec := "packsShort", unfollowed := true, recurses := true, apart := false }
def PacksShortSaid : Prop := packsShortRow.holds Try.pinned (OpenSpec.ofChange packsShortSpec)

/-- ITS FALSE NEIGHBOUR: 'it returns false'. Refute it at one input. -/
def packsShortWrong : ChangeSpec := { name := "packsShort", fn := fun _ => fun
  | [d1, d2] => { results := [.lit (.bool false)], args := [d1, d2] }
  | _ => none }
def PacksShortWrongFalsely : Prop := packsShortRow.holds Try.pinned (OpenSpec.ofChange packsShortWrong)

/-- 'arraslaw.CatalogEncodes': WHATEVER THE INPUT: true; the input reads as it did. -/
def catalogEncodesSpec : ChangeSpec := { name := "catalogEncodes", fn := fun _ => fun
  | [d] => { results := [.lit (.bool true)], args := [d] }
  | _ => none }
def catalogEncodesRow : OpenClaim := { program := "ytokpjgpdkmimgaa", sum := "8a0efb5788ff3668f3114893b9eac66b43b67fefb162f569b9becafd619627bf", func := "arras/arraslaw.CatalogEncodes", spec := "catalogEncodes", unfollowed := true, recurses := true, apart := false }
def CatalogEncodesSaid : Prop := catalogEncodesRow.holds Try.pinned (OpenSpec.ofChange catalogEncodesSpec)

/-- ITS FALSE NEIGHBOUR: 'it returns false'. Refute it at one input. -/
def catalogEncodesWrong : ChangeSpec := { name := "catalogEncodes", fn := fun _ => fun
  | [d] => { results := [.lit (.bool false)], args := [d] }
  | _ => none }
def CatalogEncodesWrongFalsely : Prop := catalogEncodesRow.holds Try.pinned (OpenSpec.ofChange catalogEncodesWrong)

/-- 'arraslaw.PressUnpacks': WHATEVER THE INPUT: true; the input reads as it did. -/
def pressUnpacksSpec : ChangeSpec := { name := "pressUnpacks", fn := fun _ => fun
  | [d] => { results := [.lit (.bool true)], args := [d] }
  | _ => none }
def pressUnpacksRow : OpenClaim := { program := "ytokpjgpdkmimgaa", sum := "8a0efb5788ff3668f3114893b9eac66b43b67fefb162f569b9becafd619627bf", func := "arras/arraslaw.PressUnpacks", spec := "pressUnpacks", inPlace := ["internal/abi.NoEscape"], apart := false }
def PressUnpacksSaid : Prop := pressUnpacksRow.holds Try.pinned (OpenSpec.ofChange pressUnpacksSpec)

/-- ITS FALSE NEIGHBOUR: 'it returns false'. Refute it at one input. -/
def pressUnpacksWrong : ChangeSpec := { name := "pressUnpacks", fn := fun _ => fun
  | [d] => { results := [.lit (.bool false)], args := [d] }
  | _ => none }
def PressUnpacksWrongFalsely : Prop := pressUnpacksRow.holds Try.pinned (OpenSpec.ofChange pressUnpacksWrong)

/-- 'arraslaw.CatalogFinds': WHATEVER THE INPUT: true; the input reads as it did. -/
def catalogFindsSpec : ChangeSpec := { name := "catalogFinds", fn := fun _ => fun
  | [d1, d2] => { results := [.lit (.bool true)], args := [d1, d2] }
  | _ => none }
def catalogFindsRow : OpenClaim := { program := "ytokpjgpdkmimgaa", sum := "8a0efb5788ff3668f3114893b9eac66b43b67fefb162f569b9becafd619627bf", func := "arras/arraslaw.CatalogFinds", spec := "catalogFinds", inPlace := ["internal/bytealg.abigen_runtime_cmpstring"], unfollowed := true, recurses := true, apart := false }
def CatalogFindsSaid : Prop := catalogFindsRow.holds Try.pinned (OpenSpec.ofChange catalogFindsSpec)

/-- ITS FALSE NEIGHBOUR: 'it returns false'. Refute it at one input. -/
def catalogFindsWrong : ChangeSpec := { name := "catalogFinds", fn := fun _ => fun
  | [d1, d2] => { results := [.lit (.bool false)], args := [d1, d2] }
  | _ => none }
def CatalogFindsWrongFalsely : Prop := catalogFindsRow.holds Try.pinned (OpenSpec.ofChange catalogFindsWrong)

/-- 'arraskeep.PacksBack': WHATEVER THE INPUT: true; the input reads as it did. -/
def packsBackSpec : ChangeSpec := { name := "packsBack", fn := fun _ => fun
  | [d] => { results := [.lit (.bool true)], args := [d] }
  | _ => none }
def packsBackRow : OpenClaim := { program := "ytokpjgpdkmimgaa", sum := "8a0efb5788ff3668f3114893b9eac66b43b67fefb162f569b9becafd619627bf", func := "arras/arraskeep.PacksBack", spec := "packsBack", inPlace := ["internal/abi.NoEscape", "internal/bytealg.MakeNoZero"], unfollowed := true, recurses := true, apart := false }
def PacksBackSaid : Prop := packsBackRow.holds Try.pinned (OpenSpec.ofChange packsBackSpec)

/-- ITS FALSE NEIGHBOUR: 'it returns false'. Refute it at one input. -/
def packsBackWrong : ChangeSpec := { name := "packsBack", fn := fun _ => fun
  | [d] => { results := [.lit (.bool false)], args := [d] }
  | _ => none }
def PacksBackWrongFalsely : Prop := packsBackRow.holds Try.pinned (OpenSpec.ofChange packsBackWrong)

/-- 'arraslaw.ArrayReplaces': WHATEVER THE INPUT: true; the input reads as it did. -/
def arrayReplacesSpec : ChangeSpec := { name := "arrayReplaces", fn := fun _ => fun
  | [d1, d2] => { results := [.lit (.bool true)], args := [d1, d2] }
  | _ => none }
def arrayReplacesRow : OpenClaim := { program := "ytokpjgpdkmimgaa", sum := "8a0efb5788ff3668f3114893b9eac66b43b67fefb162f569b9becafd619627bf", func := "arras/arraslaw.ArrayReplaces", spec := "arrayReplaces", inPlace := ["internal/abi.NoEscape", "internal/bytealg.MakeNoZero"], unfollowed := true, recurses := true, apart := false }
def ArrayReplacesSaid : Prop := arrayReplacesRow.holds Try.pinned (OpenSpec.ofChange arrayReplacesSpec)

/-- ITS FALSE NEIGHBOUR: 'it returns false'. Refute it at one input. -/
def arrayReplacesWrong : ChangeSpec := { name := "arrayReplaces", fn := fun _ => fun
  | [d1, d2] => { results := [.lit (.bool false)], args := [d1, d2] }
  | _ => none }
def ArrayReplacesWrongFalsely : Prop := arrayReplacesRow.holds Try.pinned (OpenSpec.ofChange arrayReplacesWrong)

/-- 'arraskeep.DevicesKeep': WHATEVER THE INPUT: true; the input reads as it did. -/
def devicesKeepSpec : ChangeSpec := { name := "devicesKeep", fn := fun _ => fun
  | [d1, d2, d3, d4] => { results := [.lit (.bool true)], args := [d1, d2, d3, d4] }
  | _ => none }
def devicesKeepRow : OpenClaim := { program := "ytokpjgpdkmimgaa", sum := "8a0efb5788ff3668f3114893b9eac66b43b67fefb162f569b9becafd619627bf", func := "arras/arraskeep.DevicesKeep", spec := "devicesKeep", inPlace := ["internal/abi.NoEscape", "internal/bytealg.MakeNoZero"], unfollowed := true, recurses := true, apart := false }
def DevicesKeepSaid : Prop := devicesKeepRow.holds Try.pinned (OpenSpec.ofChange devicesKeepSpec)

/-- ITS FALSE NEIGHBOUR: 'it returns false'. Refute it at one input. -/
def devicesKeepWrong : ChangeSpec := { name := "devicesKeep", fn := fun _ => fun
  | [d1, d2, d3, d4] => { results := [.lit (.bool false)], args := [d1, d2, d3, d4] }
  | _ => none }
def DevicesKeepWrongFalsely : Prop := devicesKeepRow.holds Try.pinned (OpenSpec.ofChange devicesKeepWrong)

/- THE SECOND FORM. 'bulk': how many values and letters a reading holds, each counted each time it is reached (what is shared counts as often as it is met; a slice's spare places count too). A statement '..UptoSaid' is the law's where the arguments, and the package variables that the reading takes, are together of bulk at most 1048576: NARROWER than '..Said'. Prove '..Said' where nothing that the law and all that it calls make is longer than what came in: it says more and counts as full. Else prove '..UptoSaid'. A law counts once. -/
mutual
def uptoBulk {H : Type} : DataW H → Nat
  | .lit (.string bytes) => bytes.length + 1
  | .lit _ => 1
  | .nil => 1
  | .ptr d => uptoBulk d + 1
  | .slice elems spare => uptoBulkAll elems + uptoBulkAll spare + 1
  | .agg parts => uptoBulkAll parts + 1
  | .iface _ d => uptoBulk d + 1
  | .map entries => uptoBulkEntries entries + 1
  | .held _ => 1
def uptoBulkAll {H : Type} : List (DataW H) → Nat
  | [] => 0
  | d :: r => uptoBulk d + uptoBulkAll r
def uptoBulkEntries {H : Type} : List (Lit × DataW H) → Nat
  | [] => 0
  | x :: r => uptoBulkEntry x + uptoBulkEntries r
def uptoBulkEntry {H : Type} : Lit × DataW H → Nat
  | (.string bytes, d) => bytes.length + uptoBulk d + 1
  | (_, d) => uptoBulk d + 1
 end
def uptoSmall : (H : Type) → List (DataW H) → Bool := fun _ ds => decide (uptoBulkAll ds ≤ 1048576)
def OpenSpec.upto (s : _root_.Go.ChangeSpec) : _root_.Go.OpenSpec := { _root_.Go.OpenSpec.ofChange s with cond := some uptoSmall }

/-- 'arraskeep.SumsTell', WHERE WHAT IT READS IS OF BULK AT MOST 1048576: true; the input reads as it did. -/
def sumsTellUptoRow : OpenClaim := { program := "ytokpjgpdkmimgaa", sum := "8a0efb5788ff3668f3114893b9eac66b43b67fefb162f569b9becafd619627bf", func := "arras/arraskeep.SumsTell", spec := "sumsTell", apart := false, narrowed := true }
def SumsTellUptoSaid : Prop := sumsTellUptoRow.holds Try.pinned (OpenSpec.upto sumsTellSpec)

/-- 'arraskeep.PacksShort', WHERE WHAT IT READS IS OF BULK AT MOST 1048576: true; the input reads as it did. -/
def packsShortUptoRow : OpenClaim := { program := "ytokpjgpdkmimgaa", sum := "8a0efb5788ff3668f3114893b9eac66b43b67fefb162f569b9becafd619627bf", func := "arras/arraskeep.PacksShort", spec := "packsShort", unfollowed := true, recurses := true, apart := false, narrowed := true }
def PacksShortUptoSaid : Prop := packsShortUptoRow.holds Try.pinned (OpenSpec.upto packsShortSpec)

/-- 'arraslaw.CatalogEncodes', WHERE WHAT IT READS IS OF BULK AT MOST 1048576: true; the input reads as it did. -/
def catalogEncodesUptoRow : OpenClaim := { program := "ytokpjgpdkmimgaa", sum := "8a0efb5788ff3668f3114893b9eac66b43b67fefb162f569b9becafd619627bf", func := "arras/arraslaw.CatalogEncodes", spec := "catalogEncodes", unfollowed := true, recurses := true, apart := false, narrowed := true }
def CatalogEncodesUptoSaid : Prop := catalogEncodesUptoRow.holds Try.pinned (OpenSpec.upto catalogEncodesSpec)

/-- 'arraslaw.PressUnpacks', WHERE WHAT IT READS IS OF BULK AT MOST 1048576: true; the input reads as it did. -/
def pressUnpacksUptoRow : OpenClaim := { program := "ytokpjgpdkmimgaa", sum := "8a0efb5788ff3668f3114893b9eac66b43b67fefb162f569b9becafd619627bf", func := "arras/arraslaw.PressUnpacks", spec := "pressUnpacks", inPlace := ["internal/abi.NoEscape"], apart := false, narrowed := true }
def PressUnpacksUptoSaid : Prop := pressUnpacksUptoRow.holds Try.pinned (OpenSpec.upto pressUnpacksSpec)

/-- 'arraslaw.CatalogFinds', WHERE WHAT IT READS IS OF BULK AT MOST 1048576: true; the input reads as it did. -/
def catalogFindsUptoRow : OpenClaim := { program := "ytokpjgpdkmimgaa", sum := "8a0efb5788ff3668f3114893b9eac66b43b67fefb162f569b9becafd619627bf", func := "arras/arraslaw.CatalogFinds", spec := "catalogFinds", inPlace := ["internal/bytealg.abigen_runtime_cmpstring"], unfollowed := true, recurses := true, apart := false, narrowed := true }
def CatalogFindsUptoSaid : Prop := catalogFindsUptoRow.holds Try.pinned (OpenSpec.upto catalogFindsSpec)

/-- 'arraskeep.PacksBack', WHERE WHAT IT READS IS OF BULK AT MOST 1048576: true; the input reads as it did. -/
def packsBackUptoRow : OpenClaim := { program := "ytokpjgpdkmimgaa", sum := "8a0efb5788ff3668f3114893b9eac66b43b67fefb162f569b9becafd619627bf", func := "arras/arraskeep.PacksBack", spec := "packsBack", inPlace := ["internal/abi.NoEscape", "internal/bytealg.MakeNoZero"], unfollowed := true, recurses := true, apart := false, narrowed := true }
def PacksBackUptoSaid : Prop := packsBackUptoRow.holds Try.pinned (OpenSpec.upto packsBackSpec)

/-- 'arraslaw.ArrayReplaces', WHERE WHAT IT READS IS OF BULK AT MOST 1048576: true; the input reads as it did. -/
def arrayReplacesUptoRow : OpenClaim := { program := "ytokpjgpdkmimgaa", sum := "8a0efb5788ff3668f3114893b9eac66b43b67fefb162f569b9becafd619627bf", func := "arras/arraslaw.ArrayReplaces", spec := "arrayReplaces", inPlace := ["internal/abi.NoEscape", "internal/bytealg.MakeNoZero"], unfollowed := true, recurses := true, apart := false, narrowed := true }
def ArrayReplacesUptoSaid : Prop := arrayReplacesUptoRow.holds Try.pinned (OpenSpec.upto arrayReplacesSpec)

/-- 'arraskeep.DevicesKeep', WHERE WHAT IT READS IS OF BULK AT MOST 1048576: true; the input reads as it did. -/
def devicesKeepUptoRow : OpenClaim := { program := "ytokpjgpdkmimgaa", sum := "8a0efb5788ff3668f3114893b9eac66b43b67fefb162f569b9becafd619627bf", func := "arras/arraskeep.DevicesKeep", spec := "devicesKeep", inPlace := ["internal/abi.NoEscape", "internal/bytealg.MakeNoZero"], unfollowed := true, recurses := true, apart := false, narrowed := true }
def DevicesKeepUptoSaid : Prop := devicesKeepUptoRow.holds Try.pinned (OpenSpec.upto devicesKeepSpec)

end Rows
end Go.Proofs.Ytokpjgpdkmimgaa
