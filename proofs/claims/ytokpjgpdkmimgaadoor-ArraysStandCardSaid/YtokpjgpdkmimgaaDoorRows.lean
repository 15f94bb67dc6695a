/-
  NARROWER THAN 'FOR EVERY INPUT', by the rows' own cells (each row's printed sentence says how): CatalogDecodes: laid · SectorsBack: laid · ArchiveOpens: laid · ArchiveNames: laid · CatalogsBack: laid · ArchiveGets: laid · ArraysStand: laid · ArraysParity: laid · WritesStay: laid · StreamsBack: laid.
  DERIVED. THE GIVEN ROWS OF THIS SEAT. 10 by the template 'for every input the law returns true; each argument reads behind the call as it read before'; 0 by the template 'total and deterministic' (their statements: YtokpjgpdkmimgaaDoorTotals.lean).
  GIVEN WITH THE SEED: the statements are not yours to turn. If you find one false, say at which input.
  Laid BY PROGRAM, IN A SANDBOX (cutbox-rows.mjs): the forced cells as the released guide's own fill.sh prints them over the translation 0308be87f4a4fbee… (all of the seat's roots in one cut). By AI agents, Wed Nov 11 2026. No macro, syntax, notation, axiom, sorry.
-/
import Derived.Test.YtokpjgpdkmimgaaDoorChecked
import GoSem.PinnedTables
import GoSem.Claim
import GoSem.ClaimJoined
import GoSem.ClaimMapViews
import Derived.JoinedTies
import Derived.KernelRfl
namespace Go.Proofs.YtokpjgpdkmimgaaDoor
/- THE CELL 'sum', in the pinned program and in every row, IS THE sha256 OF THE DUMP (.gsa) THAT YtokpjgpdkmimgaaDoorProg.lean LOADS. Nothing in Lean hashes anything: it is a label: what it is worth is what the hold of that sum in a sandbox is worth. -/
noncomputable def Tryd.pinned : Pinned := { name := "ytokpjgpdkmimgaadoor", sum := "0308be87f4a4fbee6ae26c92131fadb39061a231307de921954725e10344945e", checked := Tryd.checked }
namespace Rows
def none {H : Type} : Left H := { results := [], args := [] }

/- WHAT THE LISTED PACKAGE-LEVEL VARIABLES READ AS WHEN THE CALL BEGINS. Each datum BY PROGRAM (the guide's laid-datum.mjs) off the statement by which the dump's own 'gosem.cut.vars' lays the variable. In a bare row this is a premise. The card (YtokpjgpdkmimgaaDoorCards.lean) ties it to the program's text. -/
def laid_unicode_utf8_acceptRanges {H : Type} : DataW H := .agg [.agg [.lit (.int .u8 128), .lit (.int .u8 191)], .agg [.lit (.int .u8 160), .lit (.int .u8 191)], .agg [.lit (.int .u8 128), .lit (.int .u8 159)], .agg [.lit (.int .u8 144), .lit (.int .u8 191)], .agg [.lit (.int .u8 128), .lit (.int .u8 143)], .agg [.lit (.int .u8 0), .lit (.int .u8 0)], .agg [.lit (.int .u8 0), .lit (.int .u8 0)], .agg [.lit (.int .u8 0), .lit (.int .u8 0)], .agg [.lit (.int .u8 0), .lit (.int .u8 0)], .agg [.lit (.int .u8 0), .lit (.int .u8 0)], .agg [.lit (.int .u8 0), .lit (.int .u8 0)], .agg [.lit (.int .u8 0), .lit (.int .u8 0)], .agg [.lit (.int .u8 0), .lit (.int .u8 0)], .agg [.lit (.int .u8 0), .lit (.int .u8 0)], .agg [.lit (.int .u8 0), .lit (.int .u8 0)], .agg [.lit (.int .u8 0), .lit (.int .u8 0)]]
/-- One of Go's own tables, pinned by name: the form's constant. -/
def laid_unicode_utf8_first : DataW Unit := Go.Pinned.utf8First
def laid_math_bits_deBruijn32tab {H : Type} : DataW H := .agg [.lit (.int .u8 0), .lit (.int .u8 1), .lit (.int .u8 28), .lit (.int .u8 2), .lit (.int .u8 29), .lit (.int .u8 14), .lit (.int .u8 24), .lit (.int .u8 3), .lit (.int .u8 30), .lit (.int .u8 22), .lit (.int .u8 20), .lit (.int .u8 15), .lit (.int .u8 25), .lit (.int .u8 17), .lit (.int .u8 4), .lit (.int .u8 8), .lit (.int .u8 31), .lit (.int .u8 27), .lit (.int .u8 13), .lit (.int .u8 23), .lit (.int .u8 21), .lit (.int .u8 19), .lit (.int .u8 16), .lit (.int .u8 7), .lit (.int .u8 26), .lit (.int .u8 12), .lit (.int .u8 18), .lit (.int .u8 6), .lit (.int .u8 11), .lit (.int .u8 5), .lit (.int .u8 10), .lit (.int .u8 9)]
def laid_math_bits_deBruijn64tab {H : Type} : DataW H := .agg [.lit (.int .u8 0), .lit (.int .u8 1), .lit (.int .u8 56), .lit (.int .u8 2), .lit (.int .u8 57), .lit (.int .u8 49), .lit (.int .u8 28), .lit (.int .u8 3), .lit (.int .u8 61), .lit (.int .u8 58), .lit (.int .u8 42), .lit (.int .u8 50), .lit (.int .u8 38), .lit (.int .u8 29), .lit (.int .u8 17), .lit (.int .u8 4), .lit (.int .u8 62), .lit (.int .u8 47), .lit (.int .u8 59), .lit (.int .u8 36), .lit (.int .u8 45), .lit (.int .u8 43), .lit (.int .u8 51), .lit (.int .u8 22), .lit (.int .u8 53), .lit (.int .u8 39), .lit (.int .u8 33), .lit (.int .u8 30), .lit (.int .u8 24), .lit (.int .u8 18), .lit (.int .u8 12), .lit (.int .u8 5), .lit (.int .u8 63), .lit (.int .u8 55), .lit (.int .u8 48), .lit (.int .u8 27), .lit (.int .u8 60), .lit (.int .u8 41), .lit (.int .u8 37), .lit (.int .u8 16), .lit (.int .u8 46), .lit (.int .u8 35), .lit (.int .u8 44), .lit (.int .u8 21), .lit (.int .u8 52), .lit (.int .u8 32), .lit (.int .u8 23), .lit (.int .u8 11), .lit (.int .u8 54), .lit (.int .u8 26), .lit (.int .u8 40), .lit (.int .u8 15), .lit (.int .u8 34), .lit (.int .u8 20), .lit (.int .u8 31), .lit (.int .u8 10), .lit (.int .u8 25), .lit (.int .u8 14), .lit (.int .u8 19), .lit (.int .u8 9), .lit (.int .u8 13), .lit (.int .u8 8), .lit (.int .u8 7), .lit (.int .u8 6)]
def laid_internal_strconv_uint64pow10 {H : Type} : DataW H := .agg [.lit (.int .u64 1), .lit (.int .u64 10), .lit (.int .u64 100), .lit (.int .u64 1000), .lit (.int .u64 10000), .lit (.int .u64 100000), .lit (.int .u64 1000000), .lit (.int .u64 10000000), .lit (.int .u64 100000000), .lit (.int .u64 1000000000), .lit (.int .u64 10000000000), .lit (.int .u64 100000000000), .lit (.int .u64 1000000000000), .lit (.int .u64 10000000000000), .lit (.int .u64 100000000000000), .lit (.int .u64 1000000000000000), .lit (.int .u64 10000000000000000), .lit (.int .u64 100000000000000000), .lit (.int .u64 1000000000000000000), .lit (.int .u64 10000000000000000000)]

/-- 'arraslaw.CatalogDecodes': WHATEVER THE INPUT: true; the input reads as it did. -/
def catalogDecodesSpec : ChangeSpec := { name := "catalogDecodes", fn := fun _ => fun
  | [d] => { results := [.lit (.bool true)], args := [d] }
  | _ => none }
def catalogDecodesRow : OpenClaim := { program := "ytokpjgpdkmimgaadoor", sum := "0308be87f4a4fbee6ae26c92131fadb39061a231307de921954725e10344945e", func := "arras/arraslaw.CatalogDecodes", spec := "catalogDecodes", inPlace := ["internal/bytealg.IndexByteString", "internal/bytealg.IndexString"], unfollowed := true, recurses := true, named := ["unicode/utf8.first", "unicode/utf8.acceptRanges", "internal/bytealg.MaxLen"], apart := false, laid := [("unicode/utf8.acceptRanges", laid_unicode_utf8_acceptRanges), ("unicode/utf8.first", laid_unicode_utf8_first)] }
def CatalogDecodesSaid : Prop := catalogDecodesRow.holds Tryd.pinned (OpenSpec.ofChange catalogDecodesSpec)

/-- ITS FALSE NEIGHBOUR: 'it returns false'. Refute it at one input. -/
def catalogDecodesWrong : ChangeSpec := { name := "catalogDecodes", fn := fun _ => fun
  | [d] => { results := [.lit (.bool false)], args := [d] }
  | _ => none }
def CatalogDecodesWrongFalsely : Prop := catalogDecodesRow.holds Tryd.pinned (OpenSpec.ofChange catalogDecodesWrong)

/-- 'arraskeep.SectorsBack': WHATEVER THE INPUT: true; the input reads as it did. -/
def sectorsBackSpec : ChangeSpec := { name := "sectorsBack", fn := fun _ => fun
  | [d1, d2, d3, d4] => { results := [.lit (.bool true)], args := [d1, d2, d3, d4] }
  | _ => none }
def sectorsBackRow : OpenClaim := { program := "ytokpjgpdkmimgaadoor", sum := "0308be87f4a4fbee6ae26c92131fadb39061a231307de921954725e10344945e", func := "arras/arraskeep.SectorsBack", spec := "sectorsBack", inPlace := ["internal/abi.NoEscape", "internal/bytealg.MakeNoZero", "internal/bytealg.IndexByteString", "internal/bytealg.IndexString"], named := ["unicode/utf8.first", "unicode/utf8.acceptRanges", "internal/bytealg.MaxLen"], apart := false, laid := [("unicode/utf8.acceptRanges", laid_unicode_utf8_acceptRanges), ("unicode/utf8.first", laid_unicode_utf8_first)] }
def SectorsBackSaid : Prop := sectorsBackRow.holds Tryd.pinned (OpenSpec.ofChange sectorsBackSpec)

/-- ITS FALSE NEIGHBOUR: 'it returns false'. Refute it at one input. -/
def sectorsBackWrong : ChangeSpec := { name := "sectorsBack", fn := fun _ => fun
  | [d1, d2, d3, d4] => { results := [.lit (.bool false)], args := [d1, d2, d3, d4] }
  | _ => none }
def SectorsBackWrongFalsely : Prop := sectorsBackRow.holds Tryd.pinned (OpenSpec.ofChange sectorsBackWrong)

/-- 'arraslaw.ArchiveOpens': WHATEVER THE INPUT: true; the input reads as it did. -/
def archiveOpensSpec : ChangeSpec := { name := "archiveOpens", fn := fun _ => fun
  | [d] => { results := [.lit (.bool true)], args := [d] }
  | _ => none }
def archiveOpensRow : OpenClaim := { program := "ytokpjgpdkmimgaadoor", sum := "0308be87f4a4fbee6ae26c92131fadb39061a231307de921954725e10344945e", func := "arras/arraslaw.ArchiveOpens", spec := "archiveOpens", inPlace := ["internal/bytealg.IndexByteString", "internal/bytealg.IndexString"], unfollowed := true, recurses := true, named := ["unicode/utf8.first", "unicode/utf8.acceptRanges", "internal/bytealg.MaxLen"], apart := false, laid := [("unicode/utf8.acceptRanges", laid_unicode_utf8_acceptRanges), ("unicode/utf8.first", laid_unicode_utf8_first)] }
def ArchiveOpensSaid : Prop := archiveOpensRow.holds Tryd.pinned (OpenSpec.ofChange archiveOpensSpec)

/-- ITS FALSE NEIGHBOUR: 'it returns false'. Refute it at one input. -/
def archiveOpensWrong : ChangeSpec := { name := "archiveOpens", fn := fun _ => fun
  | [d] => { results := [.lit (.bool false)], args := [d] }
  | _ => none }
def ArchiveOpensWrongFalsely : Prop := archiveOpensRow.holds Tryd.pinned (OpenSpec.ofChange archiveOpensWrong)

/-- 'arraslaw.ArchiveNames': WHATEVER THE INPUT: true; the input reads as it did. -/
def archiveNamesSpec : ChangeSpec := { name := "archiveNames", fn := fun _ => fun
  | [d] => { results := [.lit (.bool true)], args := [d] }
  | _ => none }
def archiveNamesRow : OpenClaim := { program := "ytokpjgpdkmimgaadoor", sum := "0308be87f4a4fbee6ae26c92131fadb39061a231307de921954725e10344945e", func := "arras/arraslaw.ArchiveNames", spec := "archiveNames", inPlace := ["internal/bytealg.IndexByteString", "internal/bytealg.IndexString"], unfollowed := true, recurses := true, named := ["unicode/utf8.first", "unicode/utf8.acceptRanges", "internal/bytealg.MaxLen"], apart := false, laid := [("unicode/utf8.acceptRanges", laid_unicode_utf8_acceptRanges), ("unicode/utf8.first", laid_unicode_utf8_first)] }
def ArchiveNamesSaid : Prop := archiveNamesRow.holds Tryd.pinned (OpenSpec.ofChange archiveNamesSpec)

/-- ITS FALSE NEIGHBOUR: 'it returns false'. Refute it at one input. -/
def archiveNamesWrong : ChangeSpec := { name := "archiveNames", fn := fun _ => fun
  | [d] => { results := [.lit (.bool false)], args := [d] }
  | _ => none }
def ArchiveNamesWrongFalsely : Prop := archiveNamesRow.holds Tryd.pinned (OpenSpec.ofChange archiveNamesWrong)

/-- 'arraskeep.CatalogsBack': WHATEVER THE INPUT: true; the input reads as it did. -/
def catalogsBackSpec : ChangeSpec := { name := "catalogsBack", fn := fun _ => fun
  | [d1, d2, d3] => { results := [.lit (.bool true)], args := [d1, d2, d3] }
  | _ => none }
def catalogsBackRow : OpenClaim := { program := "ytokpjgpdkmimgaadoor", sum := "0308be87f4a4fbee6ae26c92131fadb39061a231307de921954725e10344945e", func := "arras/arraskeep.CatalogsBack", spec := "catalogsBack", inPlace := ["internal/abi.NoEscape", "internal/bytealg.MakeNoZero", "internal/bytealg.IndexByteString", "internal/bytealg.IndexString"], unfollowed := true, recurses := true, named := ["unicode/utf8.first", "unicode/utf8.acceptRanges", "internal/bytealg.MaxLen"], apart := false, laid := [("unicode/utf8.acceptRanges", laid_unicode_utf8_acceptRanges), ("unicode/utf8.first", laid_unicode_utf8_first)] }
def CatalogsBackSaid : Prop := catalogsBackRow.holds Tryd.pinned (OpenSpec.ofChange catalogsBackSpec)

/-- ITS FALSE NEIGHBOUR: 'it returns false'. Refute it at one input. -/
def catalogsBackWrong : ChangeSpec := { name := "catalogsBack", fn := fun _ => fun
  | [d1, d2, d3] => { results := [.lit (.bool false)], args := [d1, d2, d3] }
  | _ => none }
def CatalogsBackWrongFalsely : Prop := catalogsBackRow.holds Tryd.pinned (OpenSpec.ofChange catalogsBackWrong)

/-- 'arraslaw.ArchiveGets': WHATEVER THE INPUT: true; the input reads as it did. -/
def archiveGetsSpec : ChangeSpec := { name := "archiveGets", fn := fun _ => fun
  | [d1, d2] => { results := [.lit (.bool true)], args := [d1, d2] }
  | _ => none }
def archiveGetsRow : OpenClaim := { program := "ytokpjgpdkmimgaadoor", sum := "0308be87f4a4fbee6ae26c92131fadb39061a231307de921954725e10344945e", func := "arras/arraslaw.ArchiveGets", spec := "archiveGets", inPlace := ["internal/bytealg.IndexByteString", "internal/bytealg.IndexString", "internal/bytealg.abigen_runtime_cmpstring", "internal/abi.NoEscape"], unfollowed := true, recurses := true, named := ["unicode/utf8.first", "unicode/utf8.acceptRanges", "internal/bytealg.MaxLen"], apart := false, laid := [("unicode/utf8.acceptRanges", laid_unicode_utf8_acceptRanges), ("unicode/utf8.first", laid_unicode_utf8_first)] }
def ArchiveGetsSaid : Prop := archiveGetsRow.holds Tryd.pinned (OpenSpec.ofChange archiveGetsSpec)

/-- ITS FALSE NEIGHBOUR: 'it returns false'. Refute it at one input. -/
def archiveGetsWrong : ChangeSpec := { name := "archiveGets", fn := fun _ => fun
  | [d1, d2] => { results := [.lit (.bool false)], args := [d1, d2] }
  | _ => none }
def ArchiveGetsWrongFalsely : Prop := archiveGetsRow.holds Tryd.pinned (OpenSpec.ofChange archiveGetsWrong)

/-- 'arraskeep.ArraysStand': WHATEVER THE INPUT: true; the input reads as it did. -/
def arraysStandSpec : ChangeSpec := { name := "arraysStand", fn := fun _ => fun
  | [d1, d2, d3, d4] => { results := [.lit (.bool true)], args := [d1, d2, d3, d4] }
  | _ => none }
def arraysStandRow : OpenClaim := { program := "ytokpjgpdkmimgaadoor", sum := "0308be87f4a4fbee6ae26c92131fadb39061a231307de921954725e10344945e", func := "arras/arraskeep.ArraysStand", spec := "arraysStand", inPlace := ["internal/abi.NoEscape", "internal/bytealg.MakeNoZero"], unfollowed := true, recurses := true, named := ["internal/strconv.uint64pow10", "math/bits.deBruijn32tab", "math/bits.deBruijn64tab"], apart := false, laid := [("math/bits.deBruijn32tab", laid_math_bits_deBruijn32tab), ("math/bits.deBruijn64tab", laid_math_bits_deBruijn64tab), ("internal/strconv.uint64pow10", laid_internal_strconv_uint64pow10)] }
def ArraysStandSaid : Prop := arraysStandRow.holds Tryd.pinned (OpenSpec.ofChange arraysStandSpec)

/-- ITS FALSE NEIGHBOUR: 'it returns false'. Refute it at one input. -/
def arraysStandWrong : ChangeSpec := { name := "arraysStand", fn := fun _ => fun
  | [d1, d2, d3, d4] => { results := [.lit (.bool false)], args := [d1, d2, d3, d4] }
  | _ => none }
def ArraysStandWrongFalsely : Prop := arraysStandRow.holds Tryd.pinned (OpenSpec.ofChange arraysStandWrong)

/-- 'arraskeep.ArraysParity': WHATEVER THE INPUT: true; the input reads as it did. -/
def arraysParitySpec : ChangeSpec := { name := "arraysParity", fn := fun _ => fun
  | [d1, d2, d3] => { results := [.lit (.bool true)], args := [d1, d2, d3] }
  | _ => none }
def arraysParityRow : OpenClaim := { program := "ytokpjgpdkmimgaadoor", sum := "0308be87f4a4fbee6ae26c92131fadb39061a231307de921954725e10344945e", func := "arras/arraskeep.ArraysParity", spec := "arraysParity", inPlace := ["internal/abi.NoEscape", "internal/bytealg.MakeNoZero"], unfollowed := true, recurses := true, named := ["internal/strconv.uint64pow10", "math/bits.deBruijn32tab", "math/bits.deBruijn64tab"], apart := false, laid := [("math/bits.deBruijn32tab", laid_math_bits_deBruijn32tab), ("math/bits.deBruijn64tab", laid_math_bits_deBruijn64tab), ("internal/strconv.uint64pow10", laid_internal_strconv_uint64pow10)] }
def ArraysParitySaid : Prop := arraysParityRow.holds Tryd.pinned (OpenSpec.ofChange arraysParitySpec)

/-- ITS FALSE NEIGHBOUR: 'it returns false'. Refute it at one input. -/
def arraysParityWrong : ChangeSpec := { name := "arraysParity", fn := fun _ => fun
  | [d1, d2, d3] => { results := [.lit (.bool false)], args := [d1, d2, d3] }
  | _ => none }
def ArraysParityWrongFalsely : Prop := arraysParityRow.holds Tryd.pinned (OpenSpec.ofChange arraysParityWrong)

/-- 'arraskeep.WritesStay': WHATEVER THE INPUT: true; the input reads as it did. -/
def writesStaySpec : ChangeSpec := { name := "writesStay", fn := fun _ => fun
  | [d1, d2, d3] => { results := [.lit (.bool true)], args := [d1, d2, d3] }
  | _ => none }
def writesStayRow : OpenClaim := { program := "ytokpjgpdkmimgaadoor", sum := "0308be87f4a4fbee6ae26c92131fadb39061a231307de921954725e10344945e", func := "arras/arraskeep.WritesStay", spec := "writesStay", inPlace := ["internal/abi.NoEscape", "internal/bytealg.MakeNoZero"], unfollowed := true, recurses := true, named := ["internal/strconv.uint64pow10", "math/bits.deBruijn32tab", "math/bits.deBruijn64tab"], apart := false, laid := [("math/bits.deBruijn32tab", laid_math_bits_deBruijn32tab), ("math/bits.deBruijn64tab", laid_math_bits_deBruijn64tab), ("internal/strconv.uint64pow10", laid_internal_strconv_uint64pow10)] }
def WritesStaySaid : Prop := writesStayRow.holds Tryd.pinned (OpenSpec.ofChange writesStaySpec)

/-- ITS FALSE NEIGHBOUR: 'it returns false'. Refute it at one input. -/
def writesStayWrong : ChangeSpec := { name := "writesStay", fn := fun _ => fun
  | [d1, d2, d3] => { results := [.lit (.bool false)], args := [d1, d2, d3] }
  | _ => none }
def WritesStayWrongFalsely : Prop := writesStayRow.holds Tryd.pinned (OpenSpec.ofChange writesStayWrong)

/-- 'arraskeep.StreamsBack': WHATEVER THE INPUT: true; the input reads as it did. -/
def streamsBackSpec : ChangeSpec := { name := "streamsBack", fn := fun _ => fun
  | [d1, d2, d3] => { results := [.lit (.bool true)], args := [d1, d2, d3] }
  | _ => none }
def streamsBackRow : OpenClaim := { program := "ytokpjgpdkmimgaadoor", sum := "0308be87f4a4fbee6ae26c92131fadb39061a231307de921954725e10344945e", func := "arras/arraskeep.StreamsBack", spec := "streamsBack", inPlace := ["internal/abi.NoEscape", "internal/bytealg.MakeNoZero"], unfollowed := true, recurses := true, named := ["internal/strconv.uint64pow10", "math/bits.deBruijn32tab", "math/bits.deBruijn64tab"], apart := false, laid := [("math/bits.deBruijn32tab", laid_math_bits_deBruijn32tab), ("math/bits.deBruijn64tab", laid_math_bits_deBruijn64tab), ("internal/strconv.uint64pow10", laid_internal_strconv_uint64pow10)] }
def StreamsBackSaid : Prop := streamsBackRow.holds Tryd.pinned (OpenSpec.ofChange streamsBackSpec)

/-- ITS FALSE NEIGHBOUR: 'it returns false'. Refute it at one input. -/
def streamsBackWrong : ChangeSpec := { name := "streamsBack", fn := fun _ => fun
  | [d1, d2, d3] => { results := [.lit (.bool false)], args := [d1, d2, d3] }
  | _ => none }
def StreamsBackWrongFalsely : Prop := streamsBackRow.holds Tryd.pinned (OpenSpec.ofChange streamsBackWrong)

/- THE SECOND FORM. 'bulk': how many values and letters a reading holds, each counted each time it is reached (what is shared counts as often as it is met; a slice's spare places count too). A statement '..UptoSaid' is the law's where the arguments, and the package variables that the reading takes, are together of bulk at most 1048576: NARROWER than '..Said'. Prove '..Said' where nothing that the law and all that it calls make is longer than what came in: it says more and counts as full. Else prove '..UptoSaid'. A law counts once. -/
mutual
def uptoBulk {H : Type} : DataW H → Nat
  | .lit (.string bytes) => bytes.length + 1
  | .lit _ => 1
  | .nil => 1
  | .ptr d => uptoBulk d + 1
  | .slice elems spare => uptoBulkAll elems + uptoBulkAll spare + 1
  | .agg parts => uptoBulkAll parts + 1
  | .iface _ d => uptoBulk d + 1
  | .map entries => uptoBulkEntries entries + 1
  | .held _ => 1
def uptoBulkAll {H : Type} : List (DataW H) → Nat
  | [] => 0
  | d :: r => uptoBulk d + uptoBulkAll r
def uptoBulkEntries {H : Type} : List (Lit × DataW H) → Nat
  | [] => 0
  | x :: r => uptoBulkEntry x + uptoBulkEntries r
def uptoBulkEntry {H : Type} : Lit × DataW H → Nat
  | (.string bytes, d) => bytes.length + uptoBulk d + 1
  | (_, d) => uptoBulk d + 1
 end
def uptoSmall : (H : Type) → List (DataW H) → Bool := fun _ ds => decide (uptoBulkAll ds ≤ 1048576)
def OpenSpec.upto (s : _root_.Go.ChangeSpec) : _root_.Go.OpenSpec := { _root_.Go.OpenSpec.ofChange s with cond := some uptoSmall }

/-- 'arraslaw.CatalogDecodes', WHERE WHAT IT READS IS OF BULK AT MOST 1048576: true; the input reads as it did. -/
def catalogDecodesUptoRow : OpenClaim := { program := "ytokpjgpdkmimgaadoor", sum := "0308be87f4a4fbee6ae26c92131fadb39061a231307de921954725e10344945e", func := "arras/arraslaw.CatalogDecodes", spec := "catalogDecodes", inPlace := ["internal/bytealg.IndexByteString", "internal/bytealg.IndexString"], unfollowed := true, recurses := true, named := ["unicode/utf8.first", "unicode/utf8.acceptRanges", "internal/bytealg.MaxLen"], apart := false, laid := [("unicode/utf8.acceptRanges", laid_unicode_utf8_acceptRanges), ("unicode/utf8.first", laid_unicode_utf8_first)], narrowed := true }
def CatalogDecodesUptoSaid : Prop := catalogDecodesUptoRow.holds Tryd.pinned (OpenSpec.upto catalogDecodesSpec)

/-- 'arraskeep.SectorsBack', WHERE WHAT IT READS IS OF BULK AT MOST 1048576: true; the input reads as it did. -/
def sectorsBackUptoRow : OpenClaim := { program := "ytokpjgpdkmimgaadoor", sum := "0308be87f4a4fbee6ae26c92131fadb39061a231307de921954725e10344945e", func := "arras/arraskeep.SectorsBack", spec := "sectorsBack", inPlace := ["internal/abi.NoEscape", "internal/bytealg.MakeNoZero", "internal/bytealg.IndexByteString", "internal/bytealg.IndexString"], named := ["unicode/utf8.first", "unicode/utf8.acceptRanges", "internal/bytealg.MaxLen"], apart := false, laid := [("unicode/utf8.acceptRanges", laid_unicode_utf8_acceptRanges), ("unicode/utf8.first", laid_unicode_utf8_first)], narrowed := true }
def SectorsBackUptoSaid : Prop := sectorsBackUptoRow.holds Tryd.pinned (OpenSpec.upto sectorsBackSpec)

/-- 'arraslaw.ArchiveOpens', WHERE WHAT IT READS IS OF BULK AT MOST 1048576: true; the input reads as it did. -/
def archiveOpensUptoRow : OpenClaim := { program := "ytokpjgpdkmimgaadoor", sum := "0308be87f4a4fbee6ae26c92131fadb39061a231307de921954725e10344945e", func := "arras/arraslaw.ArchiveOpens", spec := "archiveOpens", inPlace := ["internal/bytealg.IndexByteString", "internal/bytealg.IndexString"], unfollowed := true, recurses := true, named := ["unicode/utf8.first", "unicode/utf8.acceptRanges", "internal/bytealg.MaxLen"], apart := false, laid := [("unicode/utf8.acceptRanges", laid_unicode_utf8_acceptRanges), ("unicode/utf8.first", laid_unicode_utf8_first)], narrowed := true }
def ArchiveOpensUptoSaid : Prop := archiveOpensUptoRow.holds Tryd.pinned (OpenSpec.upto archiveOpensSpec)

/-- 'arraslaw.ArchiveNames', WHERE WHAT IT READS IS OF BULK AT MOST 1048576: true; the input reads as it did. -/
def archiveNamesUptoRow : OpenClaim := { program := "ytokpjgpdkmimgaadoor", sum := "0308be87f4a4fbee6ae26c92131fadb39061a231307de921954725e10344945e", func := "arras/arraslaw.ArchiveNames", spec := "archiveNames", inPlace := ["internal/bytealg.IndexByteString", "internal/bytealg.IndexString"], unfollowed := true, recurses := true, named := ["unicode/utf8.first", "unicode/utf8.acceptRanges", "internal/bytealg.MaxLen"], apart := false, laid := [("unicode/utf8.acceptRanges", laid_unicode_utf8_acceptRanges), ("unicode/utf8.first", laid_unicode_utf8_first)], narrowed := true }
def ArchiveNamesUptoSaid : Prop := archiveNamesUptoRow.holds Tryd.pinned (OpenSpec.upto archiveNamesSpec)

/-- 'arraskeep.CatalogsBack', WHERE WHAT IT READS IS OF BULK AT MOST 1048576: true; the input reads as it did. -/
def catalogsBackUptoRow : OpenClaim := { program := "ytokpjgpdkmimgaadoor", sum := "0308be87f4a4fbee6ae26c92131fadb39061a231307de921954725e10344945e", func := "arras/arraskeep.CatalogsBack", spec := "catalogsBack", inPlace := ["internal/abi.NoEscape", "internal/bytealg.MakeNoZero", "internal/bytealg.IndexByteString", "internal/bytealg.IndexString"], unfollowed := true, recurses := true, named := ["unicode/utf8.first", "unicode/utf8.acceptRanges", "internal/bytealg.MaxLen"], apart := false, laid := [("unicode/utf8.acceptRanges", laid_unicode_utf8_acceptRanges), ("unicode/utf8.first", laid_unicode_utf8_first)], narrowed := true }
def CatalogsBackUptoSaid : Prop := catalogsBackUptoRow.holds Tryd.pinned (OpenSpec.upto catalogsBackSpec)

/-- 'arraslaw.ArchiveGets', WHERE WHAT IT READS IS OF BULK AT MOST 1048576: true; the input reads as it did. -/
def archiveGetsUptoRow : OpenClaim := { program := "ytokpjgpdkmimgaadoor", sum := "0308be87f4a4fbee6ae26c92131fadb39061a231307de921954725e10344945e", func := "arras/arraslaw.ArchiveGets", spec := "archiveGets", inPlace := ["internal/bytealg.IndexByteString", "internal/bytealg.IndexString", "internal/bytealg.abigen_runtime_cmpstring", "internal/abi.NoEscape"], unfollowed := true, recurses := true, named := ["unicode/utf8.first", "unicode/utf8.acceptRanges", "internal/bytealg.MaxLen"], apart := false, laid := [("unicode/utf8.acceptRanges", laid_unicode_utf8_acceptRanges), ("unicode/utf8.first", laid_unicode_utf8_first)], narrowed := true }
def ArchiveGetsUptoSaid : Prop := archiveGetsUptoRow.holds Tryd.pinned (OpenSpec.upto archiveGetsSpec)

/-- 'arraskeep.ArraysStand', WHERE WHAT IT READS IS OF BULK AT MOST 1048576: true; the input reads as it did. -/
def arraysStandUptoRow : OpenClaim := { program := "ytokpjgpdkmimgaadoor", sum := "0308be87f4a4fbee6ae26c92131fadb39061a231307de921954725e10344945e", func := "arras/arraskeep.ArraysStand", spec := "arraysStand", inPlace := ["internal/abi.NoEscape", "internal/bytealg.MakeNoZero"], unfollowed := true, recurses := true, named := ["internal/strconv.uint64pow10", "math/bits.deBruijn32tab", "math/bits.deBruijn64tab"], apart := false, laid := [("math/bits.deBruijn32tab", laid_math_bits_deBruijn32tab), ("math/bits.deBruijn64tab", laid_math_bits_deBruijn64tab), ("internal/strconv.uint64pow10", laid_internal_strconv_uint64pow10)], narrowed := true }
def ArraysStandUptoSaid : Prop := arraysStandUptoRow.holds Tryd.pinned (OpenSpec.upto arraysStandSpec)

/-- 'arraskeep.ArraysParity', WHERE WHAT IT READS IS OF BULK AT MOST 1048576: true; the input reads as it did. -/
def arraysParityUptoRow : OpenClaim := { program := "ytokpjgpdkmimgaadoor", sum := "0308be87f4a4fbee6ae26c92131fadb39061a231307de921954725e10344945e", func := "arras/arraskeep.ArraysParity", spec := "arraysParity", inPlace := ["internal/abi.NoEscape", "internal/bytealg.MakeNoZero"], unfollowed := true, recurses := true, named := ["internal/strconv.uint64pow10", "math/bits.deBruijn32tab", "math/bits.deBruijn64tab"], apart := false, laid := [("math/bits.deBruijn32tab", laid_math_bits_deBruijn32tab), ("math/bits.deBruijn64tab", laid_math_bits_deBruijn64tab), ("internal/strconv.uint64pow10", laid_internal_strconv_uint64pow10)], narrowed := true }
def ArraysParityUptoSaid : Prop := arraysParityUptoRow.holds Tryd.pinned (OpenSpec.upto arraysParitySpec)

/-- 'arraskeep.WritesStay', WHERE WHAT IT READS IS OF BULK AT MOST 1048576: true; the input reads as it did. -/
def writesStayUptoRow : OpenClaim := { program := "ytokpjgpdkmimgaadoor", sum := "0308be87f4a4fbee6ae26c92131fadb39061a231307de921954725e10344945e", func := "arras/arraskeep.WritesStay", spec := "writesStay", inPlace := ["internal/abi.NoEscape", "internal/bytealg.MakeNoZero"], unfollowed := true, recurses := true, named := ["internal/strconv.uint64pow10", "math/bits.deBruijn32tab", "math/bits.deBruijn64tab"], apart := false, laid := [("math/bits.deBruijn32tab", laid_math_bits_deBruijn32tab), ("math/bits.deBruijn64tab", laid_math_bits_deBruijn64tab), ("internal/strconv.uint64pow10", laid_internal_strconv_uint64pow10)], narrowed := true }
def WritesStayUptoSaid : Prop := writesStayUptoRow.holds Tryd.pinned (OpenSpec.upto writesStaySpec)

/-- 'arraskeep.StreamsBack', WHERE WHAT IT READS IS OF BULK AT MOST 1048576: true; the input reads as it did. -/
def streamsBackUptoRow : OpenClaim := { program := "ytokpjgpdkmimgaadoor", sum := "0308be87f4a4fbee6ae26c92131fadb39061a231307de921954725e10344945e", func := "arras/arraskeep.StreamsBack", spec := "streamsBack", inPlace := ["internal/abi.NoEscape", "internal/bytealg.MakeNoZero"], unfollowed := true, recurses := true, named := ["internal/strconv.uint64pow10", "math/bits.deBruijn32tab", "math/bits.deBruijn64tab"], apart := false, laid := [("math/bits.deBruijn32tab", laid_math_bits_deBruijn32tab), ("math/bits.deBruijn64tab", laid_math_bits_deBruijn64tab), ("internal/strconv.uint64pow10", laid_internal_strconv_uint64pow10)], narrowed := true }
def StreamsBackUptoSaid : Prop := streamsBackUptoRow.holds Tryd.pinned (OpenSpec.upto streamsBackSpec)

end Rows
end Go.Proofs.YtokpjgpdkmimgaaDoor
