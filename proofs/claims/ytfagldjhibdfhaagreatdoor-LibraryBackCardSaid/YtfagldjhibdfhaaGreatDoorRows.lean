/-
  NARROWER THAN 'FOR EVERY INPUT', by the rows' own cells (each row's printed sentence says how): LibraryBounds: laid · LibraryNil: laid · LibraryBack: laid · LibraryTexts: laid · LibraryNames: laid · LibrarySubs: laid · LibraryReps: laid · LibraryReads: laid · LibraryFinds: laid · LibraryTables: laid · LibraryCalls: laid.
  DERIVED. THE GIVEN ROWS OF THIS SEAT. 11 by the template 'for every input the law returns true; each argument reads behind the call as it read before'; 0 by the template 'total and deterministic' (their statements: YtfagldjhibdfhaaGreatDoorTotals.lean).
  GIVEN WITH THE SEED: the statements are not yours to turn. If you find one false, say at which input.
  Laid BY PROGRAM, IN A SANDBOX (cutbox-rows.mjs): the forced cells as the released guide's own fill.sh prints them over the translation a7ad8aed31fa5f51… (all of the seat's roots in one cut). By AI agents, Wed Nov 11 2026. No macro, syntax, notation, axiom, sorry.
-/
import Derived.Test.YtfagldjhibdfhaaGreatDoorChecked
import GoSem.Claim
import GoSem.ClaimJoined
import GoSem.ClaimMapViews
import Derived.JoinedTies
import Derived.KernelRfl
namespace Go.Proofs.YtfagldjhibdfhaaGreatDoor
/- THE CELL 'sum', in the pinned program and in every row, IS THE sha256 OF THE DUMP (.gsa) THAT YtfagldjhibdfhaaGreatDoorProg.lean LOADS. Nothing in Lean hashes anything: it is a label: what it is worth is what the hold of that sum in a sandbox is worth. -/
noncomputable def Tryz.pinned : Pinned := { name := "ytfagldjhibdfhaagreatdoor", sum := "a7ad8aed31fa5f51c3908fcbeba50e553cd850205d5e474f50ce7f0b218219d1", checked := Tryz.checked }
namespace Rows
def none {H : Type} : Left H := { results := [], args := [] }

/- WHAT THE LISTED PACKAGE-LEVEL VARIABLES READ AS WHEN THE CALL BEGINS. Each datum BY PROGRAM (the guide's laid-datum.mjs) off the statement by which the dump's own 'gosem.cut.vars' lays the variable. In a bare row this is a premise. The card (YtfagldjhibdfhaaGreatDoorCards.lean) ties it to the program's text. -/
def laid_math_bits_deBruijn32tab {H : Type} : DataW H := .agg [.lit (.int .u8 0), .lit (.int .u8 1), .lit (.int .u8 28), .lit (.int .u8 2), .lit (.int .u8 29), .lit (.int .u8 14), .lit (.int .u8 24), .lit (.int .u8 3), .lit (.int .u8 30), .lit (.int .u8 22), .lit (.int .u8 20), .lit (.int .u8 15), .lit (.int .u8 25), .lit (.int .u8 17), .lit (.int .u8 4), .lit (.int .u8 8), .lit (.int .u8 31), .lit (.int .u8 27), .lit (.int .u8 13), .lit (.int .u8 23), .lit (.int .u8 21), .lit (.int .u8 19), .lit (.int .u8 16), .lit (.int .u8 7), .lit (.int .u8 26), .lit (.int .u8 12), .lit (.int .u8 18), .lit (.int .u8 6), .lit (.int .u8 11), .lit (.int .u8 5), .lit (.int .u8 10), .lit (.int .u8 9)]
def laid_math_bits_deBruijn64tab {H : Type} : DataW H := .agg [.lit (.int .u8 0), .lit (.int .u8 1), .lit (.int .u8 56), .lit (.int .u8 2), .lit (.int .u8 57), .lit (.int .u8 49), .lit (.int .u8 28), .lit (.int .u8 3), .lit (.int .u8 61), .lit (.int .u8 58), .lit (.int .u8 42), .lit (.int .u8 50), .lit (.int .u8 38), .lit (.int .u8 29), .lit (.int .u8 17), .lit (.int .u8 4), .lit (.int .u8 62), .lit (.int .u8 47), .lit (.int .u8 59), .lit (.int .u8 36), .lit (.int .u8 45), .lit (.int .u8 43), .lit (.int .u8 51), .lit (.int .u8 22), .lit (.int .u8 53), .lit (.int .u8 39), .lit (.int .u8 33), .lit (.int .u8 30), .lit (.int .u8 24), .lit (.int .u8 18), .lit (.int .u8 12), .lit (.int .u8 5), .lit (.int .u8 63), .lit (.int .u8 55), .lit (.int .u8 48), .lit (.int .u8 27), .lit (.int .u8 60), .lit (.int .u8 41), .lit (.int .u8 37), .lit (.int .u8 16), .lit (.int .u8 46), .lit (.int .u8 35), .lit (.int .u8 44), .lit (.int .u8 21), .lit (.int .u8 52), .lit (.int .u8 32), .lit (.int .u8 23), .lit (.int .u8 11), .lit (.int .u8 54), .lit (.int .u8 26), .lit (.int .u8 40), .lit (.int .u8 15), .lit (.int .u8 34), .lit (.int .u8 20), .lit (.int .u8 31), .lit (.int .u8 10), .lit (.int .u8 25), .lit (.int .u8 14), .lit (.int .u8 19), .lit (.int .u8 9), .lit (.int .u8 13), .lit (.int .u8 8), .lit (.int .u8 7), .lit (.int .u8 6)]
def laid_internal_strconv_uint64pow10 {H : Type} : DataW H := .agg [.lit (.int .u64 1), .lit (.int .u64 10), .lit (.int .u64 100), .lit (.int .u64 1000), .lit (.int .u64 10000), .lit (.int .u64 100000), .lit (.int .u64 1000000), .lit (.int .u64 10000000), .lit (.int .u64 100000000), .lit (.int .u64 1000000000), .lit (.int .u64 10000000000), .lit (.int .u64 100000000000), .lit (.int .u64 1000000000000), .lit (.int .u64 10000000000000), .lit (.int .u64 100000000000000), .lit (.int .u64 1000000000000000), .lit (.int .u64 10000000000000000), .lit (.int .u64 100000000000000000), .lit (.int .u64 1000000000000000000), .lit (.int .u64 10000000000000000000)]
def laid_strconv_ErrRange {H : Type} : DataW H := .iface "*errors.errorString" (.ptr (.agg [.lit (.string [118, 97, 108, 117, 101, 32, 111, 117, 116, 32, 111, 102, 32, 114, 97, 110, 103, 101])]))
def laid_strconv_ErrSyntax {H : Type} : DataW H := .iface "*errors.errorString" (.ptr (.agg [.lit (.string [105, 110, 118, 97, 108, 105, 100, 32, 115, 121, 110, 116, 97, 120])]))

/-- 'taborlaw15.LibraryBounds': WHATEVER THE INPUT: true; the input reads as it did. -/
def libraryBoundsSpec : ChangeSpec := { name := "libraryBounds", fn := fun _ => fun
  | [] => { results := [.lit (.bool true)], args := [] }
  | _ => none }
def libraryBoundsRow : OpenClaim := { program := "ytfagldjhibdfhaagreatdoor", sum := "a7ad8aed31fa5f51c3908fcbeba50e553cd850205d5e474f50ce7f0b218219d1", func := "tabor/taborlaw15.LibraryBounds", spec := "libraryBounds", inPlace := ["internal/abi.NoEscape", "internal/bytealg.MakeNoZero", "internal/bytealg.IndexByteString", "internal/bytealg.IndexString"], unfollowed := true, recurses := true, named := ["internal/strconv.uint64pow10", "math/bits.deBruijn32tab", "math/bits.deBruijn64tab", "strconv.ErrSyntax", "strconv.ErrRange", "internal/bytealg.MaxLen"], apart := false, laid := [("math/bits.deBruijn32tab", laid_math_bits_deBruijn32tab), ("math/bits.deBruijn64tab", laid_math_bits_deBruijn64tab), ("internal/strconv.uint64pow10", laid_internal_strconv_uint64pow10), ("strconv.ErrRange", laid_strconv_ErrRange), ("strconv.ErrSyntax", laid_strconv_ErrSyntax)] }
def LibraryBoundsSaid : Prop := libraryBoundsRow.holds Tryz.pinned (OpenSpec.ofChange libraryBoundsSpec)

/-- ITS FALSE NEIGHBOUR: 'it returns false'. Refute it at one input. -/
def libraryBoundsWrong : ChangeSpec := { name := "libraryBounds", fn := fun _ => fun
  | [] => { results := [.lit (.bool false)], args := [] }
  | _ => none }
def LibraryBoundsWrongFalsely : Prop := libraryBoundsRow.holds Tryz.pinned (OpenSpec.ofChange libraryBoundsWrong)

/-- 'taborlaw15.LibraryNil': WHATEVER THE INPUT: true; the input reads as it did. -/
def libraryNilSpec : ChangeSpec := { name := "libraryNil", fn := fun _ => fun
  | [d1, d2] => { results := [.lit (.bool true)], args := [d1, d2] }
  | _ => none }
def libraryNilRow : OpenClaim := { program := "ytfagldjhibdfhaagreatdoor", sum := "a7ad8aed31fa5f51c3908fcbeba50e553cd850205d5e474f50ce7f0b218219d1", func := "tabor/taborlaw15.LibraryNil", spec := "libraryNil", inPlace := ["internal/abi.NoEscape", "internal/bytealg.MakeNoZero", "internal/bytealg.IndexByteString", "internal/bytealg.IndexString"], unfollowed := true, recurses := true, named := ["internal/strconv.uint64pow10", "math/bits.deBruijn32tab", "math/bits.deBruijn64tab", "strconv.ErrSyntax", "strconv.ErrRange", "internal/bytealg.MaxLen"], apart := false, laid := [("math/bits.deBruijn32tab", laid_math_bits_deBruijn32tab), ("math/bits.deBruijn64tab", laid_math_bits_deBruijn64tab), ("internal/strconv.uint64pow10", laid_internal_strconv_uint64pow10), ("strconv.ErrRange", laid_strconv_ErrRange), ("strconv.ErrSyntax", laid_strconv_ErrSyntax)] }
def LibraryNilSaid : Prop := libraryNilRow.holds Tryz.pinned (OpenSpec.ofChange libraryNilSpec)

/-- ITS FALSE NEIGHBOUR: 'it returns false'. Refute it at one input. -/
def libraryNilWrong : ChangeSpec := { name := "libraryNil", fn := fun _ => fun
  | [d1, d2] => { results := [.lit (.bool false)], args := [d1, d2] }
  | _ => none }
def LibraryNilWrongFalsely : Prop := libraryNilRow.holds Tryz.pinned (OpenSpec.ofChange libraryNilWrong)

/-- 'taborlaw15.LibraryBack': WHATEVER THE INPUT: true; the input reads as it did. -/
def libraryBackSpec : ChangeSpec := { name := "libraryBack", fn := fun _ => fun
  | [d1, d2] => { results := [.lit (.bool true)], args := [d1, d2] }
  | _ => none }
def libraryBackRow : OpenClaim := { program := "ytfagldjhibdfhaagreatdoor", sum := "a7ad8aed31fa5f51c3908fcbeba50e553cd850205d5e474f50ce7f0b218219d1", func := "tabor/taborlaw15.LibraryBack", spec := "libraryBack", inPlace := ["internal/abi.NoEscape", "internal/bytealg.MakeNoZero", "internal/bytealg.IndexByteString", "internal/bytealg.IndexString"], unfollowed := true, recurses := true, named := ["internal/strconv.uint64pow10", "math/bits.deBruijn32tab", "math/bits.deBruijn64tab", "strconv.ErrSyntax", "strconv.ErrRange", "internal/bytealg.MaxLen"], apart := false, laid := [("math/bits.deBruijn32tab", laid_math_bits_deBruijn32tab), ("math/bits.deBruijn64tab", laid_math_bits_deBruijn64tab), ("internal/strconv.uint64pow10", laid_internal_strconv_uint64pow10), ("strconv.ErrRange", laid_strconv_ErrRange), ("strconv.ErrSyntax", laid_strconv_ErrSyntax)] }
def LibraryBackSaid : Prop := libraryBackRow.holds Tryz.pinned (OpenSpec.ofChange libraryBackSpec)

/-- ITS FALSE NEIGHBOUR: 'it returns false'. Refute it at one input. -/
def libraryBackWrong : ChangeSpec := { name := "libraryBack", fn := fun _ => fun
  | [d1, d2] => { results := [.lit (.bool false)], args := [d1, d2] }
  | _ => none }
def LibraryBackWrongFalsely : Prop := libraryBackRow.holds Tryz.pinned (OpenSpec.ofChange libraryBackWrong)

/-- 'taborlaw15.LibraryTexts': WHATEVER THE INPUT: true; the input reads as it did. -/
def libraryTextsSpec : ChangeSpec := { name := "libraryTexts", fn := fun _ => fun
  | [d1, d2, d3] => { results := [.lit (.bool true)], args := [d1, d2, d3] }
  | _ => none }
def libraryTextsRow : OpenClaim := { program := "ytfagldjhibdfhaagreatdoor", sum := "a7ad8aed31fa5f51c3908fcbeba50e553cd850205d5e474f50ce7f0b218219d1", func := "tabor/taborlaw15.LibraryTexts", spec := "libraryTexts", inPlace := ["internal/abi.NoEscape", "internal/bytealg.MakeNoZero", "internal/bytealg.IndexByteString", "internal/bytealg.IndexString"], unfollowed := true, recurses := true, named := ["internal/strconv.uint64pow10", "math/bits.deBruijn32tab", "math/bits.deBruijn64tab", "strconv.ErrSyntax", "strconv.ErrRange", "internal/bytealg.MaxLen"], apart := false, laid := [("math/bits.deBruijn32tab", laid_math_bits_deBruijn32tab), ("math/bits.deBruijn64tab", laid_math_bits_deBruijn64tab), ("internal/strconv.uint64pow10", laid_internal_strconv_uint64pow10), ("strconv.ErrRange", laid_strconv_ErrRange), ("strconv.ErrSyntax", laid_strconv_ErrSyntax)] }
def LibraryTextsSaid : Prop := libraryTextsRow.holds Tryz.pinned (OpenSpec.ofChange libraryTextsSpec)

/-- ITS FALSE NEIGHBOUR: 'it returns false'. Refute it at one input. -/
def libraryTextsWrong : ChangeSpec := { name := "libraryTexts", fn := fun _ => fun
  | [d1, d2, d3] => { results := [.lit (.bool false)], args := [d1, d2, d3] }
  | _ => none }
def LibraryTextsWrongFalsely : Prop := libraryTextsRow.holds Tryz.pinned (OpenSpec.ofChange libraryTextsWrong)

/-- 'taborlaw15.LibraryNames': WHATEVER THE INPUT: true; the input reads as it did. -/
def libraryNamesSpec : ChangeSpec := { name := "libraryNames", fn := fun _ => fun
  | [d] => { results := [.lit (.bool true)], args := [d] }
  | _ => none }
def libraryNamesRow : OpenClaim := { program := "ytfagldjhibdfhaagreatdoor", sum := "a7ad8aed31fa5f51c3908fcbeba50e553cd850205d5e474f50ce7f0b218219d1", func := "tabor/taborlaw15.LibraryNames", spec := "libraryNames", inPlace := ["internal/abi.NoEscape", "internal/bytealg.MakeNoZero", "internal/bytealg.IndexByteString", "internal/bytealg.IndexString"], unfollowed := true, recurses := true, named := ["internal/strconv.uint64pow10", "math/bits.deBruijn32tab", "math/bits.deBruijn64tab", "strconv.ErrSyntax", "strconv.ErrRange", "internal/bytealg.MaxLen"], apart := false, laid := [("math/bits.deBruijn32tab", laid_math_bits_deBruijn32tab), ("math/bits.deBruijn64tab", laid_math_bits_deBruijn64tab), ("internal/strconv.uint64pow10", laid_internal_strconv_uint64pow10), ("strconv.ErrRange", laid_strconv_ErrRange), ("strconv.ErrSyntax", laid_strconv_ErrSyntax)] }
def LibraryNamesSaid : Prop := libraryNamesRow.holds Tryz.pinned (OpenSpec.ofChange libraryNamesSpec)

/-- ITS FALSE NEIGHBOUR: 'it returns false'. Refute it at one input. -/
def libraryNamesWrong : ChangeSpec := { name := "libraryNames", fn := fun _ => fun
  | [d] => { results := [.lit (.bool false)], args := [d] }
  | _ => none }
def LibraryNamesWrongFalsely : Prop := libraryNamesRow.holds Tryz.pinned (OpenSpec.ofChange libraryNamesWrong)

/-- 'taborlaw15.LibrarySubs': WHATEVER THE INPUT: true; the input reads as it did. -/
def librarySubsSpec : ChangeSpec := { name := "librarySubs", fn := fun _ => fun
  | [d1, d2, d3] => { results := [.lit (.bool true)], args := [d1, d2, d3] }
  | _ => none }
def librarySubsRow : OpenClaim := { program := "ytfagldjhibdfhaagreatdoor", sum := "a7ad8aed31fa5f51c3908fcbeba50e553cd850205d5e474f50ce7f0b218219d1", func := "tabor/taborlaw15.LibrarySubs", spec := "librarySubs", inPlace := ["internal/abi.NoEscape", "internal/bytealg.MakeNoZero", "internal/bytealg.IndexByteString", "internal/bytealg.IndexString"], unfollowed := true, recurses := true, named := ["internal/strconv.uint64pow10", "math/bits.deBruijn32tab", "math/bits.deBruijn64tab", "strconv.ErrSyntax", "strconv.ErrRange", "internal/bytealg.MaxLen"], apart := false, laid := [("math/bits.deBruijn32tab", laid_math_bits_deBruijn32tab), ("math/bits.deBruijn64tab", laid_math_bits_deBruijn64tab), ("internal/strconv.uint64pow10", laid_internal_strconv_uint64pow10), ("strconv.ErrRange", laid_strconv_ErrRange), ("strconv.ErrSyntax", laid_strconv_ErrSyntax)] }
def LibrarySubsSaid : Prop := librarySubsRow.holds Tryz.pinned (OpenSpec.ofChange librarySubsSpec)

/-- ITS FALSE NEIGHBOUR: 'it returns false'. Refute it at one input. -/
def librarySubsWrong : ChangeSpec := { name := "librarySubs", fn := fun _ => fun
  | [d1, d2, d3] => { results := [.lit (.bool false)], args := [d1, d2, d3] }
  | _ => none }
def LibrarySubsWrongFalsely : Prop := librarySubsRow.holds Tryz.pinned (OpenSpec.ofChange librarySubsWrong)

/-- 'taborlaw15.LibraryReps': WHATEVER THE INPUT: true; the input reads as it did. -/
def libraryRepsSpec : ChangeSpec := { name := "libraryReps", fn := fun _ => fun
  | [d1, d2, d3] => { results := [.lit (.bool true)], args := [d1, d2, d3] }
  | _ => none }
def libraryRepsRow : OpenClaim := { program := "ytfagldjhibdfhaagreatdoor", sum := "a7ad8aed31fa5f51c3908fcbeba50e553cd850205d5e474f50ce7f0b218219d1", func := "tabor/taborlaw15.LibraryReps", spec := "libraryReps", inPlace := ["internal/abi.NoEscape", "internal/bytealg.MakeNoZero", "internal/bytealg.IndexByteString", "internal/bytealg.IndexString"], unfollowed := true, recurses := true, named := ["internal/strconv.uint64pow10", "math/bits.deBruijn32tab", "math/bits.deBruijn64tab", "strconv.ErrSyntax", "strconv.ErrRange", "internal/bytealg.MaxLen"], apart := false, laid := [("math/bits.deBruijn32tab", laid_math_bits_deBruijn32tab), ("math/bits.deBruijn64tab", laid_math_bits_deBruijn64tab), ("internal/strconv.uint64pow10", laid_internal_strconv_uint64pow10), ("strconv.ErrRange", laid_strconv_ErrRange), ("strconv.ErrSyntax", laid_strconv_ErrSyntax)] }
def LibraryRepsSaid : Prop := libraryRepsRow.holds Tryz.pinned (OpenSpec.ofChange libraryRepsSpec)

/-- ITS FALSE NEIGHBOUR: 'it returns false'. Refute it at one input. -/
def libraryRepsWrong : ChangeSpec := { name := "libraryReps", fn := fun _ => fun
  | [d1, d2, d3] => { results := [.lit (.bool false)], args := [d1, d2, d3] }
  | _ => none }
def LibraryRepsWrongFalsely : Prop := libraryRepsRow.holds Tryz.pinned (OpenSpec.ofChange libraryRepsWrong)

/-- 'taborlaw15.LibraryReads': WHATEVER THE INPUT: true; the input reads as it did. -/
def libraryReadsSpec : ChangeSpec := { name := "libraryReads", fn := fun _ => fun
  | [d1, d2] => { results := [.lit (.bool true)], args := [d1, d2] }
  | _ => none }
def libraryReadsRow : OpenClaim := { program := "ytfagldjhibdfhaagreatdoor", sum := "a7ad8aed31fa5f51c3908fcbeba50e553cd850205d5e474f50ce7f0b218219d1", func := "tabor/taborlaw15.LibraryReads", spec := "libraryReads", inPlace := ["internal/abi.NoEscape", "internal/bytealg.MakeNoZero", "internal/bytealg.IndexByteString", "internal/bytealg.IndexString"], unfollowed := true, recurses := true, named := ["internal/strconv.uint64pow10", "math/bits.deBruijn32tab", "math/bits.deBruijn64tab", "strconv.ErrSyntax", "strconv.ErrRange", "internal/bytealg.MaxLen"], apart := false, laid := [("math/bits.deBruijn32tab", laid_math_bits_deBruijn32tab), ("math/bits.deBruijn64tab", laid_math_bits_deBruijn64tab), ("internal/strconv.uint64pow10", laid_internal_strconv_uint64pow10), ("strconv.ErrRange", laid_strconv_ErrRange), ("strconv.ErrSyntax", laid_strconv_ErrSyntax)] }
def LibraryReadsSaid : Prop := libraryReadsRow.holds Tryz.pinned (OpenSpec.ofChange libraryReadsSpec)

/-- ITS FALSE NEIGHBOUR: 'it returns false'. Refute it at one input. -/
def libraryReadsWrong : ChangeSpec := { name := "libraryReads", fn := fun _ => fun
  | [d1, d2] => { results := [.lit (.bool false)], args := [d1, d2] }
  | _ => none }
def LibraryReadsWrongFalsely : Prop := libraryReadsRow.holds Tryz.pinned (OpenSpec.ofChange libraryReadsWrong)

/-- 'taborlaw15.LibraryFinds': WHATEVER THE INPUT: true; the input reads as it did. -/
def libraryFindsSpec : ChangeSpec := { name := "libraryFinds", fn := fun _ => fun
  | [d1, d2, d3] => { results := [.lit (.bool true)], args := [d1, d2, d3] }
  | _ => none }
def libraryFindsRow : OpenClaim := { program := "ytfagldjhibdfhaagreatdoor", sum := "a7ad8aed31fa5f51c3908fcbeba50e553cd850205d5e474f50ce7f0b218219d1", func := "tabor/taborlaw15.LibraryFinds", spec := "libraryFinds", inPlace := ["internal/abi.NoEscape", "internal/bytealg.MakeNoZero", "internal/bytealg.IndexByteString", "internal/bytealg.IndexString"], unfollowed := true, recurses := true, named := ["internal/strconv.uint64pow10", "math/bits.deBruijn32tab", "math/bits.deBruijn64tab", "strconv.ErrSyntax", "strconv.ErrRange", "internal/bytealg.MaxLen"], apart := false, laid := [("math/bits.deBruijn32tab", laid_math_bits_deBruijn32tab), ("math/bits.deBruijn64tab", laid_math_bits_deBruijn64tab), ("internal/strconv.uint64pow10", laid_internal_strconv_uint64pow10), ("strconv.ErrRange", laid_strconv_ErrRange), ("strconv.ErrSyntax", laid_strconv_ErrSyntax)] }
def LibraryFindsSaid : Prop := libraryFindsRow.holds Tryz.pinned (OpenSpec.ofChange libraryFindsSpec)

/-- ITS FALSE NEIGHBOUR: 'it returns false'. Refute it at one input. -/
def libraryFindsWrong : ChangeSpec := { name := "libraryFinds", fn := fun _ => fun
  | [d1, d2, d3] => { results := [.lit (.bool false)], args := [d1, d2, d3] }
  | _ => none }
def LibraryFindsWrongFalsely : Prop := libraryFindsRow.holds Tryz.pinned (OpenSpec.ofChange libraryFindsWrong)

/-- 'taborlaw15.LibraryTables': WHATEVER THE INPUT: true; the input reads as it did. -/
def libraryTablesSpec : ChangeSpec := { name := "libraryTables", fn := fun _ => fun
  | [d1, d2, d3] => { results := [.lit (.bool true)], args := [d1, d2, d3] }
  | _ => none }
def libraryTablesRow : OpenClaim := { program := "ytfagldjhibdfhaagreatdoor", sum := "a7ad8aed31fa5f51c3908fcbeba50e553cd850205d5e474f50ce7f0b218219d1", func := "tabor/taborlaw15.LibraryTables", spec := "libraryTables", inPlace := ["internal/abi.NoEscape", "internal/bytealg.MakeNoZero", "internal/bytealg.IndexByteString", "internal/bytealg.IndexString"], unfollowed := true, recurses := true, named := ["internal/strconv.uint64pow10", "math/bits.deBruijn32tab", "math/bits.deBruijn64tab", "strconv.ErrSyntax", "strconv.ErrRange", "internal/bytealg.MaxLen"], apart := false, laid := [("math/bits.deBruijn32tab", laid_math_bits_deBruijn32tab), ("math/bits.deBruijn64tab", laid_math_bits_deBruijn64tab), ("internal/strconv.uint64pow10", laid_internal_strconv_uint64pow10), ("strconv.ErrRange", laid_strconv_ErrRange), ("strconv.ErrSyntax", laid_strconv_ErrSyntax)] }
def LibraryTablesSaid : Prop := libraryTablesRow.holds Tryz.pinned (OpenSpec.ofChange libraryTablesSpec)

/-- ITS FALSE NEIGHBOUR: 'it returns false'. Refute it at one input. -/
def libraryTablesWrong : ChangeSpec := { name := "libraryTables", fn := fun _ => fun
  | [d1, d2, d3] => { results := [.lit (.bool false)], args := [d1, d2, d3] }
  | _ => none }
def LibraryTablesWrongFalsely : Prop := libraryTablesRow.holds Tryz.pinned (OpenSpec.ofChange libraryTablesWrong)

/-- 'taborlaw15.LibraryCalls': WHATEVER THE INPUT: true; the input reads as it did. -/
def libraryCallsSpec : ChangeSpec := { name := "libraryCalls", fn := fun _ => fun
  | [d1, d2, d3] => { results := [.lit (.bool true)], args := [d1, d2, d3] }
  | _ => none }
def libraryCallsRow : OpenClaim := { program := "ytfagldjhibdfhaagreatdoor", sum := "a7ad8aed31fa5f51c3908fcbeba50e553cd850205d5e474f50ce7f0b218219d1", func := "tabor/taborlaw15.LibraryCalls", spec := "libraryCalls", inPlace := ["internal/abi.NoEscape", "internal/bytealg.MakeNoZero", "internal/bytealg.IndexByteString", "internal/bytealg.IndexString"], unfollowed := true, recurses := true, named := ["internal/strconv.uint64pow10", "math/bits.deBruijn32tab", "math/bits.deBruijn64tab", "strconv.ErrSyntax", "strconv.ErrRange", "internal/bytealg.MaxLen"], apart := false, laid := [("math/bits.deBruijn32tab", laid_math_bits_deBruijn32tab), ("math/bits.deBruijn64tab", laid_math_bits_deBruijn64tab), ("internal/strconv.uint64pow10", laid_internal_strconv_uint64pow10), ("strconv.ErrRange", laid_strconv_ErrRange), ("strconv.ErrSyntax", laid_strconv_ErrSyntax)] }
def LibraryCallsSaid : Prop := libraryCallsRow.holds Tryz.pinned (OpenSpec.ofChange libraryCallsSpec)

/-- ITS FALSE NEIGHBOUR: 'it returns false'. Refute it at one input. -/
def libraryCallsWrong : ChangeSpec := { name := "libraryCalls", fn := fun _ => fun
  | [d1, d2, d3] => { results := [.lit (.bool false)], args := [d1, d2, d3] }
  | _ => none }
def LibraryCallsWrongFalsely : Prop := libraryCallsRow.holds Tryz.pinned (OpenSpec.ofChange libraryCallsWrong)

/- THE SECOND FORM. 'bulk': how many values and letters a reading holds, each counted each time it is reached (what is shared counts as often as it is met; a slice's spare places count too). A statement '..UptoSaid' is the law's where the arguments, and the package variables that the reading takes, are together of bulk at most 1048576: NARROWER than '..Said'. Prove '..Said' where nothing that the law and all that it calls make is longer than what came in: it says more and counts as full. Else prove '..UptoSaid'. A law counts once. -/
mutual
def uptoBulk {H : Type} : DataW H → Nat
  | .lit (.string bytes) => bytes.length + 1
  | .lit _ => 1
  | .nil => 1
  | .ptr d => uptoBulk d + 1
  | .slice elems spare => uptoBulkAll elems + uptoBulkAll spare + 1
  | .agg parts => uptoBulkAll parts + 1
  | .iface _ d => uptoBulk d + 1
  | .map entries => uptoBulkEntries entries + 1
  | .held _ => 1
def uptoBulkAll {H : Type} : List (DataW H) → Nat
  | [] => 0
  | d :: r => uptoBulk d + uptoBulkAll r
def uptoBulkEntries {H : Type} : List (Lit × DataW H) → Nat
  | [] => 0
  | x :: r => uptoBulkEntry x + uptoBulkEntries r
def uptoBulkEntry {H : Type} : Lit × DataW H → Nat
  | (.string bytes, d) => bytes.length + uptoBulk d + 1
  | (_, d) => uptoBulk d + 1
 end
def uptoSmall : (H : Type) → List (DataW H) → Bool := fun _ ds => decide (uptoBulkAll ds ≤ 1048576)
def OpenSpec.upto (s : _root_.Go.ChangeSpec) : _root_.Go.OpenSpec := { _root_.Go.OpenSpec.ofChange s with cond := some uptoSmall }

/-- 'taborlaw15.LibraryBounds', WHERE WHAT IT READS IS OF BULK AT MOST 1048576: true; the input reads as it did. -/
def libraryBoundsUptoRow : OpenClaim := { program := "ytfagldjhibdfhaagreatdoor", sum := "a7ad8aed31fa5f51c3908fcbeba50e553cd850205d5e474f50ce7f0b218219d1", func := "tabor/taborlaw15.LibraryBounds", spec := "libraryBounds", inPlace := ["internal/abi.NoEscape", "internal/bytealg.MakeNoZero", "internal/bytealg.IndexByteString", "internal/bytealg.IndexString"], unfollowed := true, recurses := true, named := ["internal/strconv.uint64pow10", "math/bits.deBruijn32tab", "math/bits.deBruijn64tab", "strconv.ErrSyntax", "strconv.ErrRange", "internal/bytealg.MaxLen"], apart := false, laid := [("math/bits.deBruijn32tab", laid_math_bits_deBruijn32tab), ("math/bits.deBruijn64tab", laid_math_bits_deBruijn64tab), ("internal/strconv.uint64pow10", laid_internal_strconv_uint64pow10), ("strconv.ErrRange", laid_strconv_ErrRange), ("strconv.ErrSyntax", laid_strconv_ErrSyntax)], narrowed := true }
def LibraryBoundsUptoSaid : Prop := libraryBoundsUptoRow.holds Tryz.pinned (OpenSpec.upto libraryBoundsSpec)

/-- 'taborlaw15.LibraryNil', WHERE WHAT IT READS IS OF BULK AT MOST 1048576: true; the input reads as it did. -/
def libraryNilUptoRow : OpenClaim := { program := "ytfagldjhibdfhaagreatdoor", sum := "a7ad8aed31fa5f51c3908fcbeba50e553cd850205d5e474f50ce7f0b218219d1", func := "tabor/taborlaw15.LibraryNil", spec := "libraryNil", inPlace := ["internal/abi.NoEscape", "internal/bytealg.MakeNoZero", "internal/bytealg.IndexByteString", "internal/bytealg.IndexString"], unfollowed := true, recurses := true, named := ["internal/strconv.uint64pow10", "math/bits.deBruijn32tab", "math/bits.deBruijn64tab", "strconv.ErrSyntax", "strconv.ErrRange", "internal/bytealg.MaxLen"], apart := false, laid := [("math/bits.deBruijn32tab", laid_math_bits_deBruijn32tab), ("math/bits.deBruijn64tab", laid_math_bits_deBruijn64tab), ("internal/strconv.uint64pow10", laid_internal_strconv_uint64pow10), ("strconv.ErrRange", laid_strconv_ErrRange), ("strconv.ErrSyntax", laid_strconv_ErrSyntax)], narrowed := true }
def LibraryNilUptoSaid : Prop := libraryNilUptoRow.holds Tryz.pinned (OpenSpec.upto libraryNilSpec)

/-- 'taborlaw15.LibraryBack', WHERE WHAT IT READS IS OF BULK AT MOST 1048576: true; the input reads as it did. -/
def libraryBackUptoRow : OpenClaim := { program := "ytfagldjhibdfhaagreatdoor", sum := "a7ad8aed31fa5f51c3908fcbeba50e553cd850205d5e474f50ce7f0b218219d1", func := "tabor/taborlaw15.LibraryBack", spec := "libraryBack", inPlace := ["internal/abi.NoEscape", "internal/bytealg.MakeNoZero", "internal/bytealg.IndexByteString", "internal/bytealg.IndexString"], unfollowed := true, recurses := true, named := ["internal/strconv.uint64pow10", "math/bits.deBruijn32tab", "math/bits.deBruijn64tab", "strconv.ErrSyntax", "strconv.ErrRange", "internal/bytealg.MaxLen"], apart := false, laid := [("math/bits.deBruijn32tab", laid_math_bits_deBruijn32tab), ("math/bits.deBruijn64tab", laid_math_bits_deBruijn64tab), ("internal/strconv.uint64pow10", laid_internal_strconv_uint64pow10), ("strconv.ErrRange", laid_strconv_ErrRange), ("strconv.ErrSyntax", laid_strconv_ErrSyntax)], narrowed := true }
def LibraryBackUptoSaid : Prop := libraryBackUptoRow.holds Tryz.pinned (OpenSpec.upto libraryBackSpec)

/-- 'taborlaw15.LibraryTexts', WHERE WHAT IT READS IS OF BULK AT MOST 1048576: true; the input reads as it did. -/
def libraryTextsUptoRow : OpenClaim := { program := "ytfagldjhibdfhaagreatdoor", sum := "a7ad8aed31fa5f51c3908fcbeba50e553cd850205d5e474f50ce7f0b218219d1", func := "tabor/taborlaw15.LibraryTexts", spec := "libraryTexts", inPlace := ["internal/abi.NoEscape", "internal/bytealg.MakeNoZero", "internal/bytealg.IndexByteString", "internal/bytealg.IndexString"], unfollowed := true, recurses := true, named := ["internal/strconv.uint64pow10", "math/bits.deBruijn32tab", "math/bits.deBruijn64tab", "strconv.ErrSyntax", "strconv.ErrRange", "internal/bytealg.MaxLen"], apart := false, laid := [("math/bits.deBruijn32tab", laid_math_bits_deBruijn32tab), ("math/bits.deBruijn64tab", laid_math_bits_deBruijn64tab), ("internal/strconv.uint64pow10", laid_internal_strconv_uint64pow10), ("strconv.ErrRange", laid_strconv_ErrRange), ("strconv.ErrSyntax", laid_strconv_ErrSyntax)], narrowed := true }
def LibraryTextsUptoSaid : Prop := libraryTextsUptoRow.holds Tryz.pinned (OpenSpec.upto libraryTextsSpec)

/-- 'taborlaw15.LibraryNames', WHERE WHAT IT READS IS OF BULK AT MOST 1048576: true; the input reads as it did. -/
def libraryNamesUptoRow : OpenClaim := { program := "ytfagldjhibdfhaagreatdoor", sum := "a7ad8aed31fa5f51c3908fcbeba50e553cd850205d5e474f50ce7f0b218219d1", func := "tabor/taborlaw15.LibraryNames", spec := "libraryNames", inPlace := ["internal/abi.NoEscape", "internal/bytealg.MakeNoZero", "internal/bytealg.IndexByteString", "internal/bytealg.IndexString"], unfollowed := true, recurses := true, named := ["internal/strconv.uint64pow10", "math/bits.deBruijn32tab", "math/bits.deBruijn64tab", "strconv.ErrSyntax", "strconv.ErrRange", "internal/bytealg.MaxLen"], apart := false, laid := [("math/bits.deBruijn32tab", laid_math_bits_deBruijn32tab), ("math/bits.deBruijn64tab", laid_math_bits_deBruijn64tab), ("internal/strconv.uint64pow10", laid_internal_strconv_uint64pow10), ("strconv.ErrRange", laid_strconv_ErrRange), ("strconv.ErrSyntax", laid_strconv_ErrSyntax)], narrowed := true }
def LibraryNamesUptoSaid : Prop := libraryNamesUptoRow.holds Tryz.pinned (OpenSpec.upto libraryNamesSpec)

/-- 'taborlaw15.LibrarySubs', WHERE WHAT IT READS IS OF BULK AT MOST 1048576: true; the input reads as it did. -/
def librarySubsUptoRow : OpenClaim := { program := "ytfagldjhibdfhaagreatdoor", sum := "a7ad8aed31fa5f51c3908fcbeba50e553cd850205d5e474f50ce7f0b218219d1", func := "tabor/taborlaw15.LibrarySubs", spec := "librarySubs", inPlace := ["internal/abi.NoEscape", "internal/bytealg.MakeNoZero", "internal/bytealg.IndexByteString", "internal/bytealg.IndexString"], unfollowed := true, recurses := true, named := ["internal/strconv.uint64pow10", "math/bits.deBruijn32tab", "math/bits.deBruijn64tab", "strconv.ErrSyntax", "strconv.ErrRange", "internal/bytealg.MaxLen"], apart := false, laid := [("math/bits.deBruijn32tab", laid_math_bits_deBruijn32tab), ("math/bits.deBruijn64tab", laid_math_bits_deBruijn64tab), ("internal/strconv.uint64pow10", laid_internal_strconv_uint64pow10), ("strconv.ErrRange", laid_strconv_ErrRange), ("strconv.ErrSyntax", laid_strconv_ErrSyntax)], narrowed := true }
def LibrarySubsUptoSaid : Prop := librarySubsUptoRow.holds Tryz.pinned (OpenSpec.upto librarySubsSpec)

/-- 'taborlaw15.LibraryReps', WHERE WHAT IT READS IS OF BULK AT MOST 1048576: true; the input reads as it did. -/
def libraryRepsUptoRow : OpenClaim := { program := "ytfagldjhibdfhaagreatdoor", sum := "a7ad8aed31fa5f51c3908fcbeba50e553cd850205d5e474f50ce7f0b218219d1", func := "tabor/taborlaw15.LibraryReps", spec := "libraryReps", inPlace := ["internal/abi.NoEscape", "internal/bytealg.MakeNoZero", "internal/bytealg.IndexByteString", "internal/bytealg.IndexString"], unfollowed := true, recurses := true, named := ["internal/strconv.uint64pow10", "math/bits.deBruijn32tab", "math/bits.deBruijn64tab", "strconv.ErrSyntax", "strconv.ErrRange", "internal/bytealg.MaxLen"], apart := false, laid := [("math/bits.deBruijn32tab", laid_math_bits_deBruijn32tab), ("math/bits.deBruijn64tab", laid_math_bits_deBruijn64tab), ("internal/strconv.uint64pow10", laid_internal_strconv_uint64pow10), ("strconv.ErrRange", laid_strconv_ErrRange), ("strconv.ErrSyntax", laid_strconv_ErrSyntax)], narrowed := true }
def LibraryRepsUptoSaid : Prop := libraryRepsUptoRow.holds Tryz.pinned (OpenSpec.upto libraryRepsSpec)

/-- 'taborlaw15.LibraryReads', WHERE WHAT IT READS IS OF BULK AT MOST 1048576: true; the input reads as it did. -/
def libraryReadsUptoRow : OpenClaim := { program := "ytfagldjhibdfhaagreatdoor", sum := "a7ad8aed31fa5f51c3908fcbeba50e553cd850205d5e474f50ce7f0b218219d1", func := "tabor/taborlaw15.LibraryReads", spec := "libraryReads", inPlace := ["internal/abi.NoEscape", "internal/bytealg.MakeNoZero", "internal/bytealg.IndexByteString", "internal/bytealg.IndexString"], unfollowed := true, recurses := true, named := ["internal/strconv.uint64pow10", "math/bits.deBruijn32tab", "math/bits.deBruijn64tab", "strconv.ErrSyntax", "strconv.ErrRange", "internal/bytealg.MaxLen"], apart := false, laid := [("math/bits.deBruijn32tab", laid_math_bits_deBruijn32tab), ("math/bits.deBruijn64tab", laid_math_bits_deBruijn64tab), ("internal/strconv.uint64pow10", laid_internal_strconv_uint64pow10), ("strconv.ErrRange", laid_strconv_ErrRange), ("strconv.ErrSyntax", laid_strconv_ErrSyntax)], narrowed := true }
def LibraryReadsUptoSaid : Prop := libraryReadsUptoRow.holds Tryz.pinned (OpenSpec.upto libraryReadsSpec)

/-- 'taborlaw15.LibraryFinds', WHERE WHAT IT READS IS OF BULK AT MOST 1048576: true; the input reads as it did. -/
def libraryFindsUptoRow : OpenClaim := { program := "ytfagldjhibdfhaagreatdoor", sum := "a7ad8aed31fa5f51c3908fcbeba50e553cd850205d5e474f50ce7f0b218219d1", func := "tabor/taborlaw15.LibraryFinds", spec := "libraryFinds", inPlace := ["internal/abi.NoEscape", "internal/bytealg.MakeNoZero", "internal/bytealg.IndexByteString", "internal/bytealg.IndexString"], unfollowed := true, recurses := true, named := ["internal/strconv.uint64pow10", "math/bits.deBruijn32tab", "math/bits.deBruijn64tab", "strconv.ErrSyntax", "strconv.ErrRange", "internal/bytealg.MaxLen"], apart := false, laid := [("math/bits.deBruijn32tab", laid_math_bits_deBruijn32tab), ("math/bits.deBruijn64tab", laid_math_bits_deBruijn64tab), ("internal/strconv.uint64pow10", laid_internal_strconv_uint64pow10), ("strconv.ErrRange", laid_strconv_ErrRange), ("strconv.ErrSyntax", laid_strconv_ErrSyntax)], narrowed := true }
def LibraryFindsUptoSaid : Prop := libraryFindsUptoRow.holds Tryz.pinned (OpenSpec.upto libraryFindsSpec)

/-- 'taborlaw15.LibraryTables', WHERE WHAT IT READS IS OF BULK AT MOST 1048576: true; the input reads as it did. -/
def libraryTablesUptoRow : OpenClaim := { program := "ytfagldjhibdfhaagreatdoor", sum := "a7ad8aed31fa5f51c3908fcbeba50e553cd850205d5e474f50ce7f0b218219d1", func := "tabor/taborlaw15.LibraryTables", spec := "libraryTables", inPlace := ["internal/abi.NoEscape", "internal/bytealg.MakeNoZero", "internal/bytealg.IndexByteString", "internal/bytealg.IndexString"], unfollowed := true, recurses := true, named := ["internal/strconv.uint64pow10", "math/bits.deBruijn32tab", "math/bits.deBruijn64tab", "strconv.ErrSyntax", "strconv.ErrRange", "internal/bytealg.MaxLen"], apart := false, laid := [("math/bits.deBruijn32tab", laid_math_bits_deBruijn32tab), ("math/bits.deBruijn64tab", laid_math_bits_deBruijn64tab), ("internal/strconv.uint64pow10", laid_internal_strconv_uint64pow10), ("strconv.ErrRange", laid_strconv_ErrRange), ("strconv.ErrSyntax", laid_strconv_ErrSyntax)], narrowed := true }
def LibraryTablesUptoSaid : Prop := libraryTablesUptoRow.holds Tryz.pinned (OpenSpec.upto libraryTablesSpec)

/-- 'taborlaw15.LibraryCalls', WHERE WHAT IT READS IS OF BULK AT MOST 1048576: true; the input reads as it did. -/
def libraryCallsUptoRow : OpenClaim := { program := "ytfagldjhibdfhaagreatdoor", sum := "a7ad8aed31fa5f51c3908fcbeba50e553cd850205d5e474f50ce7f0b218219d1", func := "tabor/taborlaw15.LibraryCalls", spec := "libraryCalls", inPlace := ["internal/abi.NoEscape", "internal/bytealg.MakeNoZero", "internal/bytealg.IndexByteString", "internal/bytealg.IndexString"], unfollowed := true, recurses := true, named := ["internal/strconv.uint64pow10", "math/bits.deBruijn32tab", "math/bits.deBruijn64tab", "strconv.ErrSyntax", "strconv.ErrRange", "internal/bytealg.MaxLen"], apart := false, laid := [("math/bits.deBruijn32tab", laid_math_bits_deBruijn32tab), ("math/bits.deBruijn64tab", laid_math_bits_deBruijn64tab), ("internal/strconv.uint64pow10", laid_internal_strconv_uint64pow10), ("strconv.ErrRange", laid_strconv_ErrRange), ("strconv.ErrSyntax", laid_strconv_ErrSyntax)], narrowed := true }
def LibraryCallsUptoSaid : Prop := libraryCallsUptoRow.holds Tryz.pinned (OpenSpec.upto libraryCallsSpec)

end Rows
end Go.Proofs.YtfagldjhibdfhaaGreatDoor
