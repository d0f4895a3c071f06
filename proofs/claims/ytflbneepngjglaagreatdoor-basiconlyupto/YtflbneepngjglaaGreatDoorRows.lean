/-
  NARROWER THAN 'FOR EVERY INPUT', by the rows' own cells (each row's printed sentence says how): TypesForms: loops, laid · TypesPlain: loops, laid · TypesKeeps: loops, laid · BasicEncodes: loops, laid · BasicOnly: loops, laid · BasicBack: loops, laid · BasicElements: laid · BasicLoose: loops, laid.
  DERIVED. THE GIVEN ROWS OF THIS SEAT. 8 by the template 'for every input the law returns true; each argument reads behind the call as it read before'; 0 by the template 'total and deterministic' (their statements: YtflbneepngjglaaGreatDoorTotals.lean).
  GIVEN WITH THE SEED: the statements are not yours to turn. If you find one false, say at which input.
  Laid BY PROGRAM, IN A SANDBOX (cutbox-rows.mjs): the forced cells as the released guide's own fill.sh prints them over the translation 1765d07cbf5fcd43… (all of the seat's roots in one cut). By AI agents, Wed Nov 11 2026. No macro, syntax, notation, axiom, sorry.
-/
import Derived.Test.YtflbneepngjglaaGreatDoorChecked
import GoSem.PinnedTables
import GoSem.Claim
import GoSem.ClaimJoined
import GoSem.ClaimMapViews
import Derived.JoinedTies
import Derived.KernelRfl
namespace Go.Proofs.YtflbneepngjglaaGreatDoor
/- THE CELL 'sum', in the pinned program and in every row, IS THE sha256 OF THE DUMP (.gsa) THAT YtflbneepngjglaaGreatDoorProg.lean LOADS. Nothing in Lean hashes anything: it is a label: what it is worth is what the hold of that sum in a sandbox is worth. -/
noncomputable def Tryz.pinned : Pinned := { name := "ytflbneepngjglaagreatdoor", sum := "1765d07cbf5fcd43b7fe735a2024bc5a4a0415c7fb4b45eb1adf3f3a29bc65d5", checked := Tryz.checked }
namespace Rows
def none {H : Type} : Left H := { results := [], args := [] }

/- WHAT THE LISTED PACKAGE-LEVEL VARIABLES READ AS WHEN THE CALL BEGINS. Each datum BY PROGRAM (the guide's laid-datum.mjs) off the statement by which the dump's own 'gosem.cut.vars' lays the variable. In a bare row this is a premise. The card (YtflbneepngjglaaGreatDoorCards.lean) ties it to the program's text. -/
def laid_unicode_utf8_acceptRanges {H : Type} : DataW H := .agg [.agg [.lit (.int .u8 128), .lit (.int .u8 191)], .agg [.lit (.int .u8 160), .lit (.int .u8 191)], .agg [.lit (.int .u8 128), .lit (.int .u8 159)], .agg [.lit (.int .u8 144), .lit (.int .u8 191)], .agg [.lit (.int .u8 128), .lit (.int .u8 143)], .agg [.lit (.int .u8 0), .lit (.int .u8 0)], .agg [.lit (.int .u8 0), .lit (.int .u8 0)], .agg [.lit (.int .u8 0), .lit (.int .u8 0)], .agg [.lit (.int .u8 0), .lit (.int .u8 0)], .agg [.lit (.int .u8 0), .lit (.int .u8 0)], .agg [.lit (.int .u8 0), .lit (.int .u8 0)], .agg [.lit (.int .u8 0), .lit (.int .u8 0)], .agg [.lit (.int .u8 0), .lit (.int .u8 0)], .agg [.lit (.int .u8 0), .lit (.int .u8 0)], .agg [.lit (.int .u8 0), .lit (.int .u8 0)], .agg [.lit (.int .u8 0), .lit (.int .u8 0)]]
/-- One of Go's own tables, pinned by name: the form's constant. -/
def laid_unicode_utf8_first : DataW Unit := Go.Pinned.utf8First
def laid_math_bits_deBruijn32tab {H : Type} : DataW H := .agg [.lit (.int .u8 0), .lit (.int .u8 1), .lit (.int .u8 28), .lit (.int .u8 2), .lit (.int .u8 29), .lit (.int .u8 14), .lit (.int .u8 24), .lit (.int .u8 3), .lit (.int .u8 30), .lit (.int .u8 22), .lit (.int .u8 20), .lit (.int .u8 15), .lit (.int .u8 25), .lit (.int .u8 17), .lit (.int .u8 4), .lit (.int .u8 8), .lit (.int .u8 31), .lit (.int .u8 27), .lit (.int .u8 13), .lit (.int .u8 23), .lit (.int .u8 21), .lit (.int .u8 19), .lit (.int .u8 16), .lit (.int .u8 7), .lit (.int .u8 26), .lit (.int .u8 12), .lit (.int .u8 18), .lit (.int .u8 6), .lit (.int .u8 11), .lit (.int .u8 5), .lit (.int .u8 10), .lit (.int .u8 9)]
def laid_math_bits_deBruijn64tab {H : Type} : DataW H := .agg [.lit (.int .u8 0), .lit (.int .u8 1), .lit (.int .u8 56), .lit (.int .u8 2), .lit (.int .u8 57), .lit (.int .u8 49), .lit (.int .u8 28), .lit (.int .u8 3), .lit (.int .u8 61), .lit (.int .u8 58), .lit (.int .u8 42), .lit (.int .u8 50), .lit (.int .u8 38), .lit (.int .u8 29), .lit (.int .u8 17), .lit (.int .u8 4), .lit (.int .u8 62), .lit (.int .u8 47), .lit (.int .u8 59), .lit (.int .u8 36), .lit (.int .u8 45), .lit (.int .u8 43), .lit (.int .u8 51), .lit (.int .u8 22), .lit (.int .u8 53), .lit (.int .u8 39), .lit (.int .u8 33), .lit (.int .u8 30), .lit (.int .u8 24), .lit (.int .u8 18), .lit (.int .u8 12), .lit (.int .u8 5), .lit (.int .u8 63), .lit (.int .u8 55), .lit (.int .u8 48), .lit (.int .u8 27), .lit (.int .u8 60), .lit (.int .u8 41), .lit (.int .u8 37), .lit (.int .u8 16), .lit (.int .u8 46), .lit (.int .u8 35), .lit (.int .u8 44), .lit (.int .u8 21), .lit (.int .u8 52), .lit (.int .u8 32), .lit (.int .u8 23), .lit (.int .u8 11), .lit (.int .u8 54), .lit (.int .u8 26), .lit (.int .u8 40), .lit (.int .u8 15), .lit (.int .u8 34), .lit (.int .u8 20), .lit (.int .u8 31), .lit (.int .u8 10), .lit (.int .u8 25), .lit (.int .u8 14), .lit (.int .u8 19), .lit (.int .u8 9), .lit (.int .u8 13), .lit (.int .u8 8), .lit (.int .u8 7), .lit (.int .u8 6)]
def laid_internal_strconv_uint64pow10 {H : Type} : DataW H := .agg [.lit (.int .u64 1), .lit (.int .u64 10), .lit (.int .u64 100), .lit (.int .u64 1000), .lit (.int .u64 10000), .lit (.int .u64 100000), .lit (.int .u64 1000000), .lit (.int .u64 10000000), .lit (.int .u64 100000000), .lit (.int .u64 1000000000), .lit (.int .u64 10000000000), .lit (.int .u64 100000000000), .lit (.int .u64 1000000000000), .lit (.int .u64 10000000000000), .lit (.int .u64 100000000000000), .lit (.int .u64 1000000000000000), .lit (.int .u64 10000000000000000), .lit (.int .u64 100000000000000000), .lit (.int .u64 1000000000000000000), .lit (.int .u64 10000000000000000000)]

/-- 'heptadlaw02.TypesForms': WHATEVER THE INPUT: true; the input reads as it did. -/
def typesFormsSpec : ChangeSpec := { name := "typesForms", fn := fun _ => fun
  | [d1, d2, d3] => { results := [.lit (.bool true)], args := [d1, d2, d3] }
  | _ => none }
def typesFormsRow : OpenClaim := { program := "ytflbneepngjglaagreatdoor", sum := "1765d07cbf5fcd43b7fe735a2024bc5a4a0415c7fb4b45eb1adf3f3a29bc65d5", func := "heptad/heptadlaw02.TypesForms", spec := "typesForms", inPlace := ["internal/bytealg.IndexByteString", "internal/bytealg.IndexString"], unfollowed := true, recurses := true, named := ["internal/bytealg.MaxLen", "unicode/utf8.first", "unicode/utf8.acceptRanges"], loops := true, apart := false, laid := [("unicode/utf8.acceptRanges", laid_unicode_utf8_acceptRanges), ("unicode/utf8.first", laid_unicode_utf8_first)] }
def TypesFormsSaid : Prop := typesFormsRow.holds Tryz.pinned (OpenSpec.ofChange typesFormsSpec)

/-- ITS FALSE NEIGHBOUR: 'it returns false'. Refute it at one input. -/
def typesFormsWrong : ChangeSpec := { name := "typesForms", fn := fun _ => fun
  | [d1, d2, d3] => { results := [.lit (.bool false)], args := [d1, d2, d3] }
  | _ => none }
def TypesFormsWrongFalsely : Prop := typesFormsRow.holds Tryz.pinned (OpenSpec.ofChange typesFormsWrong)

/-- 'heptadlaw02.TypesPlain': WHATEVER THE INPUT: true; the input reads as it did. -/
def typesPlainSpec : ChangeSpec := { name := "typesPlain", fn := fun _ => fun
  | [d1, d2, d3] => { results := [.lit (.bool true)], args := [d1, d2, d3] }
  | _ => none }
def typesPlainRow : OpenClaim := { program := "ytflbneepngjglaagreatdoor", sum := "1765d07cbf5fcd43b7fe735a2024bc5a4a0415c7fb4b45eb1adf3f3a29bc65d5", func := "heptad/heptadlaw02.TypesPlain", spec := "typesPlain", inPlace := ["internal/bytealg.IndexByteString", "internal/bytealg.IndexString"], unfollowed := true, recurses := true, named := ["internal/bytealg.MaxLen", "unicode/utf8.first", "unicode/utf8.acceptRanges"], loops := true, apart := false, laid := [("unicode/utf8.acceptRanges", laid_unicode_utf8_acceptRanges), ("unicode/utf8.first", laid_unicode_utf8_first)] }
def TypesPlainSaid : Prop := typesPlainRow.holds Tryz.pinned (OpenSpec.ofChange typesPlainSpec)

/-- ITS FALSE NEIGHBOUR: 'it returns false'. Refute it at one input. -/
def typesPlainWrong : ChangeSpec := { name := "typesPlain", fn := fun _ => fun
  | [d1, d2, d3] => { results := [.lit (.bool false)], args := [d1, d2, d3] }
  | _ => none }
def TypesPlainWrongFalsely : Prop := typesPlainRow.holds Tryz.pinned (OpenSpec.ofChange typesPlainWrong)

/-- 'heptadlaw02.TypesKeeps': WHATEVER THE INPUT: true; the input reads as it did. -/
def typesKeepsSpec : ChangeSpec := { name := "typesKeeps", fn := fun _ => fun
  | [d1, d2, d3] => { results := [.lit (.bool true)], args := [d1, d2, d3] }
  | _ => none }
def typesKeepsRow : OpenClaim := { program := "ytflbneepngjglaagreatdoor", sum := "1765d07cbf5fcd43b7fe735a2024bc5a4a0415c7fb4b45eb1adf3f3a29bc65d5", func := "heptad/heptadlaw02.TypesKeeps", spec := "typesKeeps", inPlace := ["internal/bytealg.IndexByteString", "internal/bytealg.IndexString"], unfollowed := true, recurses := true, named := ["internal/bytealg.MaxLen", "unicode/utf8.first", "unicode/utf8.acceptRanges"], loops := true, apart := false, laid := [("unicode/utf8.acceptRanges", laid_unicode_utf8_acceptRanges), ("unicode/utf8.first", laid_unicode_utf8_first)] }
def TypesKeepsSaid : Prop := typesKeepsRow.holds Tryz.pinned (OpenSpec.ofChange typesKeepsSpec)

/-- ITS FALSE NEIGHBOUR: 'it returns false'. Refute it at one input. -/
def typesKeepsWrong : ChangeSpec := { name := "typesKeeps", fn := fun _ => fun
  | [d1, d2, d3] => { results := [.lit (.bool false)], args := [d1, d2, d3] }
  | _ => none }
def TypesKeepsWrongFalsely : Prop := typesKeepsRow.holds Tryz.pinned (OpenSpec.ofChange typesKeepsWrong)

/-- 'heptadlaw05.BasicEncodes': WHATEVER THE INPUT: true; the input reads as it did. -/
def basicEncodesSpec : ChangeSpec := { name := "basicEncodes", fn := fun _ => fun
  | [d1, d2, d3] => { results := [.lit (.bool true)], args := [d1, d2, d3] }
  | _ => none }
def basicEncodesRow : OpenClaim := { program := "ytflbneepngjglaagreatdoor", sum := "1765d07cbf5fcd43b7fe735a2024bc5a4a0415c7fb4b45eb1adf3f3a29bc65d5", func := "heptad/heptadlaw05.BasicEncodes", spec := "basicEncodes", inPlace := ["internal/bytealg.IndexByteString", "internal/bytealg.IndexString", "internal/abi.NoEscape"], unfollowed := true, recurses := true, named := ["internal/bytealg.MaxLen", "unicode/utf8.first", "unicode/utf8.acceptRanges"], loops := true, apart := false, laid := [("unicode/utf8.acceptRanges", laid_unicode_utf8_acceptRanges), ("unicode/utf8.first", laid_unicode_utf8_first)] }
def BasicEncodesSaid : Prop := basicEncodesRow.holds Tryz.pinned (OpenSpec.ofChange basicEncodesSpec)

/-- ITS FALSE NEIGHBOUR: 'it returns false'. Refute it at one input. -/
def basicEncodesWrong : ChangeSpec := { name := "basicEncodes", fn := fun _ => fun
  | [d1, d2, d3] => { results := [.lit (.bool false)], args := [d1, d2, d3] }
  | _ => none }
def BasicEncodesWrongFalsely : Prop := basicEncodesRow.holds Tryz.pinned (OpenSpec.ofChange basicEncodesWrong)

/-- 'heptadlaw05.BasicOnly': WHATEVER THE INPUT: true; the input reads as it did. -/
def basicOnlySpec : ChangeSpec := { name := "basicOnly", fn := fun _ => fun
  | [d] => { results := [.lit (.bool true)], args := [d] }
  | _ => none }
def basicOnlyRow : OpenClaim := { program := "ytflbneepngjglaagreatdoor", sum := "1765d07cbf5fcd43b7fe735a2024bc5a4a0415c7fb4b45eb1adf3f3a29bc65d5", func := "heptad/heptadlaw05.BasicOnly", spec := "basicOnly", inPlace := ["internal/bytealg.IndexByteString", "internal/bytealg.IndexString", "internal/abi.NoEscape"], unfollowed := true, recurses := true, named := ["internal/bytealg.MaxLen", "unicode/utf8.first", "unicode/utf8.acceptRanges"], loops := true, apart := false, laid := [("unicode/utf8.acceptRanges", laid_unicode_utf8_acceptRanges), ("unicode/utf8.first", laid_unicode_utf8_first)] }
def BasicOnlySaid : Prop := basicOnlyRow.holds Tryz.pinned (OpenSpec.ofChange basicOnlySpec)

/-- ITS FALSE NEIGHBOUR: 'it returns false'. Refute it at one input. -/
def basicOnlyWrong : ChangeSpec := { name := "basicOnly", fn := fun _ => fun
  | [d] => { results := [.lit (.bool false)], args := [d] }
  | _ => none }
def BasicOnlyWrongFalsely : Prop := basicOnlyRow.holds Tryz.pinned (OpenSpec.ofChange basicOnlyWrong)

/-- 'heptadlaw05.BasicBack': WHATEVER THE INPUT: true; the input reads as it did. -/
def basicBackSpec : ChangeSpec := { name := "basicBack", fn := fun _ => fun
  | [d1, d2, d3] => { results := [.lit (.bool true)], args := [d1, d2, d3] }
  | _ => none }
def basicBackRow : OpenClaim := { program := "ytflbneepngjglaagreatdoor", sum := "1765d07cbf5fcd43b7fe735a2024bc5a4a0415c7fb4b45eb1adf3f3a29bc65d5", func := "heptad/heptadlaw05.BasicBack", spec := "basicBack", inPlace := ["internal/bytealg.IndexByteString", "internal/bytealg.IndexString", "internal/abi.NoEscape"], unfollowed := true, recurses := true, named := ["internal/bytealg.MaxLen", "unicode/utf8.first", "unicode/utf8.acceptRanges"], loops := true, apart := false, laid := [("unicode/utf8.acceptRanges", laid_unicode_utf8_acceptRanges), ("unicode/utf8.first", laid_unicode_utf8_first)] }
def BasicBackSaid : Prop := basicBackRow.holds Tryz.pinned (OpenSpec.ofChange basicBackSpec)

/-- ITS FALSE NEIGHBOUR: 'it returns false'. Refute it at one input. -/
def basicBackWrong : ChangeSpec := { name := "basicBack", fn := fun _ => fun
  | [d1, d2, d3] => { results := [.lit (.bool false)], args := [d1, d2, d3] }
  | _ => none }
def BasicBackWrongFalsely : Prop := basicBackRow.holds Tryz.pinned (OpenSpec.ofChange basicBackWrong)

/-- 'heptadlaw05.BasicElements': WHATEVER THE INPUT: true; the input reads as it did. -/
def basicElementsSpec : ChangeSpec := { name := "basicElements", fn := fun _ => fun
  | [d1, d2] => { results := [.lit (.bool true)], args := [d1, d2] }
  | _ => none }
def basicElementsRow : OpenClaim := { program := "ytflbneepngjglaagreatdoor", sum := "1765d07cbf5fcd43b7fe735a2024bc5a4a0415c7fb4b45eb1adf3f3a29bc65d5", func := "heptad/heptadlaw05.BasicElements", spec := "basicElements", inPlace := ["internal/abi.NoEscape", "internal/bytealg.MakeNoZero", "internal/bytealg.IndexByteString", "internal/bytealg.IndexString"], unfollowed := true, recurses := true, named := ["internal/strconv.uint64pow10", "math/bits.deBruijn32tab", "math/bits.deBruijn64tab", "internal/bytealg.MaxLen", "unicode/utf8.first", "unicode/utf8.acceptRanges"], apart := false, laid := [("math/bits.deBruijn32tab", laid_math_bits_deBruijn32tab), ("math/bits.deBruijn64tab", laid_math_bits_deBruijn64tab), ("internal/strconv.uint64pow10", laid_internal_strconv_uint64pow10), ("unicode/utf8.acceptRanges", laid_unicode_utf8_acceptRanges), ("unicode/utf8.first", laid_unicode_utf8_first)] }
def BasicElementsSaid : Prop := basicElementsRow.holds Tryz.pinned (OpenSpec.ofChange basicElementsSpec)

/-- ITS FALSE NEIGHBOUR: 'it returns false'. Refute it at one input. -/
def basicElementsWrong : ChangeSpec := { name := "basicElements", fn := fun _ => fun
  | [d1, d2] => { results := [.lit (.bool false)], args := [d1, d2] }
  | _ => none }
def BasicElementsWrongFalsely : Prop := basicElementsRow.holds Tryz.pinned (OpenSpec.ofChange basicElementsWrong)

/-- 'heptadlaw05.BasicLoose': WHATEVER THE INPUT: true; the input reads as it did. -/
def basicLooseSpec : ChangeSpec := { name := "basicLoose", fn := fun _ => fun
  | [d] => { results := [.lit (.bool true)], args := [d] }
  | _ => none }
def basicLooseRow : OpenClaim := { program := "ytflbneepngjglaagreatdoor", sum := "1765d07cbf5fcd43b7fe735a2024bc5a4a0415c7fb4b45eb1adf3f3a29bc65d5", func := "heptad/heptadlaw05.BasicLoose", spec := "basicLoose", inPlace := ["internal/bytealg.IndexByteString", "internal/bytealg.IndexString", "internal/abi.NoEscape"], unfollowed := true, recurses := true, named := ["internal/bytealg.MaxLen", "unicode/utf8.first", "unicode/utf8.acceptRanges"], loops := true, apart := false, laid := [("unicode/utf8.acceptRanges", laid_unicode_utf8_acceptRanges), ("unicode/utf8.first", laid_unicode_utf8_first)] }
def BasicLooseSaid : Prop := basicLooseRow.holds Tryz.pinned (OpenSpec.ofChange basicLooseSpec)

/-- ITS FALSE NEIGHBOUR: 'it returns false'. Refute it at one input. -/
def basicLooseWrong : ChangeSpec := { name := "basicLoose", fn := fun _ => fun
  | [d] => { results := [.lit (.bool false)], args := [d] }
  | _ => none }
def BasicLooseWrongFalsely : Prop := basicLooseRow.holds Tryz.pinned (OpenSpec.ofChange basicLooseWrong)

/- THE SECOND FORM. 'bulk': how many values and letters a reading holds, each counted each time it is reached (what is shared counts as often as it is met; a slice's spare places count too). A statement '..UptoSaid' is the law's where the arguments, and the package variables that the reading takes, are together of bulk at most 1048576: NARROWER than '..Said'. Prove '..Said' where nothing that the law and all that it calls make is longer than what came in: it says more and counts as full. Else prove '..UptoSaid'. A law counts once. -/
mutual
def uptoBulk {H : Type} : DataW H → Nat
  | .lit (.string bytes) => bytes.length + 1
  | .lit _ => 1
  | .nil => 1
  | .ptr d => uptoBulk d + 1
  | .slice elems spare => uptoBulkAll elems + uptoBulkAll spare + 1
  | .agg parts => uptoBulkAll parts + 1
  | .iface _ d => uptoBulk d + 1
  | .map entries => uptoBulkEntries entries + 1
  | .held _ => 1
def uptoBulkAll {H : Type} : List (DataW H) → Nat
  | [] => 0
  | d :: r => uptoBulk d + uptoBulkAll r
def uptoBulkEntries {H : Type} : List (Lit × DataW H) → Nat
  | [] => 0
  | x :: r => uptoBulkEntry x + uptoBulkEntries r
def uptoBulkEntry {H : Type} : Lit × DataW H → Nat
  | (.string bytes, d) => bytes.length + uptoBulk d + 1
  | (_, d) => uptoBulk d + 1
 end
def uptoSmall : (H : Type) → List (DataW H) → Bool := fun _ ds => decide (uptoBulkAll ds ≤ 1048576)
def OpenSpec.upto (s : _root_.Go.ChangeSpec) : _root_.Go.OpenSpec := { _root_.Go.OpenSpec.ofChange s with cond := some uptoSmall }

/-- 'heptadlaw02.TypesForms', WHERE WHAT IT READS IS OF BULK AT MOST 1048576: true; the input reads as it did. -/
def typesFormsUptoRow : OpenClaim := { program := "ytflbneepngjglaagreatdoor", sum := "1765d07cbf5fcd43b7fe735a2024bc5a4a0415c7fb4b45eb1adf3f3a29bc65d5", func := "heptad/heptadlaw02.TypesForms", spec := "typesForms", inPlace := ["internal/bytealg.IndexByteString", "internal/bytealg.IndexString"], unfollowed := true, recurses := true, named := ["internal/bytealg.MaxLen", "unicode/utf8.first", "unicode/utf8.acceptRanges"], loops := true, apart := false, laid := [("unicode/utf8.acceptRanges", laid_unicode_utf8_acceptRanges), ("unicode/utf8.first", laid_unicode_utf8_first)], narrowed := true }
def TypesFormsUptoSaid : Prop := typesFormsUptoRow.holds Tryz.pinned (OpenSpec.upto typesFormsSpec)

/-- 'heptadlaw02.TypesPlain', WHERE WHAT IT READS IS OF BULK AT MOST 1048576: true; the input reads as it did. -/
def typesPlainUptoRow : OpenClaim := { program := "ytflbneepngjglaagreatdoor", sum := "1765d07cbf5fcd43b7fe735a2024bc5a4a0415c7fb4b45eb1adf3f3a29bc65d5", func := "heptad/heptadlaw02.TypesPlain", spec := "typesPlain", inPlace := ["internal/bytealg.IndexByteString", "internal/bytealg.IndexString"], unfollowed := true, recurses := true, named := ["internal/bytealg.MaxLen", "unicode/utf8.first", "unicode/utf8.acceptRanges"], loops := true, apart := false, laid := [("unicode/utf8.acceptRanges", laid_unicode_utf8_acceptRanges), ("unicode/utf8.first", laid_unicode_utf8_first)], narrowed := true }
def TypesPlainUptoSaid : Prop := typesPlainUptoRow.holds Tryz.pinned (OpenSpec.upto typesPlainSpec)

/-- 'heptadlaw02.TypesKeeps', WHERE WHAT IT READS IS OF BULK AT MOST 1048576: true; the input reads as it did. -/
def typesKeepsUptoRow : OpenClaim := { program := "ytflbneepngjglaagreatdoor", sum := "1765d07cbf5fcd43b7fe735a2024bc5a4a0415c7fb4b45eb1adf3f3a29bc65d5", func := "heptad/heptadlaw02.TypesKeeps", spec := "typesKeeps", inPlace := ["internal/bytealg.IndexByteString", "internal/bytealg.IndexString"], unfollowed := true, recurses := true, named := ["internal/bytealg.MaxLen", "unicode/utf8.first", "unicode/utf8.acceptRanges"], loops := true, apart := false, laid := [("unicode/utf8.acceptRanges", laid_unicode_utf8_acceptRanges), ("unicode/utf8.first", laid_unicode_utf8_first)], narrowed := true }
def TypesKeepsUptoSaid : Prop := typesKeepsUptoRow.holds Tryz.pinned (OpenSpec.upto typesKeepsSpec)

/-- 'heptadlaw05.BasicEncodes', WHERE WHAT IT READS IS OF BULK AT MOST 1048576: true; the input reads as it did. -/
def basicEncodesUptoRow : OpenClaim := { program := "ytflbneepngjglaagreatdoor", sum := "1765d07cbf5fcd43b7fe735a2024bc5a4a0415c7fb4b45eb1adf3f3a29bc65d5", func := "heptad/heptadlaw05.BasicEncodes", spec := "basicEncodes", inPlace := ["internal/bytealg.IndexByteString", "internal/bytealg.IndexString", "internal/abi.NoEscape"], unfollowed := true, recurses := true, named := ["internal/bytealg.MaxLen", "unicode/utf8.first", "unicode/utf8.acceptRanges"], loops := true, apart := false, laid := [("unicode/utf8.acceptRanges", laid_unicode_utf8_acceptRanges), ("unicode/utf8.first", laid_unicode_utf8_first)], narrowed := true }
def BasicEncodesUptoSaid : Prop := basicEncodesUptoRow.holds Tryz.pinned (OpenSpec.upto basicEncodesSpec)

/-- 'heptadlaw05.BasicOnly', WHERE WHAT IT READS IS OF BULK AT MOST 1048576: true; the input reads as it did. -/
def basicOnlyUptoRow : OpenClaim := { program := "ytflbneepngjglaagreatdoor", sum := "1765d07cbf5fcd43b7fe735a2024bc5a4a0415c7fb4b45eb1adf3f3a29bc65d5", func := "heptad/heptadlaw05.BasicOnly", spec := "basicOnly", inPlace := ["internal/bytealg.IndexByteString", "internal/bytealg.IndexString", "internal/abi.NoEscape"], unfollowed := true, recurses := true, named := ["internal/bytealg.MaxLen", "unicode/utf8.first", "unicode/utf8.acceptRanges"], loops := true, apart := false, laid := [("unicode/utf8.acceptRanges", laid_unicode_utf8_acceptRanges), ("unicode/utf8.first", laid_unicode_utf8_first)], narrowed := true }
def BasicOnlyUptoSaid : Prop := basicOnlyUptoRow.holds Tryz.pinned (OpenSpec.upto basicOnlySpec)

/-- 'heptadlaw05.BasicBack', WHERE WHAT IT READS IS OF BULK AT MOST 1048576: true; the input reads as it did. -/
def basicBackUptoRow : OpenClaim := { program := "ytflbneepngjglaagreatdoor", sum := "1765d07cbf5fcd43b7fe735a2024bc5a4a0415c7fb4b45eb1adf3f3a29bc65d5", func := "heptad/heptadlaw05.BasicBack", spec := "basicBack", inPlace := ["internal/bytealg.IndexByteString", "internal/bytealg.IndexString", "internal/abi.NoEscape"], unfollowed := true, recurses := true, named := ["internal/bytealg.MaxLen", "unicode/utf8.first", "unicode/utf8.acceptRanges"], loops := true, apart := false, laid := [("unicode/utf8.acceptRanges", laid_unicode_utf8_acceptRanges), ("unicode/utf8.first", laid_unicode_utf8_first)], narrowed := true }
def BasicBackUptoSaid : Prop := basicBackUptoRow.holds Tryz.pinned (OpenSpec.upto basicBackSpec)

/-- 'heptadlaw05.BasicElements', WHERE WHAT IT READS IS OF BULK AT MOST 1048576: true; the input reads as it did. -/
def basicElementsUptoRow : OpenClaim := { program := "ytflbneepngjglaagreatdoor", sum := "1765d07cbf5fcd43b7fe735a2024bc5a4a0415c7fb4b45eb1adf3f3a29bc65d5", func := "heptad/heptadlaw05.BasicElements", spec := "basicElements", inPlace := ["internal/abi.NoEscape", "internal/bytealg.MakeNoZero", "internal/bytealg.IndexByteString", "internal/bytealg.IndexString"], unfollowed := true, recurses := true, named := ["internal/strconv.uint64pow10", "math/bits.deBruijn32tab", "math/bits.deBruijn64tab", "internal/bytealg.MaxLen", "unicode/utf8.first", "unicode/utf8.acceptRanges"], apart := false, laid := [("math/bits.deBruijn32tab", laid_math_bits_deBruijn32tab), ("math/bits.deBruijn64tab", laid_math_bits_deBruijn64tab), ("internal/strconv.uint64pow10", laid_internal_strconv_uint64pow10), ("unicode/utf8.acceptRanges", laid_unicode_utf8_acceptRanges), ("unicode/utf8.first", laid_unicode_utf8_first)], narrowed := true }
def BasicElementsUptoSaid : Prop := basicElementsUptoRow.holds Tryz.pinned (OpenSpec.upto basicElementsSpec)

/-- 'heptadlaw05.BasicLoose', WHERE WHAT IT READS IS OF BULK AT MOST 1048576: true; the input reads as it did. -/
def basicLooseUptoRow : OpenClaim := { program := "ytflbneepngjglaagreatdoor", sum := "1765d07cbf5fcd43b7fe735a2024bc5a4a0415c7fb4b45eb1adf3f3a29bc65d5", func := "heptad/heptadlaw05.BasicLoose", spec := "basicLoose", inPlace := ["internal/bytealg.IndexByteString", "internal/bytealg.IndexString", "internal/abi.NoEscape"], unfollowed := true, recurses := true, named := ["internal/bytealg.MaxLen", "unicode/utf8.first", "unicode/utf8.acceptRanges"], loops := true, apart := false, laid := [("unicode/utf8.acceptRanges", laid_unicode_utf8_acceptRanges), ("unicode/utf8.first", laid_unicode_utf8_first)], narrowed := true }
def BasicLooseUptoSaid : Prop := basicLooseUptoRow.holds Tryz.pinned (OpenSpec.upto basicLooseSpec)

end Rows
end Go.Proofs.YtflbneepngjglaaGreatDoor
