/-
  NARROWER THAN 'FOR EVERY INPUT', by the rows' own cells (each row's printed sentence says how): TypesFits: loops, laid · TypesWider: loops, laid · TypesForms: loops, laid · TypesPlain: loops, laid · TypesKeeps: loops, laid.
  DERIVED. THE GIVEN ROWS OF THIS SEAT. 5 by the template 'for every input the law returns true; each argument reads behind the call as it read before'; 0 by the template 'total and deterministic' (their statements: YtpjajogdoccdhaaGreatDoorTotals.lean).
  GIVEN WITH THE SEED: the statements are not yours to turn. If you find one false, say at which input.
  Laid BY PROGRAM, IN A SANDBOX (cutbox-rows.mjs): the forced cells as the released guide's own fill.sh prints them over the translation 53c79638d8fa0d6c… (all of the seat's roots in one cut). By AI agents, Wed Nov 11 2026. No macro, syntax, notation, axiom, sorry.
-/
import Derived.Test.YtpjajogdoccdhaaGreatDoorChecked
import GoSem.PinnedTables
import GoSem.Claim
import GoSem.ClaimJoined
import GoSem.ClaimMapViews
import Derived.JoinedTies
import Derived.KernelRfl
namespace Go.Proofs.YtpjajogdoccdhaaGreatDoor
/- THE CELL 'sum', in the pinned program and in every row, IS THE sha256 OF THE DUMP (.gsa) THAT YtpjajogdoccdhaaGreatDoorProg.lean LOADS. Nothing in Lean hashes anything: it is a label: what it is worth is what the hold of that sum in a sandbox is worth. -/
noncomputable def Tryz.pinned : Pinned := { name := "ytpjajogdoccdhaagreatdoor", sum := "53c79638d8fa0d6c886b8da56a60510b3cf495cc7880b6dfc18feb7669a2476f", checked := Tryz.checked }
namespace Rows
def none {H : Type} : Left H := { results := [], args := [] }

/- WHAT THE LISTED PACKAGE-LEVEL VARIABLES READ AS WHEN THE CALL BEGINS. Each datum BY PROGRAM (the guide's laid-datum.mjs) off the statement by which the dump's own 'gosem.cut.vars' lays the variable. In a bare row this is a premise. The card (YtpjajogdoccdhaaGreatDoorCards.lean) ties it to the program's text. -/
def laid_unicode_utf8_acceptRanges {H : Type} : DataW H := .agg [.agg [.lit (.int .u8 128), .lit (.int .u8 191)], .agg [.lit (.int .u8 160), .lit (.int .u8 191)], .agg [.lit (.int .u8 128), .lit (.int .u8 159)], .agg [.lit (.int .u8 144), .lit (.int .u8 191)], .agg [.lit (.int .u8 128), .lit (.int .u8 143)], .agg [.lit (.int .u8 0), .lit (.int .u8 0)], .agg [.lit (.int .u8 0), .lit (.int .u8 0)], .agg [.lit (.int .u8 0), .lit (.int .u8 0)], .agg [.lit (.int .u8 0), .lit (.int .u8 0)], .agg [.lit (.int .u8 0), .lit (.int .u8 0)], .agg [.lit (.int .u8 0), .lit (.int .u8 0)], .agg [.lit (.int .u8 0), .lit (.int .u8 0)], .agg [.lit (.int .u8 0), .lit (.int .u8 0)], .agg [.lit (.int .u8 0), .lit (.int .u8 0)], .agg [.lit (.int .u8 0), .lit (.int .u8 0)], .agg [.lit (.int .u8 0), .lit (.int .u8 0)]]
/-- One of Go's own tables, pinned by name: the form's constant. -/
def laid_unicode_utf8_first : DataW Unit := Go.Pinned.utf8First

/-- 'heptadlaw02.TypesFits': WHATEVER THE INPUT: true; the input reads as it did. -/
def typesFitsSpec : ChangeSpec := { name := "typesFits", fn := fun _ => fun
  | [d1, d2, d3] => { results := [.lit (.bool true)], args := [d1, d2, d3] }
  | _ => none }
def typesFitsRow : OpenClaim := { program := "ytpjajogdoccdhaagreatdoor", sum := "53c79638d8fa0d6c886b8da56a60510b3cf495cc7880b6dfc18feb7669a2476f", func := "heptad/heptadlaw02.TypesFits", spec := "typesFits", inPlace := ["internal/bytealg.IndexByteString", "internal/bytealg.IndexString"], unfollowed := true, recurses := true, named := ["internal/bytealg.MaxLen", "unicode/utf8.first", "unicode/utf8.acceptRanges"], loops := true, apart := false, laid := [("unicode/utf8.acceptRanges", laid_unicode_utf8_acceptRanges), ("unicode/utf8.first", laid_unicode_utf8_first)] }
def TypesFitsSaid : Prop := typesFitsRow.holds Tryz.pinned (OpenSpec.ofChange typesFitsSpec)

/-- ITS FALSE NEIGHBOUR: 'it returns false'. Refute it at one input. -/
def typesFitsWrong : ChangeSpec := { name := "typesFits", fn := fun _ => fun
  | [d1, d2, d3] => { results := [.lit (.bool false)], args := [d1, d2, d3] }
  | _ => none }
def TypesFitsWrongFalsely : Prop := typesFitsRow.holds Tryz.pinned (OpenSpec.ofChange typesFitsWrong)

/-- 'heptadlaw02.TypesWider': WHATEVER THE INPUT: true; the input reads as it did. -/
def typesWiderSpec : ChangeSpec := { name := "typesWider", fn := fun _ => fun
  | [d1, d2, d3] => { results := [.lit (.bool true)], args := [d1, d2, d3] }
  | _ => none }
def typesWiderRow : OpenClaim := { program := "ytpjajogdoccdhaagreatdoor", sum := "53c79638d8fa0d6c886b8da56a60510b3cf495cc7880b6dfc18feb7669a2476f", func := "heptad/heptadlaw02.TypesWider", spec := "typesWider", inPlace := ["internal/bytealg.IndexByteString", "internal/bytealg.IndexString"], unfollowed := true, recurses := true, named := ["internal/bytealg.MaxLen", "unicode/utf8.first", "unicode/utf8.acceptRanges"], loops := true, apart := false, laid := [("unicode/utf8.acceptRanges", laid_unicode_utf8_acceptRanges), ("unicode/utf8.first", laid_unicode_utf8_first)] }
def TypesWiderSaid : Prop := typesWiderRow.holds Tryz.pinned (OpenSpec.ofChange typesWiderSpec)

/-- ITS FALSE NEIGHBOUR: 'it returns false'. Refute it at one input. -/
def typesWiderWrong : ChangeSpec := { name := "typesWider", fn := fun _ => fun
  | [d1, d2, d3] => { results := [.lit (.bool false)], args := [d1, d2, d3] }
  | _ => none }
def TypesWiderWrongFalsely : Prop := typesWiderRow.holds Tryz.pinned (OpenSpec.ofChange typesWiderWrong)

/-- 'heptadlaw02.TypesForms': WHATEVER THE INPUT: true; the input reads as it did. -/
def typesFormsSpec : ChangeSpec := { name := "typesForms", fn := fun _ => fun
  | [d1, d2, d3] => { results := [.lit (.bool true)], args := [d1, d2, d3] }
  | _ => none }
def typesFormsRow : OpenClaim := { program := "ytpjajogdoccdhaagreatdoor", sum := "53c79638d8fa0d6c886b8da56a60510b3cf495cc7880b6dfc18feb7669a2476f", func := "heptad/heptadlaw02.TypesForms", spec := "typesForms", inPlace := ["internal/bytealg.IndexByteString", "internal/bytealg.IndexString"], unfollowed := true, recurses := true, named := ["internal/bytealg.MaxLen", "unicode/utf8.first", "unicode/utf8.acceptRanges"], loops := true, apart := false, laid := [("unicode/utf8.acceptRanges", laid_unicode_utf8_acceptRanges), ("unicode/utf8.first", laid_unicode_utf8_first)] }
def TypesFormsSaid : Prop := typesFormsRow.holds Tryz.pinned (OpenSpec.ofChange typesFormsSpec)

/-- ITS FALSE NEIGHBOUR: 'it returns false'. Refute it at one input. -/
def typesFormsWrong : ChangeSpec := { name := "typesForms", fn := fun _ => fun
  | [d1, d2, d3] => { results := [.lit (.bool false)], args := [d1, d2, d3] }
  | _ => none }
def TypesFormsWrongFalsely : Prop := typesFormsRow.holds Tryz.pinned (OpenSpec.ofChange typesFormsWrong)

/-- 'heptadlaw02.TypesPlain': WHATEVER THE INPUT: true; the input reads as it did. -/
def typesPlainSpec : ChangeSpec := { name := "typesPlain", fn := fun _ => fun
  | [d1, d2, d3] => { results := [.lit (.bool true)], args := [d1, d2, d3] }
  | _ => none }
def typesPlainRow : OpenClaim := { program := "ytpjajogdoccdhaagreatdoor", sum := "53c79638d8fa0d6c886b8da56a60510b3cf495cc7880b6dfc18feb7669a2476f", func := "heptad/heptadlaw02.TypesPlain", spec := "typesPlain", inPlace := ["internal/bytealg.IndexByteString", "internal/bytealg.IndexString"], unfollowed := true, recurses := true, named := ["internal/bytealg.MaxLen", "unicode/utf8.first", "unicode/utf8.acceptRanges"], loops := true, apart := false, laid := [("unicode/utf8.acceptRanges", laid_unicode_utf8_acceptRanges), ("unicode/utf8.first", laid_unicode_utf8_first)] }
def TypesPlainSaid : Prop := typesPlainRow.holds Tryz.pinned (OpenSpec.ofChange typesPlainSpec)

/-- ITS FALSE NEIGHBOUR: 'it returns false'. Refute it at one input. -/
def typesPlainWrong : ChangeSpec := { name := "typesPlain", fn := fun _ => fun
  | [d1, d2, d3] => { results := [.lit (.bool false)], args := [d1, d2, d3] }
  | _ => none }
def TypesPlainWrongFalsely : Prop := typesPlainRow.holds Tryz.pinned (OpenSpec.ofChange typesPlainWrong)

/-- 'heptadlaw02.TypesKeeps': WHATEVER THE INPUT: true; the input reads as it did. -/
def typesKeepsSpec : ChangeSpec := { name := "typesKeeps", fn := fun _ => fun
  | [d1, d2, d3] => { results := [.lit (.bool true)], args := [d1, d2, d3] }
  | _ => none }
def typesKeepsRow : OpenClaim := { program := "ytpjajogdoccdhaagreatdoor", sum := "53c79638d8fa0d6c886b8da56a60510b3cf495cc7880b6dfc18feb7669a2476f", func := "heptad/heptadlaw02.TypesKeeps", spec := "typesKeeps", inPlace := ["internal/bytealg.IndexByteString", "internal/bytealg.IndexString"], unfollowed := true, recurses := true, named := ["internal/bytealg.MaxLen", "unicode/utf8.first", "unicode/utf8.acceptRanges"], loops := true, apart := false, laid := [("unicode/utf8.acceptRanges", laid_unicode_utf8_acceptRanges), ("unicode/utf8.first", laid_unicode_utf8_first)] }
def TypesKeepsSaid : Prop := typesKeepsRow.holds Tryz.pinned (OpenSpec.ofChange typesKeepsSpec)

/-- ITS FALSE NEIGHBOUR: 'it returns false'. Refute it at one input. -/
def typesKeepsWrong : ChangeSpec := { name := "typesKeeps", fn := fun _ => fun
  | [d1, d2, d3] => { results := [.lit (.bool false)], args := [d1, d2, d3] }
  | _ => none }
def TypesKeepsWrongFalsely : Prop := typesKeepsRow.holds Tryz.pinned (OpenSpec.ofChange typesKeepsWrong)

/- THE SECOND FORM. 'bulk': how many values and letters a reading holds, each counted each time it is reached (what is shared counts as often as it is met; a slice's spare places count too). A statement '..UptoSaid' is the law's where the arguments, and the package variables that the reading takes, are together of bulk at most 1048576: NARROWER than '..Said'. Prove '..Said' where nothing that the law and all that it calls make is longer than what came in: it says more and counts as full. Else prove '..UptoSaid'. A law counts once. -/
mutual
def uptoBulk {H : Type} : DataW H → Nat
  | .lit (.string bytes) => bytes.length + 1
  | .lit _ => 1
  | .nil => 1
  | .ptr d => uptoBulk d + 1
  | .slice elems spare => uptoBulkAll elems + uptoBulkAll spare + 1
  | .agg parts => uptoBulkAll parts + 1
  | .iface _ d => uptoBulk d + 1
  | .map entries => uptoBulkEntries entries + 1
  | .held _ => 1
def uptoBulkAll {H : Type} : List (DataW H) → Nat
  | [] => 0
  | d :: r => uptoBulk d + uptoBulkAll r
def uptoBulkEntries {H : Type} : List (Lit × DataW H) → Nat
  | [] => 0
  | x :: r => uptoBulkEntry x + uptoBulkEntries r
def uptoBulkEntry {H : Type} : Lit × DataW H → Nat
  | (.string bytes, d) => bytes.length + uptoBulk d + 1
  | (_, d) => uptoBulk d + 1
 end
def uptoSmall : (H : Type) → List (DataW H) → Bool := fun _ ds => decide (uptoBulkAll ds ≤ 1048576)
def OpenSpec.upto (s : _root_.Go.ChangeSpec) : _root_.Go.OpenSpec := { _root_.Go.OpenSpec.ofChange s with cond := some uptoSmall }

/-- 'heptadlaw02.TypesFits', WHERE WHAT IT READS IS OF BULK AT MOST 1048576: true; the input reads as it did. -/
def typesFitsUptoRow : OpenClaim := { program := "ytpjajogdoccdhaagreatdoor", sum := "53c79638d8fa0d6c886b8da56a60510b3cf495cc7880b6dfc18feb7669a2476f", func := "heptad/heptadlaw02.TypesFits", spec := "typesFits", inPlace := ["internal/bytealg.IndexByteString", "internal/bytealg.IndexString"], unfollowed := true, recurses := true, named := ["internal/bytealg.MaxLen", "unicode/utf8.first", "unicode/utf8.acceptRanges"], loops := true, apart := false, laid := [("unicode/utf8.acceptRanges", laid_unicode_utf8_acceptRanges), ("unicode/utf8.first", laid_unicode_utf8_first)], narrowed := true }
def TypesFitsUptoSaid : Prop := typesFitsUptoRow.holds Tryz.pinned (OpenSpec.upto typesFitsSpec)

/-- 'heptadlaw02.TypesWider', WHERE WHAT IT READS IS OF BULK AT MOST 1048576: true; the input reads as it did. -/
def typesWiderUptoRow : OpenClaim := { program := "ytpjajogdoccdhaagreatdoor", sum := "53c79638d8fa0d6c886b8da56a60510b3cf495cc7880b6dfc18feb7669a2476f", func := "heptad/heptadlaw02.TypesWider", spec := "typesWider", inPlace := ["internal/bytealg.IndexByteString", "internal/bytealg.IndexString"], unfollowed := true, recurses := true, named := ["internal/bytealg.MaxLen", "unicode/utf8.first", "unicode/utf8.acceptRanges"], loops := true, apart := false, laid := [("unicode/utf8.acceptRanges", laid_unicode_utf8_acceptRanges), ("unicode/utf8.first", laid_unicode_utf8_first)], narrowed := true }
def TypesWiderUptoSaid : Prop := typesWiderUptoRow.holds Tryz.pinned (OpenSpec.upto typesWiderSpec)

/-- 'heptadlaw02.TypesForms', WHERE WHAT IT READS IS OF BULK AT MOST 1048576: true; the input reads as it did. -/
def typesFormsUptoRow : OpenClaim := { program := "ytpjajogdoccdhaagreatdoor", sum := "53c79638d8fa0d6c886b8da56a60510b3cf495cc7880b6dfc18feb7669a2476f", func := "heptad/heptadlaw02.TypesForms", spec := "typesForms", inPlace := ["internal/bytealg.IndexByteString", "internal/bytealg.IndexString"], unfollowed := true, recurses := true, named := ["internal/bytealg.MaxLen", "unicode/utf8.first", "unicode/utf8.acceptRanges"], loops := true, apart := false, laid := [("unicode/utf8.acceptRanges", laid_unicode_utf8_acceptRanges), ("unicode/utf8.first", laid_unicode_utf8_first)], narrowed := true }
def TypesFormsUptoSaid : Prop := typesFormsUptoRow.holds Tryz.pinned (OpenSpec.upto typesFormsSpec)

/-- 'heptadlaw02.TypesPlain', WHERE WHAT IT READS IS OF BULK AT MOST 1048576: true; the input reads as it did. -/
def typesPlainUptoRow : OpenClaim := { program := "ytpjajogdoccdhaagreatdoor", sum := "53c79638d8fa0d6c886b8da56a60510b3cf495cc7880b6dfc18feb7669a2476f", func := "heptad/heptadlaw02.TypesPlain", spec := "typesPlain", inPlace := ["internal/bytealg.IndexByteString", "internal/bytealg.IndexString"], unfollowed := true, recurses := true, named := ["internal/bytealg.MaxLen", "unicode/utf8.first", "unicode/utf8.acceptRanges"], loops := true, apart := false, laid := [("unicode/utf8.acceptRanges", laid_unicode_utf8_acceptRanges), ("unicode/utf8.first", laid_unicode_utf8_first)], narrowed := true }
def TypesPlainUptoSaid : Prop := typesPlainUptoRow.holds Tryz.pinned (OpenSpec.upto typesPlainSpec)

/-- 'heptadlaw02.TypesKeeps', WHERE WHAT IT READS IS OF BULK AT MOST 1048576: true; the input reads as it did. -/
def typesKeepsUptoRow : OpenClaim := { program := "ytpjajogdoccdhaagreatdoor", sum := "53c79638d8fa0d6c886b8da56a60510b3cf495cc7880b6dfc18feb7669a2476f", func := "heptad/heptadlaw02.TypesKeeps", spec := "typesKeeps", inPlace := ["internal/bytealg.IndexByteString", "internal/bytealg.IndexString"], unfollowed := true, recurses := true, named := ["internal/bytealg.MaxLen", "unicode/utf8.first", "unicode/utf8.acceptRanges"], loops := true, apart := false, laid := [("unicode/utf8.acceptRanges", laid_unicode_utf8_acceptRanges), ("unicode/utf8.first", laid_unicode_utf8_first)], narrowed := true }
def TypesKeepsUptoSaid : Prop := typesKeepsUptoRow.holds Tryz.pinned (OpenSpec.upto typesKeepsSpec)

end Rows
end Go.Proofs.YtpjajogdoccdhaaGreatDoor
