/-
  No cell of these rows narrows 'for every input' (looked for: loops, veiled, ifaces, maps, wideKeys, modest, calm, conditions, laid).
  DERIVED. THE GIVEN ROWS OF THIS SEAT. 2 by the template 'for every input the law returns true; each argument reads behind the call as it read before'; 0 by the template 'total and deterministic' (their statements: YtdefghfdccmebaaTotals.lean).
  GIVEN WITH THE SEED: the statements are not yours to turn. If you find one false, say at which input.
  Laid BY PROGRAM, IN A SANDBOX (cutbox-rows.mjs): the forced cells as the released guide's own fill.sh prints them over the translation 636e10f82a95caf7… (all of the seat's roots in one cut). By AI agents, Wed Nov 11 2026. No macro, syntax, notation, axiom, sorry.
-/
import Derived.Test.YtdefghfdccmebaaChecked
import GoSem.Claim
import GoSem.ClaimJoined
import GoSem.ClaimMapViews
import Derived.JoinedTies
import Derived.KernelRfl
namespace Go.Proofs.Ytdefghfdccmebaa
/- THE CELL 'sum', in the pinned program and in every row, IS THE sha256 OF THE DUMP (.gsa) THAT YtdefghfdccmebaaProg.lean LOADS. Nothing in Lean hashes anything: it is a label: what it is worth is what the hold of that sum in a sandbox is worth. -/
noncomputable def Try.pinned : Pinned := { name := "ytdefghfdccmebaa", sum := "636e10f82a95caf7ef45f8cfbb0feeaf0a47d2e830ee003c3cb4b4256e12fe05", checked := Try.checked }
namespace Rows
def none {H : Type} : Left H := { results := [], args := [] }

/-- 'heptadlaw24.AssocAgrees': WHATEVER THE INPUT: true; the input reads as it did. -/
def assocAgreesSpec : ChangeSpec := { name := "assocAgrees", fn := fun _ => fun
  | [d1, d2] => { results := [.lit (.bool true)], args := [d1, d2] }
  | _ => none }
def assocAgreesRow : OpenClaim := { program := "ytdefghfdccmebaa", sum := "636e10f82a95caf7ef45f8cfbb0feeaf0a47d2e830ee003c3cb4b4256e12fe05", func := "heptad/heptadlaw24.AssocAgrees", spec := "assocAgrees", unfollowed := true, recurses := true, apart := false }
def AssocAgreesSaid : Prop := assocAgreesRow.holds Try.pinned (OpenSpec.ofChange assocAgreesSpec)

/-- ITS FALSE NEIGHBOUR: 'it returns false'. Refute it at one input. -/
def assocAgreesWrong : ChangeSpec := { name := "assocAgrees", fn := fun _ => fun
  | [d1, d2] => { results := [.lit (.bool false)], args := [d1, d2] }
  | _ => none }
def AssocAgreesWrongFalsely : Prop := assocAgreesRow.holds Try.pinned (OpenSpec.ofChange assocAgreesWrong)

/-- 'heptadlaw24.AssocTable': WHATEVER THE INPUT: true; the input reads as it did. -/
def assocTableSpec : ChangeSpec := { name := "assocTable", fn := fun _ => fun
  | [d1, d2] => { results := [.lit (.bool true)], args := [d1, d2] }
  | _ => none }
def assocTableRow : OpenClaim := { program := "ytdefghfdccmebaa", sum := "636e10f82a95caf7ef45f8cfbb0feeaf0a47d2e830ee003c3cb4b4256e12fe05", func := "heptad/heptadlaw24.AssocTable", spec := "assocTable", unfollowed := true, recurses := true, apart := false }
def AssocTableSaid : Prop := assocTableRow.holds Try.pinned (OpenSpec.ofChange assocTableSpec)

/-- ITS FALSE NEIGHBOUR: 'it returns false'. Refute it at one input. -/
def assocTableWrong : ChangeSpec := { name := "assocTable", fn := fun _ => fun
  | [d1, d2] => { results := [.lit (.bool false)], args := [d1, d2] }
  | _ => none }
def AssocTableWrongFalsely : Prop := assocTableRow.holds Try.pinned (OpenSpec.ofChange assocTableWrong)

/- THE SECOND FORM. 'bulk': how many values and letters a reading holds, each counted each time it is reached (what is shared counts as often as it is met; a slice's spare places count too). A statement '..UptoSaid' is the law's where the arguments, and the package variables that the reading takes, are together of bulk at most 1048576: NARROWER than '..Said'. Prove '..Said' where nothing that the law and all that it calls make is longer than what came in: it says more and counts as full. Else prove '..UptoSaid'. A law counts once. -/
mutual
def uptoBulk {H : Type} : DataW H → Nat
  | .lit (.string bytes) => bytes.length + 1
  | .lit _ => 1
  | .nil => 1
  | .ptr d => uptoBulk d + 1
  | .slice elems spare => uptoBulkAll elems + uptoBulkAll spare + 1
  | .agg parts => uptoBulkAll parts + 1
  | .iface _ d => uptoBulk d + 1
  | .map entries => uptoBulkEntries entries + 1
  | .held _ => 1
def uptoBulkAll {H : Type} : List (DataW H) → Nat
  | [] => 0
  | d :: r => uptoBulk d + uptoBulkAll r
def uptoBulkEntries {H : Type} : List (Lit × DataW H) → Nat
  | [] => 0
  | x :: r => uptoBulkEntry x + uptoBulkEntries r
def uptoBulkEntry {H : Type} : Lit × DataW H → Nat
  | (.string bytes, d) => bytes.length + uptoBulk d + 1
  | (_, d) => uptoBulk d + 1
 end
def uptoSmall : (H : Type) → List (DataW H) → Bool := fun _ ds => decide (uptoBulkAll ds ≤ 1048576)
def OpenSpec.upto (s : _root_.Go.ChangeSpec) : _root_.Go.OpenSpec := { _root_.Go.OpenSpec.ofChange s with cond := some uptoSmall }

/-- 'heptadlaw24.AssocAgrees', WHERE WHAT IT READS IS OF BULK AT MOST 1048576: true; the input reads as it did. -/
def assocAgreesUptoRow : OpenClaim := { program := "ytdefghfdccmebaa", sum := "636e10f82a95caf7ef45f8cfbb0feeaf0a47d2e830ee003c3cb4b4256e12fe05", func := "heptad/heptadlaw24.AssocAgrees", spec := "assocAgrees", unfollowed := true, recurses := true, apart := false, narrowed := true }
def AssocAgreesUptoSaid : Prop := assocAgreesUptoRow.holds Try.pinned (OpenSpec.upto assocAgreesSpec)

/-- 'heptadlaw24.AssocTable', WHERE WHAT IT READS IS OF BULK AT MOST 1048576: true; the input reads as it did. -/
def assocTableUptoRow : OpenClaim := { program := "ytdefghfdccmebaa", sum := "636e10f82a95caf7ef45f8cfbb0feeaf0a47d2e830ee003c3cb4b4256e12fe05", func := "heptad/heptadlaw24.AssocTable", spec := "assocTable", unfollowed := true, recurses := true, apart := false, narrowed := true }
def AssocTableUptoSaid : Prop := assocTableUptoRow.holds Try.pinned (OpenSpec.upto assocTableSpec)

end Rows
end Go.Proofs.Ytdefghfdccmebaa
