/-
  DERIVED. GIVEN WITH THE SEED: THE CARDS: each row of YtdgdhckjfllfmaaGreatDoorRows.lean that lists a variable, with what it lists TIED to the program's text (the seventh form; the later family's looks); each row that meets fmt, with fmt's text TOLD by the authors' own Lean function (tested against real Go, not proved from fmt's source: count such statements apart). THE CARD IS WHAT COUNTS. Prove the row's statement (the work); the ties are given (YtdgdhckjfllfmaaGreatDoorTie.lean); close each card by the builder's one call (the guide's Derived/Test/ToyasCard.lean, 'card_holds'). Laid BY PROGRAM, IN A SANDBOX (cutbox-door.mjs). By AI agents, Wed Nov 11 2026. No macro, syntax, notation, axiom, sorry.
-/
import Derived.Test.YtdgdhckjfllfmaaGreatDoorRows
import GoSem.ClaimSeven
namespace Go.Proofs.YtdgdhckjfllfmaaGreatDoor
namespace Rows

/-- THE TIED CARD OF 'heptadlaw05.BasicLengths'. -/
def basicLengthsCard : Claim7 := { stood := { row := basicLengthsRow, standIns := [], harness := (true, "b6c76436df4d1f87a40b3f611a7631bdb7e5283ad267a697f4c48fac6295e8bc"), looks := false }, kinds := [], alts := [], laidByText := true, laidKinds := [.data, .pinned], laidTests := true, laidLooks := .later }
def BasicLengthsCardSaid : Prop := Claim7.holds Tryz.pinned (.plain (OpenSpec.ofChange basicLengthsSpec)) basicLengthsCard

/-- THE SECOND FORM's CARD OF 'heptadlaw05.BasicLengths'. -/
def basicLengthsUptoCard : Claim7 := { stood := { row := basicLengthsUptoRow, standIns := [], harness := (true, "b6c76436df4d1f87a40b3f611a7631bdb7e5283ad267a697f4c48fac6295e8bc"), looks := false }, kinds := [], alts := [], laidByText := true, laidKinds := [.data, .pinned], laidTests := true, laidLooks := .later }
def BasicLengthsUptoCardSaid : Prop := Claim7.holds Tryz.pinned (.plain (OpenSpec.upto basicLengthsSpec)) basicLengthsUptoCard
end Rows
end Go.Proofs.YtdgdhckjfllfmaaGreatDoor
