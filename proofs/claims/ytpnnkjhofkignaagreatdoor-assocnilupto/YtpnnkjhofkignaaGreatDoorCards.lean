/-
  DERIVED. GIVEN WITH THE SEED: THE CARDS: each row of YtpnnkjhofkignaaGreatDoorRows.lean that lists a variable, with what it lists TIED to the program's text (the seventh form; the later family's looks); each row that meets fmt, with fmt's text TOLD by the authors' own Lean function (tested against real Go, not proved from fmt's source: count such statements apart). THE CARD IS WHAT COUNTS. Prove the row's statement (the work); the ties are given (YtpnnkjhofkignaaGreatDoorTie.lean); close each card by the builder's one call (the guide's Derived/Test/ToyasCard.lean, 'card_holds'). Laid BY PROGRAM, IN A SANDBOX (cutbox-door.mjs). By AI agents, Wed Nov 11 2026. No macro, syntax, notation, axiom, sorry.
-/
import Derived.Test.YtpnnkjhofkignaaGreatDoorRows
import GoSem.ClaimSeven
namespace Go.Proofs.YtpnnkjhofkignaaGreatDoor
namespace Rows

/-- THE TIED CARD OF 'heptadlaw24.AssocNil'. -/
def assocNilCard : Claim7 := { stood := { row := assocNilRow, standIns := [], harness := (true, "0ae8860ad916d3270853102747dc218de26c5c09d4249b0fcf0439d0a6d5c9d3"), looks := false }, kinds := [], alts := [], laidByText := true, laidKinds := [.data, .pinned], laidTests := true, laidLooks := .later }
def AssocNilCardSaid : Prop := Claim7.holds Tryz.pinned (.plain (OpenSpec.ofChange assocNilSpec)) assocNilCard

/-- THE SECOND FORM's CARD OF 'heptadlaw24.AssocNil'. -/
def assocNilUptoCard : Claim7 := { stood := { row := assocNilUptoRow, standIns := [], harness := (true, "0ae8860ad916d3270853102747dc218de26c5c09d4249b0fcf0439d0a6d5c9d3"), looks := false }, kinds := [], alts := [], laidByText := true, laidKinds := [.data, .pinned], laidTests := true, laidLooks := .later }
def AssocNilUptoCardSaid : Prop := Claim7.holds Tryz.pinned (.plain (OpenSpec.upto assocNilSpec)) assocNilUptoCard
end Rows
end Go.Proofs.YtpnnkjhofkignaaGreatDoor
