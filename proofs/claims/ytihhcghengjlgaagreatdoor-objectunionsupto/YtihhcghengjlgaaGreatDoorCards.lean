/-
  DERIVED. GIVEN WITH THE SEED: THE CARDS: each row of YtihhcghengjlgaaGreatDoorRows.lean that lists a variable, with what it lists TIED to the program's text (the seventh form; the later family's looks); each row that meets fmt, with fmt's text TOLD by the authors' own Lean function (tested against real Go, not proved from fmt's source: count such statements apart). THE CARD IS WHAT COUNTS. Prove the row's statement (the work); the ties are given (YtihhcghengjlgaaGreatDoorTie.lean); close each card by the builder's one call (the guide's Derived/Test/ToyasCard.lean, 'card_holds'). Laid BY PROGRAM, IN A SANDBOX (cutbox-door.mjs). By AI agents, Wed Nov 11 2026. No macro, syntax, notation, axiom, sorry.
-/
import Derived.Test.YtihhcghengjlgaaGreatDoorRows
import GoSem.ClaimSeven
namespace Go.Proofs.YtihhcghengjlgaaGreatDoor
namespace Rows

/-- THE TIED CARD OF 'heptadlaw08.ObjectFinds'. -/
def objectFindsCard : Claim7 := { stood := { row := objectFindsRow, standIns := [], harness := (true, "2ce54ed24dd150e523b6c19afdc99f0d727614c245303c0f198dcef364f5b84a"), looks := false }, kinds := [], alts := [], laidByText := true, laidKinds := [.data, .pinned], laidTests := true, laidLooks := .later }
def ObjectFindsCardSaid : Prop := Claim7.holds Tryz.pinned (.plain (OpenSpec.ofChange objectFindsSpec)) objectFindsCard

/-- THE TIED CARD OF 'heptadlaw08.ObjectKeeps'. -/
def objectKeepsCard : Claim7 := { stood := { row := objectKeepsRow, standIns := [], harness := (true, "2ce54ed24dd150e523b6c19afdc99f0d727614c245303c0f198dcef364f5b84a"), looks := false }, kinds := [], alts := [], laidByText := true, laidKinds := [.data, .pinned], laidTests := true, laidLooks := .later }
def ObjectKeepsCardSaid : Prop := Claim7.holds Tryz.pinned (.plain (OpenSpec.ofChange objectKeepsSpec)) objectKeepsCard

/-- THE TIED CARD OF 'heptadlaw08.ObjectSets'. -/
def objectSetsCard : Claim7 := { stood := { row := objectSetsRow, standIns := [], harness := (true, "2ce54ed24dd150e523b6c19afdc99f0d727614c245303c0f198dcef364f5b84a"), looks := false }, kinds := [], alts := [], laidByText := true, laidKinds := [.data, .pinned], laidTests := true, laidLooks := .later }
def ObjectSetsCardSaid : Prop := Claim7.holds Tryz.pinned (.plain (OpenSpec.ofChange objectSetsSpec)) objectSetsCard

/-- THE TIED CARD OF 'heptadlaw08.ObjectUnions'. -/
def objectUnionsCard : Claim7 := { stood := { row := objectUnionsRow, standIns := [], harness := (true, "2ce54ed24dd150e523b6c19afdc99f0d727614c245303c0f198dcef364f5b84a"), looks := false }, kinds := [], alts := [], laidByText := true, laidKinds := [.data, .pinned], laidTests := true, laidLooks := .later }
def ObjectUnionsCardSaid : Prop := Claim7.holds Tryz.pinned (.plain (OpenSpec.ofChange objectUnionsSpec)) objectUnionsCard

/-- THE SECOND FORM's CARD OF 'heptadlaw08.ObjectFinds'. -/
def objectFindsUptoCard : Claim7 := { stood := { row := objectFindsUptoRow, standIns := [], harness := (true, "2ce54ed24dd150e523b6c19afdc99f0d727614c245303c0f198dcef364f5b84a"), looks := false }, kinds := [], alts := [], laidByText := true, laidKinds := [.data, .pinned], laidTests := true, laidLooks := .later }
def ObjectFindsUptoCardSaid : Prop := Claim7.holds Tryz.pinned (.plain (OpenSpec.upto objectFindsSpec)) objectFindsUptoCard

/-- THE SECOND FORM's CARD OF 'heptadlaw08.ObjectKeeps'. -/
def objectKeepsUptoCard : Claim7 := { stood := { row := objectKeepsUptoRow, standIns := [], harness := (true, "2ce54ed24dd150e523b6c19afdc99f0d727614c245303c0f198dcef364f5b84a"), looks := false }, kinds := [], alts := [], laidByText := true, laidKinds := [.data, .pinned], laidTests := true, laidLooks := .later }
def ObjectKeepsUptoCardSaid : Prop := Claim7.holds Tryz.pinned (.plain (OpenSpec.upto objectKeepsSpec)) objectKeepsUptoCard

/-- THE SECOND FORM's CARD OF 'heptadlaw08.ObjectSets'. -/
def objectSetsUptoCard : Claim7 := { stood := { row := objectSetsUptoRow, standIns := [], harness := (true, "2ce54ed24dd150e523b6c19afdc99f0d727614c245303c0f198dcef364f5b84a"), looks := false }, kinds := [], alts := [], laidByText := true, laidKinds := [.data, .pinned], laidTests := true, laidLooks := .later }
def ObjectSetsUptoCardSaid : Prop := Claim7.holds Tryz.pinned (.plain (OpenSpec.upto objectSetsSpec)) objectSetsUptoCard

/-- THE SECOND FORM's CARD OF 'heptadlaw08.ObjectUnions'. -/
def objectUnionsUptoCard : Claim7 := { stood := { row := objectUnionsUptoRow, standIns := [], harness := (true, "2ce54ed24dd150e523b6c19afdc99f0d727614c245303c0f198dcef364f5b84a"), looks := false }, kinds := [], alts := [], laidByText := true, laidKinds := [.data, .pinned], laidTests := true, laidLooks := .later }
def ObjectUnionsUptoCardSaid : Prop := Claim7.holds Tryz.pinned (.plain (OpenSpec.upto objectUnionsSpec)) objectUnionsUptoCard
end Rows
end Go.Proofs.YtihhcghengjlgaaGreatDoor
