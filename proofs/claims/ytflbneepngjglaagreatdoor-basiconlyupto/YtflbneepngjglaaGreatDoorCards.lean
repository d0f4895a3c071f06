/-
  DERIVED. GIVEN WITH THE SEED: THE CARDS: each row of YtflbneepngjglaaGreatDoorRows.lean that lists a variable, with what it lists TIED to the program's text (the seventh form; the later family's looks); each row that meets fmt, with fmt's text TOLD by the authors' own Lean function (tested against real Go, not proved from fmt's source: count such statements apart). THE CARD IS WHAT COUNTS. Prove the row's statement (the work); the ties are given (YtflbneepngjglaaGreatDoorTie.lean); close each card by the builder's one call (the guide's Derived/Test/ToyasCard.lean, 'card_holds'). Laid BY PROGRAM, IN A SANDBOX (cutbox-door.mjs). By AI agents, Wed Nov 11 2026. No macro, syntax, notation, axiom, sorry.
-/
import Derived.Test.YtflbneepngjglaaGreatDoorRows
import GoSem.ClaimSeven
namespace Go.Proofs.YtflbneepngjglaaGreatDoor
namespace Rows

/-- THE TIED CARD OF 'heptadlaw02.TypesForms'. -/
def typesFormsCard : Claim7 := { stood := { row := typesFormsRow, standIns := [], harness := (true, "009f9058858998d83c6b15bfc95286a64a39237f39e99408c0e10307d8b4ec83"), looks := false }, kinds := [], alts := [], laidByText := true, laidKinds := [.data, .pinned], laidTests := true, laidLooks := .later }
def TypesFormsCardSaid : Prop := Claim7.holds Tryz.pinned (.plain (OpenSpec.ofChange typesFormsSpec)) typesFormsCard

/-- THE TIED CARD OF 'heptadlaw02.TypesPlain'. -/
def typesPlainCard : Claim7 := { stood := { row := typesPlainRow, standIns := [], harness := (true, "009f9058858998d83c6b15bfc95286a64a39237f39e99408c0e10307d8b4ec83"), looks := false }, kinds := [], alts := [], laidByText := true, laidKinds := [.data, .pinned], laidTests := true, laidLooks := .later }
def TypesPlainCardSaid : Prop := Claim7.holds Tryz.pinned (.plain (OpenSpec.ofChange typesPlainSpec)) typesPlainCard

/-- THE TIED CARD OF 'heptadlaw02.TypesKeeps'. -/
def typesKeepsCard : Claim7 := { stood := { row := typesKeepsRow, standIns := [], harness := (true, "009f9058858998d83c6b15bfc95286a64a39237f39e99408c0e10307d8b4ec83"), looks := false }, kinds := [], alts := [], laidByText := true, laidKinds := [.data, .pinned], laidTests := true, laidLooks := .later }
def TypesKeepsCardSaid : Prop := Claim7.holds Tryz.pinned (.plain (OpenSpec.ofChange typesKeepsSpec)) typesKeepsCard

/-- THE TIED CARD OF 'heptadlaw05.BasicEncodes'. -/
def basicEncodesCard : Claim7 := { stood := { row := basicEncodesRow, standIns := [], harness := (true, "009f9058858998d83c6b15bfc95286a64a39237f39e99408c0e10307d8b4ec83"), looks := false }, kinds := [], alts := [], laidByText := true, laidKinds := [.data, .pinned], laidTests := true, laidLooks := .later }
def BasicEncodesCardSaid : Prop := Claim7.holds Tryz.pinned (.plain (OpenSpec.ofChange basicEncodesSpec)) basicEncodesCard

/-- THE TIED CARD OF 'heptadlaw05.BasicOnly'. -/
def basicOnlyCard : Claim7 := { stood := { row := basicOnlyRow, standIns := [], harness := (true, "009f9058858998d83c6b15bfc95286a64a39237f39e99408c0e10307d8b4ec83"), looks := false }, kinds := [], alts := [], laidByText := true, laidKinds := [.data, .pinned], laidTests := true, laidLooks := .later }
def BasicOnlyCardSaid : Prop := Claim7.holds Tryz.pinned (.plain (OpenSpec.ofChange basicOnlySpec)) basicOnlyCard

/-- THE TIED CARD OF 'heptadlaw05.BasicBack'. -/
def basicBackCard : Claim7 := { stood := { row := basicBackRow, standIns := [], harness := (true, "009f9058858998d83c6b15bfc95286a64a39237f39e99408c0e10307d8b4ec83"), looks := false }, kinds := [], alts := [], laidByText := true, laidKinds := [.data, .pinned], laidTests := true, laidLooks := .later }
def BasicBackCardSaid : Prop := Claim7.holds Tryz.pinned (.plain (OpenSpec.ofChange basicBackSpec)) basicBackCard

/-- THE TIED CARD OF 'heptadlaw05.BasicElements'. -/
def basicElementsCard : Claim7 := { stood := { row := basicElementsRow, standIns := [], harness := (true, "009f9058858998d83c6b15bfc95286a64a39237f39e99408c0e10307d8b4ec83"), looks := false }, kinds := [], alts := [], laidByText := true, laidKinds := [.data, .data, .data, .data, .pinned], laidTests := true, laidLooks := .later }
def BasicElementsCardSaid : Prop := Claim7.holds Tryz.pinned (.plain (OpenSpec.ofChange basicElementsSpec)) basicElementsCard

/-- THE TIED CARD OF 'heptadlaw05.BasicLoose'. -/
def basicLooseCard : Claim7 := { stood := { row := basicLooseRow, standIns := [], harness := (true, "009f9058858998d83c6b15bfc95286a64a39237f39e99408c0e10307d8b4ec83"), looks := false }, kinds := [], alts := [], laidByText := true, laidKinds := [.data, .pinned], laidTests := true, laidLooks := .later }
def BasicLooseCardSaid : Prop := Claim7.holds Tryz.pinned (.plain (OpenSpec.ofChange basicLooseSpec)) basicLooseCard

/-- THE SECOND FORM's CARD OF 'heptadlaw02.TypesForms'. -/
def typesFormsUptoCard : Claim7 := { stood := { row := typesFormsUptoRow, standIns := [], harness := (true, "009f9058858998d83c6b15bfc95286a64a39237f39e99408c0e10307d8b4ec83"), looks := false }, kinds := [], alts := [], laidByText := true, laidKinds := [.data, .pinned], laidTests := true, laidLooks := .later }
def TypesFormsUptoCardSaid : Prop := Claim7.holds Tryz.pinned (.plain (OpenSpec.upto typesFormsSpec)) typesFormsUptoCard

/-- THE SECOND FORM's CARD OF 'heptadlaw02.TypesPlain'. -/
def typesPlainUptoCard : Claim7 := { stood := { row := typesPlainUptoRow, standIns := [], harness := (true, "009f9058858998d83c6b15bfc95286a64a39237f39e99408c0e10307d8b4ec83"), looks := false }, kinds := [], alts := [], laidByText := true, laidKinds := [.data, .pinned], laidTests := true, laidLooks := .later }
def TypesPlainUptoCardSaid : Prop := Claim7.holds Tryz.pinned (.plain (OpenSpec.upto typesPlainSpec)) typesPlainUptoCard

/-- THE SECOND FORM's CARD OF 'heptadlaw02.TypesKeeps'. -/
def typesKeepsUptoCard : Claim7 := { stood := { row := typesKeepsUptoRow, standIns := [], harness := (true, "009f9058858998d83c6b15bfc95286a64a39237f39e99408c0e10307d8b4ec83"), looks := false }, kinds := [], alts := [], laidByText := true, laidKinds := [.data, .pinned], laidTests := true, laidLooks := .later }
def TypesKeepsUptoCardSaid : Prop := Claim7.holds Tryz.pinned (.plain (OpenSpec.upto typesKeepsSpec)) typesKeepsUptoCard

/-- THE SECOND FORM's CARD OF 'heptadlaw05.BasicEncodes'. -/
def basicEncodesUptoCard : Claim7 := { stood := { row := basicEncodesUptoRow, standIns := [], harness := (true, "009f9058858998d83c6b15bfc95286a64a39237f39e99408c0e10307d8b4ec83"), looks := false }, kinds := [], alts := [], laidByText := true, laidKinds := [.data, .pinned], laidTests := true, laidLooks := .later }
def BasicEncodesUptoCardSaid : Prop := Claim7.holds Tryz.pinned (.plain (OpenSpec.upto basicEncodesSpec)) basicEncodesUptoCard

/-- THE SECOND FORM's CARD OF 'heptadlaw05.BasicOnly'. -/
def basicOnlyUptoCard : Claim7 := { stood := { row := basicOnlyUptoRow, standIns := [], harness := (true, "009f9058858998d83c6b15bfc95286a64a39237f39e99408c0e10307d8b4ec83"), looks := false }, kinds := [], alts := [], laidByText := true, laidKinds := [.data, .pinned], laidTests := true, laidLooks := .later }
def BasicOnlyUptoCardSaid : Prop := Claim7.holds Tryz.pinned (.plain (OpenSpec.upto basicOnlySpec)) basicOnlyUptoCard

/-- THE SECOND FORM's CARD OF 'heptadlaw05.BasicBack'. -/
def basicBackUptoCard : Claim7 := { stood := { row := basicBackUptoRow, standIns := [], harness := (true, "009f9058858998d83c6b15bfc95286a64a39237f39e99408c0e10307d8b4ec83"), looks := false }, kinds := [], alts := [], laidByText := true, laidKinds := [.data, .pinned], laidTests := true, laidLooks := .later }
def BasicBackUptoCardSaid : Prop := Claim7.holds Tryz.pinned (.plain (OpenSpec.upto basicBackSpec)) basicBackUptoCard

/-- THE SECOND FORM's CARD OF 'heptadlaw05.BasicElements'. -/
def basicElementsUptoCard : Claim7 := { stood := { row := basicElementsUptoRow, standIns := [], harness := (true, "009f9058858998d83c6b15bfc95286a64a39237f39e99408c0e10307d8b4ec83"), looks := false }, kinds := [], alts := [], laidByText := true, laidKinds := [.data, .data, .data, .data, .pinned], laidTests := true, laidLooks := .later }
def BasicElementsUptoCardSaid : Prop := Claim7.holds Tryz.pinned (.plain (OpenSpec.upto basicElementsSpec)) basicElementsUptoCard

/-- THE SECOND FORM's CARD OF 'heptadlaw05.BasicLoose'. -/
def basicLooseUptoCard : Claim7 := { stood := { row := basicLooseUptoRow, standIns := [], harness := (true, "009f9058858998d83c6b15bfc95286a64a39237f39e99408c0e10307d8b4ec83"), looks := false }, kinds := [], alts := [], laidByText := true, laidKinds := [.data, .pinned], laidTests := true, laidLooks := .later }
def BasicLooseUptoCardSaid : Prop := Claim7.holds Tryz.pinned (.plain (OpenSpec.upto basicLooseSpec)) basicLooseUptoCard
end Rows
end Go.Proofs.YtflbneepngjglaaGreatDoor
