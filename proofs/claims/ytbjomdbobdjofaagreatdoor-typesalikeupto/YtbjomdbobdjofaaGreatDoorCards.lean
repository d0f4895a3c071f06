/-
  DERIVED. GIVEN WITH THE SEED: THE CARDS: each row of YtbjomdbobdjofaaGreatDoorRows.lean that lists a variable, with what it lists TIED to the program's text (the seventh form; the later family's looks); each row that meets fmt, with fmt's text TOLD by the authors' own Lean function (tested against real Go, not proved from fmt's source: count such statements apart). THE CARD IS WHAT COUNTS. Prove the row's statement (the work); the ties are given (YtbjomdbobdjofaaGreatDoorTie.lean); close each card by the builder's one call (the guide's Derived/Test/ToyasCard.lean, 'card_holds'). Laid BY PROGRAM, IN A SANDBOX (cutbox-door.mjs). By AI agents, Wed Nov 11 2026. No macro, syntax, notation, axiom, sorry.
-/
import Derived.Test.YtbjomdbobdjofaaGreatDoorRows
import GoSem.ClaimSeven
namespace Go.Proofs.YtbjomdbobdjofaaGreatDoor
namespace Rows

/-- THE TIED CARD OF 'heptadlaw02.TypesFits'. -/
def typesFitsCard : Claim7 := { stood := { row := typesFitsRow, standIns := [], harness := (true, "38ac76729a42017b40d35ebacba4c78b0cf51860bc7e6d137be69ed001e602de"), looks := true }, kinds := [], alts := [], laidByText := true, laidKinds := [.data, .pinned], laidTests := true, laidLooks := .later }
def TypesFitsCardSaid : Prop := Claim7.holds Tryz.pinned (.plain (OpenSpec.ofChange typesFitsSpec)) typesFitsCard

/-- THE TIED CARD OF 'heptadlaw02.TypesAlike'. -/
def typesAlikeCard : Claim7 := { stood := { row := typesAlikeRow, standIns := [], harness := (true, "38ac76729a42017b40d35ebacba4c78b0cf51860bc7e6d137be69ed001e602de"), looks := true }, kinds := [], alts := [], laidByText := true, laidKinds := [.data, .pinned], laidTests := true, laidLooks := .later }
def TypesAlikeCardSaid : Prop := Claim7.holds Tryz.pinned (.plain (OpenSpec.ofChange typesAlikeSpec)) typesAlikeCard

/-- THE TIED CARD OF 'heptadlaw02.TypesWider'. -/
def typesWiderCard : Claim7 := { stood := { row := typesWiderRow, standIns := [], harness := (true, "38ac76729a42017b40d35ebacba4c78b0cf51860bc7e6d137be69ed001e602de"), looks := true }, kinds := [], alts := [], laidByText := true, laidKinds := [.data, .pinned], laidTests := true, laidLooks := .later }
def TypesWiderCardSaid : Prop := Claim7.holds Tryz.pinned (.plain (OpenSpec.ofChange typesWiderSpec)) typesWiderCard

/-- THE TIED CARD OF 'heptadlaw02.TypesSame'. -/
def typesSameCard : Claim7 := { stood := { row := typesSameRow, standIns := [], harness := (true, "38ac76729a42017b40d35ebacba4c78b0cf51860bc7e6d137be69ed001e602de"), looks := true }, kinds := [], alts := [], laidByText := true, laidKinds := [.data, .pinned], laidTests := true, laidLooks := .later }
def TypesSameCardSaid : Prop := Claim7.holds Tryz.pinned (.plain (OpenSpec.ofChange typesSameSpec)) typesSameCard

/-- THE TIED CARD OF 'heptadlaw02.TypesForms'. -/
def typesFormsCard : Claim7 := { stood := { row := typesFormsRow, standIns := [], harness := (true, "38ac76729a42017b40d35ebacba4c78b0cf51860bc7e6d137be69ed001e602de"), looks := true }, kinds := [], alts := [], laidByText := true, laidKinds := [.data, .pinned], laidTests := true, laidLooks := .later }
def TypesFormsCardSaid : Prop := Claim7.holds Tryz.pinned (.plain (OpenSpec.ofChange typesFormsSpec)) typesFormsCard

/-- THE TIED CARD OF 'heptadlaw02.TypesPlain'. -/
def typesPlainCard : Claim7 := { stood := { row := typesPlainRow, standIns := [], harness := (true, "38ac76729a42017b40d35ebacba4c78b0cf51860bc7e6d137be69ed001e602de"), looks := true }, kinds := [], alts := [], laidByText := true, laidKinds := [.data, .pinned], laidTests := true, laidLooks := .later }
def TypesPlainCardSaid : Prop := Claim7.holds Tryz.pinned (.plain (OpenSpec.ofChange typesPlainSpec)) typesPlainCard

/-- THE TIED CARD OF 'heptadlaw02.TypesKeeps'. -/
def typesKeepsCard : Claim7 := { stood := { row := typesKeepsRow, standIns := [], harness := (true, "38ac76729a42017b40d35ebacba4c78b0cf51860bc7e6d137be69ed001e602de"), looks := true }, kinds := [], alts := [], laidByText := true, laidKinds := [.data, .pinned], laidTests := true, laidLooks := .later }
def TypesKeepsCardSaid : Prop := Claim7.holds Tryz.pinned (.plain (OpenSpec.ofChange typesKeepsSpec)) typesKeepsCard

/-- THE TIED CARD OF 'heptadlaw02.TypesPaths'. -/
def typesPathsCard : Claim7 := { stood := { row := typesPathsRow, standIns := [], harness := (true, "38ac76729a42017b40d35ebacba4c78b0cf51860bc7e6d137be69ed001e602de"), looks := true }, kinds := [], alts := [], laidByText := true, laidKinds := [.data, .data, .data, .data, .sentinel, .sentinel, .pinned], laidTests := true, laidLooks := .later }
def TypesPathsCardSaid : Prop := Claim7.holds Tryz.pinned (.plain (OpenSpec.ofChange typesPathsSpec)) typesPathsCard

/-- THE TIED CARD OF 'heptadlaw02.TypesGoes'. -/
def typesGoesCard : Claim7 := { stood := { row := typesGoesRow, standIns := [], harness := (true, "38ac76729a42017b40d35ebacba4c78b0cf51860bc7e6d137be69ed001e602de"), looks := true }, kinds := [], alts := [], laidByText := true, laidKinds := [.data, .data, .data, .data, .sentinel, .sentinel, .pinned], laidTests := true, laidLooks := .later }
def TypesGoesCardSaid : Prop := Claim7.holds Tryz.pinned (.plain (OpenSpec.ofChange typesGoesSpec)) typesGoesCard

/-- THE TIED CARD OF 'heptadlaw02.TypesLeast'. -/
def typesLeastCard : Claim7 := { stood := { row := typesLeastRow, standIns := [], harness := (true, "38ac76729a42017b40d35ebacba4c78b0cf51860bc7e6d137be69ed001e602de"), looks := true }, kinds := [], alts := [], laidByText := true, laidKinds := [.data, .data, .data, .data, .pinned, .pinned, .pinned, .pinned, .pinned, .pinned], laidTests := true, laidLooks := .later }
def TypesLeastCardSaid : Prop := Claim7.holds Tryz.pinned (.plain (OpenSpec.ofChange typesLeastSpec)) typesLeastCard

/-- THE SECOND FORM's CARD OF 'heptadlaw02.TypesFits'. -/
def typesFitsUptoCard : Claim7 := { stood := { row := typesFitsUptoRow, standIns := [], harness := (true, "38ac76729a42017b40d35ebacba4c78b0cf51860bc7e6d137be69ed001e602de"), looks := true }, kinds := [], alts := [], laidByText := true, laidKinds := [.data, .pinned], laidTests := true, laidLooks := .later }
def TypesFitsUptoCardSaid : Prop := Claim7.holds Tryz.pinned (.plain (OpenSpec.upto typesFitsSpec)) typesFitsUptoCard

/-- THE SECOND FORM's CARD OF 'heptadlaw02.TypesAlike'. -/
def typesAlikeUptoCard : Claim7 := { stood := { row := typesAlikeUptoRow, standIns := [], harness := (true, "38ac76729a42017b40d35ebacba4c78b0cf51860bc7e6d137be69ed001e602de"), looks := true }, kinds := [], alts := [], laidByText := true, laidKinds := [.data, .pinned], laidTests := true, laidLooks := .later }
def TypesAlikeUptoCardSaid : Prop := Claim7.holds Tryz.pinned (.plain (OpenSpec.upto typesAlikeSpec)) typesAlikeUptoCard

/-- THE SECOND FORM's CARD OF 'heptadlaw02.TypesWider'. -/
def typesWiderUptoCard : Claim7 := { stood := { row := typesWiderUptoRow, standIns := [], harness := (true, "38ac76729a42017b40d35ebacba4c78b0cf51860bc7e6d137be69ed001e602de"), looks := true }, kinds := [], alts := [], laidByText := true, laidKinds := [.data, .pinned], laidTests := true, laidLooks := .later }
def TypesWiderUptoCardSaid : Prop := Claim7.holds Tryz.pinned (.plain (OpenSpec.upto typesWiderSpec)) typesWiderUptoCard

/-- THE SECOND FORM's CARD OF 'heptadlaw02.TypesSame'. -/
def typesSameUptoCard : Claim7 := { stood := { row := typesSameUptoRow, standIns := [], harness := (true, "38ac76729a42017b40d35ebacba4c78b0cf51860bc7e6d137be69ed001e602de"), looks := true }, kinds := [], alts := [], laidByText := true, laidKinds := [.data, .pinned], laidTests := true, laidLooks := .later }
def TypesSameUptoCardSaid : Prop := Claim7.holds Tryz.pinned (.plain (OpenSpec.upto typesSameSpec)) typesSameUptoCard

/-- THE SECOND FORM's CARD OF 'heptadlaw02.TypesForms'. -/
def typesFormsUptoCard : Claim7 := { stood := { row := typesFormsUptoRow, standIns := [], harness := (true, "38ac76729a42017b40d35ebacba4c78b0cf51860bc7e6d137be69ed001e602de"), looks := true }, kinds := [], alts := [], laidByText := true, laidKinds := [.data, .pinned], laidTests := true, laidLooks := .later }
def TypesFormsUptoCardSaid : Prop := Claim7.holds Tryz.pinned (.plain (OpenSpec.upto typesFormsSpec)) typesFormsUptoCard

/-- THE SECOND FORM's CARD OF 'heptadlaw02.TypesPlain'. -/
def typesPlainUptoCard : Claim7 := { stood := { row := typesPlainUptoRow, standIns := [], harness := (true, "38ac76729a42017b40d35ebacba4c78b0cf51860bc7e6d137be69ed001e602de"), looks := true }, kinds := [], alts := [], laidByText := true, laidKinds := [.data, .pinned], laidTests := true, laidLooks := .later }
def TypesPlainUptoCardSaid : Prop := Claim7.holds Tryz.pinned (.plain (OpenSpec.upto typesPlainSpec)) typesPlainUptoCard

/-- THE SECOND FORM's CARD OF 'heptadlaw02.TypesKeeps'. -/
def typesKeepsUptoCard : Claim7 := { stood := { row := typesKeepsUptoRow, standIns := [], harness := (true, "38ac76729a42017b40d35ebacba4c78b0cf51860bc7e6d137be69ed001e602de"), looks := true }, kinds := [], alts := [], laidByText := true, laidKinds := [.data, .pinned], laidTests := true, laidLooks := .later }
def TypesKeepsUptoCardSaid : Prop := Claim7.holds Tryz.pinned (.plain (OpenSpec.upto typesKeepsSpec)) typesKeepsUptoCard

/-- THE SECOND FORM's CARD OF 'heptadlaw02.TypesPaths'. -/
def typesPathsUptoCard : Claim7 := { stood := { row := typesPathsUptoRow, standIns := [], harness := (true, "38ac76729a42017b40d35ebacba4c78b0cf51860bc7e6d137be69ed001e602de"), looks := true }, kinds := [], alts := [], laidByText := true, laidKinds := [.data, .data, .data, .data, .sentinel, .sentinel, .pinned], laidTests := true, laidLooks := .later }
def TypesPathsUptoCardSaid : Prop := Claim7.holds Tryz.pinned (.plain (OpenSpec.upto typesPathsSpec)) typesPathsUptoCard

/-- THE SECOND FORM's CARD OF 'heptadlaw02.TypesGoes'. -/
def typesGoesUptoCard : Claim7 := { stood := { row := typesGoesUptoRow, standIns := [], harness := (true, "38ac76729a42017b40d35ebacba4c78b0cf51860bc7e6d137be69ed001e602de"), looks := true }, kinds := [], alts := [], laidByText := true, laidKinds := [.data, .data, .data, .data, .sentinel, .sentinel, .pinned], laidTests := true, laidLooks := .later }
def TypesGoesUptoCardSaid : Prop := Claim7.holds Tryz.pinned (.plain (OpenSpec.upto typesGoesSpec)) typesGoesUptoCard

/-- THE SECOND FORM's CARD OF 'heptadlaw02.TypesLeast'. -/
def typesLeastUptoCard : Claim7 := { stood := { row := typesLeastUptoRow, standIns := [], harness := (true, "38ac76729a42017b40d35ebacba4c78b0cf51860bc7e6d137be69ed001e602de"), looks := true }, kinds := [], alts := [], laidByText := true, laidKinds := [.data, .data, .data, .data, .pinned, .pinned, .pinned, .pinned, .pinned, .pinned], laidTests := true, laidLooks := .later }
def TypesLeastUptoCardSaid : Prop := Claim7.holds Tryz.pinned (.plain (OpenSpec.upto typesLeastSpec)) typesLeastUptoCard
end Rows
end Go.Proofs.YtbjomdbobdjofaaGreatDoor
