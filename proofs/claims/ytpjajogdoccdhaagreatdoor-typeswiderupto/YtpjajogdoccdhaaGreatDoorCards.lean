/-
  DERIVED. GIVEN WITH THE SEED: THE CARDS: each row of YtpjajogdoccdhaaGreatDoorRows.lean that lists a variable, with what it lists TIED to the program's text (the seventh form; the later family's looks); each row that meets fmt, with fmt's text TOLD by the authors' own Lean function (tested against real Go, not proved from fmt's source: count such statements apart). THE CARD IS WHAT COUNTS. Prove the row's statement (the work); the ties are given (YtpjajogdoccdhaaGreatDoorTie.lean); close each card by the builder's one call (the guide's Derived/Test/ToyasCard.lean, 'card_holds'). Laid BY PROGRAM, IN A SANDBOX (cutbox-door.mjs). By AI agents, Wed Nov 11 2026. No macro, syntax, notation, axiom, sorry.
-/
import Derived.Test.YtpjajogdoccdhaaGreatDoorRows
import GoSem.ClaimSeven
namespace Go.Proofs.YtpjajogdoccdhaaGreatDoor
namespace Rows

/-- THE TIED CARD OF 'heptadlaw02.TypesFits'. -/
def typesFitsCard : Claim7 := { stood := { row := typesFitsRow, standIns := [], harness := (true, "0fff1d2b61fe8e635ea5688075a1d38a20d22f074098a6212e9abdc602506ac0"), looks := false }, kinds := [], alts := [], laidByText := true, laidKinds := [.data, .pinned], laidTests := true, laidLooks := .later }
def TypesFitsCardSaid : Prop := Claim7.holds Tryz.pinned (.plain (OpenSpec.ofChange typesFitsSpec)) typesFitsCard

/-- THE TIED CARD OF 'heptadlaw02.TypesWider'. -/
def typesWiderCard : Claim7 := { stood := { row := typesWiderRow, standIns := [], harness := (true, "0fff1d2b61fe8e635ea5688075a1d38a20d22f074098a6212e9abdc602506ac0"), looks := false }, kinds := [], alts := [], laidByText := true, laidKinds := [.data, .pinned], laidTests := true, laidLooks := .later }
def TypesWiderCardSaid : Prop := Claim7.holds Tryz.pinned (.plain (OpenSpec.ofChange typesWiderSpec)) typesWiderCard

/-- THE TIED CARD OF 'heptadlaw02.TypesForms'. -/
def typesFormsCard : Claim7 := { stood := { row := typesFormsRow, standIns := [], harness := (true, "0fff1d2b61fe8e635ea5688075a1d38a20d22f074098a6212e9abdc602506ac0"), looks := false }, kinds := [], alts := [], laidByText := true, laidKinds := [.data, .pinned], laidTests := true, laidLooks := .later }
def TypesFormsCardSaid : Prop := Claim7.holds Tryz.pinned (.plain (OpenSpec.ofChange typesFormsSpec)) typesFormsCard

/-- THE TIED CARD OF 'heptadlaw02.TypesPlain'. -/
def typesPlainCard : Claim7 := { stood := { row := typesPlainRow, standIns := [], harness := (true, "0fff1d2b61fe8e635ea5688075a1d38a20d22f074098a6212e9abdc602506ac0"), looks := false }, kinds := [], alts := [], laidByText := true, laidKinds := [.data, .pinned], laidTests := true, laidLooks := .later }
def TypesPlainCardSaid : Prop := Claim7.holds Tryz.pinned (.plain (OpenSpec.ofChange typesPlainSpec)) typesPlainCard

/-- THE TIED CARD OF 'heptadlaw02.TypesKeeps'. -/
def typesKeepsCard : Claim7 := { stood := { row := typesKeepsRow, standIns := [], harness := (true, "0fff1d2b61fe8e635ea5688075a1d38a20d22f074098a6212e9abdc602506ac0"), looks := false }, kinds := [], alts := [], laidByText := true, laidKinds := [.data, .pinned], laidTests := true, laidLooks := .later }
def TypesKeepsCardSaid : Prop := Claim7.holds Tryz.pinned (.plain (OpenSpec.ofChange typesKeepsSpec)) typesKeepsCard

/-- THE SECOND FORM's CARD OF 'heptadlaw02.TypesFits'. -/
def typesFitsUptoCard : Claim7 := { stood := { row := typesFitsUptoRow, standIns := [], harness := (true, "0fff1d2b61fe8e635ea5688075a1d38a20d22f074098a6212e9abdc602506ac0"), looks := false }, kinds := [], alts := [], laidByText := true, laidKinds := [.data, .pinned], laidTests := true, laidLooks := .later }
def TypesFitsUptoCardSaid : Prop := Claim7.holds Tryz.pinned (.plain (OpenSpec.upto typesFitsSpec)) typesFitsUptoCard

/-- THE SECOND FORM's CARD OF 'heptadlaw02.TypesWider'. -/
def typesWiderUptoCard : Claim7 := { stood := { row := typesWiderUptoRow, standIns := [], harness := (true, "0fff1d2b61fe8e635ea5688075a1d38a20d22f074098a6212e9abdc602506ac0"), looks := false }, kinds := [], alts := [], laidByText := true, laidKinds := [.data, .pinned], laidTests := true, laidLooks := .later }
def TypesWiderUptoCardSaid : Prop := Claim7.holds Tryz.pinned (.plain (OpenSpec.upto typesWiderSpec)) typesWiderUptoCard

/-- THE SECOND FORM's CARD OF 'heptadlaw02.TypesForms'. -/
def typesFormsUptoCard : Claim7 := { stood := { row := typesFormsUptoRow, standIns := [], harness := (true, "0fff1d2b61fe8e635ea5688075a1d38a20d22f074098a6212e9abdc602506ac0"), looks := false }, kinds := [], alts := [], laidByText := true, laidKinds := [.data, .pinned], laidTests := true, laidLooks := .later }
def TypesFormsUptoCardSaid : Prop := Claim7.holds Tryz.pinned (.plain (OpenSpec.upto typesFormsSpec)) typesFormsUptoCard

/-- THE SECOND FORM's CARD OF 'heptadlaw02.TypesPlain'. -/
def typesPlainUptoCard : Claim7 := { stood := { row := typesPlainUptoRow, standIns := [], harness := (true, "0fff1d2b61fe8e635ea5688075a1d38a20d22f074098a6212e9abdc602506ac0"), looks := false }, kinds := [], alts := [], laidByText := true, laidKinds := [.data, .pinned], laidTests := true, laidLooks := .later }
def TypesPlainUptoCardSaid : Prop := Claim7.holds Tryz.pinned (.plain (OpenSpec.upto typesPlainSpec)) typesPlainUptoCard

/-- THE SECOND FORM's CARD OF 'heptadlaw02.TypesKeeps'. -/
def typesKeepsUptoCard : Claim7 := { stood := { row := typesKeepsUptoRow, standIns := [], harness := (true, "0fff1d2b61fe8e635ea5688075a1d38a20d22f074098a6212e9abdc602506ac0"), looks := false }, kinds := [], alts := [], laidByText := true, laidKinds := [.data, .pinned], laidTests := true, laidLooks := .later }
def TypesKeepsUptoCardSaid : Prop := Claim7.holds Tryz.pinned (.plain (OpenSpec.upto typesKeepsSpec)) typesKeepsUptoCard
end Rows
end Go.Proofs.YtpjajogdoccdhaaGreatDoor
