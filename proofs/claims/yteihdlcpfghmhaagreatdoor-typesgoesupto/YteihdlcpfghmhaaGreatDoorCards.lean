/-
  DERIVED. GIVEN WITH THE SEED: THE CARDS: each row of YteihdlcpfghmhaaGreatDoorRows.lean that lists a variable, with what it lists TIED to the program's text (the seventh form; the later family's looks); each row that meets fmt, with fmt's text TOLD by the authors' own Lean function (tested against real Go, not proved from fmt's source: count such statements apart). THE CARD IS WHAT COUNTS. Prove the row's statement (the work); the ties are given (YteihdlcpfghmhaaGreatDoorTie.lean); close each card by the builder's one call (the guide's Derived/Test/ToyasCard.lean, 'card_holds'). Laid BY PROGRAM, IN A SANDBOX (cutbox-door.mjs). By AI agents, Wed Nov 11 2026. No macro, syntax, notation, axiom, sorry.
-/
import Derived.Test.YteihdlcpfghmhaaGreatDoorRows
import GoSem.ClaimSeven
namespace Go.Proofs.YteihdlcpfghmhaaGreatDoor
namespace Rows

/-- THE TIED CARD OF 'heptadlaw02.TypesPaths'. -/
def typesPathsCard : Claim7 := { stood := { row := typesPathsRow, standIns := [], harness := (true, "341a25b0351b024a045b398d5e624ea681738ebad0d6515e7be15decbb16848a"), looks := true }, kinds := [], alts := [], laidByText := true, laidKinds := [.data, .data, .data, .data, .sentinel, .sentinel, .pinned], laidTests := true, laidLooks := .later }
def TypesPathsCardSaid : Prop := Claim7.holds Tryz.pinned (.plain (OpenSpec.ofChange typesPathsSpec)) typesPathsCard

/-- THE TIED CARD OF 'heptadlaw02.TypesGoes'. -/
def typesGoesCard : Claim7 := { stood := { row := typesGoesRow, standIns := [], harness := (true, "341a25b0351b024a045b398d5e624ea681738ebad0d6515e7be15decbb16848a"), looks := true }, kinds := [], alts := [], laidByText := true, laidKinds := [.data, .data, .data, .data, .sentinel, .sentinel, .pinned], laidTests := true, laidLooks := .later }
def TypesGoesCardSaid : Prop := Claim7.holds Tryz.pinned (.plain (OpenSpec.ofChange typesGoesSpec)) typesGoesCard

/-- THE SECOND FORM's CARD OF 'heptadlaw02.TypesPaths'. -/
def typesPathsUptoCard : Claim7 := { stood := { row := typesPathsUptoRow, standIns := [], harness := (true, "341a25b0351b024a045b398d5e624ea681738ebad0d6515e7be15decbb16848a"), looks := true }, kinds := [], alts := [], laidByText := true, laidKinds := [.data, .data, .data, .data, .sentinel, .sentinel, .pinned], laidTests := true, laidLooks := .later }
def TypesPathsUptoCardSaid : Prop := Claim7.holds Tryz.pinned (.plain (OpenSpec.upto typesPathsSpec)) typesPathsUptoCard

/-- THE SECOND FORM's CARD OF 'heptadlaw02.TypesGoes'. -/
def typesGoesUptoCard : Claim7 := { stood := { row := typesGoesUptoRow, standIns := [], harness := (true, "341a25b0351b024a045b398d5e624ea681738ebad0d6515e7be15decbb16848a"), looks := true }, kinds := [], alts := [], laidByText := true, laidKinds := [.data, .data, .data, .data, .sentinel, .sentinel, .pinned], laidTests := true, laidLooks := .later }
def TypesGoesUptoCardSaid : Prop := Claim7.holds Tryz.pinned (.plain (OpenSpec.upto typesGoesSpec)) typesGoesUptoCard
end Rows
end Go.Proofs.YteihdlcpfghmhaaGreatDoor
