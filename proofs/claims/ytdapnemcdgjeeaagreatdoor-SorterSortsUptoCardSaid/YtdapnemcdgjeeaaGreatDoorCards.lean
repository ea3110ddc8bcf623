/-
  DERIVED. GIVEN WITH THE SEED: THE CARDS: each row of YtdapnemcdgjeeaaGreatDoorRows.lean that lists a variable, with what it lists TIED to the program's text (the seventh form; the later family's looks); each row that meets fmt, with fmt's text TOLD by the authors' own Lean function (tested against real Go, not proved from fmt's source: count such statements apart). THE CARD IS WHAT COUNTS. Prove the row's statement (the work); the ties are given (YtdapnemcdgjeeaaGreatDoorTie.lean); close each card by the builder's one call (the guide's Derived/Test/ToyasCard.lean, 'card_holds'). Laid BY PROGRAM, IN A SANDBOX (cutbox-door.mjs). By AI agents, Wed Nov 11 2026. No macro, syntax, notation, axiom, sorry.
-/
import Derived.Test.YtdapnemcdgjeeaaGreatDoorRows
import GoSem.ClaimSeven
namespace Go.Proofs.YtdapnemcdgjeeaaGreatDoor
namespace Rows

/-- THE TIED CARD OF 'bureaulaw20.SorterSorts'. -/
def sorterSortsCard : Claim7 := { stood := { row := sorterSortsRow, standIns := [], harness := (true, "71a9cbef4b4897ee7a9d97cdac9e416ab93ba5761100c144d0944712a3c58bc0"), looks := true }, kinds := [], alts := [], laidByText := true, laidKinds := [.data, .data, .data, .data, .pinned, .pinned, .pinned, .pinned, .pinned, .pinned], laidTests := true, laidLooks := .later }
def SorterSortsCardSaid : Prop := Claim7.holds Tryz.pinned (.plain (OpenSpec.ofChange sorterSortsSpec)) sorterSortsCard

/-- THE TIED CARD OF 'bureaulaw19.AggOf'. -/
def aggOfCard : Claim7 := { stood := { row := aggOfRow, standIns := [], harness := (true, "71a9cbef4b4897ee7a9d97cdac9e416ab93ba5761100c144d0944712a3c58bc0"), looks := true }, kinds := [], alts := [], laidByText := true, laidKinds := [.data, .data, .data, .data, .pinned], laidTests := true, laidLooks := .later }
def AggOfCardSaid : Prop := Claim7.holds Tryz.pinned (.plain (OpenSpec.ofChange aggOfSpec)) aggOfCard

/-- THE TIED CARD OF 'bureaulaw19.AggHas'. -/
def aggHasCard : Claim7 := { stood := { row := aggHasRow, standIns := [], harness := (true, "71a9cbef4b4897ee7a9d97cdac9e416ab93ba5761100c144d0944712a3c58bc0"), looks := true }, kinds := [], alts := [], laidByText := true, laidKinds := [.data, .pinned], laidTests := true, laidLooks := .later }
def AggHasCardSaid : Prop := Claim7.holds Tryz.pinned (.plain (OpenSpec.ofChange aggHasSpec)) aggHasCard

/-- THE TIED CARD OF 'bureaulaw19.AggParts'. -/
def aggPartsCard : Claim7 := { stood := { row := aggPartsRow, standIns := [], harness := (true, "71a9cbef4b4897ee7a9d97cdac9e416ab93ba5761100c144d0944712a3c58bc0"), looks := true }, kinds := [], alts := [], laidByText := true, laidKinds := [.data, .pinned], laidTests := true, laidLooks := .later }
def AggPartsCardSaid : Prop := Claim7.holds Tryz.pinned (.plain (OpenSpec.ofChange aggPartsSpec)) aggPartsCard

/-- THE TIED CARD OF 'bureaulaw19.AggSteps'. -/
def aggStepsCard : Claim7 := { stood := { row := aggStepsRow, standIns := [], harness := (true, "71a9cbef4b4897ee7a9d97cdac9e416ab93ba5761100c144d0944712a3c58bc0"), looks := true }, kinds := [], alts := [], laidByText := true, laidKinds := [.data, .data, .data, .data, .pinned], laidTests := true, laidLooks := .later }
def AggStepsCardSaid : Prop := Claim7.holds Tryz.pinned (.plain (OpenSpec.ofChange aggStepsSpec)) aggStepsCard

/-- THE SECOND FORM's CARD OF 'bureaulaw20.SorterSorts'. -/
def sorterSortsUptoCard : Claim7 := { stood := { row := sorterSortsUptoRow, standIns := [], harness := (true, "71a9cbef4b4897ee7a9d97cdac9e416ab93ba5761100c144d0944712a3c58bc0"), looks := true }, kinds := [], alts := [], laidByText := true, laidKinds := [.data, .data, .data, .data, .pinned, .pinned, .pinned, .pinned, .pinned, .pinned], laidTests := true, laidLooks := .later }
def SorterSortsUptoCardSaid : Prop := Claim7.holds Tryz.pinned (.plain (OpenSpec.upto sorterSortsSpec)) sorterSortsUptoCard

/-- THE SECOND FORM's CARD OF 'bureaulaw19.AggOf'. -/
def aggOfUptoCard : Claim7 := { stood := { row := aggOfUptoRow, standIns := [], harness := (true, "71a9cbef4b4897ee7a9d97cdac9e416ab93ba5761100c144d0944712a3c58bc0"), looks := true }, kinds := [], alts := [], laidByText := true, laidKinds := [.data, .data, .data, .data, .pinned], laidTests := true, laidLooks := .later }
def AggOfUptoCardSaid : Prop := Claim7.holds Tryz.pinned (.plain (OpenSpec.upto aggOfSpec)) aggOfUptoCard

/-- THE SECOND FORM's CARD OF 'bureaulaw19.AggHas'. -/
def aggHasUptoCard : Claim7 := { stood := { row := aggHasUptoRow, standIns := [], harness := (true, "71a9cbef4b4897ee7a9d97cdac9e416ab93ba5761100c144d0944712a3c58bc0"), looks := true }, kinds := [], alts := [], laidByText := true, laidKinds := [.data, .pinned], laidTests := true, laidLooks := .later }
def AggHasUptoCardSaid : Prop := Claim7.holds Tryz.pinned (.plain (OpenSpec.upto aggHasSpec)) aggHasUptoCard

/-- THE SECOND FORM's CARD OF 'bureaulaw19.AggParts'. -/
def aggPartsUptoCard : Claim7 := { stood := { row := aggPartsUptoRow, standIns := [], harness := (true, "71a9cbef4b4897ee7a9d97cdac9e416ab93ba5761100c144d0944712a3c58bc0"), looks := true }, kinds := [], alts := [], laidByText := true, laidKinds := [.data, .pinned], laidTests := true, laidLooks := .later }
def AggPartsUptoCardSaid : Prop := Claim7.holds Tryz.pinned (.plain (OpenSpec.upto aggPartsSpec)) aggPartsUptoCard

/-- THE SECOND FORM's CARD OF 'bureaulaw19.AggSteps'. -/
def aggStepsUptoCard : Claim7 := { stood := { row := aggStepsUptoRow, standIns := [], harness := (true, "71a9cbef4b4897ee7a9d97cdac9e416ab93ba5761100c144d0944712a3c58bc0"), looks := true }, kinds := [], alts := [], laidByText := true, laidKinds := [.data, .data, .data, .data, .pinned], laidTests := true, laidLooks := .later }
def AggStepsUptoCardSaid : Prop := Claim7.holds Tryz.pinned (.plain (OpenSpec.upto aggStepsSpec)) aggStepsUptoCard
end Rows
end Go.Proofs.YtdapnemcdgjeeaaGreatDoor
