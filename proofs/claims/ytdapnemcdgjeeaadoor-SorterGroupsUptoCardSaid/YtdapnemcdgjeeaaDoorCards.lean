/-
  DERIVED. GIVEN WITH THE SEED: THE CARDS: each row of YtdapnemcdgjeeaaDoorRows.lean that lists a variable, with what it lists TIED to the program's text (the seventh form; the later family's looks); each row that meets fmt, with fmt's text TOLD by the authors' own Lean function (tested against real Go, not proved from fmt's source: count such statements apart). THE CARD IS WHAT COUNTS. Prove the row's statement (the work); the ties are given (YtdapnemcdgjeeaaDoorTie.lean); close each card by the builder's one call (the guide's Derived/Test/ToyasCard.lean, 'card_holds'). Laid BY PROGRAM, IN A SANDBOX (cutbox-door.mjs). By AI agents, Wed Nov 11 2026. No macro, syntax, notation, axiom, sorry.
-/
import Derived.Test.YtdapnemcdgjeeaaDoorRows
import GoSem.ClaimSeven
namespace Go.Proofs.YtdapnemcdgjeeaaDoor
namespace Rows

/-- THE TIED CARD OF 'bureaulaw20.SorterTells'. -/
def sorterTellsCard : Claim7 := { stood := { row := sorterTellsRow, standIns := [], harness := (true, "b09c99f9c46711d7799d8d9385277a6d9ea565047ad24382082850735d459d26"), looks := false }, kinds := [], alts := [], laidByText := true, laidKinds := [.data, .data, .data, .data, .pinned, .pinned, .pinned, .pinned, .pinned, .pinned], laidTests := true, laidLooks := .later }
def SorterTellsCardSaid : Prop := Claim7.holds Tryd.pinned (.plain (OpenSpec.ofChange sorterTellsSpec)) sorterTellsCard

/-- THE TIED CARD OF 'bureaulaw20.SorterSets'. -/
def sorterSetsCard : Claim7 := { stood := { row := sorterSetsRow, standIns := [], harness := (true, "b09c99f9c46711d7799d8d9385277a6d9ea565047ad24382082850735d459d26"), looks := false }, kinds := [], alts := [], laidByText := true, laidKinds := [.data, .data, .data, .data, .pinned, .pinned, .pinned, .pinned, .pinned, .pinned], laidTests := true, laidLooks := .later }
def SorterSetsCardSaid : Prop := Claim7.holds Tryd.pinned (.plain (OpenSpec.ofChange sorterSetsSpec)) sorterSetsCard

/-- THE TIED CARD OF 'bureaulaw20.SorterGroups'. -/
def sorterGroupsCard : Claim7 := { stood := { row := sorterGroupsRow, standIns := [], harness := (true, "b09c99f9c46711d7799d8d9385277a6d9ea565047ad24382082850735d459d26"), looks := false }, kinds := [], alts := [], laidByText := true, laidKinds := [.data, .data, .data, .data, .pinned, .pinned, .pinned, .pinned, .pinned, .pinned], laidTests := true, laidLooks := .later }
def SorterGroupsCardSaid : Prop := Claim7.holds Tryd.pinned (.plain (OpenSpec.ofChange sorterGroupsSpec)) sorterGroupsCard

/-- THE TIED CARD OF 'bureaulaw20.SorterKeeps'. -/
def sorterKeepsCard : Claim7 := { stood := { row := sorterKeepsRow, standIns := [], harness := (true, "b09c99f9c46711d7799d8d9385277a6d9ea565047ad24382082850735d459d26"), looks := false }, kinds := [], alts := [], laidByText := true, laidKinds := [.data, .data, .data, .data, .pinned, .pinned, .pinned, .pinned, .pinned, .pinned], laidTests := true, laidLooks := .later }
def SorterKeepsCardSaid : Prop := Claim7.holds Tryd.pinned (.plain (OpenSpec.ofChange sorterKeepsSpec)) sorterKeepsCard

/-- THE SECOND FORM's CARD OF 'bureaulaw20.SorterTells'. -/
def sorterTellsUptoCard : Claim7 := { stood := { row := sorterTellsUptoRow, standIns := [], harness := (true, "b09c99f9c46711d7799d8d9385277a6d9ea565047ad24382082850735d459d26"), looks := false }, kinds := [], alts := [], laidByText := true, laidKinds := [.data, .data, .data, .data, .pinned, .pinned, .pinned, .pinned, .pinned, .pinned], laidTests := true, laidLooks := .later }
def SorterTellsUptoCardSaid : Prop := Claim7.holds Tryd.pinned (.plain (OpenSpec.upto sorterTellsSpec)) sorterTellsUptoCard

/-- THE SECOND FORM's CARD OF 'bureaulaw20.SorterSets'. -/
def sorterSetsUptoCard : Claim7 := { stood := { row := sorterSetsUptoRow, standIns := [], harness := (true, "b09c99f9c46711d7799d8d9385277a6d9ea565047ad24382082850735d459d26"), looks := false }, kinds := [], alts := [], laidByText := true, laidKinds := [.data, .data, .data, .data, .pinned, .pinned, .pinned, .pinned, .pinned, .pinned], laidTests := true, laidLooks := .later }
def SorterSetsUptoCardSaid : Prop := Claim7.holds Tryd.pinned (.plain (OpenSpec.upto sorterSetsSpec)) sorterSetsUptoCard

/-- THE SECOND FORM's CARD OF 'bureaulaw20.SorterGroups'. -/
def sorterGroupsUptoCard : Claim7 := { stood := { row := sorterGroupsUptoRow, standIns := [], harness := (true, "b09c99f9c46711d7799d8d9385277a6d9ea565047ad24382082850735d459d26"), looks := false }, kinds := [], alts := [], laidByText := true, laidKinds := [.data, .data, .data, .data, .pinned, .pinned, .pinned, .pinned, .pinned, .pinned], laidTests := true, laidLooks := .later }
def SorterGroupsUptoCardSaid : Prop := Claim7.holds Tryd.pinned (.plain (OpenSpec.upto sorterGroupsSpec)) sorterGroupsUptoCard

/-- THE SECOND FORM's CARD OF 'bureaulaw20.SorterKeeps'. -/
def sorterKeepsUptoCard : Claim7 := { stood := { row := sorterKeepsUptoRow, standIns := [], harness := (true, "b09c99f9c46711d7799d8d9385277a6d9ea565047ad24382082850735d459d26"), looks := false }, kinds := [], alts := [], laidByText := true, laidKinds := [.data, .data, .data, .data, .pinned, .pinned, .pinned, .pinned, .pinned, .pinned], laidTests := true, laidLooks := .later }
def SorterKeepsUptoCardSaid : Prop := Claim7.holds Tryd.pinned (.plain (OpenSpec.upto sorterKeepsSpec)) sorterKeepsUptoCard
end Rows
end Go.Proofs.YtdapnemcdgjeeaaDoor
