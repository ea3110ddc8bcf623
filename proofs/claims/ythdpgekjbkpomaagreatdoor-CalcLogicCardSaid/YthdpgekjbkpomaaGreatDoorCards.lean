/-
  DERIVED. GIVEN WITH THE SEED: THE CARDS: each row of YthdpgekjbkpomaaGreatDoorRows.lean that lists a variable, with what it lists TIED to the program's text (the seventh form; the later family's looks); each row that meets fmt, with fmt's text TOLD by the authors' own Lean function (tested against real Go, not proved from fmt's source: count such statements apart). THE CARD IS WHAT COUNTS. Prove the row's statement (the work); the ties are given (YthdpgekjbkpomaaGreatDoorTie.lean); close each card by the builder's one call (the guide's Derived/Test/ToyasCard.lean, 'card_holds'). Laid BY PROGRAM, IN A SANDBOX (cutbox-door.mjs). By AI agents, Wed Nov 11 2026. No macro, syntax, notation, axiom, sorry.
-/
import Derived.Test.YthdpgekjbkpomaaGreatDoorRows
import GoSem.ClaimSeven
namespace Go.Proofs.YthdpgekjbkpomaaGreatDoor
namespace Rows

/-- THE TIED CARD OF 'bureaulaw03.CalcReads'. -/
def calcReadsCard : Claim7 := { stood := { row := calcReadsRow, standIns := [], harness := (true, "19f0b51f93e2c9ddc361eac9fa7aadbc02c13bff50413731897071389326dbc9"), looks := true }, kinds := [], alts := [], laidByText := true, laidKinds := [.data, .data, .data, .data, .sentinel, .sentinel, .pinned], laidTests := true, laidLooks := .later }
def CalcReadsCardSaid : Prop := Claim7.holds Tryz.pinned (.plain (OpenSpec.ofChange calcReadsSpec)) calcReadsCard

/-- THE TIED CARD OF 'bureaulaw03.CalcUnary'. -/
def calcUnaryCard : Claim7 := { stood := { row := calcUnaryRow, standIns := [], harness := (true, "19f0b51f93e2c9ddc361eac9fa7aadbc02c13bff50413731897071389326dbc9"), looks := true }, kinds := [], alts := [], laidByText := true, laidKinds := [.data, .data, .data, .data, .sentinel, .sentinel, .pinned], laidTests := true, laidLooks := .later }
def CalcUnaryCardSaid : Prop := Claim7.holds Tryz.pinned (.plain (OpenSpec.ofChange calcUnarySpec)) calcUnaryCard

/-- THE TIED CARD OF 'bureaulaw03.CalcBinary'. -/
def calcBinaryCard : Claim7 := { stood := { row := calcBinaryRow, standIns := [], harness := (true, "19f0b51f93e2c9ddc361eac9fa7aadbc02c13bff50413731897071389326dbc9"), looks := true }, kinds := [], alts := [], laidByText := true, laidKinds := [.data, .data, .data, .data, .sentinel, .sentinel, .pinned], laidTests := true, laidLooks := .later }
def CalcBinaryCardSaid : Prop := Claim7.holds Tryz.pinned (.plain (OpenSpec.ofChange calcBinarySpec)) calcBinaryCard

/-- THE TIED CARD OF 'bureaulaw03.CalcIn'. -/
def calcInCard : Claim7 := { stood := { row := calcInRow, standIns := [], harness := (true, "19f0b51f93e2c9ddc361eac9fa7aadbc02c13bff50413731897071389326dbc9"), looks := true }, kinds := [], alts := [], laidByText := true, laidKinds := [.data, .data, .data, .data, .sentinel, .sentinel, .pinned], laidTests := true, laidLooks := .later }
def CalcInCardSaid : Prop := Claim7.holds Tryz.pinned (.plain (OpenSpec.ofChange calcInSpec)) calcInCard

/-- THE TIED CARD OF 'bureaulaw03.CalcLogic'. -/
def calcLogicCard : Claim7 := { stood := { row := calcLogicRow, standIns := [], harness := (true, "19f0b51f93e2c9ddc361eac9fa7aadbc02c13bff50413731897071389326dbc9"), looks := true }, kinds := [], alts := [], laidByText := true, laidKinds := [.data, .data, .data, .data, .sentinel, .sentinel, .pinned], laidTests := true, laidLooks := .later }
def CalcLogicCardSaid : Prop := Claim7.holds Tryz.pinned (.plain (OpenSpec.ofChange calcLogicSpec)) calcLogicCard

/-- THE TIED CARD OF 'bureaulaw03.CalcCast'. -/
def calcCastCard : Claim7 := { stood := { row := calcCastRow, standIns := [], harness := (true, "19f0b51f93e2c9ddc361eac9fa7aadbc02c13bff50413731897071389326dbc9"), looks := true }, kinds := [], alts := [], laidByText := true, laidKinds := [.data, .data, .data, .data, .sentinel, .sentinel, .pinned], laidTests := true, laidLooks := .later }
def CalcCastCardSaid : Prop := Claim7.holds Tryz.pinned (.plain (OpenSpec.ofChange calcCastSpec)) calcCastCard

/-- THE TIED CARD OF 'bureaulaw03.CalcAffinity'. -/
def calcAffinityCard : Claim7 := { stood := { row := calcAffinityRow, standIns := [], harness := (true, "19f0b51f93e2c9ddc361eac9fa7aadbc02c13bff50413731897071389326dbc9"), looks := true }, kinds := [], alts := [], laidByText := true, laidKinds := [.data, .data, .data, .data, .sentinel, .sentinel, .pinned], laidTests := true, laidLooks := .later }
def CalcAffinityCardSaid : Prop := Claim7.holds Tryz.pinned (.plain (OpenSpec.ofChange calcAffinitySpec)) calcAffinityCard

/-- THE TIED CARD OF 'bureaulaw03.CalcBack'. -/
def calcBackCard : Claim7 := { stood := { row := calcBackRow, standIns := [], harness := (true, "19f0b51f93e2c9ddc361eac9fa7aadbc02c13bff50413731897071389326dbc9"), looks := true }, kinds := [], alts := [], laidByText := true, laidKinds := [.data, .data, .data, .data, .sentinel, .sentinel, .pinned], laidTests := true, laidLooks := .later }
def CalcBackCardSaid : Prop := Claim7.holds Tryz.pinned (.plain (OpenSpec.ofChange calcBackSpec)) calcBackCard

/-- THE SECOND FORM's CARD OF 'bureaulaw03.CalcReads'. -/
def calcReadsUptoCard : Claim7 := { stood := { row := calcReadsUptoRow, standIns := [], harness := (true, "19f0b51f93e2c9ddc361eac9fa7aadbc02c13bff50413731897071389326dbc9"), looks := true }, kinds := [], alts := [], laidByText := true, laidKinds := [.data, .data, .data, .data, .sentinel, .sentinel, .pinned], laidTests := true, laidLooks := .later }
def CalcReadsUptoCardSaid : Prop := Claim7.holds Tryz.pinned (.plain (OpenSpec.upto calcReadsSpec)) calcReadsUptoCard

/-- THE SECOND FORM's CARD OF 'bureaulaw03.CalcUnary'. -/
def calcUnaryUptoCard : Claim7 := { stood := { row := calcUnaryUptoRow, standIns := [], harness := (true, "19f0b51f93e2c9ddc361eac9fa7aadbc02c13bff50413731897071389326dbc9"), looks := true }, kinds := [], alts := [], laidByText := true, laidKinds := [.data, .data, .data, .data, .sentinel, .sentinel, .pinned], laidTests := true, laidLooks := .later }
def CalcUnaryUptoCardSaid : Prop := Claim7.holds Tryz.pinned (.plain (OpenSpec.upto calcUnarySpec)) calcUnaryUptoCard

/-- THE SECOND FORM's CARD OF 'bureaulaw03.CalcBinary'. -/
def calcBinaryUptoCard : Claim7 := { stood := { row := calcBinaryUptoRow, standIns := [], harness := (true, "19f0b51f93e2c9ddc361eac9fa7aadbc02c13bff50413731897071389326dbc9"), looks := true }, kinds := [], alts := [], laidByText := true, laidKinds := [.data, .data, .data, .data, .sentinel, .sentinel, .pinned], laidTests := true, laidLooks := .later }
def CalcBinaryUptoCardSaid : Prop := Claim7.holds Tryz.pinned (.plain (OpenSpec.upto calcBinarySpec)) calcBinaryUptoCard

/-- THE SECOND FORM's CARD OF 'bureaulaw03.CalcIn'. -/
def calcInUptoCard : Claim7 := { stood := { row := calcInUptoRow, standIns := [], harness := (true, "19f0b51f93e2c9ddc361eac9fa7aadbc02c13bff50413731897071389326dbc9"), looks := true }, kinds := [], alts := [], laidByText := true, laidKinds := [.data, .data, .data, .data, .sentinel, .sentinel, .pinned], laidTests := true, laidLooks := .later }
def CalcInUptoCardSaid : Prop := Claim7.holds Tryz.pinned (.plain (OpenSpec.upto calcInSpec)) calcInUptoCard

/-- THE SECOND FORM's CARD OF 'bureaulaw03.CalcLogic'. -/
def calcLogicUptoCard : Claim7 := { stood := { row := calcLogicUptoRow, standIns := [], harness := (true, "19f0b51f93e2c9ddc361eac9fa7aadbc02c13bff50413731897071389326dbc9"), looks := true }, kinds := [], alts := [], laidByText := true, laidKinds := [.data, .data, .data, .data, .sentinel, .sentinel, .pinned], laidTests := true, laidLooks := .later }
def CalcLogicUptoCardSaid : Prop := Claim7.holds Tryz.pinned (.plain (OpenSpec.upto calcLogicSpec)) calcLogicUptoCard

/-- THE SECOND FORM's CARD OF 'bureaulaw03.CalcCast'. -/
def calcCastUptoCard : Claim7 := { stood := { row := calcCastUptoRow, standIns := [], harness := (true, "19f0b51f93e2c9ddc361eac9fa7aadbc02c13bff50413731897071389326dbc9"), looks := true }, kinds := [], alts := [], laidByText := true, laidKinds := [.data, .data, .data, .data, .sentinel, .sentinel, .pinned], laidTests := true, laidLooks := .later }
def CalcCastUptoCardSaid : Prop := Claim7.holds Tryz.pinned (.plain (OpenSpec.upto calcCastSpec)) calcCastUptoCard

/-- THE SECOND FORM's CARD OF 'bureaulaw03.CalcAffinity'. -/
def calcAffinityUptoCard : Claim7 := { stood := { row := calcAffinityUptoRow, standIns := [], harness := (true, "19f0b51f93e2c9ddc361eac9fa7aadbc02c13bff50413731897071389326dbc9"), looks := true }, kinds := [], alts := [], laidByText := true, laidKinds := [.data, .data, .data, .data, .sentinel, .sentinel, .pinned], laidTests := true, laidLooks := .later }
def CalcAffinityUptoCardSaid : Prop := Claim7.holds Tryz.pinned (.plain (OpenSpec.upto calcAffinitySpec)) calcAffinityUptoCard

/-- THE SECOND FORM's CARD OF 'bureaulaw03.CalcBack'. -/
def calcBackUptoCard : Claim7 := { stood := { row := calcBackUptoRow, standIns := [], harness := (true, "19f0b51f93e2c9ddc361eac9fa7aadbc02c13bff50413731897071389326dbc9"), looks := true }, kinds := [], alts := [], laidByText := true, laidKinds := [.data, .data, .data, .data, .sentinel, .sentinel, .pinned], laidTests := true, laidLooks := .later }
def CalcBackUptoCardSaid : Prop := Claim7.holds Tryz.pinned (.plain (OpenSpec.upto calcBackSpec)) calcBackUptoCard
end Rows
end Go.Proofs.YthdpgekjbkpomaaGreatDoor
