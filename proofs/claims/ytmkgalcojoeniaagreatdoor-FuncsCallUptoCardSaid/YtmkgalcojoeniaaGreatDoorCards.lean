/-
  DERIVED. GIVEN WITH THE SEED: THE CARDS: each row of YtmkgalcojoeniaaGreatDoorRows.lean that lists a variable, with what it lists TIED to the program's text (the seventh form; the later family's looks); each row that meets fmt, with fmt's text TOLD by the authors' own Lean function (tested against real Go, not proved from fmt's source: count such statements apart). THE CARD IS WHAT COUNTS. Prove the row's statement (the work); the ties are given (YtmkgalcojoeniaaGreatDoorTie.lean); close each card by the builder's one call (the guide's Derived/Test/ToyasCard.lean, 'card_holds'). Laid BY PROGRAM, IN A SANDBOX (cutbox-door.mjs). By AI agents, Wed Nov 11 2026. No macro, syntax, notation, axiom, sorry.
-/
import Derived.Test.YtmkgalcojoeniaaGreatDoorRows
import GoSem.ClaimSeven
namespace Go.Proofs.YtmkgalcojoeniaaGreatDoor
namespace Rows

/-- THE TIED CARD OF 'bureaulaw18.FuncsCall'. -/
def funcsCallCard : Claim7 := { stood := { row := funcsCallRow, standIns := [], harness := (true, "38eea2c679e8701bca74015a1f50a1ad8443f7ec2964dfbfa179062f23d8e289"), looks := true }, kinds := [], alts := [], laidByText := true, laidKinds := [.data, .data, .data, .data, .sentinel, .sentinel, .pinned], laidTests := true, laidLooks := .later }
def FuncsCallCardSaid : Prop := Claim7.holds Tryz.pinned (.plain (OpenSpec.ofChange funcsCallSpec)) funcsCallCard

/-- THE TIED CARD OF 'bureaulaw18.FuncsNames'. -/
def funcsNamesCard : Claim7 := { stood := { row := funcsNamesRow, standIns := [], harness := (true, "38eea2c679e8701bca74015a1f50a1ad8443f7ec2964dfbfa179062f23d8e289"), looks := true }, kinds := [], alts := [], laidByText := true, laidKinds := [.data, .data, .data, .data, .sentinel, .sentinel, .pinned], laidTests := true, laidLooks := .later }
def FuncsNamesCardSaid : Prop := Claim7.holds Tryz.pinned (.plain (OpenSpec.ofChange funcsNamesSpec)) funcsNamesCard

/-- THE TIED CARD OF 'bureaulaw18.FuncsAgree'. -/
def funcsAgreeCard : Claim7 := { stood := { row := funcsAgreeRow, standIns := [], harness := (true, "38eea2c679e8701bca74015a1f50a1ad8443f7ec2964dfbfa179062f23d8e289"), looks := true }, kinds := [], alts := [], laidByText := true, laidKinds := [.data, .data, .data, .data, .sentinel, .sentinel, .pinned], laidTests := true, laidLooks := .later }
def FuncsAgreeCardSaid : Prop := Claim7.holds Tryz.pinned (.plain (OpenSpec.ofChange funcsAgreeSpec)) funcsAgreeCard

/-- THE TIED CARD OF 'bureaulaw18.FuncsLike'. -/
def funcsLikeCard : Claim7 := { stood := { row := funcsLikeRow, standIns := [], harness := (true, "38eea2c679e8701bca74015a1f50a1ad8443f7ec2964dfbfa179062f23d8e289"), looks := true }, kinds := [], alts := [], laidByText := true, laidKinds := [.data, .data, .data, .data, .sentinel, .sentinel, .pinned], laidTests := true, laidLooks := .later }
def FuncsLikeCardSaid : Prop := Claim7.holds Tryz.pinned (.plain (OpenSpec.ofChange funcsLikeSpec)) funcsLikeCard

/-- THE TIED CARD OF 'bureaulaw18.FuncsGlob'. -/
def funcsGlobCard : Claim7 := { stood := { row := funcsGlobRow, standIns := [], harness := (true, "38eea2c679e8701bca74015a1f50a1ad8443f7ec2964dfbfa179062f23d8e289"), looks := true }, kinds := [], alts := [], laidByText := true, laidKinds := [.data, .data, .data, .data, .sentinel, .sentinel, .pinned], laidTests := true, laidLooks := .later }
def FuncsGlobCardSaid : Prop := Claim7.holds Tryz.pinned (.plain (OpenSpec.ofChange funcsGlobSpec)) funcsGlobCard

/-- THE TIED CARD OF 'bureaulaw18.FuncsFit'. -/
def funcsFitCard : Claim7 := { stood := { row := funcsFitRow, standIns := [], harness := (true, "38eea2c679e8701bca74015a1f50a1ad8443f7ec2964dfbfa179062f23d8e289"), looks := true }, kinds := [], alts := [], laidByText := true, laidKinds := [.data, .data, .data, .data, .sentinel, .sentinel, .pinned], laidTests := true, laidLooks := .later }
def FuncsFitCardSaid : Prop := Claim7.holds Tryz.pinned (.plain (OpenSpec.ofChange funcsFitSpec)) funcsFitCard

/-- THE SECOND FORM's CARD OF 'bureaulaw18.FuncsCall'. -/
def funcsCallUptoCard : Claim7 := { stood := { row := funcsCallUptoRow, standIns := [], harness := (true, "38eea2c679e8701bca74015a1f50a1ad8443f7ec2964dfbfa179062f23d8e289"), looks := true }, kinds := [], alts := [], laidByText := true, laidKinds := [.data, .data, .data, .data, .sentinel, .sentinel, .pinned], laidTests := true, laidLooks := .later }
def FuncsCallUptoCardSaid : Prop := Claim7.holds Tryz.pinned (.plain (OpenSpec.upto funcsCallSpec)) funcsCallUptoCard

/-- THE SECOND FORM's CARD OF 'bureaulaw18.FuncsNames'. -/
def funcsNamesUptoCard : Claim7 := { stood := { row := funcsNamesUptoRow, standIns := [], harness := (true, "38eea2c679e8701bca74015a1f50a1ad8443f7ec2964dfbfa179062f23d8e289"), looks := true }, kinds := [], alts := [], laidByText := true, laidKinds := [.data, .data, .data, .data, .sentinel, .sentinel, .pinned], laidTests := true, laidLooks := .later }
def FuncsNamesUptoCardSaid : Prop := Claim7.holds Tryz.pinned (.plain (OpenSpec.upto funcsNamesSpec)) funcsNamesUptoCard

/-- THE SECOND FORM's CARD OF 'bureaulaw18.FuncsAgree'. -/
def funcsAgreeUptoCard : Claim7 := { stood := { row := funcsAgreeUptoRow, standIns := [], harness := (true, "38eea2c679e8701bca74015a1f50a1ad8443f7ec2964dfbfa179062f23d8e289"), looks := true }, kinds := [], alts := [], laidByText := true, laidKinds := [.data, .data, .data, .data, .sentinel, .sentinel, .pinned], laidTests := true, laidLooks := .later }
def FuncsAgreeUptoCardSaid : Prop := Claim7.holds Tryz.pinned (.plain (OpenSpec.upto funcsAgreeSpec)) funcsAgreeUptoCard

/-- THE SECOND FORM's CARD OF 'bureaulaw18.FuncsLike'. -/
def funcsLikeUptoCard : Claim7 := { stood := { row := funcsLikeUptoRow, standIns := [], harness := (true, "38eea2c679e8701bca74015a1f50a1ad8443f7ec2964dfbfa179062f23d8e289"), looks := true }, kinds := [], alts := [], laidByText := true, laidKinds := [.data, .data, .data, .data, .sentinel, .sentinel, .pinned], laidTests := true, laidLooks := .later }
def FuncsLikeUptoCardSaid : Prop := Claim7.holds Tryz.pinned (.plain (OpenSpec.upto funcsLikeSpec)) funcsLikeUptoCard

/-- THE SECOND FORM's CARD OF 'bureaulaw18.FuncsGlob'. -/
def funcsGlobUptoCard : Claim7 := { stood := { row := funcsGlobUptoRow, standIns := [], harness := (true, "38eea2c679e8701bca74015a1f50a1ad8443f7ec2964dfbfa179062f23d8e289"), looks := true }, kinds := [], alts := [], laidByText := true, laidKinds := [.data, .data, .data, .data, .sentinel, .sentinel, .pinned], laidTests := true, laidLooks := .later }
def FuncsGlobUptoCardSaid : Prop := Claim7.holds Tryz.pinned (.plain (OpenSpec.upto funcsGlobSpec)) funcsGlobUptoCard

/-- THE SECOND FORM's CARD OF 'bureaulaw18.FuncsFit'. -/
def funcsFitUptoCard : Claim7 := { stood := { row := funcsFitUptoRow, standIns := [], harness := (true, "38eea2c679e8701bca74015a1f50a1ad8443f7ec2964dfbfa179062f23d8e289"), looks := true }, kinds := [], alts := [], laidByText := true, laidKinds := [.data, .data, .data, .data, .sentinel, .sentinel, .pinned], laidTests := true, laidLooks := .later }
def FuncsFitUptoCardSaid : Prop := Claim7.holds Tryz.pinned (.plain (OpenSpec.upto funcsFitSpec)) funcsFitUptoCard
end Rows
end Go.Proofs.YtmkgalcojoeniaaGreatDoor
