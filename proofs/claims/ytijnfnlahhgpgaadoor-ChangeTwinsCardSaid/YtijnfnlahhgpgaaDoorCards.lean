/-
  DERIVED. GIVEN WITH THE SEED: THE CARDS: each row of YtijnfnlahhgpgaaDoorRows.lean that lists a variable, with what it lists TIED to the program's text (the seventh form; the later family's looks); each row that meets fmt, with fmt's text TOLD by the authors' own Lean function (tested against real Go, not proved from fmt's source: count such statements apart). THE CARD IS WHAT COUNTS. Prove the row's statement (the work); the ties are given (YtijnfnlahhgpgaaDoorTie.lean); close each card by the builder's one call (the guide's Derived/Test/ToyasCard.lean, 'card_holds'). Laid BY PROGRAM, IN A SANDBOX (cutbox-door.mjs). By AI agents, Wed Nov 11 2026. No macro, syntax, notation, axiom, sorry.
-/
import Derived.Test.YtijnfnlahhgpgaaDoorRows
import GoSem.ClaimSeven
namespace Go.Proofs.YtijnfnlahhgpgaaDoor
namespace Rows

/-- THE TIED CARD OF 'engrosslaw16.ChangeBytes'. -/
def changeBytesCard : Claim7 := { stood := { row := changeBytesRow, standIns := [], harness := (true, "90cc1889583687c8ecf552771be6381d1a0e26ef6bc9722a0a21bfeb8804023a"), looks := false }, kinds := [], alts := [], laidByText := true, laidKinds := [.data, .pinned], laidTests := true, laidLooks := .later }
def ChangeBytesCardSaid : Prop := Claim7.holds Tryd.pinned (.plain (OpenSpec.ofChange changeBytesSpec)) changeBytesCard

/-- THE TIED CARD OF 'engrosslaw16.ChangeAny'. -/
def changeAnyCard : Claim7 := { stood := { row := changeAnyRow, standIns := [], harness := (true, "90cc1889583687c8ecf552771be6381d1a0e26ef6bc9722a0a21bfeb8804023a"), looks := false }, kinds := [], alts := [], laidByText := true, laidKinds := [.data, .pinned], laidTests := true, laidLooks := .later }
def ChangeAnyCardSaid : Prop := Claim7.holds Tryd.pinned (.plain (OpenSpec.ofChange changeAnySpec)) changeAnyCard

/-- THE TIED CARD OF 'engrosslaw16.ChangeMany'. -/
def changeManyCard : Claim7 := { stood := { row := changeManyRow, standIns := [], harness := (true, "90cc1889583687c8ecf552771be6381d1a0e26ef6bc9722a0a21bfeb8804023a"), looks := false }, kinds := [], alts := [], laidByText := true, laidKinds := [.data, .pinned], laidTests := true, laidLooks := .later }
def ChangeManyCardSaid : Prop := Claim7.holds Tryd.pinned (.plain (OpenSpec.ofChange changeManySpec)) changeManyCard

/-- THE TIED CARD OF 'engrosslaw16.ChangeTwins'. -/
def changeTwinsCard : Claim7 := { stood := { row := changeTwinsRow, standIns := [], harness := (true, "90cc1889583687c8ecf552771be6381d1a0e26ef6bc9722a0a21bfeb8804023a"), looks := false }, kinds := [], alts := [], laidByText := true, laidKinds := [.data, .pinned], laidTests := true, laidLooks := .later }
def ChangeTwinsCardSaid : Prop := Claim7.holds Tryd.pinned (.plain (OpenSpec.ofChange changeTwinsSpec)) changeTwinsCard

/-- THE TIED CARD OF 'engrosslaw16.ChangeZero'. -/
def changeZeroCard : Claim7 := { stood := { row := changeZeroRow, standIns := [], harness := (true, "90cc1889583687c8ecf552771be6381d1a0e26ef6bc9722a0a21bfeb8804023a"), looks := false }, kinds := [], alts := [], laidByText := true, laidKinds := [.data, .pinned], laidTests := true, laidLooks := .later }
def ChangeZeroCardSaid : Prop := Claim7.holds Tryd.pinned (.plain (OpenSpec.ofChange changeZeroSpec)) changeZeroCard

/-- THE TIED CARD OF 'engrosslaw16.ChangeOwn'. -/
def changeOwnCard : Claim7 := { stood := { row := changeOwnRow, standIns := [], harness := (true, "90cc1889583687c8ecf552771be6381d1a0e26ef6bc9722a0a21bfeb8804023a"), looks := false }, kinds := [], alts := [], laidByText := true, laidKinds := [.data, .pinned], laidTests := true, laidLooks := .later }
def ChangeOwnCardSaid : Prop := Claim7.holds Tryd.pinned (.plain (OpenSpec.ofChange changeOwnSpec)) changeOwnCard

/-- THE SECOND FORM's CARD OF 'engrosslaw16.ChangeBytes'. -/
def changeBytesUptoCard : Claim7 := { stood := { row := changeBytesUptoRow, standIns := [], harness := (true, "90cc1889583687c8ecf552771be6381d1a0e26ef6bc9722a0a21bfeb8804023a"), looks := false }, kinds := [], alts := [], laidByText := true, laidKinds := [.data, .pinned], laidTests := true, laidLooks := .later }
def ChangeBytesUptoCardSaid : Prop := Claim7.holds Tryd.pinned (.plain (OpenSpec.upto changeBytesSpec)) changeBytesUptoCard

/-- THE SECOND FORM's CARD OF 'engrosslaw16.ChangeAny'. -/
def changeAnyUptoCard : Claim7 := { stood := { row := changeAnyUptoRow, standIns := [], harness := (true, "90cc1889583687c8ecf552771be6381d1a0e26ef6bc9722a0a21bfeb8804023a"), looks := false }, kinds := [], alts := [], laidByText := true, laidKinds := [.data, .pinned], laidTests := true, laidLooks := .later }
def ChangeAnyUptoCardSaid : Prop := Claim7.holds Tryd.pinned (.plain (OpenSpec.upto changeAnySpec)) changeAnyUptoCard

/-- THE SECOND FORM's CARD OF 'engrosslaw16.ChangeMany'. -/
def changeManyUptoCard : Claim7 := { stood := { row := changeManyUptoRow, standIns := [], harness := (true, "90cc1889583687c8ecf552771be6381d1a0e26ef6bc9722a0a21bfeb8804023a"), looks := false }, kinds := [], alts := [], laidByText := true, laidKinds := [.data, .pinned], laidTests := true, laidLooks := .later }
def ChangeManyUptoCardSaid : Prop := Claim7.holds Tryd.pinned (.plain (OpenSpec.upto changeManySpec)) changeManyUptoCard

/-- THE SECOND FORM's CARD OF 'engrosslaw16.ChangeTwins'. -/
def changeTwinsUptoCard : Claim7 := { stood := { row := changeTwinsUptoRow, standIns := [], harness := (true, "90cc1889583687c8ecf552771be6381d1a0e26ef6bc9722a0a21bfeb8804023a"), looks := false }, kinds := [], alts := [], laidByText := true, laidKinds := [.data, .pinned], laidTests := true, laidLooks := .later }
def ChangeTwinsUptoCardSaid : Prop := Claim7.holds Tryd.pinned (.plain (OpenSpec.upto changeTwinsSpec)) changeTwinsUptoCard

/-- THE SECOND FORM's CARD OF 'engrosslaw16.ChangeZero'. -/
def changeZeroUptoCard : Claim7 := { stood := { row := changeZeroUptoRow, standIns := [], harness := (true, "90cc1889583687c8ecf552771be6381d1a0e26ef6bc9722a0a21bfeb8804023a"), looks := false }, kinds := [], alts := [], laidByText := true, laidKinds := [.data, .pinned], laidTests := true, laidLooks := .later }
def ChangeZeroUptoCardSaid : Prop := Claim7.holds Tryd.pinned (.plain (OpenSpec.upto changeZeroSpec)) changeZeroUptoCard

/-- THE SECOND FORM's CARD OF 'engrosslaw16.ChangeOwn'. -/
def changeOwnUptoCard : Claim7 := { stood := { row := changeOwnUptoRow, standIns := [], harness := (true, "90cc1889583687c8ecf552771be6381d1a0e26ef6bc9722a0a21bfeb8804023a"), looks := false }, kinds := [], alts := [], laidByText := true, laidKinds := [.data, .pinned], laidTests := true, laidLooks := .later }
def ChangeOwnUptoCardSaid : Prop := Claim7.holds Tryd.pinned (.plain (OpenSpec.upto changeOwnSpec)) changeOwnUptoCard
end Rows
end Go.Proofs.YtijnfnlahhgpgaaDoor
