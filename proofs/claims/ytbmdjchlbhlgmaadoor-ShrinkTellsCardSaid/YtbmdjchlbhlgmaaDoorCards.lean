/-
  DERIVED. GIVEN WITH THE SEED: THE CARDS: each row of YtbmdjchlbhlgmaaDoorRows.lean that lists a variable, with what it lists TIED to the program's text (the seventh form; the later family's looks); each row that meets fmt, with fmt's text TOLD by the authors' own Lean function (tested against real Go, not proved from fmt's source: count such statements apart). THE CARD IS WHAT COUNTS. Prove the row's statement (the work); the ties are given (YtbmdjchlbhlgmaaDoorTie.lean); close each card by the builder's one call (the guide's Derived/Test/ToyasCard.lean, 'card_holds'). Laid BY PROGRAM, IN A SANDBOX (cutbox-door.mjs). By AI agents, Wed Nov 11 2026. No macro, syntax, notation, axiom, sorry.
-/
import Derived.Test.YtbmdjchlbhlgmaaDoorRows
import GoSem.ClaimSeven
namespace Go.Proofs.YtbmdjchlbhlgmaaDoor
namespace Rows

/-- THE TIED CARD OF 'assayerlaw1.ExprTells'. -/
def exprTellsCard : Claim7 := { stood := { row := exprTellsRow, standIns := [], harness := (true, "7763ff21f124ac71be5c019553c571462ed83999219945b86d4d2c88536e8650"), looks := true }, kinds := [], alts := [], laidByText := true, laidKinds := [.handle, .data], laidTests := true, laidLooks := .later }
def ExprTellsCardSaid : Prop := Claim7.holds Tryd.pinned (.plain (OpenSpec.ofChange exprTellsSpec)) exprTellsCard

/-- THE TIED CARD OF 'assayerlaw1.GenTells'. -/
def genTellsCard : Claim7 := { stood := { row := genTellsRow, standIns := [], harness := (true, "7763ff21f124ac71be5c019553c571462ed83999219945b86d4d2c88536e8650"), looks := true }, kinds := [], alts := [], laidByText := true, laidKinds := [.handle], laidTests := true, laidLooks := .later }
def GenTellsCardSaid : Prop := Claim7.holds Tryd.pinned (.plain (OpenSpec.ofChange genTellsSpec)) genTellsCard

/-- THE TIED CARD OF 'assayerlaw1.RoseTells'. -/
def roseTellsCard : Claim7 := { stood := { row := roseTellsRow, standIns := [], harness := (true, "7763ff21f124ac71be5c019553c571462ed83999219945b86d4d2c88536e8650"), looks := true }, kinds := [], alts := [], laidByText := true, laidKinds := [.handle], laidTests := true, laidLooks := .later }
def RoseTellsCardSaid : Prop := Claim7.holds Tryd.pinned (.plain (OpenSpec.ofChange roseTellsSpec)) roseTellsCard

/-- THE TIED CARD OF 'assayerlaw1.RankTells'. -/
def rankTellsCard : Claim7 := { stood := { row := rankTellsRow, standIns := [], harness := (true, "7763ff21f124ac71be5c019553c571462ed83999219945b86d4d2c88536e8650"), looks := true }, kinds := [], alts := [], laidByText := true, laidKinds := [.handle], laidTests := true, laidLooks := .later }
def RankTellsCardSaid : Prop := Claim7.holds Tryd.pinned (.plain (OpenSpec.ofChange rankTellsSpec)) rankTellsCard

/-- THE TIED CARD OF 'assayerlaw1.ShrinkTells'. -/
def shrinkTellsCard : Claim7 := { stood := { row := shrinkTellsRow, standIns := [], harness := (true, "7763ff21f124ac71be5c019553c571462ed83999219945b86d4d2c88536e8650"), looks := true }, kinds := [], alts := [], laidByText := true, laidKinds := [.handle, .data], laidTests := true, laidLooks := .later }
def ShrinkTellsCardSaid : Prop := Claim7.holds Tryd.pinned (.plain (OpenSpec.ofChange shrinkTellsSpec)) shrinkTellsCard

/-- THE TIED CARD OF 'assayerlaw1.ValBack'. -/
def valBackCard : Claim7 := { stood := { row := valBackRow, standIns := [], harness := (true, "7763ff21f124ac71be5c019553c571462ed83999219945b86d4d2c88536e8650"), looks := true }, kinds := [], alts := [], laidByText := true, laidKinds := [.data, .data, .data, .sentinel, .sentinel], laidTests := true, laidLooks := .later }
def ValBackCardSaid : Prop := Claim7.holds Tryd.pinned (.plain (OpenSpec.ofChange valBackSpec)) valBackCard

/-- THE TIED CARD OF 'assayerlaw1.TapeBack'. -/
def tapeBackCard : Claim7 := { stood := { row := tapeBackRow, standIns := [], harness := (true, "7763ff21f124ac71be5c019553c571462ed83999219945b86d4d2c88536e8650"), looks := true }, kinds := [], alts := [], laidByText := true, laidKinds := [.data, .data, .data, .data, .sentinel, .sentinel, .pinned], laidTests := true, laidLooks := .later }
def TapeBackCardSaid : Prop := Claim7.holds Tryd.pinned (.plain (OpenSpec.ofChange tapeBackSpec)) tapeBackCard

/-- THE TIED CARD OF 'assayerlaw1.ValNests'. -/
def valNestsCard : Claim7 := { stood := { row := valNestsRow, standIns := [], harness := (true, "7763ff21f124ac71be5c019553c571462ed83999219945b86d4d2c88536e8650"), looks := true }, kinds := [], alts := [], laidByText := true, laidKinds := [.data, .data, .data, .handle, .sentinel, .sentinel], laidTests := true, laidLooks := .later }
def ValNestsCardSaid : Prop := Claim7.holds Tryd.pinned (.plain (OpenSpec.ofChange valNestsSpec)) valNestsCard

/-- THE TIED CARD OF 'assayerlaw1.ValTells'. -/
def valTellsCard : Claim7 := { stood := { row := valTellsRow, standIns := [], harness := (true, "7763ff21f124ac71be5c019553c571462ed83999219945b86d4d2c88536e8650"), looks := true }, kinds := [], alts := [], laidByText := true, laidKinds := [.data, .data, .data, .handle, .sentinel, .sentinel], laidTests := true, laidLooks := .later }
def ValTellsCardSaid : Prop := Claim7.holds Tryd.pinned (.plain (OpenSpec.ofChange valTellsSpec)) valTellsCard

/-- THE TIED CARD OF 'assayerlaw1.TapeTells'. -/
def tapeTellsCard : Claim7 := { stood := { row := tapeTellsRow, standIns := [], harness := (true, "7763ff21f124ac71be5c019553c571462ed83999219945b86d4d2c88536e8650"), looks := true }, kinds := [], alts := [], laidByText := true, laidKinds := [.data, .data, .data, .data, .handle, .sentinel, .sentinel, .pinned], laidTests := true, laidLooks := .later }
def TapeTellsCardSaid : Prop := Claim7.holds Tryd.pinned (.plain (OpenSpec.ofChange tapeTellsSpec)) tapeTellsCard

/-- THE SECOND FORM's CARD OF 'assayerlaw1.ExprTells'. -/
def exprTellsUptoCard : Claim7 := { stood := { row := exprTellsUptoRow, standIns := [], harness := (true, "7763ff21f124ac71be5c019553c571462ed83999219945b86d4d2c88536e8650"), looks := true }, kinds := [], alts := [], laidByText := true, laidKinds := [.handle, .data], laidTests := true, laidLooks := .later }
def ExprTellsUptoCardSaid : Prop := Claim7.holds Tryd.pinned (.plain (OpenSpec.upto exprTellsSpec)) exprTellsUptoCard

/-- THE SECOND FORM's CARD OF 'assayerlaw1.GenTells'. -/
def genTellsUptoCard : Claim7 := { stood := { row := genTellsUptoRow, standIns := [], harness := (true, "7763ff21f124ac71be5c019553c571462ed83999219945b86d4d2c88536e8650"), looks := true }, kinds := [], alts := [], laidByText := true, laidKinds := [.handle], laidTests := true, laidLooks := .later }
def GenTellsUptoCardSaid : Prop := Claim7.holds Tryd.pinned (.plain (OpenSpec.upto genTellsSpec)) genTellsUptoCard

/-- THE SECOND FORM's CARD OF 'assayerlaw1.RoseTells'. -/
def roseTellsUptoCard : Claim7 := { stood := { row := roseTellsUptoRow, standIns := [], harness := (true, "7763ff21f124ac71be5c019553c571462ed83999219945b86d4d2c88536e8650"), looks := true }, kinds := [], alts := [], laidByText := true, laidKinds := [.handle], laidTests := true, laidLooks := .later }
def RoseTellsUptoCardSaid : Prop := Claim7.holds Tryd.pinned (.plain (OpenSpec.upto roseTellsSpec)) roseTellsUptoCard

/-- THE SECOND FORM's CARD OF 'assayerlaw1.RankTells'. -/
def rankTellsUptoCard : Claim7 := { stood := { row := rankTellsUptoRow, standIns := [], harness := (true, "7763ff21f124ac71be5c019553c571462ed83999219945b86d4d2c88536e8650"), looks := true }, kinds := [], alts := [], laidByText := true, laidKinds := [.handle], laidTests := true, laidLooks := .later }
def RankTellsUptoCardSaid : Prop := Claim7.holds Tryd.pinned (.plain (OpenSpec.upto rankTellsSpec)) rankTellsUptoCard

/-- THE SECOND FORM's CARD OF 'assayerlaw1.ShrinkTells'. -/
def shrinkTellsUptoCard : Claim7 := { stood := { row := shrinkTellsUptoRow, standIns := [], harness := (true, "7763ff21f124ac71be5c019553c571462ed83999219945b86d4d2c88536e8650"), looks := true }, kinds := [], alts := [], laidByText := true, laidKinds := [.handle, .data], laidTests := true, laidLooks := .later }
def ShrinkTellsUptoCardSaid : Prop := Claim7.holds Tryd.pinned (.plain (OpenSpec.upto shrinkTellsSpec)) shrinkTellsUptoCard

/-- THE SECOND FORM's CARD OF 'assayerlaw1.ValBack'. -/
def valBackUptoCard : Claim7 := { stood := { row := valBackUptoRow, standIns := [], harness := (true, "7763ff21f124ac71be5c019553c571462ed83999219945b86d4d2c88536e8650"), looks := true }, kinds := [], alts := [], laidByText := true, laidKinds := [.data, .data, .data, .sentinel, .sentinel], laidTests := true, laidLooks := .later }
def ValBackUptoCardSaid : Prop := Claim7.holds Tryd.pinned (.plain (OpenSpec.upto valBackSpec)) valBackUptoCard

/-- THE SECOND FORM's CARD OF 'assayerlaw1.TapeBack'. -/
def tapeBackUptoCard : Claim7 := { stood := { row := tapeBackUptoRow, standIns := [], harness := (true, "7763ff21f124ac71be5c019553c571462ed83999219945b86d4d2c88536e8650"), looks := true }, kinds := [], alts := [], laidByText := true, laidKinds := [.data, .data, .data, .data, .sentinel, .sentinel, .pinned], laidTests := true, laidLooks := .later }
def TapeBackUptoCardSaid : Prop := Claim7.holds Tryd.pinned (.plain (OpenSpec.upto tapeBackSpec)) tapeBackUptoCard

/-- THE SECOND FORM's CARD OF 'assayerlaw1.ValNests'. -/
def valNestsUptoCard : Claim7 := { stood := { row := valNestsUptoRow, standIns := [], harness := (true, "7763ff21f124ac71be5c019553c571462ed83999219945b86d4d2c88536e8650"), looks := true }, kinds := [], alts := [], laidByText := true, laidKinds := [.data, .data, .data, .handle, .sentinel, .sentinel], laidTests := true, laidLooks := .later }
def ValNestsUptoCardSaid : Prop := Claim7.holds Tryd.pinned (.plain (OpenSpec.upto valNestsSpec)) valNestsUptoCard

/-- THE SECOND FORM's CARD OF 'assayerlaw1.ValTells'. -/
def valTellsUptoCard : Claim7 := { stood := { row := valTellsUptoRow, standIns := [], harness := (true, "7763ff21f124ac71be5c019553c571462ed83999219945b86d4d2c88536e8650"), looks := true }, kinds := [], alts := [], laidByText := true, laidKinds := [.data, .data, .data, .handle, .sentinel, .sentinel], laidTests := true, laidLooks := .later }
def ValTellsUptoCardSaid : Prop := Claim7.holds Tryd.pinned (.plain (OpenSpec.upto valTellsSpec)) valTellsUptoCard

/-- THE SECOND FORM's CARD OF 'assayerlaw1.TapeTells'. -/
def tapeTellsUptoCard : Claim7 := { stood := { row := tapeTellsUptoRow, standIns := [], harness := (true, "7763ff21f124ac71be5c019553c571462ed83999219945b86d4d2c88536e8650"), looks := true }, kinds := [], alts := [], laidByText := true, laidKinds := [.data, .data, .data, .data, .handle, .sentinel, .sentinel, .pinned], laidTests := true, laidLooks := .later }
def TapeTellsUptoCardSaid : Prop := Claim7.holds Tryd.pinned (.plain (OpenSpec.upto tapeTellsSpec)) tapeTellsUptoCard
end Rows
end Go.Proofs.YtbmdjchlbhlgmaaDoor
