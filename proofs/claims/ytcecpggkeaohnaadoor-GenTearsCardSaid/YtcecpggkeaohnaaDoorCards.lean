/-
  DERIVED. GIVEN WITH THE SEED: THE CARDS: each row of YtcecpggkeaohnaaDoorRows.lean that lists a variable, with what it lists TIED to the program's text (the seventh form; the later family's looks); each row that meets fmt, with fmt's text TOLD by the authors' own Lean function (tested against real Go, not proved from fmt's source: count such statements apart). THE CARD IS WHAT COUNTS. Prove the row's statement (the work); the ties are given (YtcecpggkeaohnaaDoorTie.lean); close each card by the builder's one call (the guide's Derived/Test/ToyasCard.lean, 'card_holds'). Laid BY PROGRAM, IN A SANDBOX (cutbox-door.mjs). By AI agents, Wed Nov 11 2026. No macro, syntax, notation, axiom, sorry.
-/
import Derived.Test.YtcecpggkeaohnaaDoorRows
import GoSem.ClaimSeven
namespace Go.Proofs.YtcecpggkeaohnaaDoor
namespace Rows

/-- THE TIED CARD OF 'assayerlaw1.ExprLess'. -/
def exprLessCard : Claim7 := { stood := { row := exprLessRow, standIns := [], harness := (true, "fe0fe7f845d41241ddb77f49f61d8e330cd9a632445a8bf6385928e8ba3fc577"), looks := true }, kinds := [], alts := [], laidByText := true, laidKinds := [.data], laidTests := true, laidLooks := .later }
def ExprLessCardSaid : Prop := Claim7.holds Tryd.pinned (.plain (OpenSpec.ofChange exprLessSpec)) exprLessCard

/-- THE TIED CARD OF 'assayerlaw1.ExprMorgan'. -/
def exprMorganCard : Claim7 := { stood := { row := exprMorganRow, standIns := [], harness := (true, "fe0fe7f845d41241ddb77f49f61d8e330cd9a632445a8bf6385928e8ba3fc577"), looks := true }, kinds := [], alts := [], laidByText := true, laidKinds := [.data], laidTests := true, laidLooks := .later }
def ExprMorganCardSaid : Prop := Claim7.holds Tryd.pinned (.plain (OpenSpec.ofChange exprMorganSpec)) exprMorganCard

/-- THE TIED CARD OF 'assayertop.TopLeast'. -/
def topLeastCard : Claim7 := { stood := { row := topLeastRow, standIns := [], harness := (true, "fe0fe7f845d41241ddb77f49f61d8e330cd9a632445a8bf6385928e8ba3fc577"), looks := true }, kinds := [], alts := [], laidByText := true, laidKinds := [.data], laidTests := true, laidLooks := .later }
def TopLeastCardSaid : Prop := Claim7.holds Tryd.pinned (.plain (OpenSpec.ofChange topLeastSpec)) topLeastCard

/-- THE TIED CARD OF 'assayertop.TopFails'. -/
def topFailsCard : Claim7 := { stood := { row := topFailsRow, standIns := [], harness := (true, "fe0fe7f845d41241ddb77f49f61d8e330cd9a632445a8bf6385928e8ba3fc577"), looks := true }, kinds := [], alts := [], laidByText := true, laidKinds := [.handle, .data], laidTests := true, laidLooks := .later }
def TopFailsCardSaid : Prop := Claim7.holds Tryd.pinned (.plain (OpenSpec.ofChange topFailsSpec)) topFailsCard

/-- THE TIED CARD OF 'assayerlaw1.ExprLeft'. -/
def exprLeftCard : Claim7 := { stood := { row := exprLeftRow, standIns := [], harness := (true, "fe0fe7f845d41241ddb77f49f61d8e330cd9a632445a8bf6385928e8ba3fc577"), looks := true }, kinds := [], alts := [], laidByText := true, laidKinds := [.handle, .data], laidTests := true, laidLooks := .later }
def ExprLeftCardSaid : Prop := Claim7.holds Tryd.pinned (.plain (OpenSpec.ofChange exprLeftSpec)) exprLeftCard

/-- THE TIED CARD OF 'assayerlaw1.GenTears'. -/
def genTearsCard : Claim7 := { stood := { row := genTearsRow, standIns := [], harness := (true, "fe0fe7f845d41241ddb77f49f61d8e330cd9a632445a8bf6385928e8ba3fc577"), looks := true }, kinds := [], alts := [], laidByText := true, laidKinds := [.handle], laidTests := true, laidLooks := .later }
def GenTearsCardSaid : Prop := Claim7.holds Tryd.pinned (.plain (OpenSpec.ofChange genTearsSpec)) genTearsCard

/-- THE TIED CARD OF 'assayerlaw1.ShrinkLeast'. -/
def shrinkLeastCard : Claim7 := { stood := { row := shrinkLeastRow, standIns := [], harness := (true, "fe0fe7f845d41241ddb77f49f61d8e330cd9a632445a8bf6385928e8ba3fc577"), looks := true }, kinds := [], alts := [], laidByText := true, laidKinds := [.data], laidTests := true, laidLooks := .later }
def ShrinkLeastCardSaid : Prop := Claim7.holds Tryd.pinned (.plain (OpenSpec.ofChange shrinkLeastSpec)) shrinkLeastCard

/-- THE TIED CARD OF 'assayerlaw1.ShrinkNumber'. -/
def shrinkNumberCard : Claim7 := { stood := { row := shrinkNumberRow, standIns := [], harness := (true, "fe0fe7f845d41241ddb77f49f61d8e330cd9a632445a8bf6385928e8ba3fc577"), looks := true }, kinds := [], alts := [], laidByText := true, laidKinds := [.data], laidTests := true, laidLooks := .later }
def ShrinkNumberCardSaid : Prop := Claim7.holds Tryd.pinned (.plain (OpenSpec.ofChange shrinkNumberSpec)) shrinkNumberCard

/-- THE TIED CARD OF 'assayerlaw1.RunsAgain'. -/
def runsAgainCard : Claim7 := { stood := { row := runsAgainRow, standIns := [], harness := (true, "fe0fe7f845d41241ddb77f49f61d8e330cd9a632445a8bf6385928e8ba3fc577"), looks := true }, kinds := [], alts := [], laidByText := true, laidKinds := [.data], laidTests := true, laidLooks := .later }
def RunsAgainCardSaid : Prop := Claim7.holds Tryd.pinned (.plain (OpenSpec.ofChange runsAgainSpec)) runsAgainCard

/-- THE TIED CARD OF 'assayerlaw1.RunsFail'. -/
def runsFailCard : Claim7 := { stood := { row := runsFailRow, standIns := [], harness := (true, "fe0fe7f845d41241ddb77f49f61d8e330cd9a632445a8bf6385928e8ba3fc577"), looks := true }, kinds := [], alts := [], laidByText := true, laidKinds := [.data], laidTests := true, laidLooks := .later }
def RunsFailCardSaid : Prop := Claim7.holds Tryd.pinned (.plain (OpenSpec.ofChange runsFailSpec)) runsFailCard

/-- THE SECOND FORM's CARD OF 'assayerlaw1.ExprLess'. -/
def exprLessUptoCard : Claim7 := { stood := { row := exprLessUptoRow, standIns := [], harness := (true, "fe0fe7f845d41241ddb77f49f61d8e330cd9a632445a8bf6385928e8ba3fc577"), looks := true }, kinds := [], alts := [], laidByText := true, laidKinds := [.data], laidTests := true, laidLooks := .later }
def ExprLessUptoCardSaid : Prop := Claim7.holds Tryd.pinned (.plain (OpenSpec.upto exprLessSpec)) exprLessUptoCard

/-- THE SECOND FORM's CARD OF 'assayerlaw1.ExprMorgan'. -/
def exprMorganUptoCard : Claim7 := { stood := { row := exprMorganUptoRow, standIns := [], harness := (true, "fe0fe7f845d41241ddb77f49f61d8e330cd9a632445a8bf6385928e8ba3fc577"), looks := true }, kinds := [], alts := [], laidByText := true, laidKinds := [.data], laidTests := true, laidLooks := .later }
def ExprMorganUptoCardSaid : Prop := Claim7.holds Tryd.pinned (.plain (OpenSpec.upto exprMorganSpec)) exprMorganUptoCard

/-- THE SECOND FORM's CARD OF 'assayertop.TopLeast'. -/
def topLeastUptoCard : Claim7 := { stood := { row := topLeastUptoRow, standIns := [], harness := (true, "fe0fe7f845d41241ddb77f49f61d8e330cd9a632445a8bf6385928e8ba3fc577"), looks := true }, kinds := [], alts := [], laidByText := true, laidKinds := [.data], laidTests := true, laidLooks := .later }
def TopLeastUptoCardSaid : Prop := Claim7.holds Tryd.pinned (.plain (OpenSpec.upto topLeastSpec)) topLeastUptoCard

/-- THE SECOND FORM's CARD OF 'assayertop.TopFails'. -/
def topFailsUptoCard : Claim7 := { stood := { row := topFailsUptoRow, standIns := [], harness := (true, "fe0fe7f845d41241ddb77f49f61d8e330cd9a632445a8bf6385928e8ba3fc577"), looks := true }, kinds := [], alts := [], laidByText := true, laidKinds := [.handle, .data], laidTests := true, laidLooks := .later }
def TopFailsUptoCardSaid : Prop := Claim7.holds Tryd.pinned (.plain (OpenSpec.upto topFailsSpec)) topFailsUptoCard

/-- THE SECOND FORM's CARD OF 'assayerlaw1.ExprLeft'. -/
def exprLeftUptoCard : Claim7 := { stood := { row := exprLeftUptoRow, standIns := [], harness := (true, "fe0fe7f845d41241ddb77f49f61d8e330cd9a632445a8bf6385928e8ba3fc577"), looks := true }, kinds := [], alts := [], laidByText := true, laidKinds := [.handle, .data], laidTests := true, laidLooks := .later }
def ExprLeftUptoCardSaid : Prop := Claim7.holds Tryd.pinned (.plain (OpenSpec.upto exprLeftSpec)) exprLeftUptoCard

/-- THE SECOND FORM's CARD OF 'assayerlaw1.GenTears'. -/
def genTearsUptoCard : Claim7 := { stood := { row := genTearsUptoRow, standIns := [], harness := (true, "fe0fe7f845d41241ddb77f49f61d8e330cd9a632445a8bf6385928e8ba3fc577"), looks := true }, kinds := [], alts := [], laidByText := true, laidKinds := [.handle], laidTests := true, laidLooks := .later }
def GenTearsUptoCardSaid : Prop := Claim7.holds Tryd.pinned (.plain (OpenSpec.upto genTearsSpec)) genTearsUptoCard

/-- THE SECOND FORM's CARD OF 'assayerlaw1.ShrinkLeast'. -/
def shrinkLeastUptoCard : Claim7 := { stood := { row := shrinkLeastUptoRow, standIns := [], harness := (true, "fe0fe7f845d41241ddb77f49f61d8e330cd9a632445a8bf6385928e8ba3fc577"), looks := true }, kinds := [], alts := [], laidByText := true, laidKinds := [.data], laidTests := true, laidLooks := .later }
def ShrinkLeastUptoCardSaid : Prop := Claim7.holds Tryd.pinned (.plain (OpenSpec.upto shrinkLeastSpec)) shrinkLeastUptoCard

/-- THE SECOND FORM's CARD OF 'assayerlaw1.ShrinkNumber'. -/
def shrinkNumberUptoCard : Claim7 := { stood := { row := shrinkNumberUptoRow, standIns := [], harness := (true, "fe0fe7f845d41241ddb77f49f61d8e330cd9a632445a8bf6385928e8ba3fc577"), looks := true }, kinds := [], alts := [], laidByText := true, laidKinds := [.data], laidTests := true, laidLooks := .later }
def ShrinkNumberUptoCardSaid : Prop := Claim7.holds Tryd.pinned (.plain (OpenSpec.upto shrinkNumberSpec)) shrinkNumberUptoCard

/-- THE SECOND FORM's CARD OF 'assayerlaw1.RunsAgain'. -/
def runsAgainUptoCard : Claim7 := { stood := { row := runsAgainUptoRow, standIns := [], harness := (true, "fe0fe7f845d41241ddb77f49f61d8e330cd9a632445a8bf6385928e8ba3fc577"), looks := true }, kinds := [], alts := [], laidByText := true, laidKinds := [.data], laidTests := true, laidLooks := .later }
def RunsAgainUptoCardSaid : Prop := Claim7.holds Tryd.pinned (.plain (OpenSpec.upto runsAgainSpec)) runsAgainUptoCard

/-- THE SECOND FORM's CARD OF 'assayerlaw1.RunsFail'. -/
def runsFailUptoCard : Claim7 := { stood := { row := runsFailUptoRow, standIns := [], harness := (true, "fe0fe7f845d41241ddb77f49f61d8e330cd9a632445a8bf6385928e8ba3fc577"), looks := true }, kinds := [], alts := [], laidByText := true, laidKinds := [.data], laidTests := true, laidLooks := .later }
def RunsFailUptoCardSaid : Prop := Claim7.holds Tryd.pinned (.plain (OpenSpec.upto runsFailSpec)) runsFailUptoCard
end Rows
end Go.Proofs.YtcecpggkeaohnaaDoor
