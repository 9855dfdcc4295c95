/-
  DERIVED. GIVEN WITH THE SEED: THE CARDS: each row of YtedpdnicalboiaaDoorRows.lean that lists a variable, with what it lists TIED to the program's text (the seventh form; the later family's looks); each row that meets fmt, with fmt's text TOLD by the authors' own Lean function (tested against real Go, not proved from fmt's source: count such statements apart). THE CARD IS WHAT COUNTS. Prove the row's statement (the work); the ties are given (YtedpdnicalboiaaDoorTie.lean); close each card by the builder's one call (the guide's Derived/Test/ToyasCard.lean, 'card_holds'). Laid BY PROGRAM, IN A SANDBOX (cutbox-door.mjs). By AI agents, Wed Nov 11 2026. No macro, syntax, notation, axiom, sorry.
-/
import Derived.Test.YtedpdnicalboiaaDoorRows
import GoSem.ClaimSeven
namespace Go.Proofs.YtedpdnicalboiaaDoor
namespace Rows

/-- THE TIED CARD OF 'assayerlaw1.RngTells'. -/
def rngTellsCard : Claim7 := { stood := { row := rngTellsRow, standIns := [], harness := (true, "b7ac1dd2e84568c8ae0277dbba779e71ba852171c9ed434e6b5515208d3e0ce2"), looks := true }, kinds := [], alts := [], laidByText := true, laidKinds := [.handle], laidTests := true, laidLooks := .later }
def RngTellsCardSaid : Prop := Claim7.holds Tryd.pinned (.plain (OpenSpec.ofChange rngTellsSpec)) rngTellsCard

/-- THE TIED CARD OF 'assayerlaw1.ExprTells'. -/
def exprTellsCard : Claim7 := { stood := { row := exprTellsRow, standIns := [], harness := (true, "b7ac1dd2e84568c8ae0277dbba779e71ba852171c9ed434e6b5515208d3e0ce2"), looks := true }, kinds := [], alts := [], laidByText := true, laidKinds := [.handle, .data], laidTests := true, laidLooks := .later }
def ExprTellsCardSaid : Prop := Claim7.holds Tryd.pinned (.plain (OpenSpec.ofChange exprTellsSpec)) exprTellsCard

/-- THE TIED CARD OF 'assayerlaw1.GenTells'. -/
def genTellsCard : Claim7 := { stood := { row := genTellsRow, standIns := [], harness := (true, "b7ac1dd2e84568c8ae0277dbba779e71ba852171c9ed434e6b5515208d3e0ce2"), looks := true }, kinds := [], alts := [], laidByText := true, laidKinds := [.handle], laidTests := true, laidLooks := .later }
def GenTellsCardSaid : Prop := Claim7.holds Tryd.pinned (.plain (OpenSpec.ofChange genTellsSpec)) genTellsCard

/-- THE TIED CARD OF 'assayerlaw1.RoseTells'. -/
def roseTellsCard : Claim7 := { stood := { row := roseTellsRow, standIns := [], harness := (true, "b7ac1dd2e84568c8ae0277dbba779e71ba852171c9ed434e6b5515208d3e0ce2"), looks := true }, kinds := [], alts := [], laidByText := true, laidKinds := [.handle], laidTests := true, laidLooks := .later }
def RoseTellsCardSaid : Prop := Claim7.holds Tryd.pinned (.plain (OpenSpec.ofChange roseTellsSpec)) roseTellsCard

/-- THE TIED CARD OF 'assayerlaw1.RankTells'. -/
def rankTellsCard : Claim7 := { stood := { row := rankTellsRow, standIns := [], harness := (true, "b7ac1dd2e84568c8ae0277dbba779e71ba852171c9ed434e6b5515208d3e0ce2"), looks := true }, kinds := [], alts := [], laidByText := true, laidKinds := [.handle], laidTests := true, laidLooks := .later }
def RankTellsCardSaid : Prop := Claim7.holds Tryd.pinned (.plain (OpenSpec.ofChange rankTellsSpec)) rankTellsCard

/-- THE TIED CARD OF 'assayerlaw1.ShrinkTells'. -/
def shrinkTellsCard : Claim7 := { stood := { row := shrinkTellsRow, standIns := [], harness := (true, "b7ac1dd2e84568c8ae0277dbba779e71ba852171c9ed434e6b5515208d3e0ce2"), looks := true }, kinds := [], alts := [], laidByText := true, laidKinds := [.handle, .data], laidTests := true, laidLooks := .later }
def ShrinkTellsCardSaid : Prop := Claim7.holds Tryd.pinned (.plain (OpenSpec.ofChange shrinkTellsSpec)) shrinkTellsCard

/-- THE SECOND FORM's CARD OF 'assayerlaw1.RngTells'. -/
def rngTellsUptoCard : Claim7 := { stood := { row := rngTellsUptoRow, standIns := [], harness := (true, "b7ac1dd2e84568c8ae0277dbba779e71ba852171c9ed434e6b5515208d3e0ce2"), looks := true }, kinds := [], alts := [], laidByText := true, laidKinds := [.handle], laidTests := true, laidLooks := .later }
def RngTellsUptoCardSaid : Prop := Claim7.holds Tryd.pinned (.plain (OpenSpec.upto rngTellsSpec)) rngTellsUptoCard

/-- THE SECOND FORM's CARD OF 'assayerlaw1.ExprTells'. -/
def exprTellsUptoCard : Claim7 := { stood := { row := exprTellsUptoRow, standIns := [], harness := (true, "b7ac1dd2e84568c8ae0277dbba779e71ba852171c9ed434e6b5515208d3e0ce2"), looks := true }, kinds := [], alts := [], laidByText := true, laidKinds := [.handle, .data], laidTests := true, laidLooks := .later }
def ExprTellsUptoCardSaid : Prop := Claim7.holds Tryd.pinned (.plain (OpenSpec.upto exprTellsSpec)) exprTellsUptoCard

/-- THE SECOND FORM's CARD OF 'assayerlaw1.GenTells'. -/
def genTellsUptoCard : Claim7 := { stood := { row := genTellsUptoRow, standIns := [], harness := (true, "b7ac1dd2e84568c8ae0277dbba779e71ba852171c9ed434e6b5515208d3e0ce2"), looks := true }, kinds := [], alts := [], laidByText := true, laidKinds := [.handle], laidTests := true, laidLooks := .later }
def GenTellsUptoCardSaid : Prop := Claim7.holds Tryd.pinned (.plain (OpenSpec.upto genTellsSpec)) genTellsUptoCard

/-- THE SECOND FORM's CARD OF 'assayerlaw1.RoseTells'. -/
def roseTellsUptoCard : Claim7 := { stood := { row := roseTellsUptoRow, standIns := [], harness := (true, "b7ac1dd2e84568c8ae0277dbba779e71ba852171c9ed434e6b5515208d3e0ce2"), looks := true }, kinds := [], alts := [], laidByText := true, laidKinds := [.handle], laidTests := true, laidLooks := .later }
def RoseTellsUptoCardSaid : Prop := Claim7.holds Tryd.pinned (.plain (OpenSpec.upto roseTellsSpec)) roseTellsUptoCard

/-- THE SECOND FORM's CARD OF 'assayerlaw1.RankTells'. -/
def rankTellsUptoCard : Claim7 := { stood := { row := rankTellsUptoRow, standIns := [], harness := (true, "b7ac1dd2e84568c8ae0277dbba779e71ba852171c9ed434e6b5515208d3e0ce2"), looks := true }, kinds := [], alts := [], laidByText := true, laidKinds := [.handle], laidTests := true, laidLooks := .later }
def RankTellsUptoCardSaid : Prop := Claim7.holds Tryd.pinned (.plain (OpenSpec.upto rankTellsSpec)) rankTellsUptoCard

/-- THE SECOND FORM's CARD OF 'assayerlaw1.ShrinkTells'. -/
def shrinkTellsUptoCard : Claim7 := { stood := { row := shrinkTellsUptoRow, standIns := [], harness := (true, "b7ac1dd2e84568c8ae0277dbba779e71ba852171c9ed434e6b5515208d3e0ce2"), looks := true }, kinds := [], alts := [], laidByText := true, laidKinds := [.handle, .data], laidTests := true, laidLooks := .later }
def ShrinkTellsUptoCardSaid : Prop := Claim7.holds Tryd.pinned (.plain (OpenSpec.upto shrinkTellsSpec)) shrinkTellsUptoCard
end Rows
end Go.Proofs.YtedpdnicalboiaaDoor
