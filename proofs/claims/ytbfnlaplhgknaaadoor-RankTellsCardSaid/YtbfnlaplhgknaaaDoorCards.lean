/-
  DERIVED. GIVEN WITH THE SEED: THE CARDS: each row of YtbfnlaplhgknaaaDoorRows.lean that lists a variable, with what it lists TIED to the program's text (the seventh form; the later family's looks); each row that meets fmt, with fmt's text TOLD by the authors' own Lean function (tested against real Go, not proved from fmt's source: count such statements apart). THE CARD IS WHAT COUNTS. Prove the row's statement (the work); the ties are given (YtbfnlaplhgknaaaDoorTie.lean); close each card by the builder's one call (the guide's Derived/Test/ToyasCard.lean, 'card_holds'). Laid BY PROGRAM, IN A SANDBOX (cutbox-door.mjs). By AI agents, Wed Nov 11 2026. No macro, syntax, notation, axiom, sorry.
-/
import Derived.Test.YtbfnlaplhgknaaaDoorRows
import GoSem.ClaimSeven
namespace Go.Proofs.YtbfnlaplhgknaaaDoor
namespace Rows

/-- THE TIED CARD OF 'assayerlaw1.GenTells'. -/
def genTellsCard : Claim7 := { stood := { row := genTellsRow, standIns := [], harness := (true, "57d725f65fe07d562be60bd82b132e2098517832eb8176f5813490a14cf36a42"), looks := true }, kinds := [], alts := [], laidByText := true, laidKinds := [.handle], laidTests := true, laidLooks := .later }
def GenTellsCardSaid : Prop := Claim7.holds Tryd.pinned (.plain (OpenSpec.ofChange genTellsSpec)) genTellsCard

/-- THE TIED CARD OF 'assayerlaw1.RoseTells'. -/
def roseTellsCard : Claim7 := { stood := { row := roseTellsRow, standIns := [], harness := (true, "57d725f65fe07d562be60bd82b132e2098517832eb8176f5813490a14cf36a42"), looks := true }, kinds := [], alts := [], laidByText := true, laidKinds := [.handle], laidTests := true, laidLooks := .later }
def RoseTellsCardSaid : Prop := Claim7.holds Tryd.pinned (.plain (OpenSpec.ofChange roseTellsSpec)) roseTellsCard

/-- THE TIED CARD OF 'assayerlaw1.RankTells'. -/
def rankTellsCard : Claim7 := { stood := { row := rankTellsRow, standIns := [], harness := (true, "57d725f65fe07d562be60bd82b132e2098517832eb8176f5813490a14cf36a42"), looks := true }, kinds := [], alts := [], laidByText := true, laidKinds := [.handle], laidTests := true, laidLooks := .later }
def RankTellsCardSaid : Prop := Claim7.holds Tryd.pinned (.plain (OpenSpec.ofChange rankTellsSpec)) rankTellsCard

/-- THE SECOND FORM's CARD OF 'assayerlaw1.GenTells'. -/
def genTellsUptoCard : Claim7 := { stood := { row := genTellsUptoRow, standIns := [], harness := (true, "57d725f65fe07d562be60bd82b132e2098517832eb8176f5813490a14cf36a42"), looks := true }, kinds := [], alts := [], laidByText := true, laidKinds := [.handle], laidTests := true, laidLooks := .later }
def GenTellsUptoCardSaid : Prop := Claim7.holds Tryd.pinned (.plain (OpenSpec.upto genTellsSpec)) genTellsUptoCard

/-- THE SECOND FORM's CARD OF 'assayerlaw1.RoseTells'. -/
def roseTellsUptoCard : Claim7 := { stood := { row := roseTellsUptoRow, standIns := [], harness := (true, "57d725f65fe07d562be60bd82b132e2098517832eb8176f5813490a14cf36a42"), looks := true }, kinds := [], alts := [], laidByText := true, laidKinds := [.handle], laidTests := true, laidLooks := .later }
def RoseTellsUptoCardSaid : Prop := Claim7.holds Tryd.pinned (.plain (OpenSpec.upto roseTellsSpec)) roseTellsUptoCard

/-- THE SECOND FORM's CARD OF 'assayerlaw1.RankTells'. -/
def rankTellsUptoCard : Claim7 := { stood := { row := rankTellsUptoRow, standIns := [], harness := (true, "57d725f65fe07d562be60bd82b132e2098517832eb8176f5813490a14cf36a42"), looks := true }, kinds := [], alts := [], laidByText := true, laidKinds := [.handle], laidTests := true, laidLooks := .later }
def RankTellsUptoCardSaid : Prop := Claim7.holds Tryd.pinned (.plain (OpenSpec.upto rankTellsSpec)) rankTellsUptoCard
end Rows
end Go.Proofs.YtbfnlaplhgknaaaDoor
