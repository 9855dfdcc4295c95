/-
  DERIVED. GIVEN WITH THE SEED: THE CARDS: each row of YtlhdiekibkdiaaaDoorRows.lean that lists a variable, with what it lists TIED to the program's text (the seventh form; the later family's looks); each row that meets fmt, with fmt's text TOLD by the authors' own Lean function (tested against real Go, not proved from fmt's source: count such statements apart). THE CARD IS WHAT COUNTS. Prove the row's statement (the work); the ties are given (YtlhdiekibkdiaaaDoorTie.lean); close each card by the builder's one call (the guide's Derived/Test/ToyasCard.lean, 'card_holds'). Laid BY PROGRAM, IN A SANDBOX (cutbox-door.mjs). By AI agents, Wed Nov 11 2026. No macro, syntax, notation, axiom, sorry.
-/
import Derived.Test.YtlhdiekibkdiaaaDoorRows
import GoSem.ClaimSeven
namespace Go.Proofs.YtlhdiekibkdiaaaDoor
namespace Rows

/-- THE TIED CARD OF 'assayerlaw1.RankTells'. -/
def rankTellsCard : Claim7 := { stood := { row := rankTellsRow, standIns := [], harness := (true, "ecac8c62956159bfd89a69cce42d096c126fa3587d9a7a8ffca7e0d2a455c597"), looks := true }, kinds := [], alts := [], laidByText := true, laidKinds := [.handle], laidTests := true, laidLooks := .later }
def RankTellsCardSaid : Prop := Claim7.holds Tryd.pinned (.plain (OpenSpec.ofChange rankTellsSpec)) rankTellsCard

/-- THE TIED CARD OF 'assayerlaw1.TapeBack'. -/
def tapeBackCard : Claim7 := { stood := { row := tapeBackRow, standIns := [], harness := (true, "ecac8c62956159bfd89a69cce42d096c126fa3587d9a7a8ffca7e0d2a455c597"), looks := true }, kinds := [], alts := [], laidByText := true, laidKinds := [.data, .data, .data, .data, .sentinel, .sentinel, .pinned], laidTests := true, laidLooks := .later }
def TapeBackCardSaid : Prop := Claim7.holds Tryd.pinned (.plain (OpenSpec.ofChange tapeBackSpec)) tapeBackCard

/-- THE TIED CARD OF 'assayerlaw1.ValTells'. -/
def valTellsCard : Claim7 := { stood := { row := valTellsRow, standIns := [], harness := (true, "ecac8c62956159bfd89a69cce42d096c126fa3587d9a7a8ffca7e0d2a455c597"), looks := true }, kinds := [], alts := [], laidByText := true, laidKinds := [.data, .data, .data, .handle, .sentinel, .sentinel], laidTests := true, laidLooks := .later }
def ValTellsCardSaid : Prop := Claim7.holds Tryd.pinned (.plain (OpenSpec.ofChange valTellsSpec)) valTellsCard

/-- THE TIED CARD OF 'assayerlaw1.TapeTells'. -/
def tapeTellsCard : Claim7 := { stood := { row := tapeTellsRow, standIns := [], harness := (true, "ecac8c62956159bfd89a69cce42d096c126fa3587d9a7a8ffca7e0d2a455c597"), looks := true }, kinds := [], alts := [], laidByText := true, laidKinds := [.data, .data, .data, .data, .handle, .sentinel, .sentinel, .pinned], laidTests := true, laidLooks := .later }
def TapeTellsCardSaid : Prop := Claim7.holds Tryd.pinned (.plain (OpenSpec.ofChange tapeTellsSpec)) tapeTellsCard

/-- THE SECOND FORM's CARD OF 'assayerlaw1.RankTells'. -/
def rankTellsUptoCard : Claim7 := { stood := { row := rankTellsUptoRow, standIns := [], harness := (true, "ecac8c62956159bfd89a69cce42d096c126fa3587d9a7a8ffca7e0d2a455c597"), looks := true }, kinds := [], alts := [], laidByText := true, laidKinds := [.handle], laidTests := true, laidLooks := .later }
def RankTellsUptoCardSaid : Prop := Claim7.holds Tryd.pinned (.plain (OpenSpec.upto rankTellsSpec)) rankTellsUptoCard

/-- THE SECOND FORM's CARD OF 'assayerlaw1.TapeBack'. -/
def tapeBackUptoCard : Claim7 := { stood := { row := tapeBackUptoRow, standIns := [], harness := (true, "ecac8c62956159bfd89a69cce42d096c126fa3587d9a7a8ffca7e0d2a455c597"), looks := true }, kinds := [], alts := [], laidByText := true, laidKinds := [.data, .data, .data, .data, .sentinel, .sentinel, .pinned], laidTests := true, laidLooks := .later }
def TapeBackUptoCardSaid : Prop := Claim7.holds Tryd.pinned (.plain (OpenSpec.upto tapeBackSpec)) tapeBackUptoCard

/-- THE SECOND FORM's CARD OF 'assayerlaw1.ValTells'. -/
def valTellsUptoCard : Claim7 := { stood := { row := valTellsUptoRow, standIns := [], harness := (true, "ecac8c62956159bfd89a69cce42d096c126fa3587d9a7a8ffca7e0d2a455c597"), looks := true }, kinds := [], alts := [], laidByText := true, laidKinds := [.data, .data, .data, .handle, .sentinel, .sentinel], laidTests := true, laidLooks := .later }
def ValTellsUptoCardSaid : Prop := Claim7.holds Tryd.pinned (.plain (OpenSpec.upto valTellsSpec)) valTellsUptoCard

/-- THE SECOND FORM's CARD OF 'assayerlaw1.TapeTells'. -/
def tapeTellsUptoCard : Claim7 := { stood := { row := tapeTellsUptoRow, standIns := [], harness := (true, "ecac8c62956159bfd89a69cce42d096c126fa3587d9a7a8ffca7e0d2a455c597"), looks := true }, kinds := [], alts := [], laidByText := true, laidKinds := [.data, .data, .data, .data, .handle, .sentinel, .sentinel, .pinned], laidTests := true, laidLooks := .later }
def TapeTellsUptoCardSaid : Prop := Claim7.holds Tryd.pinned (.plain (OpenSpec.upto tapeTellsSpec)) tapeTellsUptoCard
end Rows
end Go.Proofs.YtlhdiekibkdiaaaDoor
