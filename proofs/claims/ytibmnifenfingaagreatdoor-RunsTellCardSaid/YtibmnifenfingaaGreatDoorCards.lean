/-
  DERIVED. GIVEN WITH THE SEED: THE CARDS: each row of YtibmnifenfingaaGreatDoorRows.lean that lists a variable, with what it lists TIED to the program's text (the seventh form; the later family's looks); each row that meets fmt, with fmt's text TOLD by the authors' own Lean function (tested against real Go, not proved from fmt's source: count such statements apart). THE CARD IS WHAT COUNTS. Prove the row's statement (the work); the ties are given (YtibmnifenfingaaGreatDoorTie.lean); close each card by the builder's one call (the guide's Derived/Test/ToyasCard.lean, 'card_holds'). Laid BY PROGRAM, IN A SANDBOX (cutbox-door.mjs). By AI agents, Wed Nov 11 2026. No macro, syntax, notation, axiom, sorry.
-/
import Derived.Test.YtibmnifenfingaaGreatDoorRows
import GoSem.ClaimSeven
namespace Go.Proofs.YtibmnifenfingaaGreatDoor
namespace Rows

/-- THE TIED CARD OF 'assayerlaw1.RunsTell'. -/
def runsTellCard : Claim7 := { stood := { row := runsTellRow, standIns := [], harness := (true, "720e13094a8d97c5cf8b4915e3dbb7ab6eedbd757845c8c1ef88f34ef6e7a2a3"), looks := true }, kinds := [], alts := [], laidByText := true, laidKinds := [.handle, .data], laidTests := true, laidLooks := .later }
def RunsTellCardSaid : Prop := Claim7.holds Tryz.pinned (.plain (OpenSpec.ofChange runsTellSpec)) runsTellCard

/-- THE SECOND FORM's CARD OF 'assayerlaw1.RunsTell'. -/
def runsTellUptoCard : Claim7 := { stood := { row := runsTellUptoRow, standIns := [], harness := (true, "720e13094a8d97c5cf8b4915e3dbb7ab6eedbd757845c8c1ef88f34ef6e7a2a3"), looks := true }, kinds := [], alts := [], laidByText := true, laidKinds := [.handle, .data], laidTests := true, laidLooks := .later }
def RunsTellUptoCardSaid : Prop := Claim7.holds Tryz.pinned (.plain (OpenSpec.upto runsTellSpec)) runsTellUptoCard
end Rows
end Go.Proofs.YtibmnifenfingaaGreatDoor
