/-
  DERIVED. GIVEN WITH THE SEED: THE CARDS: each row of YtbglinhglnbfmaaGreatDoorRows.lean that lists a variable, with what it lists TIED to the program's text (the seventh form; the later family's looks); each row that meets fmt, with fmt's text TOLD by the authors' own Lean function (tested against real Go, not proved from fmt's source: count such statements apart). THE CARD IS WHAT COUNTS. Prove the row's statement (the work); the ties are given (YtbglinhglnbfmaaGreatDoorTie.lean); close each card by the builder's one call (the guide's Derived/Test/ToyasCard.lean, 'card_holds'). Laid BY PROGRAM, IN A SANDBOX (cutbox-door.mjs). By AI agents, Wed Nov 11 2026. No macro, syntax, notation, axiom, sorry.
-/
import Derived.Test.YtbglinhglnbfmaaGreatDoorRows
import GoSem.ClaimSeven
namespace Go.Proofs.YtbglinhglnbfmaaGreatDoor
namespace Rows

/-- THE TIED CARD OF 'fencepostlaw05.HartJumps'. -/
def hartJumpsCard : Claim7 := { stood := { row := hartJumpsRow, standIns := [], harness := (true, "3a50236d6d58161136689fb0d937caf0ae0ae66c180ceb74a5d3a6b65971d17e"), looks := true }, kinds := [], alts := [], laidByText := true, laidKinds := [.listed, .data], laidTests := true, laidLooks := .later }
def HartJumpsCardSaid : Prop := Claim7.holds Tryz.pinned (.plain (OpenSpec.ofChange hartJumpsSpec)) hartJumpsCard

/-- THE TIED CARD OF 'fencepostlaw05.HartLocal'. -/
def hartLocalCard : Claim7 := { stood := { row := hartLocalRow, standIns := [], harness := (true, "3a50236d6d58161136689fb0d937caf0ae0ae66c180ceb74a5d3a6b65971d17e"), looks := true }, kinds := [], alts := [], laidByText := true, laidKinds := [.listed, .data], laidTests := true, laidLooks := .later }
def HartLocalCardSaid : Prop := Claim7.holds Tryz.pinned (.plain (OpenSpec.ofChange hartLocalSpec)) hartLocalCard

/-- THE TIED CARD OF 'fencepostlaw05.HartScript'. -/
def hartScriptCard : Claim7 := { stood := { row := hartScriptRow, standIns := [], harness := (true, "3a50236d6d58161136689fb0d937caf0ae0ae66c180ceb74a5d3a6b65971d17e"), looks := true }, kinds := [], alts := [], laidByText := true, laidKinds := [.listed, .data], laidTests := true, laidLooks := .later }
def HartScriptCardSaid : Prop := Claim7.holds Tryz.pinned (.plain (OpenSpec.ofChange hartScriptSpec)) hartScriptCard

/-- THE SECOND FORM's CARD OF 'fencepostlaw05.HartJumps'. -/
def hartJumpsUptoCard : Claim7 := { stood := { row := hartJumpsUptoRow, standIns := [], harness := (true, "3a50236d6d58161136689fb0d937caf0ae0ae66c180ceb74a5d3a6b65971d17e"), looks := true }, kinds := [], alts := [], laidByText := true, laidKinds := [.listed, .data], laidTests := true, laidLooks := .later }
def HartJumpsUptoCardSaid : Prop := Claim7.holds Tryz.pinned (.plain (OpenSpec.upto hartJumpsSpec)) hartJumpsUptoCard

/-- THE SECOND FORM's CARD OF 'fencepostlaw05.HartLocal'. -/
def hartLocalUptoCard : Claim7 := { stood := { row := hartLocalUptoRow, standIns := [], harness := (true, "3a50236d6d58161136689fb0d937caf0ae0ae66c180ceb74a5d3a6b65971d17e"), looks := true }, kinds := [], alts := [], laidByText := true, laidKinds := [.listed, .data], laidTests := true, laidLooks := .later }
def HartLocalUptoCardSaid : Prop := Claim7.holds Tryz.pinned (.plain (OpenSpec.upto hartLocalSpec)) hartLocalUptoCard

/-- THE SECOND FORM's CARD OF 'fencepostlaw05.HartScript'. -/
def hartScriptUptoCard : Claim7 := { stood := { row := hartScriptUptoRow, standIns := [], harness := (true, "3a50236d6d58161136689fb0d937caf0ae0ae66c180ceb74a5d3a6b65971d17e"), looks := true }, kinds := [], alts := [], laidByText := true, laidKinds := [.listed, .data], laidTests := true, laidLooks := .later }
def HartScriptUptoCardSaid : Prop := Claim7.holds Tryz.pinned (.plain (OpenSpec.upto hartScriptSpec)) hartScriptUptoCard
end Rows
end Go.Proofs.YtbglinhglnbfmaaGreatDoor
