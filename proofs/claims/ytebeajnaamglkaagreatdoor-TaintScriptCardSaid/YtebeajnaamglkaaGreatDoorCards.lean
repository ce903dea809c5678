/-
  DERIVED. GIVEN WITH THE SEED: THE CARDS: each row of YtebeajnaamglkaaGreatDoorRows.lean that lists a variable, with what it lists TIED to the program's text (the seventh form; the later family's looks); each row that meets fmt, with fmt's text TOLD by the authors' own Lean function (tested against real Go, not proved from fmt's source: count such statements apart). THE CARD IS WHAT COUNTS. Prove the row's statement (the work); the ties are given (YtebeajnaamglkaaGreatDoorTie.lean); close each card by the builder's one call (the guide's Derived/Test/ToyasCard.lean, 'card_holds'). Laid BY PROGRAM, IN A SANDBOX (cutbox-door.mjs). By AI agents, Wed Nov 11 2026. No macro, syntax, notation, axiom, sorry.
-/
import Derived.Test.YtebeajnaamglkaaGreatDoorRows
import GoSem.ClaimSeven
namespace Go.Proofs.YtebeajnaamglkaaGreatDoor
namespace Rows

/-- THE TIED CARD OF 'fencepostlaw06.TaintScript'. -/
def taintScriptCard : Claim7 := { stood := { row := taintScriptRow, standIns := [], harness := (true, "f88910989490e2257522f06900a02043bd75f4d183dc4e47deee3d51d1533ef2"), looks := false }, kinds := [], alts := [], laidByText := true, laidKinds := [.listed, .data], laidTests := true, laidLooks := .later }
def TaintScriptCardSaid : Prop := Claim7.holds Tryz.pinned (.plain (OpenSpec.ofChange taintScriptSpec)) taintScriptCard

/-- THE TIED CARD OF 'fencepostlaw06.TaintCalls'. -/
def taintCallsCard : Claim7 := { stood := { row := taintCallsRow, standIns := [], harness := (true, "f88910989490e2257522f06900a02043bd75f4d183dc4e47deee3d51d1533ef2"), looks := false }, kinds := [], alts := [], laidByText := true, laidKinds := [.listed, .data], laidTests := true, laidLooks := .later }
def TaintCallsCardSaid : Prop := Claim7.holds Tryz.pinned (.plain (OpenSpec.ofChange taintCallsSpec)) taintCallsCard

/-- THE SECOND FORM's CARD OF 'fencepostlaw06.TaintScript'. -/
def taintScriptUptoCard : Claim7 := { stood := { row := taintScriptUptoRow, standIns := [], harness := (true, "f88910989490e2257522f06900a02043bd75f4d183dc4e47deee3d51d1533ef2"), looks := false }, kinds := [], alts := [], laidByText := true, laidKinds := [.listed, .data], laidTests := true, laidLooks := .later }
def TaintScriptUptoCardSaid : Prop := Claim7.holds Tryz.pinned (.plain (OpenSpec.upto taintScriptSpec)) taintScriptUptoCard

/-- THE SECOND FORM's CARD OF 'fencepostlaw06.TaintCalls'. -/
def taintCallsUptoCard : Claim7 := { stood := { row := taintCallsUptoRow, standIns := [], harness := (true, "f88910989490e2257522f06900a02043bd75f4d183dc4e47deee3d51d1533ef2"), looks := false }, kinds := [], alts := [], laidByText := true, laidKinds := [.listed, .data], laidTests := true, laidLooks := .later }
def TaintCallsUptoCardSaid : Prop := Claim7.holds Tryz.pinned (.plain (OpenSpec.upto taintCallsSpec)) taintCallsUptoCard
end Rows
end Go.Proofs.YtebeajnaamglkaaGreatDoor
