/-
  DERIVED. GIVEN WITH THE SEED: THE CARDS: each row of YtebeajnaamglkaaDoorRows.lean that lists a variable, with what it lists TIED to the program's text (the seventh form; the later family's looks); each row that meets fmt, with fmt's text TOLD by the authors' own Lean function (tested against real Go, not proved from fmt's source: count such statements apart). THE CARD IS WHAT COUNTS. Prove the row's statement (the work); the ties are given (YtebeajnaamglkaaDoorTie.lean); close each card by the builder's one call (the guide's Derived/Test/ToyasCard.lean, 'card_holds'). Laid BY PROGRAM, IN A SANDBOX (cutbox-door.mjs). By AI agents, Wed Nov 11 2026. No macro, syntax, notation, axiom, sorry.
-/
import Derived.Test.YtebeajnaamglkaaDoorRows
import GoSem.ClaimSeven
namespace Go.Proofs.YtebeajnaamglkaaDoor
namespace Rows

/-- THE TIED CARD OF 'fencepostlaw06.TaintChains'. -/
def taintChainsCard : Claim7 := { stood := { row := taintChainsRow, standIns := [], harness := (true, "84d692783dc29129a9a1961e31ae7dcbdf469097293b4d475803dd5e36ae7ba3"), looks := false }, kinds := [], alts := [], laidByText := true, laidKinds := [.listed, .data], laidTests := true, laidLooks := .later }
def TaintChainsCardSaid : Prop := Claim7.holds Tryd.pinned (.plain (OpenSpec.ofChange taintChainsSpec)) taintChainsCard

/-- THE TIED CARD OF 'fencepostlaw06.TaintLocal'. -/
def taintLocalCard : Claim7 := { stood := { row := taintLocalRow, standIns := [], harness := (true, "84d692783dc29129a9a1961e31ae7dcbdf469097293b4d475803dd5e36ae7ba3"), looks := false }, kinds := [], alts := [], laidByText := true, laidKinds := [.listed, .data], laidTests := true, laidLooks := .later }
def TaintLocalCardSaid : Prop := Claim7.holds Tryd.pinned (.plain (OpenSpec.ofChange taintLocalSpec)) taintLocalCard

/-- THE TIED CARD OF 'fencepostlaw06.TaintJoins'. -/
def taintJoinsCard : Claim7 := { stood := { row := taintJoinsRow, standIns := [], harness := (true, "84d692783dc29129a9a1961e31ae7dcbdf469097293b4d475803dd5e36ae7ba3"), looks := false }, kinds := [], alts := [], laidByText := true, laidKinds := [.listed, .data], laidTests := true, laidLooks := .later }
def TaintJoinsCardSaid : Prop := Claim7.holds Tryd.pinned (.plain (OpenSpec.ofChange taintJoinsSpec)) taintJoinsCard

/-- THE TIED CARD OF 'fencepostlaw06.TaintNames'. -/
def taintNamesCard : Claim7 := { stood := { row := taintNamesRow, standIns := [], harness := (true, "84d692783dc29129a9a1961e31ae7dcbdf469097293b4d475803dd5e36ae7ba3"), looks := false }, kinds := [], alts := [], laidByText := true, laidKinds := [.listed, .data], laidTests := true, laidLooks := .later }
def TaintNamesCardSaid : Prop := Claim7.holds Tryd.pinned (.plain (OpenSpec.ofChange taintNamesSpec)) taintNamesCard

/-- THE SECOND FORM's CARD OF 'fencepostlaw06.TaintChains'. -/
def taintChainsUptoCard : Claim7 := { stood := { row := taintChainsUptoRow, standIns := [], harness := (true, "84d692783dc29129a9a1961e31ae7dcbdf469097293b4d475803dd5e36ae7ba3"), looks := false }, kinds := [], alts := [], laidByText := true, laidKinds := [.listed, .data], laidTests := true, laidLooks := .later }
def TaintChainsUptoCardSaid : Prop := Claim7.holds Tryd.pinned (.plain (OpenSpec.upto taintChainsSpec)) taintChainsUptoCard

/-- THE SECOND FORM's CARD OF 'fencepostlaw06.TaintLocal'. -/
def taintLocalUptoCard : Claim7 := { stood := { row := taintLocalUptoRow, standIns := [], harness := (true, "84d692783dc29129a9a1961e31ae7dcbdf469097293b4d475803dd5e36ae7ba3"), looks := false }, kinds := [], alts := [], laidByText := true, laidKinds := [.listed, .data], laidTests := true, laidLooks := .later }
def TaintLocalUptoCardSaid : Prop := Claim7.holds Tryd.pinned (.plain (OpenSpec.upto taintLocalSpec)) taintLocalUptoCard

/-- THE SECOND FORM's CARD OF 'fencepostlaw06.TaintJoins'. -/
def taintJoinsUptoCard : Claim7 := { stood := { row := taintJoinsUptoRow, standIns := [], harness := (true, "84d692783dc29129a9a1961e31ae7dcbdf469097293b4d475803dd5e36ae7ba3"), looks := false }, kinds := [], alts := [], laidByText := true, laidKinds := [.listed, .data], laidTests := true, laidLooks := .later }
def TaintJoinsUptoCardSaid : Prop := Claim7.holds Tryd.pinned (.plain (OpenSpec.upto taintJoinsSpec)) taintJoinsUptoCard

/-- THE SECOND FORM's CARD OF 'fencepostlaw06.TaintNames'. -/
def taintNamesUptoCard : Claim7 := { stood := { row := taintNamesUptoRow, standIns := [], harness := (true, "84d692783dc29129a9a1961e31ae7dcbdf469097293b4d475803dd5e36ae7ba3"), looks := false }, kinds := [], alts := [], laidByText := true, laidKinds := [.listed, .data], laidTests := true, laidLooks := .later }
def TaintNamesUptoCardSaid : Prop := Claim7.holds Tryd.pinned (.plain (OpenSpec.upto taintNamesSpec)) taintNamesUptoCard
end Rows
end Go.Proofs.YtebeajnaamglkaaDoor
