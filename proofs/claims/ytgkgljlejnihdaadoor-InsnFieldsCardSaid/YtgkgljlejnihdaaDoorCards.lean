/-
  DERIVED. GIVEN WITH THE SEED: THE CARDS: each row of YtgkgljlejnihdaaDoorRows.lean that lists a variable, with what it lists TIED to the program's text (the seventh form; the later family's looks); each row that meets fmt, with fmt's text TOLD by the authors' own Lean function (tested against real Go, not proved from fmt's source: count such statements apart). THE CARD IS WHAT COUNTS. Prove the row's statement (the work); the ties are given (YtgkgljlejnihdaaDoorTie.lean); close each card by the builder's one call (the guide's Derived/Test/ToyasCard.lean, 'card_holds'). Laid BY PROGRAM, IN A SANDBOX (cutbox-door.mjs). By AI agents, Wed Nov 11 2026. No macro, syntax, notation, axiom, sorry.
-/
import Derived.Test.YtgkgljlejnihdaaDoorRows
import GoSem.ClaimSeven
namespace Go.Proofs.YtgkgljlejnihdaaDoor
namespace Rows

/-- THE TIED CARD OF 'fencepostlaw02.InsnShapes'. -/
def insnShapesCard : Claim7 := { stood := { row := insnShapesRow, standIns := [], harness := (true, "5bfe24eddb9e2b72d502c316b72cbdeb99ca38b2678bfacfdce7159a8f23f7c6"), looks := false }, kinds := [], alts := [], laidByText := true, laidKinds := [.data, .data, .data, .listed, .data], laidTests := true, laidLooks := .later }
def InsnShapesCardSaid : Prop := Claim7.holds Tryd.pinned (.plain (OpenSpec.ofChange insnShapesSpec)) insnShapesCard

/-- THE TIED CARD OF 'fencepostlaw02.InsnTables'. -/
def insnTablesCard : Claim7 := { stood := { row := insnTablesRow, standIns := [], harness := (true, "5bfe24eddb9e2b72d502c316b72cbdeb99ca38b2678bfacfdce7159a8f23f7c6"), looks := false }, kinds := [], alts := [], laidByText := true, laidKinds := [.data, .data, .data, .listed, .data], laidTests := true, laidLooks := .later }
def InsnTablesCardSaid : Prop := Claim7.holds Tryd.pinned (.plain (OpenSpec.ofChange insnTablesSpec)) insnTablesCard

/-- THE TIED CARD OF 'fencepostlaw06.TaintChains'. -/
def taintChainsCard : Claim7 := { stood := { row := taintChainsRow, standIns := [], harness := (true, "5bfe24eddb9e2b72d502c316b72cbdeb99ca38b2678bfacfdce7159a8f23f7c6"), looks := false }, kinds := [], alts := [], laidByText := true, laidKinds := [.listed, .data], laidTests := true, laidLooks := .later }
def TaintChainsCardSaid : Prop := Claim7.holds Tryd.pinned (.plain (OpenSpec.ofChange taintChainsSpec)) taintChainsCard

/-- THE TIED CARD OF 'fencepostlaw06.TaintLocal'. -/
def taintLocalCard : Claim7 := { stood := { row := taintLocalRow, standIns := [], harness := (true, "5bfe24eddb9e2b72d502c316b72cbdeb99ca38b2678bfacfdce7159a8f23f7c6"), looks := false }, kinds := [], alts := [], laidByText := true, laidKinds := [.listed, .data], laidTests := true, laidLooks := .later }
def TaintLocalCardSaid : Prop := Claim7.holds Tryd.pinned (.plain (OpenSpec.ofChange taintLocalSpec)) taintLocalCard

/-- THE TIED CARD OF 'fencepostlaw06.TaintJoins'. -/
def taintJoinsCard : Claim7 := { stood := { row := taintJoinsRow, standIns := [], harness := (true, "5bfe24eddb9e2b72d502c316b72cbdeb99ca38b2678bfacfdce7159a8f23f7c6"), looks := false }, kinds := [], alts := [], laidByText := true, laidKinds := [.listed, .data], laidTests := true, laidLooks := .later }
def TaintJoinsCardSaid : Prop := Claim7.holds Tryd.pinned (.plain (OpenSpec.ofChange taintJoinsSpec)) taintJoinsCard

/-- THE TIED CARD OF 'fencepostlaw06.TaintNames'. -/
def taintNamesCard : Claim7 := { stood := { row := taintNamesRow, standIns := [], harness := (true, "5bfe24eddb9e2b72d502c316b72cbdeb99ca38b2678bfacfdce7159a8f23f7c6"), looks := false }, kinds := [], alts := [], laidByText := true, laidKinds := [.listed, .data], laidTests := true, laidLooks := .later }
def TaintNamesCardSaid : Prop := Claim7.holds Tryd.pinned (.plain (OpenSpec.ofChange taintNamesSpec)) taintNamesCard

/-- THE TIED CARD OF 'fencepostlaw02.InsnFields'. -/
def insnFieldsCard : Claim7 := { stood := { row := insnFieldsRow, standIns := [], harness := (true, "5bfe24eddb9e2b72d502c316b72cbdeb99ca38b2678bfacfdce7159a8f23f7c6"), looks := false }, kinds := [], alts := [], laidByText := true, laidKinds := [.data, .data, .data, .listed, .data], laidTests := true, laidLooks := .later }
def InsnFieldsCardSaid : Prop := Claim7.holds Tryd.pinned (.plain (OpenSpec.ofChange insnFieldsSpec)) insnFieldsCard

/-- THE SECOND FORM's CARD OF 'fencepostlaw02.InsnShapes'. -/
def insnShapesUptoCard : Claim7 := { stood := { row := insnShapesUptoRow, standIns := [], harness := (true, "5bfe24eddb9e2b72d502c316b72cbdeb99ca38b2678bfacfdce7159a8f23f7c6"), looks := false }, kinds := [], alts := [], laidByText := true, laidKinds := [.data, .data, .data, .listed, .data], laidTests := true, laidLooks := .later }
def InsnShapesUptoCardSaid : Prop := Claim7.holds Tryd.pinned (.plain (OpenSpec.upto insnShapesSpec)) insnShapesUptoCard

/-- THE SECOND FORM's CARD OF 'fencepostlaw02.InsnTables'. -/
def insnTablesUptoCard : Claim7 := { stood := { row := insnTablesUptoRow, standIns := [], harness := (true, "5bfe24eddb9e2b72d502c316b72cbdeb99ca38b2678bfacfdce7159a8f23f7c6"), looks := false }, kinds := [], alts := [], laidByText := true, laidKinds := [.data, .data, .data, .listed, .data], laidTests := true, laidLooks := .later }
def InsnTablesUptoCardSaid : Prop := Claim7.holds Tryd.pinned (.plain (OpenSpec.upto insnTablesSpec)) insnTablesUptoCard

/-- THE SECOND FORM's CARD OF 'fencepostlaw06.TaintChains'. -/
def taintChainsUptoCard : Claim7 := { stood := { row := taintChainsUptoRow, standIns := [], harness := (true, "5bfe24eddb9e2b72d502c316b72cbdeb99ca38b2678bfacfdce7159a8f23f7c6"), looks := false }, kinds := [], alts := [], laidByText := true, laidKinds := [.listed, .data], laidTests := true, laidLooks := .later }
def TaintChainsUptoCardSaid : Prop := Claim7.holds Tryd.pinned (.plain (OpenSpec.upto taintChainsSpec)) taintChainsUptoCard

/-- THE SECOND FORM's CARD OF 'fencepostlaw06.TaintLocal'. -/
def taintLocalUptoCard : Claim7 := { stood := { row := taintLocalUptoRow, standIns := [], harness := (true, "5bfe24eddb9e2b72d502c316b72cbdeb99ca38b2678bfacfdce7159a8f23f7c6"), looks := false }, kinds := [], alts := [], laidByText := true, laidKinds := [.listed, .data], laidTests := true, laidLooks := .later }
def TaintLocalUptoCardSaid : Prop := Claim7.holds Tryd.pinned (.plain (OpenSpec.upto taintLocalSpec)) taintLocalUptoCard

/-- THE SECOND FORM's CARD OF 'fencepostlaw06.TaintJoins'. -/
def taintJoinsUptoCard : Claim7 := { stood := { row := taintJoinsUptoRow, standIns := [], harness := (true, "5bfe24eddb9e2b72d502c316b72cbdeb99ca38b2678bfacfdce7159a8f23f7c6"), looks := false }, kinds := [], alts := [], laidByText := true, laidKinds := [.listed, .data], laidTests := true, laidLooks := .later }
def TaintJoinsUptoCardSaid : Prop := Claim7.holds Tryd.pinned (.plain (OpenSpec.upto taintJoinsSpec)) taintJoinsUptoCard

/-- THE SECOND FORM's CARD OF 'fencepostlaw06.TaintNames'. -/
def taintNamesUptoCard : Claim7 := { stood := { row := taintNamesUptoRow, standIns := [], harness := (true, "5bfe24eddb9e2b72d502c316b72cbdeb99ca38b2678bfacfdce7159a8f23f7c6"), looks := false }, kinds := [], alts := [], laidByText := true, laidKinds := [.listed, .data], laidTests := true, laidLooks := .later }
def TaintNamesUptoCardSaid : Prop := Claim7.holds Tryd.pinned (.plain (OpenSpec.upto taintNamesSpec)) taintNamesUptoCard

/-- THE SECOND FORM's CARD OF 'fencepostlaw02.InsnFields'. -/
def insnFieldsUptoCard : Claim7 := { stood := { row := insnFieldsUptoRow, standIns := [], harness := (true, "5bfe24eddb9e2b72d502c316b72cbdeb99ca38b2678bfacfdce7159a8f23f7c6"), looks := false }, kinds := [], alts := [], laidByText := true, laidKinds := [.data, .data, .data, .listed, .data], laidTests := true, laidLooks := .later }
def InsnFieldsUptoCardSaid : Prop := Claim7.holds Tryd.pinned (.plain (OpenSpec.upto insnFieldsSpec)) insnFieldsUptoCard
end Rows
end Go.Proofs.YtgkgljlejnihdaaDoor
