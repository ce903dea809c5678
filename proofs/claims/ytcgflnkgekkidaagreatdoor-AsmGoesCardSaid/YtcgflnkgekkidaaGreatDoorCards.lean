/-
  DERIVED. GIVEN WITH THE SEED: THE CARDS: each row of YtcgflnkgekkidaaGreatDoorRows.lean that lists a variable, with what it lists TIED to the program's text (the seventh form; the later family's looks); each row that meets fmt, with fmt's text TOLD by the authors' own Lean function (tested against real Go, not proved from fmt's source: count such statements apart). THE CARD IS WHAT COUNTS. Prove the row's statement (the work); the ties are given (YtcgflnkgekkidaaGreatDoorTie.lean); close each card by the builder's one call (the guide's Derived/Test/ToyasCard.lean, 'card_holds'). Laid BY PROGRAM, IN A SANDBOX (cutbox-door.mjs). By AI agents, Wed Nov 11 2026. No macro, syntax, notation, axiom, sorry.
-/
import Derived.Test.YtcgflnkgekkidaaGreatDoorRows
import GoSem.ClaimSeven
namespace Go.Proofs.YtcgflnkgekkidaaGreatDoor
namespace Rows

/-- THE TIED CARD OF 'fencepostlaw15.AsmLabels'. -/
def asmLabelsCard : Claim7 := { stood := { row := asmLabelsRow, standIns := [], harness := (true, "cd5b8da0df9645dbb5fd45ec8659f70aeb678cda3d741c906617ed0913c0a5d5"), looks := false }, kinds := [], alts := [], laidByText := true, laidKinds := [.listed, .data, .wider, .wider, .wider, .wider, .wider, .wider, .wider, .wider], laidTests := true, laidLooks := .later }
def AsmLabelsCardSaid : Prop := Claim7.holds Tryz.pinned (.plain (OpenSpec.ofChange asmLabelsSpec)) asmLabelsCard

/-- THE TIED CARD OF 'fencepostlaw15.AsmNumbers'. -/
def asmNumbersCard : Claim7 := { stood := { row := asmNumbersRow, standIns := [], harness := (true, "cd5b8da0df9645dbb5fd45ec8659f70aeb678cda3d741c906617ed0913c0a5d5"), looks := false }, kinds := [], alts := [], laidByText := true, laidKinds := [.listed, .data, .wider, .wider, .wider, .wider, .wider, .wider, .wider, .wider], laidTests := true, laidLooks := .later }
def AsmNumbersCardSaid : Prop := Claim7.holds Tryz.pinned (.plain (OpenSpec.ofChange asmNumbersSpec)) asmNumbersCard

/-- THE TIED CARD OF 'fencepostlaw15.AsmGoes'. -/
def asmGoesCard : Claim7 := { stood := { row := asmGoesRow, standIns := [], harness := (true, "cd5b8da0df9645dbb5fd45ec8659f70aeb678cda3d741c906617ed0913c0a5d5"), looks := false }, kinds := [], alts := [], laidByText := true, laidKinds := [.listed, .data, .wider, .wider, .wider, .wider, .wider, .wider, .wider, .wider], laidTests := true, laidLooks := .later }
def AsmGoesCardSaid : Prop := Claim7.holds Tryz.pinned (.plain (OpenSpec.ofChange asmGoesSpec)) asmGoesCard

/-- THE TIED CARD OF 'fencepostlaw15.AsmNames'. -/
def asmNamesCard : Claim7 := { stood := { row := asmNamesRow, standIns := [], harness := (true, "cd5b8da0df9645dbb5fd45ec8659f70aeb678cda3d741c906617ed0913c0a5d5"), looks := false }, kinds := [], alts := [], laidByText := true, laidKinds := [.listed, .data, .wider, .wider, .wider, .wider, .wider, .wider, .wider, .wider], laidTests := true, laidLooks := .later }
def AsmNamesCardSaid : Prop := Claim7.holds Tryz.pinned (.plain (OpenSpec.ofChange asmNamesSpec)) asmNamesCard

/-- THE TIED CARD OF 'fencepostlaw15.AsmCalls'. -/
def asmCallsCard : Claim7 := { stood := { row := asmCallsRow, standIns := [], harness := (true, "cd5b8da0df9645dbb5fd45ec8659f70aeb678cda3d741c906617ed0913c0a5d5"), looks := false }, kinds := [], alts := [], laidByText := true, laidKinds := [.listed, .data, .wider, .wider, .wider, .wider, .wider, .wider, .wider, .wider], laidTests := true, laidLooks := .later }
def AsmCallsCardSaid : Prop := Claim7.holds Tryz.pinned (.plain (OpenSpec.ofChange asmCallsSpec)) asmCallsCard

/-- THE TIED CARD OF 'fencepostlaw15.AsmPlaces'. -/
def asmPlacesCard : Claim7 := { stood := { row := asmPlacesRow, standIns := [], harness := (true, "cd5b8da0df9645dbb5fd45ec8659f70aeb678cda3d741c906617ed0913c0a5d5"), looks := false }, kinds := [], alts := [], laidByText := true, laidKinds := [.listed, .data, .wider, .wider, .wider, .wider, .wider, .wider, .wider, .wider], laidTests := true, laidLooks := .later }
def AsmPlacesCardSaid : Prop := Claim7.holds Tryz.pinned (.plain (OpenSpec.ofChange asmPlacesSpec)) asmPlacesCard

/-- THE SECOND FORM's CARD OF 'fencepostlaw15.AsmLabels'. -/
def asmLabelsUptoCard : Claim7 := { stood := { row := asmLabelsUptoRow, standIns := [], harness := (true, "cd5b8da0df9645dbb5fd45ec8659f70aeb678cda3d741c906617ed0913c0a5d5"), looks := false }, kinds := [], alts := [], laidByText := true, laidKinds := [.listed, .data, .wider, .wider, .wider, .wider, .wider, .wider, .wider, .wider], laidTests := true, laidLooks := .later }
def AsmLabelsUptoCardSaid : Prop := Claim7.holds Tryz.pinned (.plain (OpenSpec.upto asmLabelsSpec)) asmLabelsUptoCard

/-- THE SECOND FORM's CARD OF 'fencepostlaw15.AsmNumbers'. -/
def asmNumbersUptoCard : Claim7 := { stood := { row := asmNumbersUptoRow, standIns := [], harness := (true, "cd5b8da0df9645dbb5fd45ec8659f70aeb678cda3d741c906617ed0913c0a5d5"), looks := false }, kinds := [], alts := [], laidByText := true, laidKinds := [.listed, .data, .wider, .wider, .wider, .wider, .wider, .wider, .wider, .wider], laidTests := true, laidLooks := .later }
def AsmNumbersUptoCardSaid : Prop := Claim7.holds Tryz.pinned (.plain (OpenSpec.upto asmNumbersSpec)) asmNumbersUptoCard

/-- THE SECOND FORM's CARD OF 'fencepostlaw15.AsmGoes'. -/
def asmGoesUptoCard : Claim7 := { stood := { row := asmGoesUptoRow, standIns := [], harness := (true, "cd5b8da0df9645dbb5fd45ec8659f70aeb678cda3d741c906617ed0913c0a5d5"), looks := false }, kinds := [], alts := [], laidByText := true, laidKinds := [.listed, .data, .wider, .wider, .wider, .wider, .wider, .wider, .wider, .wider], laidTests := true, laidLooks := .later }
def AsmGoesUptoCardSaid : Prop := Claim7.holds Tryz.pinned (.plain (OpenSpec.upto asmGoesSpec)) asmGoesUptoCard

/-- THE SECOND FORM's CARD OF 'fencepostlaw15.AsmNames'. -/
def asmNamesUptoCard : Claim7 := { stood := { row := asmNamesUptoRow, standIns := [], harness := (true, "cd5b8da0df9645dbb5fd45ec8659f70aeb678cda3d741c906617ed0913c0a5d5"), looks := false }, kinds := [], alts := [], laidByText := true, laidKinds := [.listed, .data, .wider, .wider, .wider, .wider, .wider, .wider, .wider, .wider], laidTests := true, laidLooks := .later }
def AsmNamesUptoCardSaid : Prop := Claim7.holds Tryz.pinned (.plain (OpenSpec.upto asmNamesSpec)) asmNamesUptoCard

/-- THE SECOND FORM's CARD OF 'fencepostlaw15.AsmCalls'. -/
def asmCallsUptoCard : Claim7 := { stood := { row := asmCallsUptoRow, standIns := [], harness := (true, "cd5b8da0df9645dbb5fd45ec8659f70aeb678cda3d741c906617ed0913c0a5d5"), looks := false }, kinds := [], alts := [], laidByText := true, laidKinds := [.listed, .data, .wider, .wider, .wider, .wider, .wider, .wider, .wider, .wider], laidTests := true, laidLooks := .later }
def AsmCallsUptoCardSaid : Prop := Claim7.holds Tryz.pinned (.plain (OpenSpec.upto asmCallsSpec)) asmCallsUptoCard

/-- THE SECOND FORM's CARD OF 'fencepostlaw15.AsmPlaces'. -/
def asmPlacesUptoCard : Claim7 := { stood := { row := asmPlacesUptoRow, standIns := [], harness := (true, "cd5b8da0df9645dbb5fd45ec8659f70aeb678cda3d741c906617ed0913c0a5d5"), looks := false }, kinds := [], alts := [], laidByText := true, laidKinds := [.listed, .data, .wider, .wider, .wider, .wider, .wider, .wider, .wider, .wider], laidTests := true, laidLooks := .later }
def AsmPlacesUptoCardSaid : Prop := Claim7.holds Tryz.pinned (.plain (OpenSpec.upto asmPlacesSpec)) asmPlacesUptoCard
end Rows
end Go.Proofs.YtcgflnkgekkidaaGreatDoor
