/-
  DERIVED. GIVEN WITH THE SEED: THE CARDS: each row of YtdbpnbmaineniaaGreatDoorRows.lean that lists a variable, with what it lists TIED to the program's text (the seventh form; the later family's looks); each row that meets fmt, with fmt's text TOLD by the authors' own Lean function (tested against real Go, not proved from fmt's source: count such statements apart). THE CARD IS WHAT COUNTS. Prove the row's statement (the work); the ties are given (YtdbpnbmaineniaaGreatDoorTie.lean); close each card by the builder's one call (the guide's Derived/Test/ToyasCard.lean, 'card_holds'). Laid BY PROGRAM, IN A SANDBOX (cutbox-door.mjs). By AI agents, Wed Nov 11 2026. No macro, syntax, notation, axiom, sorry.
-/
import Derived.Test.YtdbpnbmaineniaaGreatDoorRows
import GoSem.ClaimSeven
namespace Go.Proofs.YtdbpnbmaineniaaGreatDoor
namespace Rows

/-- THE TIED CARD OF 'fencepostlaw03.CodeNames'. -/
def codeNamesCard : Claim7 := { stood := { row := codeNamesRow, standIns := [], harness := (true, "7f19fc188248c7ce107ebff3cb64d8b44ee603fecd875178e883155a3fa0755f"), looks := true }, kinds := [], alts := [], laidByText := true, laidKinds := [.data, .data, .data, .listed, .data, .wider, .wider, .wider, .wider, .wider, .wider, .wider, .wider], laidTests := true, laidLooks := .later }
def CodeNamesCardSaid : Prop := Claim7.holds Tryz.pinned (.plain (OpenSpec.ofChange codeNamesSpec)) codeNamesCard

/-- THE TIED CARD OF 'fencepostlaw03.CodeCalls'. -/
def codeCallsCard : Claim7 := { stood := { row := codeCallsRow, standIns := [], harness := (true, "7f19fc188248c7ce107ebff3cb64d8b44ee603fecd875178e883155a3fa0755f"), looks := true }, kinds := [], alts := [], laidByText := true, laidKinds := [.data, .data, .data, .listed, .data, .wider, .wider, .wider, .wider, .wider, .wider, .wider, .wider], laidTests := true, laidLooks := .later }
def CodeCallsCardSaid : Prop := Claim7.holds Tryz.pinned (.plain (OpenSpec.ofChange codeCallsSpec)) codeCallsCard

/-- THE TIED CARD OF 'fencepostlaw03.CodeLists'. -/
def codeListsCard : Claim7 := { stood := { row := codeListsRow, standIns := [], harness := (true, "7f19fc188248c7ce107ebff3cb64d8b44ee603fecd875178e883155a3fa0755f"), looks := true }, kinds := [], alts := [], laidByText := true, laidKinds := [.data, .data, .data, .listed, .data, .wider, .wider, .wider, .wider, .wider, .wider, .wider, .wider], laidTests := true, laidLooks := .later }
def CodeListsCardSaid : Prop := Claim7.holds Tryz.pinned (.plain (OpenSpec.ofChange codeListsSpec)) codeListsCard

/-- THE TIED CARD OF 'fencepostlaw02.InsnBack'. -/
def insnBackCard : Claim7 := { stood := { row := insnBackRow, standIns := [], harness := (true, "7f19fc188248c7ce107ebff3cb64d8b44ee603fecd875178e883155a3fa0755f"), looks := true }, kinds := [], alts := [], laidByText := true, laidKinds := [.data, .data, .data, .sentinel, .sentinel, .listed, .data], laidTests := true, laidLooks := .later }
def InsnBackCardSaid : Prop := Claim7.holds Tryz.pinned (.plain (OpenSpec.ofChange insnBackSpec)) insnBackCard

/-- THE TIED CARD OF 'fencepostlaw02.InsnNames'. -/
def insnNamesCard : Claim7 := { stood := { row := insnNamesRow, standIns := [], harness := (true, "7f19fc188248c7ce107ebff3cb64d8b44ee603fecd875178e883155a3fa0755f"), looks := true }, kinds := [], alts := [], laidByText := true, laidKinds := [.data, .data, .data, .sentinel, .sentinel, .listed, .data], laidTests := true, laidLooks := .later }
def InsnNamesCardSaid : Prop := Claim7.holds Tryz.pinned (.plain (OpenSpec.ofChange insnNamesSpec)) insnNamesCard

/-- THE TIED CARD OF 'fencepostlaw02.InsnCalls'. -/
def insnCallsCard : Claim7 := { stood := { row := insnCallsRow, standIns := [], harness := (true, "7f19fc188248c7ce107ebff3cb64d8b44ee603fecd875178e883155a3fa0755f"), looks := true }, kinds := [], alts := [], laidByText := true, laidKinds := [.data, .data, .data, .sentinel, .sentinel, .listed, .data], laidTests := true, laidLooks := .later }
def InsnCallsCardSaid : Prop := Claim7.holds Tryz.pinned (.plain (OpenSpec.ofChange insnCallsSpec)) insnCallsCard

/-- THE SECOND FORM's CARD OF 'fencepostlaw03.CodeNames'. -/
def codeNamesUptoCard : Claim7 := { stood := { row := codeNamesUptoRow, standIns := [], harness := (true, "7f19fc188248c7ce107ebff3cb64d8b44ee603fecd875178e883155a3fa0755f"), looks := true }, kinds := [], alts := [], laidByText := true, laidKinds := [.data, .data, .data, .listed, .data, .wider, .wider, .wider, .wider, .wider, .wider, .wider, .wider], laidTests := true, laidLooks := .later }
def CodeNamesUptoCardSaid : Prop := Claim7.holds Tryz.pinned (.plain (OpenSpec.upto codeNamesSpec)) codeNamesUptoCard

/-- THE SECOND FORM's CARD OF 'fencepostlaw03.CodeCalls'. -/
def codeCallsUptoCard : Claim7 := { stood := { row := codeCallsUptoRow, standIns := [], harness := (true, "7f19fc188248c7ce107ebff3cb64d8b44ee603fecd875178e883155a3fa0755f"), looks := true }, kinds := [], alts := [], laidByText := true, laidKinds := [.data, .data, .data, .listed, .data, .wider, .wider, .wider, .wider, .wider, .wider, .wider, .wider], laidTests := true, laidLooks := .later }
def CodeCallsUptoCardSaid : Prop := Claim7.holds Tryz.pinned (.plain (OpenSpec.upto codeCallsSpec)) codeCallsUptoCard

/-- THE SECOND FORM's CARD OF 'fencepostlaw03.CodeLists'. -/
def codeListsUptoCard : Claim7 := { stood := { row := codeListsUptoRow, standIns := [], harness := (true, "7f19fc188248c7ce107ebff3cb64d8b44ee603fecd875178e883155a3fa0755f"), looks := true }, kinds := [], alts := [], laidByText := true, laidKinds := [.data, .data, .data, .listed, .data, .wider, .wider, .wider, .wider, .wider, .wider, .wider, .wider], laidTests := true, laidLooks := .later }
def CodeListsUptoCardSaid : Prop := Claim7.holds Tryz.pinned (.plain (OpenSpec.upto codeListsSpec)) codeListsUptoCard

/-- THE SECOND FORM's CARD OF 'fencepostlaw02.InsnBack'. -/
def insnBackUptoCard : Claim7 := { stood := { row := insnBackUptoRow, standIns := [], harness := (true, "7f19fc188248c7ce107ebff3cb64d8b44ee603fecd875178e883155a3fa0755f"), looks := true }, kinds := [], alts := [], laidByText := true, laidKinds := [.data, .data, .data, .sentinel, .sentinel, .listed, .data], laidTests := true, laidLooks := .later }
def InsnBackUptoCardSaid : Prop := Claim7.holds Tryz.pinned (.plain (OpenSpec.upto insnBackSpec)) insnBackUptoCard

/-- THE SECOND FORM's CARD OF 'fencepostlaw02.InsnNames'. -/
def insnNamesUptoCard : Claim7 := { stood := { row := insnNamesUptoRow, standIns := [], harness := (true, "7f19fc188248c7ce107ebff3cb64d8b44ee603fecd875178e883155a3fa0755f"), looks := true }, kinds := [], alts := [], laidByText := true, laidKinds := [.data, .data, .data, .sentinel, .sentinel, .listed, .data], laidTests := true, laidLooks := .later }
def InsnNamesUptoCardSaid : Prop := Claim7.holds Tryz.pinned (.plain (OpenSpec.upto insnNamesSpec)) insnNamesUptoCard

/-- THE SECOND FORM's CARD OF 'fencepostlaw02.InsnCalls'. -/
def insnCallsUptoCard : Claim7 := { stood := { row := insnCallsUptoRow, standIns := [], harness := (true, "7f19fc188248c7ce107ebff3cb64d8b44ee603fecd875178e883155a3fa0755f"), looks := true }, kinds := [], alts := [], laidByText := true, laidKinds := [.data, .data, .data, .sentinel, .sentinel, .listed, .data], laidTests := true, laidLooks := .later }
def InsnCallsUptoCardSaid : Prop := Claim7.holds Tryz.pinned (.plain (OpenSpec.upto insnCallsSpec)) insnCallsUptoCard
end Rows
end Go.Proofs.YtdbpnbmaineniaaGreatDoor
