/-
  DERIVED. GIVEN WITH THE SEED: THE CARDS: each row of YtbdhjckpoabmlaaDoorRows.lean that lists a variable, with what it lists TIED to the program's text (the seventh form; the later family's looks); each row that meets fmt, with fmt's text TOLD by the authors' own Lean function (tested against real Go, not proved from fmt's source: count such statements apart). THE CARD IS WHAT COUNTS. Prove the row's statement (the work); the ties are given (YtbdhjckpoabmlaaDoorTie.lean); close each card by the builder's one call (the guide's Derived/Test/ToyasCard.lean, 'card_holds'). Laid BY PROGRAM, IN A SANDBOX (cutbox-door.mjs). By AI agents, Wed Nov 11 2026. No macro, syntax, notation, axiom, sorry.
-/
import Derived.Test.YtbdhjckpoabmlaaDoorRows
import GoSem.ClaimSeven
namespace Go.Proofs.YtbdhjckpoabmlaaDoor
namespace Rows

/-- THE TIED CARD OF 'fencepostlaw03.CodeFields'. -/
def codeFieldsCard : Claim7 := { stood := { row := codeFieldsRow, standIns := [], harness := (true, "5a57b20a0ae926ce99239f071b85982718a0808391b589e7dcb2b7b8d9e92e99"), looks := false }, kinds := [], alts := [], laidByText := true, laidKinds := [.listed, .data, .wider, .wider, .wider, .wider, .wider, .wider, .wider, .wider], laidTests := true, laidLooks := .later }
def CodeFieldsCardSaid : Prop := Claim7.holds Tryd.pinned (.plain (OpenSpec.ofChange codeFieldsSpec)) codeFieldsCard

/-- THE TIED CARD OF 'fencepostlaw03.CodeImms'. -/
def codeImmsCard : Claim7 := { stood := { row := codeImmsRow, standIns := [], harness := (true, "5a57b20a0ae926ce99239f071b85982718a0808391b589e7dcb2b7b8d9e92e99"), looks := false }, kinds := [], alts := [], laidByText := true, laidKinds := [.listed, .data, .wider, .wider, .wider, .wider, .wider, .wider, .wider, .wider], laidTests := true, laidLooks := .later }
def CodeImmsCardSaid : Prop := Claim7.holds Tryd.pinned (.plain (OpenSpec.ofChange codeImmsSpec)) codeImmsCard

/-- THE TIED CARD OF 'fencepostlaw03.CodeBack'. -/
def codeBackCard : Claim7 := { stood := { row := codeBackRow, standIns := [], harness := (true, "5a57b20a0ae926ce99239f071b85982718a0808391b589e7dcb2b7b8d9e92e99"), looks := false }, kinds := [], alts := [], laidByText := true, laidKinds := [.listed, .data, .wider, .wider, .wider, .wider, .wider, .wider, .wider, .wider], laidTests := true, laidLooks := .later }
def CodeBackCardSaid : Prop := Claim7.holds Tryd.pinned (.plain (OpenSpec.ofChange codeBackSpec)) codeBackCard

/-- THE SECOND FORM's CARD OF 'fencepostlaw03.CodeFields'. -/
def codeFieldsUptoCard : Claim7 := { stood := { row := codeFieldsUptoRow, standIns := [], harness := (true, "5a57b20a0ae926ce99239f071b85982718a0808391b589e7dcb2b7b8d9e92e99"), looks := false }, kinds := [], alts := [], laidByText := true, laidKinds := [.listed, .data, .wider, .wider, .wider, .wider, .wider, .wider, .wider, .wider], laidTests := true, laidLooks := .later }
def CodeFieldsUptoCardSaid : Prop := Claim7.holds Tryd.pinned (.plain (OpenSpec.upto codeFieldsSpec)) codeFieldsUptoCard

/-- THE SECOND FORM's CARD OF 'fencepostlaw03.CodeImms'. -/
def codeImmsUptoCard : Claim7 := { stood := { row := codeImmsUptoRow, standIns := [], harness := (true, "5a57b20a0ae926ce99239f071b85982718a0808391b589e7dcb2b7b8d9e92e99"), looks := false }, kinds := [], alts := [], laidByText := true, laidKinds := [.listed, .data, .wider, .wider, .wider, .wider, .wider, .wider, .wider, .wider], laidTests := true, laidLooks := .later }
def CodeImmsUptoCardSaid : Prop := Claim7.holds Tryd.pinned (.plain (OpenSpec.upto codeImmsSpec)) codeImmsUptoCard

/-- THE SECOND FORM's CARD OF 'fencepostlaw03.CodeBack'. -/
def codeBackUptoCard : Claim7 := { stood := { row := codeBackUptoRow, standIns := [], harness := (true, "5a57b20a0ae926ce99239f071b85982718a0808391b589e7dcb2b7b8d9e92e99"), looks := false }, kinds := [], alts := [], laidByText := true, laidKinds := [.listed, .data, .wider, .wider, .wider, .wider, .wider, .wider, .wider, .wider], laidTests := true, laidLooks := .later }
def CodeBackUptoCardSaid : Prop := Claim7.holds Tryd.pinned (.plain (OpenSpec.upto codeBackSpec)) codeBackUptoCard
end Rows
end Go.Proofs.YtbdhjckpoabmlaaDoor
