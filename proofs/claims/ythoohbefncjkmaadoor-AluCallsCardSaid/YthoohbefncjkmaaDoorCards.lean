/-
  DERIVED. GIVEN WITH THE SEED: THE CARDS: each row of YthoohbefncjkmaaDoorRows.lean that lists a variable, with what it lists TIED to the program's text (the seventh form; the later family's looks); each row that meets fmt, with fmt's text TOLD by the authors' own Lean function (tested against real Go, not proved from fmt's source: count such statements apart). THE CARD IS WHAT COUNTS. Prove the row's statement (the work); the ties are given (YthoohbefncjkmaaDoorTie.lean); close each card by the builder's one call (the guide's Derived/Test/ToyasCard.lean, 'card_holds'). Laid BY PROGRAM, IN A SANDBOX (cutbox-door.mjs). By AI agents, Wed Nov 11 2026. No macro, syntax, notation, axiom, sorry.
-/
import Derived.Test.YthoohbefncjkmaaDoorRows
import GoSem.ClaimSeven
namespace Go.Proofs.YthoohbefncjkmaaDoor
namespace Rows

/-- THE TIED CARD OF 'fencepostlaw04.AluDivides'. -/
def aluDividesCard : Claim7 := { stood := { row := aluDividesRow, standIns := [], harness := (true, "77cb866559344cb031f96aeac80361503e9c8f6f5272858f5741e8e32b15fa7f"), looks := false }, kinds := [], alts := [], laidByText := true, laidKinds := [.listed, .data], laidTests := true, laidLooks := .later }
def AluDividesCardSaid : Prop := Claim7.holds Tryd.pinned (.plain (OpenSpec.ofChange aluDividesSpec)) aluDividesCard

/-- THE TIED CARD OF 'fencepostlaw04.AluHalves'. -/
def aluHalvesCard : Claim7 := { stood := { row := aluHalvesRow, standIns := [], harness := (true, "77cb866559344cb031f96aeac80361503e9c8f6f5272858f5741e8e32b15fa7f"), looks := false }, kinds := [], alts := [], laidByText := true, laidKinds := [.listed, .data], laidTests := true, laidLooks := .later }
def AluHalvesCardSaid : Prop := Claim7.holds Tryd.pinned (.plain (OpenSpec.ofChange aluHalvesSpec)) aluHalvesCard

/-- THE TIED CARD OF 'fencepostlaw04.AluShort'. -/
def aluShortCard : Claim7 := { stood := { row := aluShortRow, standIns := [], harness := (true, "77cb866559344cb031f96aeac80361503e9c8f6f5272858f5741e8e32b15fa7f"), looks := false }, kinds := [], alts := [], laidByText := true, laidKinds := [.listed, .data], laidTests := true, laidLooks := .later }
def AluShortCardSaid : Prop := Claim7.holds Tryd.pinned (.plain (OpenSpec.ofChange aluShortSpec)) aluShortCard

/-- THE TIED CARD OF 'fencepostlaw04.AluRing'. -/
def aluRingCard : Claim7 := { stood := { row := aluRingRow, standIns := [], harness := (true, "77cb866559344cb031f96aeac80361503e9c8f6f5272858f5741e8e32b15fa7f"), looks := false }, kinds := [], alts := [], laidByText := true, laidKinds := [.listed, .data], laidTests := true, laidLooks := .later }
def AluRingCardSaid : Prop := Claim7.holds Tryd.pinned (.plain (OpenSpec.ofChange aluRingSpec)) aluRingCard

/-- THE TIED CARD OF 'fencepostlaw04.AluNames'. -/
def aluNamesCard : Claim7 := { stood := { row := aluNamesRow, standIns := [], harness := (true, "77cb866559344cb031f96aeac80361503e9c8f6f5272858f5741e8e32b15fa7f"), looks := false }, kinds := [], alts := [], laidByText := true, laidKinds := [.listed, .data], laidTests := true, laidLooks := .later }
def AluNamesCardSaid : Prop := Claim7.holds Tryd.pinned (.plain (OpenSpec.ofChange aluNamesSpec)) aluNamesCard

/-- THE TIED CARD OF 'fencepostlaw04.AluCalls'. -/
def aluCallsCard : Claim7 := { stood := { row := aluCallsRow, standIns := [], harness := (true, "77cb866559344cb031f96aeac80361503e9c8f6f5272858f5741e8e32b15fa7f"), looks := false }, kinds := [], alts := [], laidByText := true, laidKinds := [.listed, .data], laidTests := true, laidLooks := .later }
def AluCallsCardSaid : Prop := Claim7.holds Tryd.pinned (.plain (OpenSpec.ofChange aluCallsSpec)) aluCallsCard

/-- THE TIED CARD OF 'fencepostlaw04.AluOrders'. -/
def aluOrdersCard : Claim7 := { stood := { row := aluOrdersRow, standIns := [], harness := (true, "77cb866559344cb031f96aeac80361503e9c8f6f5272858f5741e8e32b15fa7f"), looks := false }, kinds := [], alts := [], laidByText := true, laidKinds := [.listed, .data], laidTests := true, laidLooks := .later }
def AluOrdersCardSaid : Prop := Claim7.holds Tryd.pinned (.plain (OpenSpec.ofChange aluOrdersSpec)) aluOrdersCard

/-- THE SECOND FORM's CARD OF 'fencepostlaw04.AluDivides'. -/
def aluDividesUptoCard : Claim7 := { stood := { row := aluDividesUptoRow, standIns := [], harness := (true, "77cb866559344cb031f96aeac80361503e9c8f6f5272858f5741e8e32b15fa7f"), looks := false }, kinds := [], alts := [], laidByText := true, laidKinds := [.listed, .data], laidTests := true, laidLooks := .later }
def AluDividesUptoCardSaid : Prop := Claim7.holds Tryd.pinned (.plain (OpenSpec.upto aluDividesSpec)) aluDividesUptoCard

/-- THE SECOND FORM's CARD OF 'fencepostlaw04.AluHalves'. -/
def aluHalvesUptoCard : Claim7 := { stood := { row := aluHalvesUptoRow, standIns := [], harness := (true, "77cb866559344cb031f96aeac80361503e9c8f6f5272858f5741e8e32b15fa7f"), looks := false }, kinds := [], alts := [], laidByText := true, laidKinds := [.listed, .data], laidTests := true, laidLooks := .later }
def AluHalvesUptoCardSaid : Prop := Claim7.holds Tryd.pinned (.plain (OpenSpec.upto aluHalvesSpec)) aluHalvesUptoCard

/-- THE SECOND FORM's CARD OF 'fencepostlaw04.AluShort'. -/
def aluShortUptoCard : Claim7 := { stood := { row := aluShortUptoRow, standIns := [], harness := (true, "77cb866559344cb031f96aeac80361503e9c8f6f5272858f5741e8e32b15fa7f"), looks := false }, kinds := [], alts := [], laidByText := true, laidKinds := [.listed, .data], laidTests := true, laidLooks := .later }
def AluShortUptoCardSaid : Prop := Claim7.holds Tryd.pinned (.plain (OpenSpec.upto aluShortSpec)) aluShortUptoCard

/-- THE SECOND FORM's CARD OF 'fencepostlaw04.AluRing'. -/
def aluRingUptoCard : Claim7 := { stood := { row := aluRingUptoRow, standIns := [], harness := (true, "77cb866559344cb031f96aeac80361503e9c8f6f5272858f5741e8e32b15fa7f"), looks := false }, kinds := [], alts := [], laidByText := true, laidKinds := [.listed, .data], laidTests := true, laidLooks := .later }
def AluRingUptoCardSaid : Prop := Claim7.holds Tryd.pinned (.plain (OpenSpec.upto aluRingSpec)) aluRingUptoCard

/-- THE SECOND FORM's CARD OF 'fencepostlaw04.AluNames'. -/
def aluNamesUptoCard : Claim7 := { stood := { row := aluNamesUptoRow, standIns := [], harness := (true, "77cb866559344cb031f96aeac80361503e9c8f6f5272858f5741e8e32b15fa7f"), looks := false }, kinds := [], alts := [], laidByText := true, laidKinds := [.listed, .data], laidTests := true, laidLooks := .later }
def AluNamesUptoCardSaid : Prop := Claim7.holds Tryd.pinned (.plain (OpenSpec.upto aluNamesSpec)) aluNamesUptoCard

/-- THE SECOND FORM's CARD OF 'fencepostlaw04.AluCalls'. -/
def aluCallsUptoCard : Claim7 := { stood := { row := aluCallsUptoRow, standIns := [], harness := (true, "77cb866559344cb031f96aeac80361503e9c8f6f5272858f5741e8e32b15fa7f"), looks := false }, kinds := [], alts := [], laidByText := true, laidKinds := [.listed, .data], laidTests := true, laidLooks := .later }
def AluCallsUptoCardSaid : Prop := Claim7.holds Tryd.pinned (.plain (OpenSpec.upto aluCallsSpec)) aluCallsUptoCard

/-- THE SECOND FORM's CARD OF 'fencepostlaw04.AluOrders'. -/
def aluOrdersUptoCard : Claim7 := { stood := { row := aluOrdersUptoRow, standIns := [], harness := (true, "77cb866559344cb031f96aeac80361503e9c8f6f5272858f5741e8e32b15fa7f"), looks := false }, kinds := [], alts := [], laidByText := true, laidKinds := [.listed, .data], laidTests := true, laidLooks := .later }
def AluOrdersUptoCardSaid : Prop := Claim7.holds Tryd.pinned (.plain (OpenSpec.upto aluOrdersSpec)) aluOrdersUptoCard
end Rows
end Go.Proofs.YthoohbefncjkmaaDoor
