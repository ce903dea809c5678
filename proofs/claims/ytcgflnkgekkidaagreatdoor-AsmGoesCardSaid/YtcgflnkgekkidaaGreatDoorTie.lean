/-
  DERIVED. GIVEN WITH THE SEED: THE PROGRAM's TIES (one call each: nine closed facts by the kernel) AND EACH ROW's TIE, after the 31st guide's Derived/Test/Toyas{Tie, Card}.lean. No idea stands in it: it is a product of the set-up. Laid BY PROGRAM, IN A SANDBOX (cutbox-door.mjs). By AI agents, Wed Nov 11 2026. No macro, syntax, notation, axiom, sorry.
-/
import Derived.Test.YtcgflnkgekkidaaGreatDoorRows
import Derived.LaidByTextLater
import Derived.SevenTiedAt
import Derived.LaidSub
import Derived.LaidOnce
namespace Go.Proofs.YtcgflnkgekkidaaGreatDoor
open Go
set_option maxRecDepth 100000
theorem seatTie1 : Tryz.prog.laidByTextLater [("unicode.White_Space", Rows.laid_unicode_White_Space), ("strings.asciiSpace", Rows.laid_strings_asciiSpace), ("fencepost/code.fieldRd", Rows.laid_fencepost_code_fieldRd), ("fencepost/code.fieldRs1", Rows.laid_fencepost_code_fieldRs1), ("fencepost/code.fieldRs2", Rows.laid_fencepost_code_fieldRs2), ("fencepost/code.fieldF3", Rows.laid_fencepost_code_fieldF3), ("fencepost/code.fieldF7", Rows.laid_fencepost_code_fieldF7), ("fencepost/code.fieldSix", Rows.laid_fencepost_code_fieldSix), ("fencepost/code.fieldPred", Rows.laid_fencepost_code_fieldPred), ("fencepost/code.fieldSucc", Rows.laid_fencepost_code_fieldSucc)] [.listed, .data, .wider, .wider, .wider, .wider, .wider, .wider, .wider, .wider] true :=
  Program.laidByTextLater_by_one 73 8 257 (by kernel_rfl) (by kernel_rfl) (by kernel_rfl) (by kernel_rfl) (by kernel_rfl) (by kernel_rfl) (fun _ _ => by kernel_rfl)
theorem noOwnUnsafe : Tryz.pinned.checked.prog.headLifts.contains "ownunsafe" = false := by kernel_rfl
theorem tie : Tryz.prog.laidByTextLater [("unicode.White_Space", Rows.laid_unicode_White_Space), ("strings.asciiSpace", Rows.laid_strings_asciiSpace), ("fencepost/code.fieldRd", Rows.laid_fencepost_code_fieldRd), ("fencepost/code.fieldRs1", Rows.laid_fencepost_code_fieldRs1), ("fencepost/code.fieldRs2", Rows.laid_fencepost_code_fieldRs2), ("fencepost/code.fieldF3", Rows.laid_fencepost_code_fieldF3), ("fencepost/code.fieldF7", Rows.laid_fencepost_code_fieldF7), ("fencepost/code.fieldSix", Rows.laid_fencepost_code_fieldSix), ("fencepost/code.fieldPred", Rows.laid_fencepost_code_fieldPred), ("fencepost/code.fieldSucc", Rows.laid_fencepost_code_fieldSucc)] [.listed, .data, .wider, .wider, .wider, .wider, .wider, .wider, .wider, .wider] true :=
  Program.laidByTextLater.sub seatTie1 ["unicode.White_Space", "strings.asciiSpace", "fencepost/code.fieldRd", "fencepost/code.fieldRs1", "fencepost/code.fieldRs2", "fencepost/code.fieldF3", "fencepost/code.fieldF7", "fencepost/code.fieldSix", "fencepost/code.fieldPred", "fencepost/code.fieldSucc"] (by kernel_rfl) (by kernel_rfl)
theorem asmLabels_row_tie : Rows.asmLabelsRow.laidByTextAt .later Tryz.pinned [.listed, .data, .wider, .wider, .wider, .wider, .wider, .wider, .wider, .wider] true :=
  OpenClaim.laidByTextAt_later rfl rfl tie noOwnUnsafe
theorem asmNumbers_row_tie : Rows.asmNumbersRow.laidByTextAt .later Tryz.pinned [.listed, .data, .wider, .wider, .wider, .wider, .wider, .wider, .wider, .wider] true :=
  OpenClaim.laidByTextAt_later rfl rfl tie noOwnUnsafe
theorem asmGoes_row_tie : Rows.asmGoesRow.laidByTextAt .later Tryz.pinned [.listed, .data, .wider, .wider, .wider, .wider, .wider, .wider, .wider, .wider] true :=
  OpenClaim.laidByTextAt_later rfl rfl tie noOwnUnsafe
theorem asmNames_row_tie : Rows.asmNamesRow.laidByTextAt .later Tryz.pinned [.listed, .data, .wider, .wider, .wider, .wider, .wider, .wider, .wider, .wider] true :=
  OpenClaim.laidByTextAt_later rfl rfl tie noOwnUnsafe
theorem asmCalls_row_tie : Rows.asmCallsRow.laidByTextAt .later Tryz.pinned [.listed, .data, .wider, .wider, .wider, .wider, .wider, .wider, .wider, .wider] true :=
  OpenClaim.laidByTextAt_later rfl rfl tie noOwnUnsafe
theorem asmPlaces_row_tie : Rows.asmPlacesRow.laidByTextAt .later Tryz.pinned [.listed, .data, .wider, .wider, .wider, .wider, .wider, .wider, .wider, .wider] true :=
  OpenClaim.laidByTextAt_later rfl rfl tie noOwnUnsafe
theorem asmLabelsUpto_row_tie : Rows.asmLabelsUptoRow.laidByTextAt .later Tryz.pinned [.listed, .data, .wider, .wider, .wider, .wider, .wider, .wider, .wider, .wider] true :=
  OpenClaim.laidByTextAt_later rfl rfl tie noOwnUnsafe
theorem asmNumbersUpto_row_tie : Rows.asmNumbersUptoRow.laidByTextAt .later Tryz.pinned [.listed, .data, .wider, .wider, .wider, .wider, .wider, .wider, .wider, .wider] true :=
  OpenClaim.laidByTextAt_later rfl rfl tie noOwnUnsafe
theorem asmGoesUpto_row_tie : Rows.asmGoesUptoRow.laidByTextAt .later Tryz.pinned [.listed, .data, .wider, .wider, .wider, .wider, .wider, .wider, .wider, .wider] true :=
  OpenClaim.laidByTextAt_later rfl rfl tie noOwnUnsafe
theorem asmNamesUpto_row_tie : Rows.asmNamesUptoRow.laidByTextAt .later Tryz.pinned [.listed, .data, .wider, .wider, .wider, .wider, .wider, .wider, .wider, .wider] true :=
  OpenClaim.laidByTextAt_later rfl rfl tie noOwnUnsafe
theorem asmCallsUpto_row_tie : Rows.asmCallsUptoRow.laidByTextAt .later Tryz.pinned [.listed, .data, .wider, .wider, .wider, .wider, .wider, .wider, .wider, .wider] true :=
  OpenClaim.laidByTextAt_later rfl rfl tie noOwnUnsafe
theorem asmPlacesUpto_row_tie : Rows.asmPlacesUptoRow.laidByTextAt .later Tryz.pinned [.listed, .data, .wider, .wider, .wider, .wider, .wider, .wider, .wider, .wider] true :=
  OpenClaim.laidByTextAt_later rfl rfl tie noOwnUnsafe
end Go.Proofs.YtcgflnkgekkidaaGreatDoor
