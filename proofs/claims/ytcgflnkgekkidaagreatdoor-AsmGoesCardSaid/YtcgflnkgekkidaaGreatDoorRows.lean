/-
  NARROWER THAN 'FOR EVERY INPUT', by the rows' own cells (each row's printed sentence says how): AsmLabels: laid · AsmNumbers: laid · AsmGoes: laid · AsmNames: laid · AsmCalls: laid · AsmPlaces: laid.
  DERIVED. THE GIVEN ROWS OF THIS SEAT. 6 by the template 'for every input the law returns true; each argument reads behind the call as it read before'; 0 by the template 'total and deterministic' (their statements: YtcgflnkgekkidaaGreatDoorTotals.lean).
  GIVEN WITH THE SEED: the statements are not yours to turn. If you find one false, say at which input.
  Laid BY PROGRAM, IN A SANDBOX (cutbox-rows.mjs): the forced cells as the released guide's own fill.sh prints them over the translation dc37264d5ef96c04… (all of the seat's roots in one cut). By AI agents, Wed Nov 11 2026. No macro, syntax, notation, axiom, sorry.
-/
import Derived.Test.YtcgflnkgekkidaaGreatDoorChecked
import GoSem.Claim
import GoSem.ClaimJoined
import GoSem.ClaimMapViews
import Derived.JoinedTies
import Derived.KernelRfl
namespace Go.Proofs.YtcgflnkgekkidaaGreatDoor
/- THE CELL 'sum', in the pinned program and in every row, IS THE sha256 OF THE DUMP (.gsa) THAT YtcgflnkgekkidaaGreatDoorProg.lean LOADS. Nothing in Lean hashes anything: it is a label: what it is worth is what the hold of that sum in a sandbox is worth. -/
noncomputable def Tryz.pinned : Pinned := { name := "ytcgflnkgekkidaagreatdoor", sum := "dc37264d5ef96c04beeaec6d82f4172fa257e52fd2623c300e427f484f700c70", checked := Tryz.checked }
namespace Rows
def none {H : Type} : Left H := { results := [], args := [] }

/- WHAT THE LISTED PACKAGE-LEVEL VARIABLES READ AS WHEN THE CALL BEGINS. Each datum BY PROGRAM (the guide's laid-datum.mjs) off the statement by which the dump's own 'gosem.cut.vars' lays the variable. In a bare row this is a premise. The card (YtcgflnkgekkidaaGreatDoorCards.lean) ties it to the program's text. -/
def laid_unicode_White_Space {H : Type} : DataW H := .ptr (.agg [.slice [.agg [.lit (.int .u16 9), .lit (.int .u16 13), .lit (.int .u16 1)], .agg [.lit (.int .u16 32), .lit (.int .u16 133), .lit (.int .u16 101)], .agg [.lit (.int .u16 160), .lit (.int .u16 5760), .lit (.int .u16 5600)], .agg [.lit (.int .u16 8192), .lit (.int .u16 8202), .lit (.int .u16 1)], .agg [.lit (.int .u16 8232), .lit (.int .u16 8233), .lit (.int .u16 1)], .agg [.lit (.int .u16 8239), .lit (.int .u16 8287), .lit (.int .u16 48)], .agg [.lit (.int .u16 12288), .lit (.int .u16 12288), .lit (.int .u16 1)]] [], .nil, .lit (.int .i64 2)])
def laid_strings_asciiSpace {H : Type} : DataW H := .agg [.lit (.int .u8 0), .lit (.int .u8 0), .lit (.int .u8 0), .lit (.int .u8 0), .lit (.int .u8 0), .lit (.int .u8 0), .lit (.int .u8 0), .lit (.int .u8 0), .lit (.int .u8 0), .lit (.int .u8 1), .lit (.int .u8 1), .lit (.int .u8 1), .lit (.int .u8 1), .lit (.int .u8 1), .lit (.int .u8 0), .lit (.int .u8 0), .lit (.int .u8 0), .lit (.int .u8 0), .lit (.int .u8 0), .lit (.int .u8 0), .lit (.int .u8 0), .lit (.int .u8 0), .lit (.int .u8 0), .lit (.int .u8 0), .lit (.int .u8 0), .lit (.int .u8 0), .lit (.int .u8 0), .lit (.int .u8 0), .lit (.int .u8 0), .lit (.int .u8 0), .lit (.int .u8 0), .lit (.int .u8 0), .lit (.int .u8 1), .lit (.int .u8 0), .lit (.int .u8 0), .lit (.int .u8 0), .lit (.int .u8 0), .lit (.int .u8 0), .lit (.int .u8 0), .lit (.int .u8 0), .lit (.int .u8 0), .lit (.int .u8 0), .lit (.int .u8 0), .lit (.int .u8 0), .lit (.int .u8 0), .lit (.int .u8 0), .lit (.int .u8 0), .lit (.int .u8 0), .lit (.int .u8 0), .lit (.int .u8 0), .lit (.int .u8 0), .lit (.int .u8 0), .lit (.int .u8 0), .lit (.int .u8 0), .lit (.int .u8 0), .lit (.int .u8 0), .lit (.int .u8 0), .lit (.int .u8 0), .lit (.int .u8 0), .lit (.int .u8 0), .lit (.int .u8 0), .lit (.int .u8 0), .lit (.int .u8 0), .lit (.int .u8 0), .lit (.int .u8 0), .lit (.int .u8 0), .lit (.int .u8 0), .lit (.int .u8 0), .lit (.int .u8 0), .lit (.int .u8 0), .lit (.int .u8 0), .lit (.int .u8 0), .lit (.int .u8 0), .lit (.int .u8 0), .lit (.int .u8 0), .lit (.int .u8 0), .lit (.int .u8 0), .lit (.int .u8 0), .lit (.int .u8 0), .lit (.int .u8 0), .lit (.int .u8 0), .lit (.int .u8 0), .lit (.int .u8 0), .lit (.int .u8 0), .lit (.int .u8 0), .lit (.int .u8 0), .lit (.int .u8 0), .lit (.int .u8 0), .lit (.int .u8 0), .lit (.int .u8 0), .lit (.int .u8 0), .lit (.int .u8 0), .lit (.int .u8 0), .lit (.int .u8 0), .lit (.int .u8 0), .lit (.int .u8 0), .lit (.int .u8 0), .lit (.int .u8 0), .lit (.int .u8 0), .lit (.int .u8 0), .lit (.int .u8 0), .lit (.int .u8 0), .lit (.int .u8 0), .lit (.int .u8 0), .lit (.int .u8 0), .lit (.int .u8 0), .lit (.int .u8 0), .lit (.int .u8 0), .lit (.int .u8 0), .lit (.int .u8 0), .lit (.int .u8 0), .lit (.int .u8 0), .lit (.int .u8 0), .lit (.int .u8 0), .lit (.int .u8 0), .lit (.int .u8 0), .lit (.int .u8 0), .lit (.int .u8 0), .lit (.int .u8 0), .lit (.int .u8 0), .lit (.int .u8 0), .lit (.int .u8 0), .lit (.int .u8 0), .lit (.int .u8 0), .lit (.int .u8 0), .lit (.int .u8 0), .lit (.int .u8 0), .lit (.int .u8 0), .lit (.int .u8 0), .lit (.int .u8 0), .lit (.int .u8 0), .lit (.int .u8 0), .lit (.int .u8 0), .lit (.int .u8 0), .lit (.int .u8 0), .lit (.int .u8 0), .lit (.int .u8 0), .lit (.int .u8 0), .lit (.int .u8 0), .lit (.int .u8 0), .lit (.int .u8 0), .lit (.int .u8 0), .lit (.int .u8 0), .lit (.int .u8 0), .lit (.int .u8 0), .lit (.int .u8 0), .lit (.int .u8 0), .lit (.int .u8 0), .lit (.int .u8 0), .lit (.int .u8 0), .lit (.int .u8 0), .lit (.int .u8 0), .lit (.int .u8 0), .lit (.int .u8 0), .lit (.int .u8 0), .lit (.int .u8 0), .lit (.int .u8 0), .lit (.int .u8 0), .lit (.int .u8 0), .lit (.int .u8 0), .lit (.int .u8 0), .lit (.int .u8 0), .lit (.int .u8 0), .lit (.int .u8 0), .lit (.int .u8 0), .lit (.int .u8 0), .lit (.int .u8 0), .lit (.int .u8 0), .lit (.int .u8 0), .lit (.int .u8 0), .lit (.int .u8 0), .lit (.int .u8 0), .lit (.int .u8 0), .lit (.int .u8 0), .lit (.int .u8 0), .lit (.int .u8 0), .lit (.int .u8 0), .lit (.int .u8 0), .lit (.int .u8 0), .lit (.int .u8 0), .lit (.int .u8 0), .lit (.int .u8 0), .lit (.int .u8 0), .lit (.int .u8 0), .lit (.int .u8 0), .lit (.int .u8 0), .lit (.int .u8 0), .lit (.int .u8 0), .lit (.int .u8 0), .lit (.int .u8 0), .lit (.int .u8 0), .lit (.int .u8 0), .lit (.int .u8 0), .lit (.int .u8 0), .lit (.int .u8 0), .lit (.int .u8 0), .lit (.int .u8 0), .lit (.int .u8 0), .lit (.int .u8 0), .lit (.int .u8 0), .lit (.int .u8 0), .lit (.int .u8 0), .lit (.int .u8 0), .lit (.int .u8 0), .lit (.int .u8 0), .lit (.int .u8 0), .lit (.int .u8 0), .lit (.int .u8 0), .lit (.int .u8 0), .lit (.int .u8 0), .lit (.int .u8 0), .lit (.int .u8 0), .lit (.int .u8 0), .lit (.int .u8 0), .lit (.int .u8 0), .lit (.int .u8 0), .lit (.int .u8 0), .lit (.int .u8 0), .lit (.int .u8 0), .lit (.int .u8 0), .lit (.int .u8 0), .lit (.int .u8 0), .lit (.int .u8 0), .lit (.int .u8 0), .lit (.int .u8 0), .lit (.int .u8 0), .lit (.int .u8 0), .lit (.int .u8 0), .lit (.int .u8 0), .lit (.int .u8 0), .lit (.int .u8 0), .lit (.int .u8 0), .lit (.int .u8 0), .lit (.int .u8 0), .lit (.int .u8 0), .lit (.int .u8 0), .lit (.int .u8 0), .lit (.int .u8 0), .lit (.int .u8 0), .lit (.int .u8 0), .lit (.int .u8 0), .lit (.int .u8 0), .lit (.int .u8 0), .lit (.int .u8 0), .lit (.int .u8 0), .lit (.int .u8 0), .lit (.int .u8 0), .lit (.int .u8 0), .lit (.int .u8 0), .lit (.int .u8 0), .lit (.int .u8 0), .lit (.int .u8 0), .lit (.int .u8 0), .lit (.int .u8 0), .lit (.int .u8 0), .lit (.int .u8 0)]
def laid_fencepost_code_fieldRd {H : Type} : DataW H := .agg [.lit (.int .i64 7), .lit (.int .i64 5)]
def laid_fencepost_code_fieldRs1 {H : Type} : DataW H := .agg [.lit (.int .i64 15), .lit (.int .i64 5)]
def laid_fencepost_code_fieldRs2 {H : Type} : DataW H := .agg [.lit (.int .i64 20), .lit (.int .i64 5)]
def laid_fencepost_code_fieldF3 {H : Type} : DataW H := .agg [.lit (.int .i64 12), .lit (.int .i64 3)]
def laid_fencepost_code_fieldF7 {H : Type} : DataW H := .agg [.lit (.int .i64 25), .lit (.int .i64 7)]
def laid_fencepost_code_fieldSix {H : Type} : DataW H := .agg [.lit (.int .i64 20), .lit (.int .i64 6)]
def laid_fencepost_code_fieldPred {H : Type} : DataW H := .agg [.lit (.int .i64 24), .lit (.int .i64 4)]
def laid_fencepost_code_fieldSucc {H : Type} : DataW H := .agg [.lit (.int .i64 20), .lit (.int .i64 4)]

/-- 'fencepostlaw15.AsmLabels': WHATEVER THE INPUT: true; the input reads as it did. -/
def asmLabelsSpec : ChangeSpec := { name := "asmLabels", fn := fun _ => fun
  | [d1, d2, d3] => { results := [.lit (.bool true)], args := [d1, d2, d3] }
  | _ => none }
def asmLabelsRow : OpenClaim := { program := "ytcgflnkgekkidaagreatdoor", sum := "dc37264d5ef96c04beeaec6d82f4172fa257e52fd2623c300e427f484f700c70", func := "fencepost/fencepostlaw15.AsmLabels", spec := "asmLabels", inPlace := ["internal/bytealg.CountString", "internal/bytealg.IndexByteString", "internal/bytealg.IndexString"], unfollowed := true, recurses := true, named := ["internal/bytealg.MaxLen", "strings.asciiSpace", "unicode.White_Space", "fencepost/code.fieldF3", "fencepost/code.fieldRd", "fencepost/code.fieldRs1", "fencepost/code.fieldRs2", "fencepost/code.fieldF7", "fencepost/code.fieldSix", "fencepost/code.fieldPred", "fencepost/code.fieldSucc"], apart := false, laid := [("unicode.White_Space", laid_unicode_White_Space), ("strings.asciiSpace", laid_strings_asciiSpace), ("fencepost/code.fieldRd", laid_fencepost_code_fieldRd), ("fencepost/code.fieldRs1", laid_fencepost_code_fieldRs1), ("fencepost/code.fieldRs2", laid_fencepost_code_fieldRs2), ("fencepost/code.fieldF3", laid_fencepost_code_fieldF3), ("fencepost/code.fieldF7", laid_fencepost_code_fieldF7), ("fencepost/code.fieldSix", laid_fencepost_code_fieldSix), ("fencepost/code.fieldPred", laid_fencepost_code_fieldPred), ("fencepost/code.fieldSucc", laid_fencepost_code_fieldSucc)] }
def AsmLabelsSaid : Prop := asmLabelsRow.holds Tryz.pinned (OpenSpec.ofChange asmLabelsSpec)

/-- ITS FALSE NEIGHBOUR: 'it returns false'. Refute it at one input. -/
def asmLabelsWrong : ChangeSpec := { name := "asmLabels", fn := fun _ => fun
  | [d1, d2, d3] => { results := [.lit (.bool false)], args := [d1, d2, d3] }
  | _ => none }
def AsmLabelsWrongFalsely : Prop := asmLabelsRow.holds Tryz.pinned (OpenSpec.ofChange asmLabelsWrong)

/-- 'fencepostlaw15.AsmNumbers': WHATEVER THE INPUT: true; the input reads as it did. -/
def asmNumbersSpec : ChangeSpec := { name := "asmNumbers", fn := fun _ => fun
  | [d1, d2, d3] => { results := [.lit (.bool true)], args := [d1, d2, d3] }
  | _ => none }
def asmNumbersRow : OpenClaim := { program := "ytcgflnkgekkidaagreatdoor", sum := "dc37264d5ef96c04beeaec6d82f4172fa257e52fd2623c300e427f484f700c70", func := "fencepost/fencepostlaw15.AsmNumbers", spec := "asmNumbers", inPlace := ["internal/bytealg.CountString", "internal/bytealg.IndexByteString", "internal/bytealg.IndexString"], unfollowed := true, recurses := true, named := ["internal/bytealg.MaxLen", "strings.asciiSpace", "unicode.White_Space", "fencepost/code.fieldF3", "fencepost/code.fieldRd", "fencepost/code.fieldRs1", "fencepost/code.fieldRs2", "fencepost/code.fieldF7", "fencepost/code.fieldSix", "fencepost/code.fieldPred", "fencepost/code.fieldSucc"], apart := false, laid := [("unicode.White_Space", laid_unicode_White_Space), ("strings.asciiSpace", laid_strings_asciiSpace), ("fencepost/code.fieldRd", laid_fencepost_code_fieldRd), ("fencepost/code.fieldRs1", laid_fencepost_code_fieldRs1), ("fencepost/code.fieldRs2", laid_fencepost_code_fieldRs2), ("fencepost/code.fieldF3", laid_fencepost_code_fieldF3), ("fencepost/code.fieldF7", laid_fencepost_code_fieldF7), ("fencepost/code.fieldSix", laid_fencepost_code_fieldSix), ("fencepost/code.fieldPred", laid_fencepost_code_fieldPred), ("fencepost/code.fieldSucc", laid_fencepost_code_fieldSucc)] }
def AsmNumbersSaid : Prop := asmNumbersRow.holds Tryz.pinned (OpenSpec.ofChange asmNumbersSpec)

/-- ITS FALSE NEIGHBOUR: 'it returns false'. Refute it at one input. -/
def asmNumbersWrong : ChangeSpec := { name := "asmNumbers", fn := fun _ => fun
  | [d1, d2, d3] => { results := [.lit (.bool false)], args := [d1, d2, d3] }
  | _ => none }
def AsmNumbersWrongFalsely : Prop := asmNumbersRow.holds Tryz.pinned (OpenSpec.ofChange asmNumbersWrong)

/-- 'fencepostlaw15.AsmGoes': WHATEVER THE INPUT: true; the input reads as it did. -/
def asmGoesSpec : ChangeSpec := { name := "asmGoes", fn := fun _ => fun
  | [d1, d2, d3] => { results := [.lit (.bool true)], args := [d1, d2, d3] }
  | _ => none }
def asmGoesRow : OpenClaim := { program := "ytcgflnkgekkidaagreatdoor", sum := "dc37264d5ef96c04beeaec6d82f4172fa257e52fd2623c300e427f484f700c70", func := "fencepost/fencepostlaw15.AsmGoes", spec := "asmGoes", inPlace := ["internal/bytealg.CountString", "internal/bytealg.IndexByteString", "internal/bytealg.IndexString"], unfollowed := true, recurses := true, named := ["internal/bytealg.MaxLen", "strings.asciiSpace", "unicode.White_Space", "fencepost/code.fieldF3", "fencepost/code.fieldRd", "fencepost/code.fieldRs1", "fencepost/code.fieldRs2", "fencepost/code.fieldF7", "fencepost/code.fieldSix", "fencepost/code.fieldPred", "fencepost/code.fieldSucc"], apart := false, laid := [("unicode.White_Space", laid_unicode_White_Space), ("strings.asciiSpace", laid_strings_asciiSpace), ("fencepost/code.fieldRd", laid_fencepost_code_fieldRd), ("fencepost/code.fieldRs1", laid_fencepost_code_fieldRs1), ("fencepost/code.fieldRs2", laid_fencepost_code_fieldRs2), ("fencepost/code.fieldF3", laid_fencepost_code_fieldF3), ("fencepost/code.fieldF7", laid_fencepost_code_fieldF7), ("fencepost/code.fieldSix", laid_fencepost_code_fieldSix), ("fencepost/code.fieldPred", laid_fencepost_code_fieldPred), ("fencepost/code.fieldSucc", laid_fencepost_code_fieldSucc)] }
def AsmGoesSaid : Prop := asmGoesRow.holds Tryz.pinned (OpenSpec.ofChange asmGoesSpec)

/-- ITS FALSE NEIGHBOUR: 'it returns false'. Refute it at one input. -/
def asmGoesWrong : ChangeSpec := { name := "asmGoes", fn := fun _ => fun
  | [d1, d2, d3] => { results := [.lit (.bool false)], args := [d1, d2, d3] }
  | _ => none }
def AsmGoesWrongFalsely : Prop := asmGoesRow.holds Tryz.pinned (OpenSpec.ofChange asmGoesWrong)

/-- 'fencepostlaw15.AsmNames': WHATEVER THE INPUT: true; the input reads as it did. -/
def asmNamesSpec : ChangeSpec := { name := "asmNames", fn := fun _ => fun
  | [] => { results := [.lit (.bool true)], args := [] }
  | _ => none }
def asmNamesRow : OpenClaim := { program := "ytcgflnkgekkidaagreatdoor", sum := "dc37264d5ef96c04beeaec6d82f4172fa257e52fd2623c300e427f484f700c70", func := "fencepost/fencepostlaw15.AsmNames", spec := "asmNames", inPlace := ["internal/bytealg.CountString", "internal/bytealg.IndexByteString", "internal/bytealg.IndexString"], unfollowed := true, recurses := true, named := ["internal/bytealg.MaxLen", "strings.asciiSpace", "unicode.White_Space", "fencepost/code.fieldF3", "fencepost/code.fieldRd", "fencepost/code.fieldRs1", "fencepost/code.fieldRs2", "fencepost/code.fieldF7", "fencepost/code.fieldSix", "fencepost/code.fieldPred", "fencepost/code.fieldSucc"], apart := false, laid := [("unicode.White_Space", laid_unicode_White_Space), ("strings.asciiSpace", laid_strings_asciiSpace), ("fencepost/code.fieldRd", laid_fencepost_code_fieldRd), ("fencepost/code.fieldRs1", laid_fencepost_code_fieldRs1), ("fencepost/code.fieldRs2", laid_fencepost_code_fieldRs2), ("fencepost/code.fieldF3", laid_fencepost_code_fieldF3), ("fencepost/code.fieldF7", laid_fencepost_code_fieldF7), ("fencepost/code.fieldSix", laid_fencepost_code_fieldSix), ("fencepost/code.fieldPred", laid_fencepost_code_fieldPred), ("fencepost/code.fieldSucc", laid_fencepost_code_fieldSucc)] }
def AsmNamesSaid : Prop := asmNamesRow.holds Tryz.pinned (OpenSpec.ofChange asmNamesSpec)

/-- ITS FALSE NEIGHBOUR: 'it returns false'. Refute it at one input. -/
def asmNamesWrong : ChangeSpec := { name := "asmNames", fn := fun _ => fun
  | [] => { results := [.lit (.bool false)], args := [] }
  | _ => none }
def AsmNamesWrongFalsely : Prop := asmNamesRow.holds Tryz.pinned (OpenSpec.ofChange asmNamesWrong)

/-- 'fencepostlaw15.AsmCalls': WHATEVER THE INPUT: true; the input reads as it did. -/
def asmCallsSpec : ChangeSpec := { name := "asmCalls", fn := fun _ => fun
  | [d1, d2, d3, d4, d5] => { results := [.lit (.bool true)], args := [d1, d2, d3, d4, d5] }
  | _ => none }
def asmCallsRow : OpenClaim := { program := "ytcgflnkgekkidaagreatdoor", sum := "dc37264d5ef96c04beeaec6d82f4172fa257e52fd2623c300e427f484f700c70", func := "fencepost/fencepostlaw15.AsmCalls", spec := "asmCalls", inPlace := ["internal/bytealg.CountString", "internal/bytealg.IndexByteString", "internal/bytealg.IndexString"], unfollowed := true, recurses := true, named := ["internal/bytealg.MaxLen", "strings.asciiSpace", "unicode.White_Space", "fencepost/code.fieldF3", "fencepost/code.fieldRd", "fencepost/code.fieldRs1", "fencepost/code.fieldRs2", "fencepost/code.fieldF7", "fencepost/code.fieldSix", "fencepost/code.fieldPred", "fencepost/code.fieldSucc"], apart := false, laid := [("unicode.White_Space", laid_unicode_White_Space), ("strings.asciiSpace", laid_strings_asciiSpace), ("fencepost/code.fieldRd", laid_fencepost_code_fieldRd), ("fencepost/code.fieldRs1", laid_fencepost_code_fieldRs1), ("fencepost/code.fieldRs2", laid_fencepost_code_fieldRs2), ("fencepost/code.fieldF3", laid_fencepost_code_fieldF3), ("fencepost/code.fieldF7", laid_fencepost_code_fieldF7), ("fencepost/code.fieldSix", laid_fencepost_code_fieldSix), ("fencepost/code.fieldPred", laid_fencepost_code_fieldPred), ("fencepost/code.fieldSucc", laid_fencepost_code_fieldSucc)] }
def AsmCallsSaid : Prop := asmCallsRow.holds Tryz.pinned (OpenSpec.ofChange asmCallsSpec)

/-- ITS FALSE NEIGHBOUR: 'it returns false'. Refute it at one input. -/
def asmCallsWrong : ChangeSpec := { name := "asmCalls", fn := fun _ => fun
  | [d1, d2, d3, d4, d5] => { results := [.lit (.bool false)], args := [d1, d2, d3, d4, d5] }
  | _ => none }
def AsmCallsWrongFalsely : Prop := asmCallsRow.holds Tryz.pinned (OpenSpec.ofChange asmCallsWrong)

/-- 'fencepostlaw15.AsmPlaces': WHATEVER THE INPUT: true; the input reads as it did. -/
def asmPlacesSpec : ChangeSpec := { name := "asmPlaces", fn := fun _ => fun
  | [d] => { results := [.lit (.bool true)], args := [d] }
  | _ => none }
def asmPlacesRow : OpenClaim := { program := "ytcgflnkgekkidaagreatdoor", sum := "dc37264d5ef96c04beeaec6d82f4172fa257e52fd2623c300e427f484f700c70", func := "fencepost/fencepostlaw15.AsmPlaces", spec := "asmPlaces", inPlace := ["internal/bytealg.CountString", "internal/bytealg.IndexByteString", "internal/bytealg.IndexString"], unfollowed := true, recurses := true, named := ["internal/bytealg.MaxLen", "strings.asciiSpace", "unicode.White_Space", "fencepost/code.fieldF3", "fencepost/code.fieldRd", "fencepost/code.fieldRs1", "fencepost/code.fieldRs2", "fencepost/code.fieldF7", "fencepost/code.fieldSix", "fencepost/code.fieldPred", "fencepost/code.fieldSucc"], apart := false, laid := [("unicode.White_Space", laid_unicode_White_Space), ("strings.asciiSpace", laid_strings_asciiSpace), ("fencepost/code.fieldRd", laid_fencepost_code_fieldRd), ("fencepost/code.fieldRs1", laid_fencepost_code_fieldRs1), ("fencepost/code.fieldRs2", laid_fencepost_code_fieldRs2), ("fencepost/code.fieldF3", laid_fencepost_code_fieldF3), ("fencepost/code.fieldF7", laid_fencepost_code_fieldF7), ("fencepost/code.fieldSix", laid_fencepost_code_fieldSix), ("fencepost/code.fieldPred", laid_fencepost_code_fieldPred), ("fencepost/code.fieldSucc", laid_fencepost_code_fieldSucc)] }
def AsmPlacesSaid : Prop := asmPlacesRow.holds Tryz.pinned (OpenSpec.ofChange asmPlacesSpec)

/-- ITS FALSE NEIGHBOUR: 'it returns false'. Refute it at one input. -/
def asmPlacesWrong : ChangeSpec := { name := "asmPlaces", fn := fun _ => fun
  | [d] => { results := [.lit (.bool false)], args := [d] }
  | _ => none }
def AsmPlacesWrongFalsely : Prop := asmPlacesRow.holds Tryz.pinned (OpenSpec.ofChange asmPlacesWrong)

/- THE SECOND FORM. 'bulk': how many values and letters a reading holds, each counted each time it is reached (what is shared counts as often as it is met; a slice's spare places count too). A statement '..UptoSaid' is the law's where the arguments, and the package variables that the reading takes, are together of bulk at most 1048576: NARROWER than '..Said'. Prove '..Said' where nothing that the law and all that it calls make is longer than what came in: it says more and counts as full. Else prove '..UptoSaid'. A law counts once. -/
mutual
def uptoBulk {H : Type} : DataW H → Nat
  | .lit (.string bytes) => bytes.length + 1
  | .lit _ => 1
  | .nil => 1
  | .ptr d => uptoBulk d + 1
  | .slice elems spare => uptoBulkAll elems + uptoBulkAll spare + 1
  | .agg parts => uptoBulkAll parts + 1
  | .iface _ d => uptoBulk d + 1
  | .map entries => uptoBulkEntries entries + 1
  | .held _ => 1
def uptoBulkAll {H : Type} : List (DataW H) → Nat
  | [] => 0
  | d :: r => uptoBulk d + uptoBulkAll r
def uptoBulkEntries {H : Type} : List (Lit × DataW H) → Nat
  | [] => 0
  | x :: r => uptoBulkEntry x + uptoBulkEntries r
def uptoBulkEntry {H : Type} : Lit × DataW H → Nat
  | (.string bytes, d) => bytes.length + uptoBulk d + 1
  | (_, d) => uptoBulk d + 1
 end
def uptoSmall : (H : Type) → List (DataW H) → Bool := fun _ ds => decide (uptoBulkAll ds ≤ 1048576)
def OpenSpec.upto (s : _root_.Go.ChangeSpec) : _root_.Go.OpenSpec := { _root_.Go.OpenSpec.ofChange s with cond := some uptoSmall }

/-- 'fencepostlaw15.AsmLabels', WHERE WHAT IT READS IS OF BULK AT MOST 1048576: true; the input reads as it did. -/
def asmLabelsUptoRow : OpenClaim := { program := "ytcgflnkgekkidaagreatdoor", sum := "dc37264d5ef96c04beeaec6d82f4172fa257e52fd2623c300e427f484f700c70", func := "fencepost/fencepostlaw15.AsmLabels", spec := "asmLabels", inPlace := ["internal/bytealg.CountString", "internal/bytealg.IndexByteString", "internal/bytealg.IndexString"], unfollowed := true, recurses := true, named := ["internal/bytealg.MaxLen", "strings.asciiSpace", "unicode.White_Space", "fencepost/code.fieldF3", "fencepost/code.fieldRd", "fencepost/code.fieldRs1", "fencepost/code.fieldRs2", "fencepost/code.fieldF7", "fencepost/code.fieldSix", "fencepost/code.fieldPred", "fencepost/code.fieldSucc"], apart := false, laid := [("unicode.White_Space", laid_unicode_White_Space), ("strings.asciiSpace", laid_strings_asciiSpace), ("fencepost/code.fieldRd", laid_fencepost_code_fieldRd), ("fencepost/code.fieldRs1", laid_fencepost_code_fieldRs1), ("fencepost/code.fieldRs2", laid_fencepost_code_fieldRs2), ("fencepost/code.fieldF3", laid_fencepost_code_fieldF3), ("fencepost/code.fieldF7", laid_fencepost_code_fieldF7), ("fencepost/code.fieldSix", laid_fencepost_code_fieldSix), ("fencepost/code.fieldPred", laid_fencepost_code_fieldPred), ("fencepost/code.fieldSucc", laid_fencepost_code_fieldSucc)], narrowed := true }
def AsmLabelsUptoSaid : Prop := asmLabelsUptoRow.holds Tryz.pinned (OpenSpec.upto asmLabelsSpec)

/-- 'fencepostlaw15.AsmNumbers', WHERE WHAT IT READS IS OF BULK AT MOST 1048576: true; the input reads as it did. -/
def asmNumbersUptoRow : OpenClaim := { program := "ytcgflnkgekkidaagreatdoor", sum := "dc37264d5ef96c04beeaec6d82f4172fa257e52fd2623c300e427f484f700c70", func := "fencepost/fencepostlaw15.AsmNumbers", spec := "asmNumbers", inPlace := ["internal/bytealg.CountString", "internal/bytealg.IndexByteString", "internal/bytealg.IndexString"], unfollowed := true, recurses := true, named := ["internal/bytealg.MaxLen", "strings.asciiSpace", "unicode.White_Space", "fencepost/code.fieldF3", "fencepost/code.fieldRd", "fencepost/code.fieldRs1", "fencepost/code.fieldRs2", "fencepost/code.fieldF7", "fencepost/code.fieldSix", "fencepost/code.fieldPred", "fencepost/code.fieldSucc"], apart := false, laid := [("unicode.White_Space", laid_unicode_White_Space), ("strings.asciiSpace", laid_strings_asciiSpace), ("fencepost/code.fieldRd", laid_fencepost_code_fieldRd), ("fencepost/code.fieldRs1", laid_fencepost_code_fieldRs1), ("fencepost/code.fieldRs2", laid_fencepost_code_fieldRs2), ("fencepost/code.fieldF3", laid_fencepost_code_fieldF3), ("fencepost/code.fieldF7", laid_fencepost_code_fieldF7), ("fencepost/code.fieldSix", laid_fencepost_code_fieldSix), ("fencepost/code.fieldPred", laid_fencepost_code_fieldPred), ("fencepost/code.fieldSucc", laid_fencepost_code_fieldSucc)], narrowed := true }
def AsmNumbersUptoSaid : Prop := asmNumbersUptoRow.holds Tryz.pinned (OpenSpec.upto asmNumbersSpec)

/-- 'fencepostlaw15.AsmGoes', WHERE WHAT IT READS IS OF BULK AT MOST 1048576: true; the input reads as it did. -/
def asmGoesUptoRow : OpenClaim := { program := "ytcgflnkgekkidaagreatdoor", sum := "dc37264d5ef96c04beeaec6d82f4172fa257e52fd2623c300e427f484f700c70", func := "fencepost/fencepostlaw15.AsmGoes", spec := "asmGoes", inPlace := ["internal/bytealg.CountString", "internal/bytealg.IndexByteString", "internal/bytealg.IndexString"], unfollowed := true, recurses := true, named := ["internal/bytealg.MaxLen", "strings.asciiSpace", "unicode.White_Space", "fencepost/code.fieldF3", "fencepost/code.fieldRd", "fencepost/code.fieldRs1", "fencepost/code.fieldRs2", "fencepost/code.fieldF7", "fencepost/code.fieldSix", "fencepost/code.fieldPred", "fencepost/code.fieldSucc"], apart := false, laid := [("unicode.White_Space", laid_unicode_White_Space), ("strings.asciiSpace", laid_strings_asciiSpace), ("fencepost/code.fieldRd", laid_fencepost_code_fieldRd), ("fencepost/code.fieldRs1", laid_fencepost_code_fieldRs1), ("fencepost/code.fieldRs2", laid_fencepost_code_fieldRs2), ("fencepost/code.fieldF3", laid_fencepost_code_fieldF3), ("fencepost/code.fieldF7", laid_fencepost_code_fieldF7), ("fencepost/code.fieldSix", laid_fencepost_code_fieldSix), ("fencepost/code.fieldPred", laid_fencepost_code_fieldPred), ("fencepost/code.fieldSucc", laid_fencepost_code_fieldSucc)], narrowed := true }
def AsmGoesUptoSaid : Prop := asmGoesUptoRow.holds Tryz.pinned (OpenSpec.upto asmGoesSpec)

/-- 'fencepostlaw15.AsmNames', WHERE WHAT IT READS IS OF BULK AT MOST 1048576: true; the input reads as it did. -/
def asmNamesUptoRow : OpenClaim := { program := "ytcgflnkgekkidaagreatdoor", sum := "dc37264d5ef96c04beeaec6d82f4172fa257e52fd2623c300e427f484f700c70", func := "fencepost/fencepostlaw15.AsmNames", spec := "asmNames", inPlace := ["internal/bytealg.CountString", "internal/bytealg.IndexByteString", "internal/bytealg.IndexString"], unfollowed := true, recurses := true, named := ["internal/bytealg.MaxLen", "strings.asciiSpace", "unicode.White_Space", "fencepost/code.fieldF3", "fencepost/code.fieldRd", "fencepost/code.fieldRs1", "fencepost/code.fieldRs2", "fencepost/code.fieldF7", "fencepost/code.fieldSix", "fencepost/code.fieldPred", "fencepost/code.fieldSucc"], apart := false, laid := [("unicode.White_Space", laid_unicode_White_Space), ("strings.asciiSpace", laid_strings_asciiSpace), ("fencepost/code.fieldRd", laid_fencepost_code_fieldRd), ("fencepost/code.fieldRs1", laid_fencepost_code_fieldRs1), ("fencepost/code.fieldRs2", laid_fencepost_code_fieldRs2), ("fencepost/code.fieldF3", laid_fencepost_code_fieldF3), ("fencepost/code.fieldF7", laid_fencepost_code_fieldF7), ("fencepost/code.fieldSix", laid_fencepost_code_fieldSix), ("fencepost/code.fieldPred", laid_fencepost_code_fieldPred), ("fencepost/code.fieldSucc", laid_fencepost_code_fieldSucc)], narrowed := true }
def AsmNamesUptoSaid : Prop := asmNamesUptoRow.holds Tryz.pinned (OpenSpec.upto asmNamesSpec)

/-- 'fencepostlaw15.AsmCalls', WHERE WHAT IT READS IS OF BULK AT MOST 1048576: true; the input reads as it did. -/
def asmCallsUptoRow : OpenClaim := { program := "ytcgflnkgekkidaagreatdoor", sum := "dc37264d5ef96c04beeaec6d82f4172fa257e52fd2623c300e427f484f700c70", func := "fencepost/fencepostlaw15.AsmCalls", spec := "asmCalls", inPlace := ["internal/bytealg.CountString", "internal/bytealg.IndexByteString", "internal/bytealg.IndexString"], unfollowed := true, recurses := true, named := ["internal/bytealg.MaxLen", "strings.asciiSpace", "unicode.White_Space", "fencepost/code.fieldF3", "fencepost/code.fieldRd", "fencepost/code.fieldRs1", "fencepost/code.fieldRs2", "fencepost/code.fieldF7", "fencepost/code.fieldSix", "fencepost/code.fieldPred", "fencepost/code.fieldSucc"], apart := false, laid := [("unicode.White_Space", laid_unicode_White_Space), ("strings.asciiSpace", laid_strings_asciiSpace), ("fencepost/code.fieldRd", laid_fencepost_code_fieldRd), ("fencepost/code.fieldRs1", laid_fencepost_code_fieldRs1), ("fencepost/code.fieldRs2", laid_fencepost_code_fieldRs2), ("fencepost/code.fieldF3", laid_fencepost_code_fieldF3), ("fencepost/code.fieldF7", laid_fencepost_code_fieldF7), ("fencepost/code.fieldSix", laid_fencepost_code_fieldSix), ("fencepost/code.fieldPred", laid_fencepost_code_fieldPred), ("fencepost/code.fieldSucc", laid_fencepost_code_fieldSucc)], narrowed := true }
def AsmCallsUptoSaid : Prop := asmCallsUptoRow.holds Tryz.pinned (OpenSpec.upto asmCallsSpec)

/-- 'fencepostlaw15.AsmPlaces', WHERE WHAT IT READS IS OF BULK AT MOST 1048576: true; the input reads as it did. -/
def asmPlacesUptoRow : OpenClaim := { program := "ytcgflnkgekkidaagreatdoor", sum := "dc37264d5ef96c04beeaec6d82f4172fa257e52fd2623c300e427f484f700c70", func := "fencepost/fencepostlaw15.AsmPlaces", spec := "asmPlaces", inPlace := ["internal/bytealg.CountString", "internal/bytealg.IndexByteString", "internal/bytealg.IndexString"], unfollowed := true, recurses := true, named := ["internal/bytealg.MaxLen", "strings.asciiSpace", "unicode.White_Space", "fencepost/code.fieldF3", "fencepost/code.fieldRd", "fencepost/code.fieldRs1", "fencepost/code.fieldRs2", "fencepost/code.fieldF7", "fencepost/code.fieldSix", "fencepost/code.fieldPred", "fencepost/code.fieldSucc"], apart := false, laid := [("unicode.White_Space", laid_unicode_White_Space), ("strings.asciiSpace", laid_strings_asciiSpace), ("fencepost/code.fieldRd", laid_fencepost_code_fieldRd), ("fencepost/code.fieldRs1", laid_fencepost_code_fieldRs1), ("fencepost/code.fieldRs2", laid_fencepost_code_fieldRs2), ("fencepost/code.fieldF3", laid_fencepost_code_fieldF3), ("fencepost/code.fieldF7", laid_fencepost_code_fieldF7), ("fencepost/code.fieldSix", laid_fencepost_code_fieldSix), ("fencepost/code.fieldPred", laid_fencepost_code_fieldPred), ("fencepost/code.fieldSucc", laid_fencepost_code_fieldSucc)], narrowed := true }
def AsmPlacesUptoSaid : Prop := asmPlacesUptoRow.holds Tryz.pinned (OpenSpec.upto asmPlacesSpec)

end Rows
end Go.Proofs.YtcgflnkgekkidaaGreatDoor
