/- The statements' own examples of word: lives answers true. Conditions: none. -/
import Derived.Test.YtfepbaogpmblaaaWord
namespace Go.Proofs.Ytfepbaogpmblaaa
open Go.RowKit
theorem lives_any (w : World) :
    Calls Try.prog 9 #[] w fun e w' => e = .returned (.bool true) ∧ w = w' := by
  go_enter Try.func9, Try.ntmps9
  go_wp2_with (first | (go_at_call 12; (with_reducible refine (Part_num 43981 4 8 188 _ (by decide +kernel)).mono ?_); rintro e w' ⟨rfl, rfl⟩) | (go_at_call 11; (with_reducible refine (Put_num 0 4 8 511 4080 _ (by decide +kernel)).mono ?_); rintro e w' ⟨rfl, rfl⟩) | (go_at_call 14; (with_reducible refine (Sign_num 4095 12 (-1) _ (by decide +kernel)).mono ?_); rintro e w' ⟨rfl, rfl⟩) | (go_at_call 14; (with_reducible refine (Sign_num 2047 12 2047 _ (by decide +kernel)).mono ?_); rintro e w' ⟨rfl, rfl⟩) | (go_at_call 15; (with_reducible refine (Fits_num (-2048) 12 true _ (by decide +kernel)).mono ?_); rintro e w' ⟨rfl, rfl⟩) | (go_at_call 15; (with_reducible refine (Fits_num 2048 12 false _ (by decide +kernel)).mono ?_); rintro e w' ⟨rfl, rfl⟩))
  go_ret
  exact ⟨rfl, rfl⟩
end Go.Proofs.Ytfepbaogpmblaaa
