/- The walk of WordNames: it returns true and makes new memory alone. Conditions: none. -/
import Derived.Test.YtfepbaogpmblaaaWordLives
import Derived.Test.YtfepbaogpmblaaaWordBytes
import Derived.Test.YtfepbaogpmblaaaWordOf
namespace Go.Proofs.Ytfepbaogpmblaaa
open Go.RowKit
theorem Ones_num (n r : Int) (w : World) (h : un (Ones n) = r) :
    Calls Try.prog 19 #[.int .i64 n] w fun e w' => e = .returned (.int .u64 r) ∧ w = w' := by
  have := Ones_any n w; rw [h] at this; exact this
theorem Low_num (a n r : Int) (w : World) (h : (decide (0 ≤ a ∧ a < 18446744073709551616) && un (Low (bv a) n) == r) = true) :
    Calls Try.prog 13 #[.int .u64 a, .int .i64 n] w fun e w' => e = .returned (.int .u64 r) ∧ w = w' := by
  simp only [Bool.and_eq_true, decide_eq_true_eq, beq_iff_eq] at h
  have := Low_any (bv a) n w; rw [un_bv a h.1, h.2] at this; exact this
theorem Short_num (a r : Int) (w : World) (h : (decide (0 ≤ a ∧ a < 18446744073709551616) && un (Short (bv a)) == r) = true) :
    Calls Try.prog 16 #[.int .u64 a] w fun e w' => e = .returned (.int .u64 r) ∧ w = w' := by
  simp only [Bool.and_eq_true, decide_eq_true_eq, beq_iff_eq] at h
  have := Short_any (bv a) w; rw [un_bv a h.1, h.2] at this; exact this
theorem Bytes_num (a n : Int) (w : World) (h : 0 ≤ a ∧ a < 18446744073709551616) :
    Calls Try.prog 17 #[.int .u64 a, .int .i64 n] w (BytesPost w (bytesL (bv a) (cl8 n))) := by
  have := Bytes_any (bv a) n w; rw [un_bv a h] at this; exact this
theorem WordNames_any (w : World) :
    Calls Try.prog 7 #[] w fun e w' => e = .returned (.bool true) ∧ Below w.heap.size w w' := by
  go_enter Try.func7, Try.ntmps7
  go_wp2_with (first | (go_at_call 9; refine (lives_any _).mono ?_; rintro e w' ⟨rfl, rfl⟩) | (go_at_call 19; (with_reducible refine (Ones_num 64 18446744073709551615 _ (by decide +kernel)).mono ?_); rintro e w' ⟨rfl, rfl⟩) | (go_at_call 19; (with_reducible refine (Ones_num (-3) 0 _ (by decide +kernel)).mono ?_); rintro e w' ⟨rfl, rfl⟩) | (go_at_call 13; (with_reducible refine (Low_num 255 4 15 _ (by decide +kernel)).mono ?_); rintro e w' ⟨rfl, rfl⟩))
  refine (Bytes_num 258 2 _ (by decide)).mono ?_
  rintro e w1 ⟨he, hcell, hb, hs⟩
  have hL : bytesL (bv 258) (cl8 2) = [2, 1] := by decide +kernel
  rw [hL] at he hcell
  subst he
  have hconv := run_convert_bytes_arg (P := Try.prog) w1 35 5 Try.underlying35 Try.underlying5 w.heap.size 0 2 2 [2, 1] rfl hcell 9 Try.underlying9
  rw [show strOfNums [2, 1] = ⟨#[2, 1]⟩ from rfl] at hconv
  clear hcell hL
  have hf : (fun i => if i = 0 then (1 : Int) else 2) 0 = 1 := rfl
  have hOf : un (OfK (fun i => if i = 0 then (1 : Int) else 2) (min 2 8)) = 513 := by decide +kernel
  have hOf' := Lib.hid hOf
  clear hOf hf
  go_wp2_with fail
  refine (Of_any w1.heap.size 0 2 2 (fun i => if i = 0 then (1 : Int) else 2) _ (by decide) (by decide) (fun i hi => ?_)).mono ?_
  · rcases i with _ | _ | i
    · simp [go_sem]
    · simp [go_sem]
    · omega
  rw [hOf'.out]
  rintro e w' ⟨rfl, rfl⟩
  go_wp2_with (first | (go_at_call 16; (with_reducible refine (Short_num 2147483648 18446744071562067968 _ (by decide +kernel)).mono ?_); rintro e w' ⟨rfl, rfl⟩) | (go_at_call 15; (with_reducible refine (Fits_num 0 0 true _ (by decide +kernel)).mono ?_); rintro e w' ⟨rfl, rfl⟩) | (go_at_call 15; (with_reducible refine (Fits_num 1 0 false _ (by decide +kernel)).mono ?_); rintro e w' ⟨rfl, rfl⟩) | (go_at_call 14; (with_reducible refine (Sign_num 5 0 0 _ (by decide +kernel)).mono ?_); rintro e w' ⟨rfl, rfl⟩))
  go_ret
  exact ⟨rfl, hb.alloc (Nat.le_of_lt hs) _⟩
end Go.Proofs.Ytfepbaogpmblaaa
