/- The walk of AluNames: it returns true. Conditions: the library's table of ASCII spaces lies as its initialiser lays it. -/
import Derived.Test.YthoohbefncjkmaaDoorAluShortW
import Derived.Test.YthoohbefncjkmaaDoorAluAmo
namespace Go.Proofs.YthoohbefncjkmaaDoor
open Go.RowKit
attribute [local go_sem] wrap_u64_bv bv_un bv_sn bv_add bv_mul bv_neg bv_sub mul_bvpow shr_min shl_min sshr_min bv_lit bv_0 bv_1 un_shr sn_shr wrap_i64_un bits_u64_and bits_u64_or bits_u64_xor bits_u64_andNot bv_max u64_unsigned quo_sn rem_sn bv_quo_un rem_un
def numOk (A B : Int) : Bool := decide (0 ≤ A ∧ A < 18446744073709551616) && decide (0 ≤ B ∧ B < 18446744073709551616)
theorem Do_num (w0 : World) (op A B R E : Int) (w : World) (ht : TB w0 w) (h : (decide (op ≤ 9223372036854775807) && numOk A B && un (doF op (bv A) (bv B)) == R && doE op == E) = true) :
    Calls Tryd.prog 16 #[.int .i64 op, .int .u64 A, .int .u64 B] w fun e w' => e = .returned (.tuple #[.int .u64 R, .int .i64 E]) ∧ TB w0 w' := by
  simp only [numOk, Bool.and_eq_true, decide_eq_true_eq, beq_iff_eq] at h
  have := Do_any op h.1.1.1 (bv A) (bv B) w ht.tabs
  rw [un_bv A h.1.1.2.1, un_bv B h.1.1.2.2, h.1.2, h.2] at this
  exact this.mono fun e w' ⟨h1, h2⟩ => ⟨h1, ht.later h2⟩
theorem Takes_num (op A B E : Int) (R : Bool) (w : World) (h : (numOk A B && takesF op (bv A) (bv B) == R && takesE op == E) = true) :
    Calls Tryd.prog 18 #[.int .i64 op, .int .u64 A, .int .u64 B] w fun e w' => e = .returned (.tuple #[.bool R, .int .i64 E]) ∧ w = w' := by
  simp only [numOk, Bool.and_eq_true, decide_eq_true_eq, beq_iff_eq] at h
  have := Takes_any op (bv A) (bv B) w
  rw [un_bv A h.1.1.1, un_bv B h.1.1.2, h.1.2, h.2] at this
  exact this
theorem Amo_num (op A B R E : Int) (w : World) (h : (numOk A B && un (amoOp op (bv A) (bv B)) == R && amoE op == E) = true) :
    Calls Tryd.prog 20 #[.int .i64 op, .int .u64 A, .int .u64 B] w fun e w' => e = .returned (.tuple #[.int .u64 R, .int .i64 E]) ∧ w = w' := by
  simp only [numOk, Bool.and_eq_true, decide_eq_true_eq, beq_iff_eq] at h
  have := Amo_any op (bv A) (bv B) w
  rw [un_bv A h.1.1.1, un_bv B h.1.1.2, h.1.2, h.2] at this
  exact this
theorem lives_tb (w0 w : World) (ht : TB w0 w) : Calls Tryd.prog 10 #[] w fun e w' => e = .returned (.bool true) ∧ TB w0 w' :=
  (lives_any w ht.tabs).mono fun _ _ ⟨h1, h2⟩ => ⟨h1, ht.later h2.below⟩
section
attribute [local irreducible] un sn
set_option maxRecDepth 100000 in
set_option maxHeartbeats 8000000 in
theorem AluNames_any (w : World) (ht : Tabs w) :
    Calls Tryd.prog 7 #[] w fun e w' => e = .returned (.bool true) ∧ TB w w' := by
  have ht0 := TB.refl ht
  clear ht
  go_enter Tryd.func7, Tryd.ntmps7
  go_wp2_with (first | (go_at_call 10; refine (lives_tb w _ (by assumption)).mono ?_; rintro e w' ⟨rfl, hT⟩) | (go_at_call 19; (with_reducible refine (below_num 1 18446744073709551615 _ (by decide +kernel)).mono ?_); rintro e w' ⟨rfl, rfl⟩) | (go_at_call 19; (with_reducible refine (below_num 2 18446744073709551614 _ (by decide +kernel)).mono ?_); rintro e w' ⟨rfl, rfl⟩) | (go_at_call 16; (with_reducible refine (Do_num w 14 1 1 0 2 _ (by assumption) (by decide +kernel)).mono ?_); rintro e w' ⟨rfl, hT⟩) | (go_at_call 18; (with_reducible refine (Takes_num 9 1 18446744073709551615 0 true _ (by decide +kernel)).mono ?_); rintro e w' ⟨rfl, rfl⟩) | (go_at_call 18; (with_reducible refine (Takes_num 35 1 1 2 false _ (by decide +kernel)).mono ?_); rintro e w' ⟨rfl, rfl⟩) | (go_at_call 20; (with_reducible refine (Amo_num 84 3 18446744073709551614 18446744073709551614 0 _ (by decide +kernel)).mono ?_); rintro e w' ⟨rfl, rfl⟩) | (go_at_call 20; (with_reducible refine (Amo_num 69 3 2 0 2 _ (by decide +kernel)).mono ?_); rintro e w' ⟨rfl, rfl⟩) | (go_at_call 11; (with_reducible refine (do_num w 54 9223372036854775808 18446744073709551615 9223372036854775808 _ (by assumption) (by decide +kernel)).mono ?_); rintro e w' ⟨rfl, hT⟩) | (go_at_call 11; (with_reducible refine (do_num w 56 9223372036854775808 18446744073709551615 0 _ (by assumption) (by decide +kernel)).mono ?_); rintro e w' ⟨rfl, hT⟩) | (go_at_call 11; (with_reducible refine (do_num w 1 9 1 4096 _ (by assumption) (by decide +kernel)).mono ?_); rintro e w' ⟨rfl, hT⟩) | (go_at_call 11; (with_reducible refine (do_num w 22 5 18446744073709551615 4 _ (by assumption) (by decide +kernel)).mono ?_); rintro e w' ⟨rfl, hT⟩) | (go_at_call 17; (with_reducible refine (Plain_op w 34 49 _ (by assumption) (by decide) (by decide +kernel)).mono ?_); rintro e w' ⟨rfl, hT⟩) | (go_at_call 17; (with_reducible refine (Plain_op w 50 50 _ (by assumption) (by decide) (by decide +kernel)).mono ?_); rintro e w' ⟨rfl, hT⟩) | (go_at_call 17; (with_reducible refine (Plain_op w 1 0 _ (by assumption) (by decide) (by decide +kernel)).mono ?_); rintro e w' ⟨rfl, hT⟩))
  go_ret
  exact ⟨rfl, by assumption⟩
end
end Go.Proofs.YthoohbefncjkmaaDoor
