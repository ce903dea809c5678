/- The walks of package word: each function computes what its definition on bit vectors says. Conditions: none. -/
import Derived.Test.YthoohbefncjkmaaDoorProg
import Derived.Test.YthoohbefncjkmaaDoorWordDefs
import Derived.ProofKit
namespace Go.Proofs.YthoohbefncjkmaaDoor
open Go.RowKit

attribute [local go_sem] wrap_u64_bv bv_un bv_sn bv_add bv_mul bv_neg bv_sub mul_bvpow shr_min shl_min sshr_min bv_lit bv_0 bv_1 un_shr sn_shr wrap_i64_un bits_u64_and bits_u64_or bits_u64_xor bits_u64_andNot bv_max u64_unsigned

theorem clamp_any (n m l : Int) (hml : m ≤ l) (w : World) :
    Calls Tryd.prog 83 #[.int .i64 n, .int .i64 m, .int .i64 l] w fun e w' => e = .returned (.int .i64 (min (max n m) l)) ∧ w = w' := by
  go_enter Tryd.func83, Tryd.ntmps83
  go_wp2
  all_goals go_ret
  all_goals exact ⟨by congr 2; simp; omega, rfl⟩
theorem clamp_64 (n : Int) (w : World) :
    Calls Tryd.prog 83 #[.int .i64 n, .int .i64 0, .int .i64 64] w fun e w' => e = .returned (.int .i64 (cl n : Int)) ∧ w = w' := by
  rw [← cl_int]; exact clamp_any _ _ _ (by decide) _
theorem Ones_any (n : Int) (w : World) :
    Calls Tryd.prog 89 #[.int .i64 n] w fun e w' => e = .returned (.int .u64 (un (Ones n))) ∧ w = w' := by
  have h2 := cl_le n
  go_enter Tryd.func89, Tryd.ntmps89
  go_wp2_with (go_at_call 83; refine (clamp_64 _ _).mono ?_; rintro e w' ⟨rfl, rfl⟩)
  go_ret
  exact ⟨ret_int (by unfold Ones; rw [← BitVec.allOnes_xor]; rfl), rfl⟩
theorem Low_any (x : BitVec 64) (n : Int) (w : World) :
    Calls Tryd.prog 78 #[.int .u64 (un x), .int .i64 n] w fun e w' => e = .returned (.int .u64 (un (Low x n))) ∧ w = w' := by
  go_enter Tryd.func78, Tryd.ntmps78
  go_wp2_with (go_at_call 89; refine (Ones_any _ _).mono ?_; rintro e w' ⟨rfl, rfl⟩)
  go_ret
  exact ⟨rfl, rfl⟩
theorem Sign_any (x : BitVec 64) (n : Int) (w : World) :
    Calls Tryd.prog 39 #[.int .u64 (un x), .int .i64 n] w fun e w' => e = .returned (.int .i64 (sn (Sign x n))) ∧ w = w' := by
  have h2 := cl_le n
  go_enter Tryd.func39, Tryd.ntmps39
  go_wp2_with (go_at_call 83; refine (clamp_64 _ _).mono ?_; rintro e w' ⟨rfl, rfl⟩)
  go_ret
  exact ⟨rfl, rfl⟩
theorem Short_any (x : BitVec 64) (w : World) :
    Calls Tryd.prog 28 #[.int .u64 (un x)] w fun e w' => e = .returned (.int .u64 (un (Short x))) ∧ w = w' := by
  go_enter Tryd.func28, Tryd.ntmps28
  go_wp2_with (go_at_call 39; refine (Sign_any _ _ _).mono ?_; rintro e w' ⟨rfl, rfl⟩)
  go_ret
  exact ⟨rfl, rfl⟩
/-! at numbers -/
theorem Sign_num (a n r : Int) (w : World) (h : (decide (0 ≤ a ∧ a < 18446744073709551616) && sn (Sign (bv a) n) == r) = true) :
    Calls Tryd.prog 39 #[.int .u64 a, .int .i64 n] w fun e w' => e = .returned (.int .i64 r) ∧ w = w' := by
  simp only [Bool.and_eq_true, decide_eq_true_eq, beq_iff_eq] at h
  have := Sign_any (bv a) n w; rw [un_bv a h.1, h.2] at this; exact this
end Go.Proofs.YthoohbefncjkmaaDoor
