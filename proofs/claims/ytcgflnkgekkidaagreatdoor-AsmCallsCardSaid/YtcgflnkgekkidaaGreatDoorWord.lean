/- The walks of package word: each function computes what its definition on bit vectors says. Conditions: none. -/
import Derived.Test.YtcgflnkgekkidaaGreatDoorProg
import Derived.Test.YtcgflnkgekkidaaGreatDoorWordDS
import Derived.ProofKit
namespace Go.Proofs.YtcgflnkgekkidaaGreatDoor
open Go.RowKit

attribute [local go_sem] wrap_u64_bv bv_un bv_sn bv_add bv_mul bv_neg bv_sub mul_bvpow shr_min shl_min sshr_min bv_lit bv_0 bv_1 un_shr sn_shr wrap_i64_un bits_u64_and bits_u64_or bits_u64_xor bits_u64_andNot bv_max u64_unsigned

theorem clamp_any (n m l : Int) (hml : m ≤ l) (w : World) :
    Calls Tryz.prog 106 #[.int .i64 n, .int .i64 m, .int .i64 l] w fun e w' => e = .returned (.int .i64 (min (max n m) l)) ∧ w = w' := by
  go_enter Tryz.func106, Tryz.ntmps106
  go_wp2
  all_goals go_ret
  all_goals exact ⟨by congr 2; simp; omega, rfl⟩
theorem clamp_64 (n : Int) (w : World) :
    Calls Tryz.prog 106 #[.int .i64 n, .int .i64 0, .int .i64 64] w fun e w' => e = .returned (.int .i64 (cl n : Int)) ∧ w = w' := by
  rw [← cl_int]; exact clamp_any _ _ _ (by decide) _
theorem Ones_any (n : Int) (w : World) :
    Calls Tryz.prog 125 #[.int .i64 n] w fun e w' => e = .returned (.int .u64 (un (Ones n))) ∧ w = w' := by
  have h2 := cl_le n
  go_enter Tryz.func125, Tryz.ntmps125
  go_wp2_with (go_at_call 106; refine (clamp_64 _ _).mono ?_; rintro e w' ⟨rfl, rfl⟩)
  go_ret
  exact ⟨ret_int (by unfold Ones; rw [← BitVec.allOnes_xor]; rfl), rfl⟩
theorem Low_any (x : BitVec 64) (n : Int) (w : World) :
    Calls Tryz.prog 126 #[.int .u64 (un x), .int .i64 n] w fun e w' => e = .returned (.int .u64 (un (Low x n))) ∧ w = w' := by
  go_enter Tryz.func126, Tryz.ntmps126
  go_wp2_with (go_at_call 125; refine (Ones_any _ _).mono ?_; rintro e w' ⟨rfl, rfl⟩)
  go_ret
  exact ⟨rfl, rfl⟩
theorem Part_any (x : BitVec 64) (f n : Int) (w : World) :
    Calls Tryz.prog 102 #[.int .u64 (un x), .int .i64 f, .int .i64 n] w fun e w' => e = .returned (.int .u64 (un (Part x f n))) ∧ w = w' := by
  go_enter Tryz.func102, Tryz.ntmps102
  go_wp2_with (go_at_call 126; refine (Low_any _ _ _).mono ?_; rintro e w' ⟨rfl, rfl⟩)
  · have h0 : f.toNat = 0 := by omega
    go_ret
    exact ⟨ret_int (by unfold Part; rw [h0]; rfl), rfl⟩
  · go_ret
    exact ⟨rfl, rfl⟩
theorem Put_any (x : BitVec 64) (f n : Int) (v : BitVec 64) (w : World) :
    Calls Tryz.prog 101 #[.int .u64 (un x), .int .i64 f, .int .i64 n, .int .u64 (un v)] w fun e w' => e = .returned (.int .u64 (un (Put x f n v))) ∧ w = w' := by
  go_enter Tryz.func101, Tryz.ntmps101
  go_wp2_with (go_at_call 125; refine (Ones_any _ _).mono ?_; rintro e w' ⟨rfl, rfl⟩)
  · have h0 : f.toNat = 0 := by omega
    go_ret
    exact ⟨ret_int (by unfold Put; rw [h0]; simp), rfl⟩
  · go_ret
    exact ⟨rfl, rfl⟩
theorem Sign_any (x : BitVec 64) (n : Int) (w : World) :
    Calls Tryz.prog 77 #[.int .u64 (un x), .int .i64 n] w fun e w' => e = .returned (.int .i64 (sn (Sign x n))) ∧ w = w' := by
  have h2 := cl_le n
  go_enter Tryz.func77, Tryz.ntmps77
  go_wp2_with (go_at_call 106; refine (clamp_64 _ _).mono ?_; rintro e w' ⟨rfl, rfl⟩)
  go_ret
  exact ⟨rfl, rfl⟩
theorem Fits_any (v n : Int) (w : World) :
    Calls Tryz.prog 73 #[.int .i64 v, .int .i64 n] w fun e w' => e = .returned (.bool (Fits v n)) ∧ w = w' := by
  go_enter Tryz.func73, Tryz.ntmps73
  go_wp2_with (go_at_call 77; refine (Sign_any _ _ _).mono ?_; rintro e w' ⟨rfl, rfl⟩)
  go_ret
  exact ⟨rfl, rfl⟩
/-! at numbers -/
theorem Part_num (a f n r : Int) (w : World) (h : (decide (0 ≤ a ∧ a < 18446744073709551616) && un (Part (bv a) f n) == r) = true) :
    Calls Tryz.prog 102 #[.int .u64 a, .int .i64 f, .int .i64 n] w fun e w' => e = .returned (.int .u64 r) ∧ w = w' := by
  simp only [Bool.and_eq_true, decide_eq_true_eq, beq_iff_eq] at h
  have := Part_any (bv a) f n w; rw [un_bv a h.1, h.2] at this; exact this
theorem Put_num (a f n v r : Int) (w : World) (h : (decide (0 ≤ a ∧ a < 18446744073709551616) && decide (0 ≤ v ∧ v < 18446744073709551616) && un (Put (bv a) f n (bv v)) == r) = true) :
    Calls Tryz.prog 101 #[.int .u64 a, .int .i64 f, .int .i64 n, .int .u64 v] w fun e w' => e = .returned (.int .u64 r) ∧ w = w' := by
  simp only [Bool.and_eq_true, decide_eq_true_eq, beq_iff_eq] at h
  have := Put_any (bv a) f n (bv v) w; rw [un_bv a h.1.1, un_bv v h.1.2, h.2] at this; exact this
theorem Sign_num (a n r : Int) (w : World) (h : (decide (0 ≤ a ∧ a < 18446744073709551616) && sn (Sign (bv a) n) == r) = true) :
    Calls Tryz.prog 77 #[.int .u64 a, .int .i64 n] w fun e w' => e = .returned (.int .i64 r) ∧ w = w' := by
  simp only [Bool.and_eq_true, decide_eq_true_eq, beq_iff_eq] at h
  have := Sign_any (bv a) n w; rw [un_bv a h.1, h.2] at this; exact this
theorem Fits_num (v n : Int) (r : Bool) (w : World) (h : Fits v n = r) :
    Calls Tryz.prog 73 #[.int .i64 v, .int .i64 n] w fun e w' => e = .returned (.bool r) ∧ w = w' := by
  have := Fits_any v n w; rw [h] at this; exact this
end Go.Proofs.YtcgflnkgekkidaaGreatDoor
