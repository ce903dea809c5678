/- The walks of the reference's words: they compute what package word computes. Conditions: the bytes' cells are there. -/
import Derived.Test.YtbglinhglnbfmaaGreatDoorWord
import Derived.Test.YtbglinhglnbfmaaGreatDoorRefDefs
import Derived.Lib.Hide
namespace Go.Proofs.YtbglinhglnbfmaaGreatDoor
open Go.RowKit
attribute [local go_sem] wrap_u64_bv bv_un bv_sn bv_add bv_mul bv_neg bv_sub mul_bvpow shr_min shl_min sshr_min bv_lit bv_0 bv_1 un_shr sn_shr wrap_i64_un bits_u64_and bits_u64_or bits_u64_xor bits_u64_andNot bv_max u64_unsigned
theorem Rbound_any (n m l : Int) (hml : m ≤ l) (w : World) :
    Calls Tryz.prog 71 #[.int .i64 n, .int .i64 m, .int .i64 l] w fun e w' => e = .returned (.int .i64 (min (max n m) l)) ∧ w = w' := by
  go_enter Tryz.func71, Tryz.ntmps71
  go_wp2
  all_goals go_ret
  all_goals exact ⟨by congr 2; simp; omega, rfl⟩
theorem Rbound_64 (n : Int) (w : World) :
    Calls Tryz.prog 71 #[.int .i64 n, .int .i64 0, .int .i64 64] w fun e w' => e = .returned (.int .i64 (cl n : Int)) ∧ w = w' := by
  rw [← cl_int]; exact Rbound_any _ _ _ (by decide) _
theorem ROnes_any (n : Int) (w : World) :
    Calls Tryz.prog 66 #[.int .i64 n] w fun e w' => e = .returned (.int .u64 (un (Ones n))) ∧ w = w' := by
  have h2 := cl_le n
  go_enter Tryz.func66, Tryz.ntmps66
  go_wp2_with fail
  go_loop [3, 4] (fun x i => ∃ k : Nat, k ≤ cl n ∧ i = .int .i64 k ∧ x = .int .u64 (un (OnesK k))) (fun _ i => 64 - (intOf i).toNat)
  case atStart => exact ⟨0, Nat.zero_le _, rfl, rfl⟩
  case round =>
    obtain ⟨k, hk, rfl, rfl⟩ := hrel
    by_cases hlt : k < cl n
    · go_wp2_with (go_at_call 71; (with_reducible refine (Rbound_64 _ _).mono ?_); rintro e w' ⟨rfl, rfl⟩)
      go_round
      case rel => exact ⟨k + 1, by omega, by go_num, rfl⟩
      case measure => simp [intOf]; omega
    · obtain rfl : k = cl n := by omega
      go_wp2_with (go_at_call 71; (with_reducible refine (Rbound_64 _ _).mono ?_); rintro e w' ⟨rfl, rfl⟩)
      go_ret
      exact ⟨ret_int (by rw [← OnesK_eq]), rfl⟩
theorem RLow_any (x : BitVec 64) (n : Int) (w : World) :
    Calls Tryz.prog 64 #[.int .u64 (un x), .int .i64 n] w fun e w' => e = .returned (.int .u64 (un (Low x n))) ∧ w = w' := by
  go_enter Tryz.func64, Tryz.ntmps64
  go_wp2_with (go_at_call 66; (with_reducible refine (ROnes_any _ _).mono ?_); rintro e w' ⟨rfl, rfl⟩)
  go_ret
  exact ⟨rfl, rfl⟩
theorem RPart_any (x : BitVec 64) (f n : Int) (w : World) :
    Calls Tryz.prog 72 #[.int .u64 (un x), .int .i64 f, .int .i64 n] w fun e w' => e = .returned (.int .u64 (un (Part x f n))) ∧ w = w' := by
  by_cases h : 63 < f
  · go_enter Tryz.func72, Tryz.ntmps72
    go_wp2_with fail
    go_ret
    exact ⟨ret_int (by rw [Part_far x f n h]; rfl), rfl⟩
  · by_cases h0 : f < 0
    · have e0 : un 0#64 = 0 := rfl
      go_enter Tryz.func72, Tryz.ntmps72
      go_wp2_with (go_at_call 64; (with_reducible refine (RLow_any _ _ _).mono ?_); rintro e w' ⟨rfl, rfl⟩)
      go_ret
      exact ⟨ret_int (by unfold Part; rw [show f.toNat = 0 by omega]; rfl), rfl⟩
    · have e0 : un (bv f) = f := un_bv _ (by omega)
      go_enter Tryz.func72, Tryz.ntmps72
      go_wp2_with (go_at_call 64; (with_reducible refine (RLow_any _ _ _).mono ?_); rintro e w' ⟨rfl, rfl⟩)
      go_ret
      exact ⟨rfl, rfl⟩
theorem RSign_any (x : BitVec 64) (n : Int) (w : World) :
    Calls Tryz.prog 49 #[.int .u64 (un x), .int .i64 n] w fun e w' => e = .returned (.int .i64 (sn (Sign x n))) ∧ w = w' := by
  have h2 := cl_le n
  by_cases h : cl n = 0
  · have hb : Hid (∀ w, Calls Tryz.prog 71 #[.int .i64 n, .int .i64 0, .int .i64 64] w fun e w' => e = .returned (.int .i64 0) ∧ w = w') := Lib.hid fun w => by have := Rbound_64 n w; rw [h] at this; exact this
    have hs := Lib.hid (Sign_zero x n h)
    have hl := Low_cl x n
    rw [h] at hl
    have hl' := Lib.hid hl
    clear h hl
    go_enter Tryz.func49, Tryz.ntmps49
    go_wp2_with (first | (go_at_call 71; refine (hb.out _).mono ?_; rintro e w' ⟨rfl, rfl⟩) | (go_at_call 64; (with_reducible refine (RLow_any _ _ _).mono ?_); rintro e w' ⟨rfl, rfl⟩))
    go_ret
    exact ⟨ret_int (by rw [hs.out, ← hl'.out]; rfl), rfl⟩
  · have h1 : 1 ≤ cl n := by omega
    by_cases h0 : Part x ((cl n : Int) - 1) 1 = 0#64
    · have hs := Lib.hid (Sign_pos x n h1 h0)
      have t := beq_self_true (0 : Int) (un (Part x ((cl n : Int) - 1) 1)) (by rw [h0]; rfl)
      have hl' := Lib.hid (Low_cl x n)
      have t0 : ((cl n : Int) == 0) = false := by rw [beq_eq_false_iff_ne]; omega
      clear h h0
      go_enter Tryz.func49, Tryz.ntmps49
      go_wp2_with (first | (go_at_call 71; (with_reducible refine (Rbound_64 _ _).mono ?_); rintro e w' ⟨rfl, rfl⟩) | (go_at_call 72; (with_reducible refine (RPart_any _ _ _ _).mono ?_); rintro e w' ⟨rfl, rfl⟩) | (go_at_call 64; (with_reducible refine (RLow_any _ _ _).mono ?_); rintro e w' ⟨rfl, rfl⟩))
      go_ret
      exact ⟨ret_int (by rw [hs.out, ← hl'.out]), rfl⟩
    · have hs := Lib.hid (Sign_neg x n h1 h0)
      have t : (un (Part x ((cl n : Int) - 1) 1) == 0) = false := by
        rw [beq_eq_false_iff_ne]; intro h; exact h0 (un_inj.1 h)
      have ho' := Lib.hid (Ones_cl n)
      have t0 : ((cl n : Int) == 0) = false := by rw [beq_eq_false_iff_ne]; omega
      clear h h0
      go_enter Tryz.func49, Tryz.ntmps49
      go_wp2_with (first | (go_at_call 71; (with_reducible refine (Rbound_64 _ _).mono ?_); rintro e w' ⟨rfl, rfl⟩) | (go_at_call 72; (with_reducible refine (RPart_any _ _ _ _).mono ?_); rintro e w' ⟨rfl, rfl⟩) | (go_at_call 66; (with_reducible refine (ROnes_any _ _).mono ?_); rintro e w' ⟨rfl, rfl⟩))
      go_ret
      exact ⟨ret_int (by rw [hs.out, ← ho'.out, ← BitVec.allOnes_xor]; rfl), rfl⟩
theorem RFits_any (v n : Int) (w : World) :
    Calls Tryz.prog 34 #[.int .i64 v, .int .i64 n] w fun e w' => e = .returned (.bool (Fits v n)) ∧ w = w' := by
  go_enter Tryz.func34, Tryz.ntmps34
  go_wp2_with (go_at_call 49; (with_reducible refine (RSign_any _ _ _).mono ?_); rintro e w' ⟨rfl, rfl⟩)
  go_ret
  exact ⟨rfl, rfl⟩
theorem RShort_any (x : BitVec 64) (w : World) :
    Calls Tryz.prog 44 #[.int .u64 (un x)] w fun e w' => e = .returned (.int .u64 (un (Short x))) ∧ w = w' := by
  go_enter Tryz.func44, Tryz.ntmps44
  go_wp2_with (go_at_call 49; (with_reducible refine (RSign_any _ _ _).mono ?_); rintro e w' ⟨rfl, rfl⟩)
  go_ret
  exact ⟨rfl, rfl⟩
end Go.Proofs.YtbglinhglnbfmaaGreatDoor
