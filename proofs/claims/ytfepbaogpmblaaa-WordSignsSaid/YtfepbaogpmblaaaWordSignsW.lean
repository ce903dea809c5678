/- The walk of WordSigns: it returns true. Conditions: none. -/
import Derived.Test.YtfepbaogpmblaaaWordLives
import Derived.Test.YtfepbaogpmblaaaWordSign
import Derived.Test.YtfepbaogpmblaaaPick
namespace Go.Proofs.Ytfepbaogpmblaaa
open Go.RowKit
attribute [local go_sem] wrap_u64_bv bv_un bv_sn bv_add bv_mul bv_neg bv_sub mul_bvpow shr_min shl_min sshr_min bv_lit bv_0 bv_1 un_shr sn_shr wrap_i64_un bits_u64_and bits_u64_or bits_u64_xor bits_u64_andNot bv_max u64_unsigned
theorem two_pow_le (N : Nat) (h : N ≤ 62) : (1 : Int) ≤ 2 ^ N ∧ (2 : Int) ^ N ≤ 4611686018427387904 := by
  have a : 2 ^ N ≤ 2 ^ 62 := Nat.pow_le_pow_right (by decide) h
  have b : 1 ≤ 2 ^ N := Nat.one_le_two_pow
  have c : ((2 : Int) ^ N) = ((2 ^ N : Nat) : Int) := by simp
  rw [c]; omega
set_option maxHeartbeats 1000000 in
theorem WordSigns_any (x y : BitVec 64) (n : Int) (w : World) :
    Calls Try.prog 4 #[.int .u64 (un x), .int .i64 (sn y), .int .i64 n] w fun e w' => e = .returned (.bool true) ∧ w = w' := by
  obtain ⟨N, hN, PN⟩ := Pick_nat_any n 63 (by decide) (by decide)
  have hb := Sign_le x (N + 1) (by omega) (by omega)
  have hf := Fits_iff y (N + 1) (by omega) (by omega)
  have hg := Fits_iff y (N + 2) (by omega) (by omega)
  have hp := two_pow_le N (by omega)
  have t1 : Fits (sn (Sign x ((N + 1 : Nat) : Int))) ((N + 1 : Nat) : Int) = true := Fits_Sign x (N + 1) (by omega)
  have t2 := bne_self_false (un (Low x ((N + 1 : Nat) : Int))) _ (congrArg un (Low_Sign x (N + 1) (by omega)))
  have t3 := beq_self_true (sn x) _ (congrArg sn (Sign_64 x))
  have hs := Sign_self y (N + 1) (by omega) (by omega)
  rw [show N + 1 - 1 = N from rfl] at *
  rw [show N + 2 - 1 = N + 1 from rfl, show ((2 : Int) ^ (N + 1)) = 2 ^ N * 2 from by rw [Int.pow_succ]] at hg
  rw [show ((N + 1 : Nat) : Int) = 1 + N by omega] at *
  rw [show ((N + 2 : Nat) : Int) = 1 + N + 1 by omega] at *
  have e1 : un (1#64 + bv (N : Int) - 1#64) = N := by rw [← bv_1, ← bv_add, ← bv_sub]; rw [un_bv _ (by omega)]; omega
  obtain ⟨P, hP⟩ : ∃ P : Int, (2 : Int) ^ N = P := ⟨_, rfl⟩
  rw [hP] at hb hf hg hp hs
  obtain ⟨hp1, hp2⟩ := hp
  obtain ⟨hb1, hb2⟩ := hb
  have hy := sn_lt y
  by_cases hi : -P ≤ sn y ∧ sn y < P
  · have f1 := hf.2 hi
    have f2 := hg.2 (by omega)
    have f3 := beq_self_true (sn y) _ (congrArg sn (hs.2 hi))
    obtain ⟨hi1, hi2⟩ := hi
    clear hf hg hs hy
    go_enter Try.func4, Try.ntmps4
    go_wp2_with (first | (go_at_call 9; refine (lives_any _).mono ?_; rintro e w' ⟨rfl, rfl⟩) | (go_at_call 10; (with_reducible refine (PN.out _).mono ?_); rintro e w' ⟨rfl, rfl⟩) | (go_at_call 15; (with_reducible refine (Fits_any _ _ _).mono ?_); rintro e w' ⟨rfl, rfl⟩) | (go_at_call 13; (with_reducible refine (Low_any _ _ _).mono ?_); rintro e w' ⟨rfl, rfl⟩) | (go_at_call 14; (with_reducible refine (Sign_any _ _ _).mono ?_); rintro e w' ⟨rfl, rfl⟩))
    go_ret
    exact ⟨rfl, rfl⟩
  · have f1 : Fits (sn y) (1 + (N : Int)) = false := by
      rcases h : Fits (sn y) (1 + (N : Int)) with _ | _
      · rfl
      · exact absurd (hf.1 h) hi
    have hi' : sn y < -P ∨ -P ≤ sn y ∧ P ≤ sn y := by omega
    clear hf hg hs hy hi
    rcases hi' with hi | ⟨hi1, hi2⟩
    all_goals
      go_enter Try.func4, Try.ntmps4
      go_wp2_with (first | (go_at_call 9; refine (lives_any _).mono ?_; rintro e w' ⟨rfl, rfl⟩) | (go_at_call 10; (with_reducible refine (PN.out _).mono ?_); rintro e w' ⟨rfl, rfl⟩) | (go_at_call 15; (with_reducible refine (Fits_any _ _ _).mono ?_); rintro e w' ⟨rfl, rfl⟩) | (go_at_call 13; (with_reducible refine (Low_any _ _ _).mono ?_); rintro e w' ⟨rfl, rfl⟩) | (go_at_call 14; (with_reducible refine (Sign_any _ _ _).mono ?_); rintro e w' ⟨rfl, rfl⟩))
      go_ret
      exact ⟨rfl, rfl⟩
end Go.Proofs.Ytfepbaogpmblaaa
