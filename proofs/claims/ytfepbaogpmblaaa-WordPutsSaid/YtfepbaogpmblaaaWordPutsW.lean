/- The walk of WordPuts: it returns true. Conditions: none. -/
import Derived.Test.YtfepbaogpmblaaaWordLives
import Derived.Test.YtfepbaogpmblaaaPick
namespace Go.Proofs.Ytfepbaogpmblaaa
open Go.RowKit
attribute [local go_sem] wrap_u64_bv bv_un bv_sn bv_add bv_mul bv_neg bv_sub mul_bvpow shr_min shl_min sshr_min bv_lit bv_0 bv_1 un_shr sn_shr wrap_i64_un bits_u64_and bits_u64_or bits_u64_xor bits_u64_andNot bv_max u64_unsigned
theorem WordPuts_any (x v : BitVec 64) (f n : Int) (w : World) :
    Calls Try.prog 3 #[.int .u64 (un x), .int .u64 (un v), .int .i64 f, .int .i64 n] w fun e w' => e = .returned (.bool true) ∧ w = w' := by
  obtain ⟨F, hF, PF⟩ := Pick_nat_any f 64 (by decide) (by decide)
  obtain ⟨K, hK, PK⟩ := Pick_nat_any n (65 - F) (by omega) (by omega)
  have hFK : F + K ≤ 64 := by omega
  go_enter Try.func3, Try.ntmps3
  go_wp2_with (first | (go_at_call 9; refine (lives_any _).mono ?_; rintro e w' ⟨rfl, rfl⟩) | (go_at_call 10; (with_reducible refine (PF.out _).mono ?_); rintro e w' ⟨rfl, rfl⟩) | (go_at_call 10; (with_reducible refine (PK.out _).mono ?_); rintro e w' ⟨rfl, rfl⟩) | (go_at_call 11; (with_reducible refine (Put_any _ _ _ _ _).mono ?_); rintro e w' ⟨rfl, rfl⟩))
  go_loop [10] (fun i => ∃ k : Nat, k ≤ 64 ∧ i = .int .i64 k) (fun i => 64 - (intOf i).toNat)
  case atStart => exact ⟨0, by omega, rfl⟩
  case round =>
    obtain ⟨k, hk, rfl⟩ := hrel
    by_cases hlt : k < 64
    · have e1 : un (bv (k : Int)) = k := un_bv _ (by omega)
      by_cases h1 : F ≤ k ∧ k < F + K
      · obtain ⟨h1, h2⟩ := h1
        have e2 : un (bv (k : Int) - bv (F : Int)) = (k : Int) - F := by rw [← bv_sub]; exact un_bv _ (by omega)
        have t := bne_self_false (un (v >>> (k - F) &&& 1#64)) _ (congrArg un (Put_one_in x v F K k hFK h1 h2))
        go_wp2_with (go_at_call 12; (with_reducible refine (Part_any _ _ _ _).mono ?_); rintro e w' ⟨rfl, rfl⟩)
        go_round
        case rel => exact ⟨k + 1, by omega, by go_num⟩
        case measure => simp [intOf]; omega
      · have t := bne_self_false (un (x >>> k &&& 1#64)) _ (congrArg un (Put_one_out x v F K k hlt hFK h1))
        go_wp2_with (go_at_call 12; (with_reducible refine (Part_any _ _ _ _).mono ?_); rintro e w' ⟨rfl, rfl⟩)
        all_goals
          go_round
          case rel => exact ⟨k + 1, by omega, by go_num⟩
          case measure => simp [intOf]; omega
    · have e1 : un (bv (F : Int)) = F := un_bv _ (by omega)
      have t1 := beq_self_true (un (Low v K)) _ (congrArg un (Put_part x v F K hFK))
      have t2 := beq_self_true (un x) _ (congrArg un (Put_back x v F K hFK))
      have t3 := beq_self_true (un x) _ (congrArg un (Put_none x v F))
      go_wp2_with (first | (go_at_call 12; (with_reducible refine (Part_any _ _ _ _).mono ?_); rintro e w' ⟨rfl, rfl⟩) | (go_at_call 13; (with_reducible refine (Low_any _ _ _).mono ?_); rintro e w' ⟨rfl, rfl⟩) | (go_at_call 11; (with_reducible refine (Put_any _ _ _ _ _).mono ?_); rintro e w' ⟨rfl, rfl⟩))
      go_ret
      exact ⟨rfl, rfl⟩
end Go.Proofs.Ytfepbaogpmblaaa
