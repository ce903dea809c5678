/- The walk of WordCuts: it returns true. Conditions: none. -/
import Derived.Test.YtfepbaogpmblaaaWordLives
import Derived.Test.YtfepbaogpmblaaaWordSign
import Derived.Test.YtfepbaogpmblaaaPick
namespace Go.Proofs.Ytfepbaogpmblaaa
open Go.RowKit
attribute [local go_sem] wrap_u64_bv bv_un bv_sn bv_add bv_mul bv_neg bv_sub mul_bvpow shr_min shl_min sshr_min bv_lit bv_0 bv_1 un_shr sn_shr wrap_i64_un bits_u64_and bits_u64_or bits_u64_xor bits_u64_andNot bv_max u64_unsigned
theorem WordCuts_any (x v u : BitVec 64) (f n c d : Int) (w : World) :
    Calls Try.prog 5 #[.int .u64 (un x), .int .u64 (un v), .int .u64 (un u), .int .i64 f, .int .i64 n, .int .i64 c, .int .i64 d] w fun e w' => e = .returned (.bool true) ∧ w = w' := by
  obtain ⟨F, hF, PF⟩ := Pick_nat_any f 64 (by decide) (by decide)
  obtain ⟨K, hK, PK⟩ := Pick_nat_any n (65 - F) (by omega) (by omega)
  obtain ⟨C, hC, PC⟩ := Pick_nat_any c (K + 1) (by omega) (by omega)
  obtain ⟨D, hD, PD⟩ := Pick_nat_any d ((K : Int) - C + 1) (by omega) (by omega)
  have hFK : F + K ≤ 64 := by omega
  have t1 := beq_self_true (un (Part x (F + C) D)) _ (congrArg un (Part_Part x F K C D hFK (by omega)))
  have t2 := beq_self_true (un (Low x C)) _ (congrArg un (Low_Low x K C (by omega) (by omega)))
  have t3 := beq_self_true (un (Put x F K u)) _ (congrArg un (Put_Put x v u F K))
  have t4 := beq_self_true (sn (Sign x K)) _ (congrArg sn (Sign_Sign x K (by omega)))
  have t5 := beq_self_true (un (Short x)) _ (congrArg un (Short_Short x))
  go_enter Try.func5, Try.ntmps5
  go_wp2_with (first | (go_at_call 9; refine (lives_any _).mono ?_; rintro e w' ⟨rfl, rfl⟩) | (go_at_call 10; (first | (with_reducible refine (PF.out _).mono ?_) | (with_reducible refine (PK.out _).mono ?_) | (with_reducible refine (PC.out _).mono ?_) | (with_reducible refine (PD.out _).mono ?_)); rintro e w' ⟨rfl, rfl⟩) | (go_at_call 11; (with_reducible refine (Put_any _ _ _ _ _).mono ?_); rintro e w' ⟨rfl, rfl⟩) | (go_at_call 12; (with_reducible refine (Part_any _ _ _ _).mono ?_); rintro e w' ⟨rfl, rfl⟩) | (go_at_call 13; (with_reducible refine (Low_any _ _ _).mono ?_); rintro e w' ⟨rfl, rfl⟩) | (go_at_call 14; (with_reducible refine (Sign_any _ _ _).mono ?_); rintro e w' ⟨rfl, rfl⟩) | (go_at_call 16; (with_reducible refine (Short_any _ _).mono ?_); rintro e w' ⟨rfl, rfl⟩))
  go_ret
  exact ⟨rfl, rfl⟩
end Go.Proofs.Ytfepbaogpmblaaa
