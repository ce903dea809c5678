/- The walks of the operations of package alu: each answers what its definition on bit vectors says. Conditions: none. -/
import Derived.Test.YtbglinhglnbfmaaGreatDoorShelf
import Derived.Test.YtbglinhglnbfmaaGreatDoorWord
import Derived.Test.YtbglinhglnbfmaaGreatDoorAluDefs
import Derived.Test.YtbglinhglnbfmaaGreatDoorAluDoes
namespace Go.Proofs.YtbglinhglnbfmaaGreatDoor
open Go.RowKit
theorem quo_sn (a b : BitVec 64) : IntKind.i64.wrap ((sn a).tdiv (sn b)) = sn (a.sdiv b) := by
  rw [wrap_i64_sn]; congr 1
  apply BitVec.eq_of_toInt_eq
  unfold bv sn
  rw [BitVec.toInt_ofInt, BitVec.toInt_sdiv]
theorem rem_sn (a b : BitVec 64) : (sn a).tmod (sn b) = sn (a.srem b) := by
  unfold sn; rw [BitVec.toInt_srem]
theorem quo_un (a b : BitVec 64) : IntKind.u64.wrap ((un a).tdiv (un b)) = un (a / b) := by
  have h : (un a).tdiv (un b) = un (a / b) := by
    unfold un; rw [BitVec.toNat_udiv]; rfl
  rw [h, wrap_u64_bv, bv_un]
theorem rem_un (a b : BitVec 64) : (un a).tmod (un b) = un (a % b) := by
  unfold un; rw [BitVec.toNat_umod]; rfl
theorem bv_quo_un (a b : BitVec 64) : bv ((un a).tdiv (un b)) = a / b := by
  have h := quo_un a b
  rw [wrap_u64_bv] at h; exact un_inj.1 h
attribute [local go_sem] wrap_u64_bv bv_un bv_sn bv_add bv_mul bv_neg bv_sub mul_bvpow shr_min shl_min sshr_min bv_lit bv_0 bv_1 un_shr sn_shr wrap_i64_un bits_u64_and bits_u64_or bits_u64_xor bits_u64_andNot bv_max u64_unsigned quo_sn rem_sn bv_quo_un rem_un
theorem truth_any (b : Bool) (w : World) :
    Calls Tryz.prog 83 #[.bool b] w fun e w' => e = .returned (.int .u64 (un (truthF b))) ∧ w = w' := by
  cases b
  all_goals
    go_enter Tryz.func83, Tryz.ntmps83
    go_wp2
    go_ret
    exact ⟨rfl, rfl⟩
theorem unsigned_any (x : BitVec 64) (w : World) :
    Calls Tryz.prog 94 #[.int .u64 (un x)] w fun e w' => e = .returned (.int .u64 (un (Low x 32))) ∧ w = w' := by
  go_enter Tryz.func94, Tryz.ntmps94
  go_wp2_with (go_at_call 115; (with_reducible refine (Low_any _ _ _).mono ?_); rintro e w' ⟨rfl, rfl⟩)
  go_ret
  exact ⟨rfl, rfl⟩
theorem mul64_any (a b : BitVec 64) (w : World) :
    Calls Tryz.prog 116 #[.int .u64 (un a), .int .u64 (un b)] w fun e w' => e = .returned (.tuple #[.int .u64 (un (mulhu a b)), .int .u64 (un (a * b))]) ∧ w = w' := by
  refine (Tryz.bits_Mul64 a.toNat b.toNat a.isLt b.isLt w).mono fun e w' ⟨he, hw⟩ => ⟨?_, hw.symm⟩
  rw [he]
  have e1 : un (mulhu a b) = ((a.toNat * b.toNat / 18446744073709551616 : Nat) : Int) := by
    unfold un mulhu
    rw [BitVec.toNat_ofNat, Nat.mod_eq_of_lt]
    have h1 := a.isLt
    have h2 := b.isLt
    have h3 : a.toNat * b.toNat < 2 ^ 64 * 2 ^ 64 := Nat.mul_lt_mul'' h1 h2
    exact Nat.div_lt_of_lt_mul (by simpa using h3)
  have e2 : un (a * b) = ((a.toNat * b.toNat % 18446744073709551616 : Nat) : Int) := by
    unfold un; rw [BitVec.toNat_mul]
  rw [e1, e2]
theorem high_any (a b : BitVec 64) (sa sb : Bool) (w : World) :
    Calls Tryz.prog 98 #[.int .u64 (un a), .int .u64 (un b), .bool sa, .bool sb] w fun e w' => e = .returned (.int .u64 (un (highF a b sa sb))) ∧ w = w' := by
  have ha : sn a < 0 ∨ 0 ≤ sn a := by omega
  have hb : sn b < 0 ∨ 0 ≤ sn b := by omega
  cases sa <;> cases sb <;> rcases ha with ha | ha <;> rcases hb with hb | hb
  all_goals
    go_enter Tryz.func98, Tryz.ntmps98
    go_wp2_with (go_at_call 116; (with_reducible refine (mul64_any _ _ _).mono ?_); rintro e w' ⟨rfl, rfl⟩)
    go_ret
    refine ⟨ret_int ?_, rfl⟩
    simp [highF, ha, hb, Int.not_lt.2]

theorem div_any (a b : BitVec 64) (w : World) :
    Calls Tryz.prog 101 #[.int .u64 (un a), .int .u64 (un b)] w fun e w' => e = .returned (.int .u64 (un (divF a b))) ∧ w = w' := by
  by_cases h0 : b = 0#64
  · have t0 : (un b == 0) = true := by rw [h0]; rfl
    have hF := Lib.hid (show divF a b = BitVec.allOnes 64 from by unfold divF; rw [if_pos h0])
    clear h0
    go_enter Tryz.func101, Tryz.ntmps101
    go_wp2
    go_ret
    exact ⟨ret_int (by rw [hF.out] <;> rfl), rfl⟩
  · have t0 : (un b == 0) = false := by rw [beq_eq_false_iff_ne]; intro h; exact h0 (un_inj.1 h)
    by_cases h1 : a = leastB ∧ b = BitVec.allOnes 64
    · have t1 : (un a == 9223372036854775808) = true := by rw [h1.1]; rfl
      have t2 : (un b == 18446744073709551615) = true := by rw [h1.2]; rfl
      have hF := Lib.hid (show divF a b = a from by unfold divF; rw [if_neg h0, if_pos h1])
      clear h0 h1
      go_enter Tryz.func101, Tryz.ntmps101
      go_wp2
      go_ret
      exact ⟨ret_int (by rw [hF.out] <;> rfl), rfl⟩
    · have hF := Lib.hid (show divF a b = a.sdiv b from by unfold divF; rw [if_neg h0, if_neg h1])
      have t3 : ¬ sn b = 0 := fun h => h0 (sn_inj.1 h)
      by_cases h2 : a = leastB
      · have t1 : (un a == 9223372036854775808) = true := by rw [h2]; rfl
        have t2 : (un b == 18446744073709551615) = false := by rw [beq_eq_false_iff_ne]; intro h; exact h1 ⟨h2, un_inj.1 h⟩
        clear h0 h1 h2
        go_enter Tryz.func101, Tryz.ntmps101
        go_wp2
        go_ret
        exact ⟨ret_int (by rw [hF.out] <;> rfl), rfl⟩
      · have t1 : (un a == 9223372036854775808) = false := by rw [beq_eq_false_iff_ne]; intro h; exact h2 (un_inj.1 h)
        clear h0 h1 h2
        go_enter Tryz.func101, Tryz.ntmps101
        go_wp2
        go_ret
        exact ⟨ret_int (by rw [hF.out] <;> rfl), rfl⟩
theorem rem_any (a b : BitVec 64) (w : World) :
    Calls Tryz.prog 103 #[.int .u64 (un a), .int .u64 (un b)] w fun e w' => e = .returned (.int .u64 (un (remF a b))) ∧ w = w' := by
  by_cases h0 : b = 0#64
  · have t0 : (un b == 0) = true := by rw [h0]; rfl
    have hF := Lib.hid (show remF a b = a from by unfold remF; rw [if_pos h0])
    clear h0
    go_enter Tryz.func103, Tryz.ntmps103
    go_wp2
    go_ret
    exact ⟨ret_int (by rw [hF.out] <;> rfl), rfl⟩
  · have t0 : (un b == 0) = false := by rw [beq_eq_false_iff_ne]; intro h; exact h0 (un_inj.1 h)
    by_cases h1 : a = leastB ∧ b = BitVec.allOnes 64
    · have t1 : (un a == 9223372036854775808) = true := by rw [h1.1]; rfl
      have t2 : (un b == 18446744073709551615) = true := by rw [h1.2]; rfl
      have hF := Lib.hid (show remF a b = 0#64 from by unfold remF; rw [if_neg h0, if_pos h1])
      clear h0 h1
      go_enter Tryz.func103, Tryz.ntmps103
      go_wp2
      go_ret
      exact ⟨ret_int (by rw [hF.out] <;> rfl), rfl⟩
    · have hF := Lib.hid (show remF a b = a.srem b from by unfold remF; rw [if_neg h0, if_neg h1])
      have t3 : ¬ sn b = 0 := fun h => h0 (sn_inj.1 h)
      by_cases h2 : a = leastB
      · have t1 : (un a == 9223372036854775808) = true := by rw [h2]; rfl
        have t2 : (un b == 18446744073709551615) = false := by rw [beq_eq_false_iff_ne]; intro h; exact h1 ⟨h2, un_inj.1 h⟩
        clear h0 h1 h2
        go_enter Tryz.func103, Tryz.ntmps103
        go_wp2
        go_ret
        exact ⟨ret_int (by rw [hF.out] <;> rfl), rfl⟩
      · have t1 : (un a == 9223372036854775808) = false := by rw [beq_eq_false_iff_ne]; intro h; exact h2 (un_inj.1 h)
        clear h0 h1 h2
        go_enter Tryz.func103, Tryz.ntmps103
        go_wp2
        go_ret
        exact ⟨ret_int (by rw [hF.out] <;> rfl), rfl⟩
theorem divu_any (a b : BitVec 64) (w : World) :
    Calls Tryz.prog 102 #[.int .u64 (un a), .int .u64 (un b)] w fun e w' => e = .returned (.int .u64 (un (divuF a b))) ∧ w = w' := by
  by_cases h0 : b = 0#64
  · have t0 : (un b == 0) = true := by rw [h0]; rfl
    have hF := Lib.hid (show divuF a b = BitVec.allOnes 64 from by unfold divuF; rw [if_pos h0])
    clear h0
    go_enter Tryz.func102, Tryz.ntmps102
    go_wp2
    go_ret
    exact ⟨ret_int (by rw [hF.out] <;> rfl), rfl⟩
  · have t0 : (un b == 0) = false := by rw [beq_eq_false_iff_ne]; intro h; exact h0 (un_inj.1 h)
    have t1 : ¬ un b = 0 := fun h => h0 (un_inj.1 h)
    have hF := Lib.hid (show divuF a b = a / b from by unfold divuF; rw [if_neg h0])
    clear h0
    go_enter Tryz.func102, Tryz.ntmps102
    go_wp2
    go_ret
    exact ⟨ret_int (by rw [hF.out] <;> rfl), rfl⟩
theorem remu_any (a b : BitVec 64) (w : World) :
    Calls Tryz.prog 104 #[.int .u64 (un a), .int .u64 (un b)] w fun e w' => e = .returned (.int .u64 (un (remuF a b))) ∧ w = w' := by
  by_cases h0 : b = 0#64
  · have t0 : (un b == 0) = true := by rw [h0]; rfl
    have hF := Lib.hid (show remuF a b = a from by unfold remuF; rw [if_pos h0])
    clear h0
    go_enter Tryz.func104, Tryz.ntmps104
    go_wp2
    go_ret
    exact ⟨ret_int (by rw [hF.out] <;> rfl), rfl⟩
  · have t0 : (un b == 0) = false := by rw [beq_eq_false_iff_ne]; intro h; exact h0 (un_inj.1 h)
    have t1 : ¬ un b = 0 := fun h => h0 (un_inj.1 h)
    have hF := Lib.hid (show remuF a b = a % b from by unfold remuF; rw [if_neg h0])
    clear h0
    go_enter Tryz.func104, Tryz.ntmps104
    go_wp2
    go_ret
    exact ⟨ret_int (by rw [hF.out] <;> rfl), rfl⟩
theorem op35_any (a b : BitVec 64) (w : World) :
    Calls Tryz.prog 79 #[.int .u64 (un a), .int .u64 (un b)] w fun e w' => e = .returned (.int .u64 (un (aluF 35 a b))) ∧ w = w' := by
  go_enter Tryz.func79, Tryz.ntmps79
  go_wp2
  go_ret
  exact ⟨rfl, rfl⟩
theorem op36_any (a b : BitVec 64) (w : World) :
    Calls Tryz.prog 80 #[.int .u64 (un a), .int .u64 (un b)] w fun e w' => e = .returned (.int .u64 (un (aluF 36 a b))) ∧ w = w' := by
  go_enter Tryz.func80, Tryz.ntmps80
  go_wp2
  go_ret
  exact ⟨rfl, rfl⟩
theorem op37_any (a b : BitVec 64) (w : World) :
    Calls Tryz.prog 81 #[.int .u64 (un a), .int .u64 (un b)] w fun e w' => e = .returned (.int .u64 (un (aluF 37 a b))) ∧ w = w' := by
  obtain ⟨s1, s2⟩ := sh_lt b 63#64 63 (by decide)
  go_enter Tryz.func81, Tryz.ntmps81
  go_wp2
  go_ret
  exact ⟨rfl, rfl⟩
theorem op38_any (a b : BitVec 64) (w : World) :
    Calls Tryz.prog 82 #[.int .u64 (un a), .int .u64 (un b)] w fun e w' => e = .returned (.int .u64 (un (aluF 38 a b))) ∧ w = w' := by
  go_enter Tryz.func82, Tryz.ntmps82
  go_wp2_with (first | (go_at_call 83; (with_reducible refine (truth_any _ _).mono ?_); rintro e w' ⟨rfl, rfl⟩))
  go_ret
  exact ⟨rfl, rfl⟩
theorem op39_any (a b : BitVec 64) (w : World) :
    Calls Tryz.prog 84 #[.int .u64 (un a), .int .u64 (un b)] w fun e w' => e = .returned (.int .u64 (un (aluF 39 a b))) ∧ w = w' := by
  go_enter Tryz.func84, Tryz.ntmps84
  go_wp2_with (first | (go_at_call 83; (with_reducible refine (truth_any _ _).mono ?_); rintro e w' ⟨rfl, rfl⟩))
  go_ret
  exact ⟨rfl, rfl⟩
theorem op40_any (a b : BitVec 64) (w : World) :
    Calls Tryz.prog 85 #[.int .u64 (un a), .int .u64 (un b)] w fun e w' => e = .returned (.int .u64 (un (aluF 40 a b))) ∧ w = w' := by
  go_enter Tryz.func85, Tryz.ntmps85
  go_wp2
  go_ret
  exact ⟨rfl, rfl⟩
theorem op41_any (a b : BitVec 64) (w : World) :
    Calls Tryz.prog 86 #[.int .u64 (un a), .int .u64 (un b)] w fun e w' => e = .returned (.int .u64 (un (aluF 41 a b))) ∧ w = w' := by
  obtain ⟨s1, s2⟩ := sh_lt b 63#64 63 (by decide)
  go_enter Tryz.func86, Tryz.ntmps86
  go_wp2
  go_ret
  exact ⟨rfl, rfl⟩
theorem op42_any (a b : BitVec 64) (w : World) :
    Calls Tryz.prog 87 #[.int .u64 (un a), .int .u64 (un b)] w fun e w' => e = .returned (.int .u64 (un (aluF 42 a b))) ∧ w = w' := by
  obtain ⟨s1, s2⟩ := sh_lt b 63#64 63 (by decide)
  go_enter Tryz.func87, Tryz.ntmps87
  go_wp2
  go_ret
  exact ⟨rfl, rfl⟩
theorem op43_any (a b : BitVec 64) (w : World) :
    Calls Tryz.prog 88 #[.int .u64 (un a), .int .u64 (un b)] w fun e w' => e = .returned (.int .u64 (un (aluF 43 a b))) ∧ w = w' := by
  go_enter Tryz.func88, Tryz.ntmps88
  go_wp2
  go_ret
  exact ⟨rfl, rfl⟩
theorem op44_any (a b : BitVec 64) (w : World) :
    Calls Tryz.prog 89 #[.int .u64 (un a), .int .u64 (un b)] w fun e w' => e = .returned (.int .u64 (un (aluF 44 a b))) ∧ w = w' := by
  go_enter Tryz.func89, Tryz.ntmps89
  go_wp2
  go_ret
  exact ⟨rfl, rfl⟩
theorem op45_any (a b : BitVec 64) (w : World) :
    Calls Tryz.prog 90 #[.int .u64 (un a), .int .u64 (un b)] w fun e w' => e = .returned (.int .u64 (un (aluF 45 a b))) ∧ w = w' := by
  go_enter Tryz.func90, Tryz.ntmps90
  go_wp2
  go_ret
  exact ⟨rfl, rfl⟩
theorem op46_any (a b : BitVec 64) (w : World) :
    Calls Tryz.prog 91 #[.int .u64 (un a), .int .u64 (un b)] w fun e w' => e = .returned (.int .u64 (un (aluF 46 a b))) ∧ w = w' := by
  go_enter Tryz.func91, Tryz.ntmps91
  go_wp2
  go_ret
  exact ⟨rfl, rfl⟩
theorem op47_any (a b : BitVec 64) (w : World) :
    Calls Tryz.prog 92 #[.int .u64 (un a), .int .u64 (un b)] w fun e w' => e = .returned (.int .u64 (un (aluF 47 a b))) ∧ w = w' := by
  obtain ⟨s1, s2⟩ := sh_lt b 31#64 31 (by decide)
  go_enter Tryz.func92, Tryz.ntmps92
  go_wp2
  go_ret
  exact ⟨rfl, rfl⟩
theorem op48_any (a b : BitVec 64) (w : World) :
    Calls Tryz.prog 93 #[.int .u64 (un a), .int .u64 (un b)] w fun e w' => e = .returned (.int .u64 (un (aluF 48 a b))) ∧ w = w' := by
  obtain ⟨s1, s2⟩ := sh_lt b 31#64 31 (by decide)
  go_enter Tryz.func93, Tryz.ntmps93
  go_wp2_with (first | (go_at_call 94; (with_reducible refine (unsigned_any _ _).mono ?_); rintro e w' ⟨rfl, rfl⟩))
  go_ret
  exact ⟨rfl, rfl⟩
theorem op49_any (a b : BitVec 64) (w : World) :
    Calls Tryz.prog 95 #[.int .u64 (un a), .int .u64 (un b)] w fun e w' => e = .returned (.int .u64 (un (aluF 49 a b))) ∧ w = w' := by
  obtain ⟨s1, s2⟩ := sh_lt b 31#64 31 (by decide)
  go_enter Tryz.func95, Tryz.ntmps95
  go_wp2
  go_ret
  exact ⟨rfl, rfl⟩
theorem op50_any (a b : BitVec 64) (w : World) :
    Calls Tryz.prog 96 #[.int .u64 (un a), .int .u64 (un b)] w fun e w' => e = .returned (.int .u64 (un (aluF 50 a b))) ∧ w = w' := by
  go_enter Tryz.func96, Tryz.ntmps96
  go_wp2
  go_ret
  exact ⟨rfl, rfl⟩
theorem op51_any (a b : BitVec 64) (w : World) :
    Calls Tryz.prog 97 #[.int .u64 (un a), .int .u64 (un b)] w fun e w' => e = .returned (.int .u64 (un (aluF 51 a b))) ∧ w = w' := by
  go_enter Tryz.func97, Tryz.ntmps97
  go_wp2_with (first | (go_at_call 98; (with_reducible refine (high_any _ _ _ _ _).mono ?_); rintro e w' ⟨rfl, rfl⟩))
  go_ret
  exact ⟨rfl, rfl⟩
theorem op52_any (a b : BitVec 64) (w : World) :
    Calls Tryz.prog 99 #[.int .u64 (un a), .int .u64 (un b)] w fun e w' => e = .returned (.int .u64 (un (aluF 52 a b))) ∧ w = w' := by
  go_enter Tryz.func99, Tryz.ntmps99
  go_wp2_with (first | (go_at_call 98; (with_reducible refine (high_any _ _ _ _ _).mono ?_); rintro e w' ⟨rfl, rfl⟩))
  go_ret
  exact ⟨rfl, rfl⟩
theorem op53_any (a b : BitVec 64) (w : World) :
    Calls Tryz.prog 100 #[.int .u64 (un a), .int .u64 (un b)] w fun e w' => e = .returned (.int .u64 (un (aluF 53 a b))) ∧ w = w' := by
  go_enter Tryz.func100, Tryz.ntmps100
  go_wp2_with (first | (go_at_call 98; (with_reducible refine (high_any _ _ _ _ _).mono ?_); rintro e w' ⟨rfl, rfl⟩))
  go_ret
  exact ⟨rfl, rfl⟩
theorem op58_any (a b : BitVec 64) (w : World) :
    Calls Tryz.prog 105 #[.int .u64 (un a), .int .u64 (un b)] w fun e w' => e = .returned (.int .u64 (un (aluF 58 a b))) ∧ w = w' := by
  go_enter Tryz.func105, Tryz.ntmps105
  go_wp2
  go_ret
  exact ⟨rfl, rfl⟩
theorem op60_any (a b : BitVec 64) (w : World) :
    Calls Tryz.prog 106 #[.int .u64 (un a), .int .u64 (un b)] w fun e w' => e = .returned (.int .u64 (un (aluF 60 a b))) ∧ w = w' := by
  go_enter Tryz.func106, Tryz.ntmps106
  go_wp2_with (first | (go_at_call 94; (with_reducible refine (unsigned_any _ _).mono ?_); rintro e w' ⟨rfl, rfl⟩) | (go_at_call 102; (with_reducible refine (divu_any _ _ _).mono ?_); rintro e w' ⟨rfl, rfl⟩))
  go_ret
  exact ⟨rfl, rfl⟩
theorem op62_any (a b : BitVec 64) (w : World) :
    Calls Tryz.prog 107 #[.int .u64 (un a), .int .u64 (un b)] w fun e w' => e = .returned (.int .u64 (un (aluF 62 a b))) ∧ w = w' := by
  go_enter Tryz.func107, Tryz.ntmps107
  go_wp2_with (first | (go_at_call 94; (with_reducible refine (unsigned_any _ _).mono ?_); rintro e w' ⟨rfl, rfl⟩) | (go_at_call 104; (with_reducible refine (remu_any _ _ _).mono ?_); rintro e w' ⟨rfl, rfl⟩))
  go_ret
  exact ⟨rfl, rfl⟩
/-- the function at an op's place answers what the op answers -/
theorem does_op (p : Nat) (h1 : 35 ≤ p) (h2 : p ≤ 62) (a b : BitVec 64) (w : World) :
    Calls Tryz.prog (doesFn p) #[.int .u64 (un a), .int .u64 (un b)] w fun e w' => e = .returned (.int .u64 (un (aluF p a b))) ∧ w = w' := by
  have hp : p = 35 ∨ p = 36 ∨ p = 37 ∨ p = 38 ∨ p = 39 ∨ p = 40 ∨ p = 41 ∨ p = 42 ∨ p = 43 ∨ p = 44 ∨ p = 45 ∨ p = 46 ∨ p = 47 ∨ p = 48 ∨ p = 49 ∨ p = 50 ∨ p = 51 ∨ p = 52 ∨ p = 53 ∨ p = 54 ∨ p = 55 ∨ p = 56 ∨ p = 57 ∨ p = 58 ∨ p = 59 ∨ p = 60 ∨ p = 61 ∨ p = 62 := by omega
  rcases hp with rfl | rfl | rfl | rfl | rfl | rfl | rfl | rfl | rfl | rfl | rfl | rfl | rfl | rfl | rfl | rfl | rfl | rfl | rfl | rfl | rfl | rfl | rfl | rfl | rfl | rfl | rfl | rfl
  · exact op35_any a b w
  · exact op36_any a b w
  · exact op37_any a b w
  · exact op38_any a b w
  · exact op39_any a b w
  · exact op40_any a b w
  · exact op41_any a b w
  · exact op42_any a b w
  · exact op43_any a b w
  · exact op44_any a b w
  · exact op45_any a b w
  · exact op46_any a b w
  · exact op47_any a b w
  · exact op48_any a b w
  · exact op49_any a b w
  · exact op50_any a b w
  · exact op51_any a b w
  · exact op52_any a b w
  · exact op53_any a b w
  · exact div_any a b w
  · exact divu_any a b w
  · exact rem_any a b w
  · exact remu_any a b w
  · exact op58_any a b w
  · exact div_any a b w
  · exact op60_any a b w
  · exact rem_any a b w
  · exact op62_any a b w
end Go.Proofs.YtbglinhglnbfmaaGreatDoor
