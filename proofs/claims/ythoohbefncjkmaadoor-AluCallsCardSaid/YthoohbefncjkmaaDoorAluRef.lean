/- The walks of the document's answers of layer 4: they compute what package alu computes. Conditions: none. -/
import Derived.Test.YthoohbefncjkmaaDoorAluRefDefs
import Derived.Test.YthoohbefncjkmaaDoorRefWord
namespace Go.Proofs.YthoohbefncjkmaaDoor
open Go.RowKit
attribute [local go_sem] wrap_u64_bv bv_un bv_sn bv_add bv_mul bv_neg bv_sub mul_bvpow shr_min shl_min sshr_min bv_lit bv_0 bv_1 un_shr sn_shr wrap_i64_un bits_u64_and bits_u64_or bits_u64_xor bits_u64_andNot bv_max u64_unsigned quo_sn rem_sn bv_quo_un rem_un
theorem bvd32 (x : BitVec 64) : bv (un x / (4294967296 : Int)) = x >>> 32 := by
  have e : un x / (4294967296 : Int) = un (x >>> 32) := un_shr x 32
  rw [e, bv_un]
section
attribute [local irreducible] un sn
theorem Rhigh_any (a b : BitVec 64) (w : World) :
    Calls Tryd.prog 81 #[.int .u64 (un a), .int .u64 (un b)] w fun e w' => e = .returned (.int .u64 (un (mulhu a b))) ∧ w = w' := by
  have hF := Lib.hid (rhigh_eq a b)
  go_enter Tryd.func81, Tryd.ntmps81
  go_wp2_with (go_at_call 14; (with_reducible refine (RLow_any _ _ _).mono ?_); rintro e w' ⟨rfl, rfl⟩)
  go_ret
  exact ⟨ret_int (by rw [← hF.out]; simp only [bvd32]; rfl), rfl⟩
theorem Rneg_any (a : BitVec 64) (w : World) :
    Calls Tryd.prog 82 #[.int .u64 (un a)] w fun e w' => e = .returned (.bool (decide (sn a < 0))) ∧ w = w' := by
  go_enter Tryd.func82, Tryd.ntmps82
  go_wp2
  go_ret
  exact ⟨rfl, rfl⟩
theorem Rone_any (b : Bool) (w : World) :
    Calls Tryd.prog 80 #[.bool b] w fun e w' => e = .returned (.int .u64 (un (truthF b))) ∧ w = w' := by
  have e1 : un (truthF true) = 1 := by decide +kernel
  have e0 : un (truthF false) = 0 := by decide +kernel
  cases b
  · go_enter Tryd.func80, Tryd.ntmps80
    go_wp2
    go_ret
    exact ⟨ret_int (by rw [e0]), rfl⟩
  · go_enter Tryd.func80, Tryd.ntmps80
    go_wp2
    go_ret
    exact ⟨ret_int (by rw [e1]), rfl⟩
theorem Rdivide_any (a b : BitVec 64) (w : World) :
    Calls Tryd.prog 79 #[.int .i64 (sn a), .int .i64 (sn b)] w fun e w' => e = .returned (.tuple #[.int .i64 (sn (divF a b)), .int .i64 (sn (remF a b))]) ∧ Below w.heap.size w w' := by
  by_cases h0 : b = 0#64
  · have hq : Hid (sn (divF a b) = -1) := Lib.hid (by unfold divF; rw [if_pos h0]; decide +kernel)
    have hr : Hid (sn (remF a b) = sn a) := Lib.hid (by unfold remF; rw [if_pos h0])
    have t : (sn b == 0) = true := by rw [h0]; decide +kernel
    clear h0
    go_enter Tryd.func79, Tryd.ntmps79
    go_wp2
    go_ret2
    exact ⟨by rw [hq.out, hr.out] <;> rfl, Below.refl _ _⟩
  · have t : (sn b == 0) = false := by
      rw [beq_eq_false_iff_ne]; intro h; exact h0 ((sn_zero_iff b).1 h)
    by_cases h1 : b = BitVec.allOnes 64
    · have hq : Hid (divF a b = -a) := Lib.hid (by rw [h1]; exact divF_ones a)
      have hr : Hid (sn (remF a b) = 0) := Lib.hid (by rw [h1, remF_ones]; decide +kernel)
      have t1 : (sn b == -1) = true := by rw [h1]; decide +kernel
      have hw : IntKind.i64.wrap (-sn a) = sn (-a) := by rw [wrap_i64_sn, bv_neg, bv_sn]
      clear h0 h1
      go_enter Tryd.func79, Tryd.ntmps79
      go_wp2
      go_ret2
      exact ⟨by rw [hq.out, hr.out, ← hw] <;> rfl, Below.refl _ _⟩
    · have t1 : (sn b == -1) = false := by
        rw [beq_eq_false_iff_ne]; intro h; exact h1 (sn_inj.1 (h.trans (by decide +kernel)))
      have n0 : ¬ sn b = 0 := fun h => h0 ((sn_zero_iff b).1 h)
      have hq : Hid (divF a b = a.sdiv b) := Lib.hid (by unfold divF; rw [if_neg h0, if_neg (fun h => h1 h.2)])
      have hr : Hid (remF a b = a.srem b) := Lib.hid (by unfold remF; rw [if_neg h0, if_neg (fun h => h1 h.2)])
      clear h0 h1
      go_enter Tryd.func79, Tryd.ntmps79
      go_wp2
      go_region
      all_goals
        go_wp2
        go_ret2
        exact ⟨by rw [hq.out, hr.out] <;> rfl, (Below.refl _ _).drew⟩
set_option maxHeartbeats 2000000 in
theorem R2Form_any (n : Int) (w : World) :
    Calls Tryd.prog 36 #[.int .i64 n] w fun e w' => e = .returned (.int .i64 (rform n)) ∧ w = w' := by
  by_cases h : n < 1 ∨ 87 < n
  · have hF : Hid (rform n = 0) := Lib.hid (by unfold rform; rw [if_pos h])
    rcases h with h | h
    all_goals
      go_enter Tryd.func36, Tryd.ntmps36
      go_wp2
      go_ret
      exact ⟨ret_int (by rw [hF.out] <;> rfl), rfl⟩
  · have hF : Hid (rform n = if n ≤ 2 then 1 else if n = 3 then 2 else if n = 4 ∨ (22 ≤ n ∧ n ≤ 27) ∨ n = 31 then 3 else if n ≤ 10 then 6 else if n ≤ 17 then 4 else if n ≤ 21 then 5 else if n ≤ 34 then 7 else if n ≤ 62 then 8 else if n = 63 then 9 else if n ≤ 65 then 10 else if n ≤ 67 then 11 else 12) := Lib.hid (by unfold rform; rw [if_neg h])
    have g1 : 1 ≤ n := by omega
    have g2 : n ≤ 87 := by omega
    clear h
    have hx : n ≤ 2 ∨ n = 3 ∨ n = 4 ∨ (5 ≤ n ∧ n ≤ 10) ∨ (11 ≤ n ∧ n ≤ 17) ∨ (18 ≤ n ∧ n ≤ 21) ∨ (22 ≤ n ∧ n ≤ 27) ∨ (28 ≤ n ∧ n ≤ 30) ∨ n = 31 ∨ (32 ≤ n ∧ n ≤ 34) ∨ (35 ≤ n ∧ n ≤ 62) ∨ n = 63 ∨ (64 ≤ n ∧ n ≤ 65) ∨ (66 ≤ n ∧ n ≤ 67) ∨ 68 ≤ n := by omega
    rcases hx with hx | rfl | rfl | ⟨hx, hy⟩ | ⟨hx, hy⟩ | ⟨hx, hy⟩ | ⟨hx, hy⟩ | ⟨hx, hy⟩ | rfl | ⟨hx, hy⟩ | ⟨hx, hy⟩ | rfl | ⟨hx, hy⟩ | ⟨hx, hy⟩ | hx
    all_goals
      try have u3 : (n == 3) = false := by rw [beq_eq_false_iff_ne]; omega
      try have u4 : (n == 4) = false := by rw [beq_eq_false_iff_ne]; omega
      try have u31 : (n == 31) = false := by rw [beq_eq_false_iff_ne]; omega
      try have u63 : (n == 63) = false := by rw [beq_eq_false_iff_ne]; omega
      go_enter Tryd.func36, Tryd.ntmps36
      go_wp2
      go_ret
      refine ⟨ret_int ?_, rfl⟩
      rw [hF.out]
      first | decide | (repeat' split <;> omega)
end
end Go.Proofs.YthoohbefncjkmaaDoor
