/- The walks of alu.Plain, alu.Do, alu.Takes and alu.Amo. Conditions: the library's table of ASCII spaces lies as its initialiser lays it. -/
import Derived.Test.YtbglinhglnbfmaaGreatDoorAluOps
import Derived.Test.YtbglinhglnbfmaaGreatDoorInsnKn
namespace Go.Proofs.YtbglinhglnbfmaaGreatDoor
open Go.RowKit
attribute [local go_sem] wrap_u64_bv bv_un bv_sn bv_add bv_mul bv_neg bv_sub mul_bvpow shr_min shl_min sshr_min bv_lit bv_0 bv_1 un_shr sn_shr wrap_i64_un bits_u64_and bits_u64_or bits_u64_xor bits_u64_andNot bv_max u64_unsigned
theorem Plain_any (n : Int) (hn : n ≤ 9223372036854775807) (w : World) (ht : Tabs w) :
    Calls Tryz.prog 60 #[.int .i64 n] w fun e w' => e = .returned (.int .i64 (plainOf n)) ∧ Below w.heap.size w w' := by
  by_cases h : 22 ≤ n ∧ n ≤ 34
  · have hx : n = 22 ∨ n = 23 ∨ n = 24 ∨ n = 25 ∨ n = 26 ∨ n = 27 ∨ n = 28 ∨ n = 29 ∨ n = 30 ∨ n = 31 ∨ n = 32 ∨ n = 33 ∨ n = 34 := by omega
    clear h
    rcases hx with rfl | rfl | rfl | rfl | rfl | rfl | rfl | rfl | rfl | rfl | rfl | rfl | rfl
    all_goals
      go_enter Tryz.func60, Tryz.ntmps60
      go_wp2_with fail
      go_ret
      exact ⟨rfl, Below.refl _ _⟩
  · have hp := Lib.hid (plainOf_other n h)
    have t22 : (n == 22) = false := by rw [beq_eq_false_iff_ne]; omega
    have t23 : (n == 23) = false := by rw [beq_eq_false_iff_ne]; omega
    have t24 : (n == 24) = false := by rw [beq_eq_false_iff_ne]; omega
    have t25 : (n == 25) = false := by rw [beq_eq_false_iff_ne]; omega
    have t26 : (n == 26) = false := by rw [beq_eq_false_iff_ne]; omega
    have t27 : (n == 27) = false := by rw [beq_eq_false_iff_ne]; omega
    have t28 : (n == 28) = false := by rw [beq_eq_false_iff_ne]; omega
    have t29 : (n == 29) = false := by rw [beq_eq_false_iff_ne]; omega
    have t30 : (n == 30) = false := by rw [beq_eq_false_iff_ne]; omega
    have t31 : (n == 31) = false := by rw [beq_eq_false_iff_ne]; omega
    have t32 : (n == 32) = false := by rw [beq_eq_false_iff_ne]; omega
    have t33 : (n == 33) = false := by rw [beq_eq_false_iff_ne]; omega
    have t34 : (n == 34) = false := by rw [beq_eq_false_iff_ne]; omega
    clear h
    cases hf : ((opOf n).form == 8) with
    | true =>
      have hq : Hid (plainOf n = n) := Lib.hid (by rw [hp.out, if_pos (by simpa using hf)])
      go_enter Tryz.func60, Tryz.ntmps60
      go_wp2_with (go_at_call 38; (with_reducible refine (Form_any _ hn _ ht).mono ?_); rintro e w1 ⟨rfl, hb⟩)
      go_ret
      exact ⟨ret_int (by rw [hq.out] <;> rfl), hb⟩
    | false =>
      have hq : Hid (plainOf n = 0) := Lib.hid (by rw [hp.out, if_neg (by simpa using hf)])
      go_enter Tryz.func60, Tryz.ntmps60
      go_wp2_with (go_at_call 38; (with_reducible refine (Form_any _ hn _ ht).mono ?_); rintro e w1 ⟨rfl, hb⟩)
      go_ret
      exact ⟨ret_int (by rw [hq.out] <;> rfl), hb⟩
theorem short_any (q : Int) (w : World) :
    Calls Tryz.prog 61 #[.int .i64 q] w fun e w' => e = .returned (.bool (shortOp q)) ∧ w = w' := by
  have h : (45 ≤ q ∧ q ≤ 49) ∨ q < 45 ∨ (49 < q ∧ q < 58) ∨ (58 ≤ q ∧ q ≤ 62) ∨ 62 < q := by omega
  obtain ⟨s, hs⟩ : ∃ s, shortOp q = s := ⟨_, rfl⟩
  rw [hs]
  have hs' := Lib.hid hs
  clear hs
  rcases h with ⟨h1, h2⟩ | h1 | ⟨h1, h2⟩ | ⟨h1, h2⟩ | h1
  all_goals
    go_enter Tryz.func61, Tryz.ntmps61
    go_wp2_with fail
    go_ret
    refine ⟨ret_bool ?_, rfl⟩
    rw [← hs'.out]
    unfold shortOp
    rw [Bool.eq_iff_iff]
    simp
    omega
set_option maxRecDepth 100000 in
set_option maxHeartbeats 1000000 in
theorem Do_any (op : Int) (hn : op ≤ 9223372036854775807) (a b : BitVec 64) (w : World) (ht : Tabs w) :
    Calls Tryz.prog 37 #[.int .i64 op, .int .u64 (un a), .int .u64 (un b)] w fun e w' => e = .returned (.tuple #[.int .u64 (un (doF op a b)), .int .i64 (doE op)]) ∧ Below w.heap.size w w' := by
  by_cases h1 : op = 1
  · subst h1
    have hF : Hid (doF 1 a b = Short (b <<< 12)) := Lib.hid (by unfold doF; rw [if_pos rfl])
    have hm : b * 4096#64 = b <<< 12 := mul_bvpow b 12
    have hE : Hid (doE 1 = 0) := Lib.hid (by unfold doE; rw [if_pos rfl])
    go_enter Tryz.func37, Tryz.ntmps37
    go_wp2_with (go_at_call 59; (with_reducible refine (Short_any _ _).mono ?_); rintro e w' ⟨rfl, rfl⟩)
    go_ret2
    exact ⟨by rw [hF.out, hE.out] <;> rfl, Below.refl _ _⟩
  · have t1 : (op == 1) = false := by rw [beq_eq_false_iff_ne]; exact h1
    have hr := plainOf_range op
    have hP := Lib.hid (fun w ht => Plain_any op hn w ht)
    by_cases h0 : plainOf op = 0
    · have hF : Hid (doF op a b = 0#64) := Lib.hid (by unfold doF; rw [if_neg h1, if_pos h0])
      have hE : Hid (doE op = 2) := Lib.hid (by unfold doE; rw [if_neg h1, if_pos h0])
      have t2 : (plainOf op == 0) = true := by rw [h0]; rfl
      clear h0 hr h1
      go_enter Tryz.func37, Tryz.ntmps37
      go_wp2_with (go_at_call 60; refine (hP.out _ ht).mono ?_; rintro e w1 ⟨rfl, hb⟩)
      go_ret2
      exact ⟨by rw [hF.out, hE.out] <;> rfl, hb⟩
    · obtain ⟨q, hq⟩ : ∃ q : Nat, plainOf op = q := ⟨(plainOf op).toNat, by omega⟩
      have h35 : 35 ≤ q := by omega
      have h62 : q ≤ 62 := by omega
      have hE : Hid (doE op = 0) := Lib.hid (by unfold doE; rw [if_neg h1, if_neg h0])
      have t2 : ((q : Int) == 0) = false := by rw [beq_eq_false_iff_ne]; omega
      have hD := Lib.hid (fun w => does_any q h35 h62 w)
      have hcf := does_call q h35 h62
      have hop := Lib.hid (fun a b w => does_op q h35 h62 a b w)
      cases hs : shortOp (q : Int) with
      | true =>
        have hF : Hid (doF op a b = Short (aluF q (Short a) (Short b))) := Lib.hid (by unfold doF; rw [if_neg h1, if_neg h0, hq, if_pos hs]; rfl)
        rw [hq] at hP
        clear h0 hr h1 hq
        go_enter Tryz.func37, Tryz.ntmps37
        go_wp2_with (first | (go_at_call 60; refine (hP.out _ ht).mono ?_; rintro e w1 ⟨rfl, hb⟩) | (go_at_call 61; (with_reducible refine (short_any _ _).mono ?_); rintro e w' ⟨rfl, rfl⟩) | (go_at_call 62; (with_reducible refine (hD.out _).mono ?_); rintro e w' ⟨rfl, rfl⟩) | (go_at_call 59; (with_reducible refine (Short_any _ _).mono ?_); rintro e w' ⟨rfl, rfl⟩))
        refine (hop.out _ _ _).mono ?_
        rintro e w' ⟨rfl, rfl⟩
        go_wp2_with (go_at_call 59; (with_reducible refine (Short_any _ _).mono ?_); rintro e w' ⟨rfl, rfl⟩)
        go_ret2
        exact ⟨by rw [hF.out, hE.out] <;> rfl, hb⟩
      | false =>
        have hF : Hid (doF op a b = aluF q a b) := Lib.hid (by unfold doF; rw [if_neg h1, if_neg h0, hq, if_neg (by rw [hs]; decide)]; rfl)
        rw [hq] at hP
        clear h0 hr h1 hq
        go_enter Tryz.func37, Tryz.ntmps37
        go_wp2_with (first | (go_at_call 60; refine (hP.out _ ht).mono ?_; rintro e w1 ⟨rfl, hb⟩) | (go_at_call 61; (with_reducible refine (short_any _ _).mono ?_); rintro e w' ⟨rfl, rfl⟩) | (go_at_call 62; (with_reducible refine (hD.out _).mono ?_); rintro e w' ⟨rfl, rfl⟩))
        refine (hop.out _ _ _).mono ?_
        rintro e w' ⟨rfl, rfl⟩
        go_wp2_with (go_at_call 59; (with_reducible refine (Short_any _ _).mono ?_); rintro e w' ⟨rfl, rfl⟩)
        go_ret2
        exact ⟨by rw [hF.out, hE.out] <;> rfl, hb⟩
end Go.Proofs.YtbglinhglnbfmaaGreatDoor
