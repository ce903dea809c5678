/- The walk of AluDivides: it returns true. Conditions: the library's table of ASCII spaces lies as its initialiser lays it. -/
import Derived.Test.YthoohbefncjkmaaDoorAluLives
import Derived.Test.YthoohbefncjkmaaDoorAluDivDefs
import Derived.Test.YthoohbefncjkmaaDoorRefWord
import Derived.BigQuiet
import Derived.Deep.QuietTactic
namespace Go.Proofs.YthoohbefncjkmaaDoor
open Go.RowKit
attribute [local go_sem] wrap_u64_bv bv_un bv_sn bv_add bv_mul bv_neg bv_sub mul_bvpow shr_min shl_min sshr_min bv_lit bv_0 bv_1 un_shr sn_shr wrap_i64_un bits_u64_and bits_u64_or bits_u64_xor bits_u64_andNot bv_max u64_unsigned quo_sn rem_sn bv_quo_un rem_un
theorem size_any (x : BitVec 64) (w : World) :
    Calls Tryd.prog 12 #[.int .u64 (un x)] w fun e w' => e = .returned (.int .u64 (un (sizeF x))) ∧ w = w' := by
  by_cases h : sn x < 0
  · have hs : Hid (sizeF x = -x) := Lib.hid (by unfold sizeF; rw [if_pos h])
    go_enter Tryd.func12, Tryd.ntmps12
    go_wp2
    go_ret
    exact ⟨ret_int (by rw [hs.out] <;> rfl), rfl⟩
  · have hs : Hid (sizeF x = x) := Lib.hid (by unfold sizeF; rw [if_neg h])
    go_enter Tryd.func12, Tryd.ntmps12
    go_wp2
    go_ret
    exact ⟨ret_int (by rw [hs.out] <;> rfl), rfl⟩
theorem do_op (w0 : World) (op : Int) (a b r : BitVec 64) (w : World) (ht : TB w0 w) (hn : op ≤ 9223372036854775807) (hr : doF op a b = r) :
    Calls Tryd.prog 11 #[.int .i64 op, .int .u64 (un a), .int .u64 (un b)] w fun e w' => e = .returned (.int .u64 (un r)) ∧ TB w0 w' := by
  rw [← hr]; exact do_tb w0 op hn a b w ht
section
attribute [local irreducible] un sn
set_option maxRecDepth 100000 in
set_option maxHeartbeats 4000000 in
theorem AluDivides_walk (a b Q1 R1 Q2 R2 Q3 R3 Q4 R4 : BitVec 64) (w : World) (ht : Tabs w)
    (h55 : Hid (doF 55 a b = Q1)) (h57 : Hid (doF 57 a b = R1)) (h54 : Hid (doF 54 a b = Q2)) (h56 : Hid (doF 56 a b = R2)) (h59 : Hid (doF 59 a b = Q3)) (h61 : Hid (doF 61 a b = R3)) (h60 : Hid (doF 60 a b = Q4)) (h62 : Hid (doF 62 a b = R4))
    (t1 : ((un b == 0) = true ∧ (un b != 0) = false ∧ (un Q1 != 18446744073709551615) = false ∧ (un R1 != un a) = false ∧ (un Q2 != 18446744073709551615) = false ∧ (un R2 != un a) = false) ∨
      ((un b == 0) = false ∧ (un b != 0) = true ∧ (un (Q1 * b + R1) != un a) = false ∧ un R1 < un b ∧ (un (Q2 * b + R2) != un a) = false ∧ un (sizeF R2) < un (sizeF b) ∧ ((un R2 != 0) = false ∨ ((un R2 != 0) = true ∧ ((decide (sn R2 < 0) = true ∧ decide (sn a < 0) = true) ∨ (decide (sn R2 < 0) = false ∧ decide (sn a < 0) = false))))))
    (t2 : (un (Short (Q3 * Short b + R3)) != un (Short a)) = false)
    (t3 : ((un (Short b) == 0) = true ∧ (un Q3 != 18446744073709551615) = false ∧ (un R3 != un (Short a)) = false ∧ (un (Low b 32) == 0) = true ∧ (un Q4 == 18446744073709551615) = true ∧ (un R4 == un (Short a)) = true) ∨
      ((un (Short b) == 0) = false ∧ (un (Low b 32) == 0) = false ∧ (un (Low b 32) != 0) = true ∧ ¬ un (Low b 32) = 0 ∧ (un (Low Q4 32) == un (Low a 32 / Low b 32)) = true ∧ (un (Low R4 32) == un (Low a 32 % Low b 32)) = true)) :
    Calls Tryd.prog 3 #[.int .u64 (un a), .int .u64 (un b)] w fun e w' => e = .returned (.bool true) ∧ TB w w' := by
  rcases t1 with ⟨a1, a2, a3, a4, a5, a6⟩ | ⟨a1, a2, a3, a4, a5, a6, a7⟩
  · rcases t3 with ⟨b1, b2, b3, b4, b5, b6⟩ | ⟨b1, b2, b3, b4, b5, b6⟩
    all_goals
      go_enter Tryd.func3, Tryd.ntmps3
      go_wp2_with (first | (go_at_call 10; refine (lives_any _ ht).mono ?_; rintro e w' ⟨rfl, hT⟩) | (go_at_call 11; (with_reducible refine (do_op w 55 a b Q1 _ (by assumption) (by decide) h55.out).mono ?_); rintro e w' ⟨rfl, hT⟩) | (go_at_call 11; (with_reducible refine (do_op w 57 a b R1 _ (by assumption) (by decide) h57.out).mono ?_); rintro e w' ⟨rfl, hT⟩) | (go_at_call 11; (with_reducible refine (do_op w 54 a b Q2 _ (by assumption) (by decide) h54.out).mono ?_); rintro e w' ⟨rfl, hT⟩) | (go_at_call 11; (with_reducible refine (do_op w 56 a b R2 _ (by assumption) (by decide) h56.out).mono ?_); rintro e w' ⟨rfl, hT⟩) | (go_at_call 11; (with_reducible refine (do_op w 59 a b Q3 _ (by assumption) (by decide) h59.out).mono ?_); rintro e w' ⟨rfl, hT⟩) | (go_at_call 11; (with_reducible refine (do_op w 61 a b R3 _ (by assumption) (by decide) h61.out).mono ?_); rintro e w' ⟨rfl, hT⟩) | (go_at_call 11; (with_reducible refine (do_op w 60 a b Q4 _ (by assumption) (by decide) h60.out).mono ?_); rintro e w' ⟨rfl, hT⟩) | (go_at_call 11; (with_reducible refine (do_op w 62 a b R4 _ (by assumption) (by decide) h62.out).mono ?_); rintro e w' ⟨rfl, hT⟩) | (go_at_call 12; (with_reducible refine (size_any _ _).mono ?_); rintro e w' ⟨rfl, rfl⟩) | (go_at_call 13; (with_reducible refine (RShort_any _ _).mono ?_); rintro e w' ⟨rfl, rfl⟩) | (go_at_call 14; (with_reducible refine (RLow_any _ _ _).mono ?_); rintro e w' ⟨rfl, rfl⟩))
      go_quiet ((go_at_call 14; exact quiet_same (RLow_any _ _ _)))
      go_wp2
      go_ret
      exact ⟨rfl, TB.drewN (by assumption) _⟩
  · rcases a7 with a7 | ⟨a7, ⟨a8, a9⟩ | ⟨a8, a9⟩⟩ <;> rcases t3 with ⟨b1, b2, b3, b4, b5, b6⟩ | ⟨b1, b2, b3, b4, b5, b6⟩
    all_goals
      go_enter Tryd.func3, Tryd.ntmps3
      go_wp2_with (first | (go_at_call 10; refine (lives_any _ ht).mono ?_; rintro e w' ⟨rfl, hT⟩) | (go_at_call 11; (with_reducible refine (do_op w 55 a b Q1 _ (by assumption) (by decide) h55.out).mono ?_); rintro e w' ⟨rfl, hT⟩) | (go_at_call 11; (with_reducible refine (do_op w 57 a b R1 _ (by assumption) (by decide) h57.out).mono ?_); rintro e w' ⟨rfl, hT⟩) | (go_at_call 11; (with_reducible refine (do_op w 54 a b Q2 _ (by assumption) (by decide) h54.out).mono ?_); rintro e w' ⟨rfl, hT⟩) | (go_at_call 11; (with_reducible refine (do_op w 56 a b R2 _ (by assumption) (by decide) h56.out).mono ?_); rintro e w' ⟨rfl, hT⟩) | (go_at_call 11; (with_reducible refine (do_op w 59 a b Q3 _ (by assumption) (by decide) h59.out).mono ?_); rintro e w' ⟨rfl, hT⟩) | (go_at_call 11; (with_reducible refine (do_op w 61 a b R3 _ (by assumption) (by decide) h61.out).mono ?_); rintro e w' ⟨rfl, hT⟩) | (go_at_call 11; (with_reducible refine (do_op w 60 a b Q4 _ (by assumption) (by decide) h60.out).mono ?_); rintro e w' ⟨rfl, hT⟩) | (go_at_call 11; (with_reducible refine (do_op w 62 a b R4 _ (by assumption) (by decide) h62.out).mono ?_); rintro e w' ⟨rfl, hT⟩) | (go_at_call 12; (with_reducible refine (size_any _ _).mono ?_); rintro e w' ⟨rfl, rfl⟩) | (go_at_call 13; (with_reducible refine (RShort_any _ _).mono ?_); rintro e w' ⟨rfl, rfl⟩) | (go_at_call 14; (with_reducible refine (RLow_any _ _ _).mono ?_); rintro e w' ⟨rfl, rfl⟩))
      go_quiet ((go_at_call 14; exact quiet_same (RLow_any _ _ _)))
      go_wp2
      go_ret
      exact ⟨rfl, TB.drewN (by assumption) _⟩
end
theorem AluDivides_any (a b : BitVec 64) (w : World) (ht : Tabs w) :
    Calls Tryd.prog 3 #[.int .u64 (un a), .int .u64 (un b)] w fun e w' => e = .returned (.bool true) ∧ TB w w' := by
  have hS : ∀ x, (un x == 0) = (x == 0#64) := fun x => un_beq x 0#64
  have hSL : Short b = 0#64 ↔ Low b 32 = 0#64 := by
    constructor
    · intro h; rw [← Low_Short, h]; rfl
    · intro h; rw [← Short_Low, h]; rfl
  have hq : ∀ x y : BitVec 64, x = y → (un x != un y) = false := fun x y h => by rw [h]; simp
  refine AluDivides_walk a b (divuF a b) (remuF a b) (divF a b) (remF a b) (Short (divF (Short a) (Short b))) (Short (remF (Short a) (Short b))) (Short (divuF (Low (Short a) 32) (Low (Short b) 32))) (Short (remuF (Low (Short a) 32) (Low (Short b) 32))) w ht
    (Lib.hid (doF_long 55 (by omega) a b)) (Lib.hid (doF_long 57 (by omega) a b)) (Lib.hid (doF_long 54 (by omega) a b)) (Lib.hid (doF_long 56 (by omega) a b))
    (Lib.hid (doF_short 59 (by omega) a b)) (Lib.hid (doF_short 61 (by omega) a b)) (Lib.hid (doF_short 60 (by omega) a b)) (Lib.hid (doF_short 62 (by omega) a b)) ?_ ?_ ?_
  · by_cases h : b = 0#64
    · left
      have e1 : divuF a b = BitVec.allOnes 64 := by unfold divuF; rw [if_pos h]
      have e2 : remuF a b = a := by unfold remuF; rw [if_pos h]
      have e3 : divF a b = BitVec.allOnes 64 := by unfold divF; rw [if_pos h]
      have e4 : remF a b = a := by unfold remF; rw [if_pos h]
      exact ⟨by rw [h]; rfl, by rw [h]; rfl, hq _ (BitVec.allOnes 64) e1, hq _ _ e2, hq _ (BitVec.allOnes 64) e3, hq _ _ e4⟩
    · right
      have n0 : un b ≠ 0 := fun h' => h (un_inj.1 h')
      refine ⟨by simpa using n0, by simpa using n0, hq _ _ (divu_law a b h), remu_lt a b h, hq _ _ (div_law a b h), rem_size a b h, ?_⟩
      by_cases hr : remF a b = 0#64
      · left; exact hq _ 0#64 hr
      · right
        have n1 : un (remF a b) ≠ 0 := fun h' => hr (un_inj.1 h')
        have hs := rem_sign a b h hr
        rw [decide_eq_decide] at hs
        exact ⟨by simpa using n1, by simp; omega⟩
  · exact hq _ _ (divw_law (Short a) (Short b) (Short_Short a))
  · rw [Low_Short, Low_Short]
    by_cases h : Low b 32 = 0#64
    · left
      have hS0 := hSL.2 h
      have e1 : divF (Short a) (Short b) = BitVec.allOnes 64 := by unfold divF; rw [if_pos hS0]
      have e2 : remF (Short a) (Short b) = Short a := by unfold remF; rw [if_pos hS0]
      have e3 : divuF (Low a 32) (Low b 32) = BitVec.allOnes 64 := by unfold divuF; rw [if_pos h]
      have e4 : remuF (Low a 32) (Low b 32) = Low a 32 := by unfold remuF; rw [if_pos h]
      rw [e1, e2, e3, e4, Short_Short, Short_Low, Short_allOnes]
      exact ⟨by rw [hS0]; rfl, rfl, by simp, by rw [h]; rfl, rfl, by simp⟩
    · right
      have n0 : un (Low b 32) ≠ 0 := fun h' => h (un_inj.1 h')
      have n1 : un (Short b) ≠ 0 := fun h' => h (hSL.1 (un_inj.1 h'))
      exact ⟨by simpa using n1, by simpa using n0, by simpa using n0, n0, by rw [divuw_law a b h]; simp, by rw [remuw_law a b h]; simp⟩
end Go.Proofs.YthoohbefncjkmaaDoor
