/- AluOrders returns true. Conditions: the library's table of ASCII spaces lies as its initialiser lays it. -/
import Derived.Test.YthoohbefncjkmaaDoorAluOrdersK0
import Derived.Test.YthoohbefncjkmaaDoorAluOrdersK1
import Derived.Test.YthoohbefncjkmaaDoorAluOrdersK2
import Derived.Test.YthoohbefncjkmaaDoorAluOrdersK3
import Derived.Test.YthoohbefncjkmaaDoorAluOrdersK4
namespace Go.Proofs.YthoohbefncjkmaaDoor
open Go.RowKit
theorem min_max_un (a b : BitVec 64) : un (amoF 7 a b) ≤ un (amoF 8 a b) ∧ amoF 7 a b + amoF 8 a b = a + b := by
  show un (if un b < un a then b else a) ≤ un (if un a < un b then b else a) ∧ (if un b < un a then b else a) + (if un a < un b then b else a) = a + b
  rcases Int.lt_trichotomy (un a) (un b) with h | h | h
  · rw [if_neg (by omega), if_pos h]; exact ⟨by omega, rfl⟩
  · rw [if_neg (by omega), if_neg (by omega)]; have := un_inj.1 h; rw [this]; exact ⟨Int.le_refl _, rfl⟩
  · rw [if_pos h, if_neg (by omega)]; exact ⟨by omega, BitVec.add_comm b a⟩
theorem min_max_sn (a b : BitVec 64) : sn (amoF 5 a b) ≤ sn (amoF 6 a b) ∧ amoF 5 a b + amoF 6 a b = a + b := by
  show sn (if sn b < sn a then b else a) ≤ sn (if sn a < sn b then b else a) ∧ (if sn b < sn a then b else a) + (if sn a < sn b then b else a) = a + b
  rcases Int.lt_trichotomy (sn a) (sn b) with h | h | h
  · rw [if_neg (by omega), if_pos h]; exact ⟨by omega, rfl⟩
  · rw [if_neg (by omega), if_neg (by omega)]; have := sn_inj.1 h; rw [this]; exact ⟨Int.le_refl _, rfl⟩
  · rw [if_pos h, if_neg (by omega)]; exact ⟨by omega, BitVec.add_comm b a⟩
theorem not_lt_bool (x y : Int) : decide (y ≤ x) = !decide (x < y) := by
  by_cases h : x < y
  · rw [decide_eq_true h, decide_eq_false (by omega)]; rfl
  · rw [decide_eq_false h, decide_eq_true (by omega)]; rfl
theorem AluOrders_any (a b : BitVec 64) (w : World) (ht : Tabs w) :
    Calls Tryd.prog 9 #[.int .u64 (un a), .int .u64 (un b)] w fun e w' => e = .returned (.bool true) ∧ TB w w' := by
  have t5 : takesF 5 a b = (un a == un b) := rfl
  have t6 : takesF 6 a b = !(un a == un b) := rfl
  have t5' : takesF 5 b a = (un a == un b) := BEq.comm
  have t7 : takesF 7 a b = decide (sn a < sn b) := rfl
  have t8 : takesF 8 a b = !decide (sn a < sn b) := not_lt_bool _ _
  have t7' : takesF 7 b a = decide (sn b < sn a) := rfl
  have t9 : takesF 9 a b = decide (un a < un b) := rfl
  have t10 : takesF 10 a b = !decide (un a < un b) := not_lt_bool _ _
  have t9' : takesF 9 b a = decide (un b < un a) := rfl
  have d3 : doF 39 a b = truthF (decide (un a < un b)) := doF_long 39 (by omega) a b
  have d4 : doF 38 a b = truthF (decide (sn a < sn b)) := doF_long 38 (by omega) a b
  have d1 : doF 35 a b = a + b := doF_long 35 (by omega) a b
  have d2 : doF 45 a b = Short (Short a + Short b) := doF_short 45 (by omega) a b
  have o1 := (min_max_un a b).1
  have o3 := (min_max_sn a b).1
  have o2 : (un (amoF 7 a b + amoF 8 a b) == un (a + b)) = true := by rw [(min_max_un a b).2]; simp
  have o4 : (un (amoF 5 a b + amoF 6 a b) == un (a + b)) = true := by rw [(min_max_sn a b).2]; simp
  by_cases h : a = b
  · subst h
    have e0 : (un a == un a) = true := by simp
    have e1 : decide (un a < un a) = false := decide_eq_false (by omega)
    have e2 : decide (sn a < sn a) = false := decide_eq_false (by omega)
    rw [e0] at t5 t6 t5'
    rw [e1] at t9 t10 t9' d3
    rw [e2] at t7 t8 t7' d4
    exact AluOrders_case0 a a _ _ _ _ _ _ w ht (by simp) (Lib.hid t5) (Lib.hid t6) (Lib.hid t5') (Lib.hid t7) (Lib.hid t8) (Lib.hid t7') (Lib.hid t9) (Lib.hid t10) (Lib.hid t9') (Lib.hid rfl) (Lib.hid rfl) (Lib.hid rfl) (Lib.hid rfl) (Lib.hid rfl) (Lib.hid rfl) (Lib.hid rfl) (Lib.hid d1) (Lib.hid d2) (Lib.hid d3) (Lib.hid d4) o1 o2 o3 o4 e1 e2
  · have hu : un a ≠ un b := fun e => h (un_inj.1 e)
    have hs : sn a ≠ sn b := fun e => h (sn_inj.1 e)
    have e0 : (un a == un b) = false := by rw [beq_eq_false_iff_ne]; exact hu
    rw [e0] at t5 t6 t5'
    rcases Int.lt_or_gt_of_ne hs with h1 | h1 <;> rcases Int.lt_or_gt_of_ne hu with h2 | h2
    · have e1 : decide (un a < un b) = true := decide_eq_true h2
      have e1' : decide (un b < un a) = false := decide_eq_false (by omega)
      have e2 : decide (sn a < sn b) = true := decide_eq_true h1
      have e2' : decide (sn b < sn a) = false := decide_eq_false (by omega)
      rw [e1] at t9 t10 d3
      rw [e1'] at t9'
      rw [e2] at t7 t8 d4
      rw [e2'] at t7'
      exact AluOrders_case1 a b _ _ _ _ _ _ w ht (Lib.hid t5) (Lib.hid t6) (Lib.hid t5') (Lib.hid t7) (Lib.hid t8) (Lib.hid t7') (Lib.hid t9) (Lib.hid t10) (Lib.hid t9') (Lib.hid rfl) (Lib.hid rfl) (Lib.hid rfl) (Lib.hid rfl) (Lib.hid rfl) (Lib.hid rfl) (Lib.hid rfl) (Lib.hid d1) (Lib.hid d2) (Lib.hid d3) (Lib.hid d4) o1 o2 o3 o4 e1 e2
    · have e1 : decide (un a < un b) = false := decide_eq_false (by omega)
      have e1' : decide (un b < un a) = true := decide_eq_true h2
      have e2 : decide (sn a < sn b) = true := decide_eq_true h1
      have e2' : decide (sn b < sn a) = false := decide_eq_false (by omega)
      rw [e1] at t9 t10 d3
      rw [e1'] at t9'
      rw [e2] at t7 t8 d4
      rw [e2'] at t7'
      exact AluOrders_case2 a b _ _ _ _ _ _ w ht (Lib.hid t5) (Lib.hid t6) (Lib.hid t5') (Lib.hid t7) (Lib.hid t8) (Lib.hid t7') (Lib.hid t9) (Lib.hid t10) (Lib.hid t9') (Lib.hid rfl) (Lib.hid rfl) (Lib.hid rfl) (Lib.hid rfl) (Lib.hid rfl) (Lib.hid rfl) (Lib.hid rfl) (Lib.hid d1) (Lib.hid d2) (Lib.hid d3) (Lib.hid d4) o1 o2 o3 o4 e1 e2
    · have e1 : decide (un a < un b) = true := decide_eq_true h2
      have e1' : decide (un b < un a) = false := decide_eq_false (by omega)
      have e2 : decide (sn a < sn b) = false := decide_eq_false (by omega)
      have e2' : decide (sn b < sn a) = true := decide_eq_true h1
      rw [e1] at t9 t10 d3
      rw [e1'] at t9'
      rw [e2] at t7 t8 d4
      rw [e2'] at t7'
      exact AluOrders_case3 a b _ _ _ _ _ _ w ht (Lib.hid t5) (Lib.hid t6) (Lib.hid t5') (Lib.hid t7) (Lib.hid t8) (Lib.hid t7') (Lib.hid t9) (Lib.hid t10) (Lib.hid t9') (Lib.hid rfl) (Lib.hid rfl) (Lib.hid rfl) (Lib.hid rfl) (Lib.hid rfl) (Lib.hid rfl) (Lib.hid rfl) (Lib.hid d1) (Lib.hid d2) (Lib.hid d3) (Lib.hid d4) o1 o2 o3 o4 e1 e2
    · have e1 : decide (un a < un b) = false := decide_eq_false (by omega)
      have e1' : decide (un b < un a) = true := decide_eq_true h2
      have e2 : decide (sn a < sn b) = false := decide_eq_false (by omega)
      have e2' : decide (sn b < sn a) = true := decide_eq_true h1
      rw [e1] at t9 t10 d3
      rw [e1'] at t9'
      rw [e2] at t7 t8 d4
      rw [e2'] at t7'
      exact AluOrders_case4 a b _ _ _ _ _ _ w ht (Lib.hid t5) (Lib.hid t6) (Lib.hid t5') (Lib.hid t7) (Lib.hid t8) (Lib.hid t7') (Lib.hid t9) (Lib.hid t10) (Lib.hid t9') (Lib.hid rfl) (Lib.hid rfl) (Lib.hid rfl) (Lib.hid rfl) (Lib.hid rfl) (Lib.hid rfl) (Lib.hid rfl) (Lib.hid d1) (Lib.hid d2) (Lib.hid d3) (Lib.hid d4) o1 o2 o3 o4 e1 e2
end Go.Proofs.YthoohbefncjkmaaDoor
