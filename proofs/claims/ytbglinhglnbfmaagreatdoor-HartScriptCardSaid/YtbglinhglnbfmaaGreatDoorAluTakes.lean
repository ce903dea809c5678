/- The walk of alu.Takes: whether a branch is taken. Conditions: none. -/
import Derived.Test.YtbglinhglnbfmaaGreatDoorAluDo
import Derived.Lib.MinMax
namespace Go.Proofs.YtbglinhglnbfmaaGreatDoor
open Go.RowKit
def takesF (op : Int) (a b : BitVec 64) : Bool :=
  if op = 5 then un a == un b else if op = 6 then un a != un b else if op = 7 then decide (sn a < sn b) else if op = 8 then decide (sn b ≤ sn a)
  else if op = 9 then decide (un a < un b) else if op = 10 then decide (un b ≤ un a) else false
def takesE (op : Int) : Int := if 5 ≤ op ∧ op ≤ 10 then 0 else 2
attribute [local go_sem] wrap_u64_bv bv_un bv_sn bv_add bv_mul bv_neg bv_sub mul_bvpow shr_min shl_min sshr_min bv_lit bv_0 bv_1 un_shr sn_shr wrap_i64_un bits_u64_and bits_u64_or bits_u64_xor bits_u64_andNot bv_max u64_unsigned
section
attribute [local irreducible] un sn
theorem Takes_any (op : Int) (a b : BitVec 64) (w : World) :
    Calls Tryz.prog 41 #[.int .i64 op, .int .u64 (un a), .int .u64 (un b)] w fun e w' => e = .returned (.tuple #[.bool (takesF op a b), .int .i64 (takesE op)]) ∧ w = w' := by
  have hF : Hid (takesF op a b = if op = 5 then un a == un b else if op = 6 then un a != un b else if op = 7 then decide (sn a < sn b) else if op = 8 then decide (sn b ≤ sn a) else if op = 9 then decide (un a < un b) else if op = 10 then decide (un b ≤ un a) else false) := Lib.hid rfl
  have hE : Hid (takesE op = if 5 ≤ op ∧ op ≤ 10 then 0 else 2) := Lib.hid rfl
  by_cases h : 5 ≤ op ∧ op ≤ 10
  · have hx : op = 5 ∨ op = 6 ∨ op = 7 ∨ op = 8 ∨ op = 9 ∨ op = 10 := by omega
    clear h
    rcases hx with rfl | rfl | rfl | rfl | rfl | rfl
    all_goals
      go_enter Tryz.func41, Tryz.ntmps41
      go_wp2
      all_goals
        go_ret2
        exact ⟨by rw [hF.out, hE.out]; simp; try omega, rfl⟩
  · have hE' := Lib.hid (hE.out.trans (if_neg h))
    have t5 : (op == 5) = false := by rw [beq_eq_false_iff_ne]; omega
    have t6 : (op == 6) = false := by rw [beq_eq_false_iff_ne]; omega
    have t7 : (op == 7) = false := by rw [beq_eq_false_iff_ne]; omega
    have t8 : (op == 8) = false := by rw [beq_eq_false_iff_ne]; omega
    have t9 : (op == 9) = false := by rw [beq_eq_false_iff_ne]; omega
    have t10 : (op == 10) = false := by rw [beq_eq_false_iff_ne]; omega
    have hF' : Hid (takesF op a b = false) := Lib.hid (by rw [hF.out, if_neg (by omega), if_neg (by omega), if_neg (by omega), if_neg (by omega), if_neg (by omega), if_neg (by omega)])
    clear hE hF h
    go_enter Tryz.func41, Tryz.ntmps41
    go_wp2
    go_ret2
    exact ⟨by rw [hF'.out, hE'.out] <;> rfl, rfl⟩
end
end Go.Proofs.YtbglinhglnbfmaaGreatDoor
