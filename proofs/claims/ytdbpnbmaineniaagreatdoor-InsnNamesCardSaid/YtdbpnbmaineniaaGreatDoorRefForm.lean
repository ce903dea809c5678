/- The document's form of an op: it is the program's. Conditions: none. -/
import Derived.Test.YtdbpnbmaineniaaGreatDoorInsnKn
import Derived.Test.YtdbpnbmaineniaaGreatDoorAluDefs
namespace Go.Proofs.YtdbpnbmaineniaaGreatDoor
open Go.RowKit
/-- fencepostref02.Form -/
def rform (n : Int) : Int :=
  if n < 1 ∨ 87 < n then 0 else if n ≤ 2 then 1 else if n = 3 then 2 else if n = 4 ∨ (22 ≤ n ∧ n ≤ 27) ∨ n = 31 then 3 else if n ≤ 10 then 6 else if n ≤ 17 then 4 else if n ≤ 21 then 5 else if n ≤ 34 then 7 else if n ≤ 62 then 8 else if n = 63 then 9 else if n ≤ 65 then 10 else if n ≤ 67 then 11 else 12
theorem rform_all : ((List.range 88).all fun n => decide ((opOf (n : Int)).form = rform (n : Int))) = true := by decide +kernel
theorem rform_eq (n : Int) : (opOf n).form = rform n := by
  by_cases h0 : n < 1
  · unfold opOf rform; rw [if_pos h0, if_pos (Or.inl h0)]; rfl
  · by_cases h1 : 87 < n
    · rw [opOf_big n h1]; unfold rform; rw [if_pos (Or.inr h1)]; rfl
    · obtain ⟨m, rfl⟩ := Int.eq_ofNat_of_zero_le (show 0 ≤ n by omega)
      have := List.all_eq_true.1 rform_all m (List.mem_range.2 (by omega))
      simpa using this
set_option maxHeartbeats 2000000 in
theorem R2Form_any (n : Int) (w : World) :
    Calls Tryz.prog 39 #[.int .i64 n] w fun e w' => e = .returned (.int .i64 (rform n)) ∧ w = w' := by
  by_cases h : n < 1 ∨ 87 < n
  · have hF : Hid (rform n = 0) := Lib.hid (by unfold rform; rw [if_pos h])
    rcases h with h | h
    all_goals
      go_enter Tryz.func39, Tryz.ntmps39
      go_wp2
      go_ret
      exact ⟨ret_int (by rw [hF.out] <;> rfl), rfl⟩
  · have hF : Hid (rform n = if n ≤ 2 then 1 else if n = 3 then 2 else if n = 4 ∨ (22 ≤ n ∧ n ≤ 27) ∨ n = 31 then 3 else if n ≤ 10 then 6 else if n ≤ 17 then 4 else if n ≤ 21 then 5 else if n ≤ 34 then 7 else if n ≤ 62 then 8 else if n = 63 then 9 else if n ≤ 65 then 10 else if n ≤ 67 then 11 else 12) := Lib.hid (by unfold rform; rw [if_neg h])
    have g1 : 1 ≤ n := by omega
    have g2 : n ≤ 87 := by omega
    clear h
    have hx : n ≤ 2 ∨ n = 3 ∨ n = 4 ∨ (5 ≤ n ∧ n ≤ 10) ∨ (11 ≤ n ∧ n ≤ 17) ∨ (18 ≤ n ∧ n ≤ 21) ∨ (22 ≤ n ∧ n ≤ 27) ∨ (28 ≤ n ∧ n ≤ 30) ∨ n = 31 ∨ (32 ≤ n ∧ n ≤ 34) ∨ (35 ≤ n ∧ n ≤ 62) ∨ n = 63 ∨ (64 ≤ n ∧ n ≤ 65) ∨ (66 ≤ n ∧ n ≤ 67) ∨ 68 ≤ n := by omega
    rcases hx with hx | rfl | rfl | ⟨hx, hy⟩ | ⟨hx, hy⟩ | ⟨hx, hy⟩ | ⟨hx, hy⟩ | ⟨hx, hy⟩ | rfl | ⟨hx, hy⟩ | ⟨hx, hy⟩ | rfl | ⟨hx, hy⟩ | ⟨hx, hy⟩ | hx
    all_goals
      try have u3 : (n == 3) = false := by rw [beq_eq_false_iff_ne]; omega
      try have u4 : (n == 4) = false := by rw [beq_eq_false_iff_ne]; omega
      try have u31 : (n == 31) = false := by rw [beq_eq_false_iff_ne]; omega
      try have u63 : (n == 63) = false := by rw [beq_eq_false_iff_ne]; omega
      go_enter Tryz.func39, Tryz.ntmps39
      go_wp2
      go_ret
      refine ⟨ret_int ?_, rfl⟩
      rw [hF.out]
      first | decide | (repeat' split <;> omega)
end Go.Proofs.YtdbpnbmaineniaaGreatDoor
