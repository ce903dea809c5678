/- The walks of the document's has and number. Conditions: none. -/
import Derived.Test.YtdbpnbmaineniaaGreatDoorRefForm
import Derived.Test.YtdbpnbmaineniaaGreatDoorRefDf
import Derived.Test.YtdbpnbmaineniaaGreatDoorInsnDf
namespace Go.Proofs.YtdbpnbmaineniaaGreatDoor
open Go.RowKit
theorem R2has_0 (w : World) : Calls Tryz.prog 100 #[.int .i64 0] w fun e w' => e = .returned (.tuple #[.bool false, .bool false, .bool false, .bool false]) ∧ w = w' := by
  go_enter Tryz.func100, Tryz.ntmps100
  go_wp2
  exact bodyPost_ret (v := .tuple #[.bool false, .bool false, .bool false, .bool false]) (by simp [results, Tryz.results100, go_sem]) rfl ⟨rfl, rfl⟩
theorem R2has_1 (w : World) : Calls Tryz.prog 100 #[.int .i64 1] w fun e w' => e = .returned (.tuple #[.bool true, .bool false, .bool false, .bool true]) ∧ w = w' := by
  go_enter Tryz.func100, Tryz.ntmps100
  go_wp2
  exact bodyPost_ret (v := .tuple #[.bool true, .bool false, .bool false, .bool true]) (by simp [results, Tryz.results100, go_sem]) rfl ⟨rfl, rfl⟩
theorem R2has_2 (w : World) : Calls Tryz.prog 100 #[.int .i64 2] w fun e w' => e = .returned (.tuple #[.bool true, .bool false, .bool false, .bool true]) ∧ w = w' := by
  go_enter Tryz.func100, Tryz.ntmps100
  go_wp2
  exact bodyPost_ret (v := .tuple #[.bool true, .bool false, .bool false, .bool true]) (by simp [results, Tryz.results100, go_sem]) rfl ⟨rfl, rfl⟩
theorem R2has_3 (w : World) : Calls Tryz.prog 100 #[.int .i64 3] w fun e w' => e = .returned (.tuple #[.bool true, .bool true, .bool false, .bool true]) ∧ w = w' := by
  go_enter Tryz.func100, Tryz.ntmps100
  go_wp2
  exact bodyPost_ret (v := .tuple #[.bool true, .bool true, .bool false, .bool true]) (by simp [results, Tryz.results100, go_sem]) rfl ⟨rfl, rfl⟩
theorem R2has_4 (w : World) : Calls Tryz.prog 100 #[.int .i64 4] w fun e w' => e = .returned (.tuple #[.bool true, .bool true, .bool false, .bool true]) ∧ w = w' := by
  go_enter Tryz.func100, Tryz.ntmps100
  go_wp2
  exact bodyPost_ret (v := .tuple #[.bool true, .bool true, .bool false, .bool true]) (by simp [results, Tryz.results100, go_sem]) rfl ⟨rfl, rfl⟩
theorem R2has_5 (w : World) : Calls Tryz.prog 100 #[.int .i64 5] w fun e w' => e = .returned (.tuple #[.bool false, .bool true, .bool true, .bool true]) ∧ w = w' := by
  go_enter Tryz.func100, Tryz.ntmps100
  go_wp2
  exact bodyPost_ret (v := .tuple #[.bool false, .bool true, .bool true, .bool true]) (by simp [results, Tryz.results100, go_sem]) rfl ⟨rfl, rfl⟩
theorem R2has_6 (w : World) : Calls Tryz.prog 100 #[.int .i64 6] w fun e w' => e = .returned (.tuple #[.bool false, .bool true, .bool true, .bool true]) ∧ w = w' := by
  go_enter Tryz.func100, Tryz.ntmps100
  go_wp2
  exact bodyPost_ret (v := .tuple #[.bool false, .bool true, .bool true, .bool true]) (by simp [results, Tryz.results100, go_sem]) rfl ⟨rfl, rfl⟩
theorem R2has_7 (w : World) : Calls Tryz.prog 100 #[.int .i64 7] w fun e w' => e = .returned (.tuple #[.bool true, .bool true, .bool false, .bool true]) ∧ w = w' := by
  go_enter Tryz.func100, Tryz.ntmps100
  go_wp2
  exact bodyPost_ret (v := .tuple #[.bool true, .bool true, .bool false, .bool true]) (by simp [results, Tryz.results100, go_sem]) rfl ⟨rfl, rfl⟩
theorem R2has_8 (w : World) : Calls Tryz.prog 100 #[.int .i64 8] w fun e w' => e = .returned (.tuple #[.bool true, .bool true, .bool true, .bool false]) ∧ w = w' := by
  go_enter Tryz.func100, Tryz.ntmps100
  go_wp2
  exact bodyPost_ret (v := .tuple #[.bool true, .bool true, .bool true, .bool false]) (by simp [results, Tryz.results100, go_sem]) rfl ⟨rfl, rfl⟩
theorem R2has_9 (w : World) : Calls Tryz.prog 100 #[.int .i64 9] w fun e w' => e = .returned (.tuple #[.bool false, .bool false, .bool false, .bool false]) ∧ w = w' := by
  go_enter Tryz.func100, Tryz.ntmps100
  go_wp2
  exact bodyPost_ret (v := .tuple #[.bool false, .bool false, .bool false, .bool false]) (by simp [results, Tryz.results100, go_sem]) rfl ⟨rfl, rfl⟩
theorem R2has_10 (w : World) : Calls Tryz.prog 100 #[.int .i64 10] w fun e w' => e = .returned (.tuple #[.bool false, .bool false, .bool false, .bool false]) ∧ w = w' := by
  go_enter Tryz.func100, Tryz.ntmps100
  go_wp2
  exact bodyPost_ret (v := .tuple #[.bool false, .bool false, .bool false, .bool false]) (by simp [results, Tryz.results100, go_sem]) rfl ⟨rfl, rfl⟩
theorem R2has_11 (w : World) : Calls Tryz.prog 100 #[.int .i64 11] w fun e w' => e = .returned (.tuple #[.bool true, .bool true, .bool false, .bool false]) ∧ w = w' := by
  go_enter Tryz.func100, Tryz.ntmps100
  go_wp2
  exact bodyPost_ret (v := .tuple #[.bool true, .bool true, .bool false, .bool false]) (by simp [results, Tryz.results100, go_sem]) rfl ⟨rfl, rfl⟩
theorem R2has_12 (w : World) : Calls Tryz.prog 100 #[.int .i64 12] w fun e w' => e = .returned (.tuple #[.bool true, .bool true, .bool true, .bool false]) ∧ w = w' := by
  go_enter Tryz.func100, Tryz.ntmps100
  go_wp2
  exact bodyPost_ret (v := .tuple #[.bool true, .bool true, .bool true, .bool false]) (by simp [results, Tryz.results100, go_sem]) rfl ⟨rfl, rfl⟩
set_option maxRecDepth 100000 in
theorem R2number_1 (op n : Int) (h : rform op = 1) (w : World) : Calls Tryz.prog 101 #[.int .i64 op, .int .i64 n] w fun e w' => e = .returned (.bool (Fits n 20)) ∧ w = w' := by
  have hF := Lib.hid (fun w => R2Form_any op w)
  rw [h] at hF
  clear h
  cases hX : Fits n 13 with
  | true =>
    go_enter Tryz.func101, Tryz.ntmps101
    go_wp2_with (first | (go_at_call 39; refine (hF.out _).mono ?_; rintro e w' ⟨rfl, rfl⟩) | (go_at_call 146; (with_reducible refine (RFits_any _ _ _).mono ?_); rintro e w' ⟨rfl, rfl⟩))
    go_ret
    exact ⟨ret_bool (by first | rfl | simp [hX]), rfl⟩
  | false =>
    go_enter Tryz.func101, Tryz.ntmps101
    go_wp2_with (first | (go_at_call 39; refine (hF.out _).mono ?_; rintro e w' ⟨rfl, rfl⟩) | (go_at_call 146; (with_reducible refine (RFits_any _ _ _).mono ?_); rintro e w' ⟨rfl, rfl⟩))
    go_ret
    exact ⟨ret_bool (by first | rfl | simp [hX]), rfl⟩
set_option maxRecDepth 100000 in
theorem R2number_2 (op n : Int) (h : rform op = 2) (w : World) : Calls Tryz.prog 101 #[.int .i64 op, .int .i64 n] w fun e w' => e = .returned (.bool (Fits n 21 && n.tmod 2 == 0)) ∧ w = w' := by
  have hF := Lib.hid (fun w => R2Form_any op w)
  rw [h] at hF
  clear h
  cases hX : Fits n 21 with
  | true =>
    go_enter Tryz.func101, Tryz.ntmps101
    go_wp2_with (first | (go_at_call 39; refine (hF.out _).mono ?_; rintro e w' ⟨rfl, rfl⟩) | (go_at_call 146; (with_reducible refine (RFits_any _ _ _).mono ?_); rintro e w' ⟨rfl, rfl⟩))
    go_ret
    exact ⟨ret_bool (by first | rfl | simp [hX]), rfl⟩
  | false =>
    go_enter Tryz.func101, Tryz.ntmps101
    go_wp2_with (first | (go_at_call 39; refine (hF.out _).mono ?_; rintro e w' ⟨rfl, rfl⟩) | (go_at_call 146; (with_reducible refine (RFits_any _ _ _).mono ?_); rintro e w' ⟨rfl, rfl⟩))
    go_ret
    exact ⟨ret_bool (by first | rfl | simp [hX]), rfl⟩
set_option maxRecDepth 100000 in
theorem R2number_3 (op n : Int) (h : rform op = 3) (w : World) : Calls Tryz.prog 101 #[.int .i64 op, .int .i64 n] w fun e w' => e = .returned (.bool (Fits n 12)) ∧ w = w' := by
  have hF := Lib.hid (fun w => R2Form_any op w)
  rw [h] at hF
  clear h
  go_enter Tryz.func101, Tryz.ntmps101
  go_wp2_with (first | (go_at_call 39; refine (hF.out _).mono ?_; rintro e w' ⟨rfl, rfl⟩) | (go_at_call 146; (with_reducible refine (RFits_any _ _ _).mono ?_); rintro e w' ⟨rfl, rfl⟩))
  go_ret
  exact ⟨ret_bool rfl, rfl⟩
set_option maxRecDepth 100000 in
theorem R2number_4 (op n : Int) (h : rform op = 4) (w : World) : Calls Tryz.prog 101 #[.int .i64 op, .int .i64 n] w fun e w' => e = .returned (.bool (Fits n 12)) ∧ w = w' := by
  have hF := Lib.hid (fun w => R2Form_any op w)
  rw [h] at hF
  clear h
  go_enter Tryz.func101, Tryz.ntmps101
  go_wp2_with (first | (go_at_call 39; refine (hF.out _).mono ?_; rintro e w' ⟨rfl, rfl⟩) | (go_at_call 146; (with_reducible refine (RFits_any _ _ _).mono ?_); rintro e w' ⟨rfl, rfl⟩))
  go_ret
  exact ⟨ret_bool rfl, rfl⟩
set_option maxRecDepth 100000 in
theorem R2number_5 (op n : Int) (h : rform op = 5) (w : World) : Calls Tryz.prog 101 #[.int .i64 op, .int .i64 n] w fun e w' => e = .returned (.bool (Fits n 12)) ∧ w = w' := by
  have hF := Lib.hid (fun w => R2Form_any op w)
  rw [h] at hF
  clear h
  go_enter Tryz.func101, Tryz.ntmps101
  go_wp2_with (first | (go_at_call 39; refine (hF.out _).mono ?_; rintro e w' ⟨rfl, rfl⟩) | (go_at_call 146; (with_reducible refine (RFits_any _ _ _).mono ?_); rintro e w' ⟨rfl, rfl⟩))
  go_ret
  exact ⟨ret_bool rfl, rfl⟩
set_option maxRecDepth 100000 in
theorem R2number_6 (op n : Int) (h : rform op = 6) (w : World) : Calls Tryz.prog 101 #[.int .i64 op, .int .i64 n] w fun e w' => e = .returned (.bool (Fits n 13 && n.tmod 2 == 0)) ∧ w = w' := by
  have hF := Lib.hid (fun w => R2Form_any op w)
  rw [h] at hF
  clear h
  cases hX : Fits n 13 with
  | true =>
    go_enter Tryz.func101, Tryz.ntmps101
    go_wp2_with (first | (go_at_call 39; refine (hF.out _).mono ?_; rintro e w' ⟨rfl, rfl⟩) | (go_at_call 146; (with_reducible refine (RFits_any _ _ _).mono ?_); rintro e w' ⟨rfl, rfl⟩))
    go_ret
    exact ⟨ret_bool (by first | rfl | simp [hX]), rfl⟩
  | false =>
    go_enter Tryz.func101, Tryz.ntmps101
    go_wp2_with (first | (go_at_call 39; refine (hF.out _).mono ?_; rintro e w' ⟨rfl, rfl⟩) | (go_at_call 146; (with_reducible refine (RFits_any _ _ _).mono ?_); rintro e w' ⟨rfl, rfl⟩))
    go_ret
    exact ⟨ret_bool (by first | rfl | simp [hX]), rfl⟩
set_option maxRecDepth 100000 in
theorem R2number_7 (op n : Int) (h : rform op = 7) (w : World) : Calls Tryz.prog 101 #[.int .i64 op, .int .i64 n] w fun e w' => e = .returned (.bool (decide (0 ≤ n) && decide (n ≤ if 32 ≤ op then 31 else 63))) ∧ w = w' := by
  have hF := Lib.hid (fun w => R2Form_any op w)
  rw [h] at hF
  clear h
  rcases (show 32 ≤ op ∨ op < 32 by omega) with ho | ho <;> rcases (show n < 0 ∨ 0 ≤ n by omega) with hn | hn
  all_goals
    go_enter Tryz.func101, Tryz.ntmps101
    go_wp2_with (go_at_call 39; refine (hF.out _).mono ?_; rintro e w' ⟨rfl, rfl⟩)
    go_ret
    refine ⟨ret_bool ?_, rfl⟩
    first | (rw [Bool.eq_iff_iff]; done) | (rw [Bool.eq_iff_iff]; simp; done) | (rw [Bool.eq_iff_iff]; simp; omega) | (rw [Bool.eq_iff_iff]; simp; split <;> omega)
end Go.Proofs.YtdbpnbmaineniaaGreatDoor
