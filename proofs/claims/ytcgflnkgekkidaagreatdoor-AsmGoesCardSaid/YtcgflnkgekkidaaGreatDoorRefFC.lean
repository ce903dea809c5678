/- The document's form of an op: it is the program's. The document's names of the ops: they are the program's. The walks of the document's has and number. Small laws of an instruction's cells. Conditions: as each theorem says. -/
import Derived.Test.YtcgflnkgekkidaaGreatDoorInsnKn
import Derived.Test.YtcgflnkgekkidaaGreatDoorInsnDf
import Derived.Test.YtcgflnkgekkidaaGreatDoorRefDf
import Derived.Deep.MidRow
import Derived.WalkKit
import Derived.OwnWalk
namespace Go.Proofs.YtcgflnkgekkidaaGreatDoor
open Go.RowKit
/-- fencepostref02.Form -/
def rform (n : Int) : Int :=
  if n < 1 ∨ 87 < n then 0 else if n ≤ 2 then 1 else if n = 3 then 2 else if n = 4 ∨ (22 ≤ n ∧ n ≤ 27) ∨ n = 31 then 3 else if n ≤ 10 then 6 else if n ≤ 17 then 4 else if n ≤ 21 then 5 else if n ≤ 34 then 7 else if n ≤ 62 then 8 else if n = 63 then 9 else if n ≤ 65 then 10 else if n ≤ 67 then 11 else 12
theorem rform_all : ((List.range 88).all fun n => decide ((opOf (n : Int)).form = rform (n : Int))) = true := by decide +kernel
theorem rform_eq (n : Int) : (opOf n).form = rform n := by
  by_cases h0 : n < 1
  · unfold opOf rform; rw [if_pos h0, if_pos (Or.inl h0)]; rfl
  · by_cases h1 : 87 < n
    · rw [opOf_big n h1]; unfold rform; rw [if_pos (Or.inr h1)]; rfl
    · obtain ⟨m, rfl⟩ := Int.eq_ofNat_of_zero_le (show 0 ≤ n by omega)
      have := List.all_eq_true.1 rform_all m (List.mem_range.2 (by omega))
      simpa using this
set_option maxHeartbeats 2000000 in
theorem R2Form_any (n : Int) (w : World) :
    Calls Tryz.prog 46 #[.int .i64 n] w fun e w' => e = .returned (.int .i64 (rform n)) ∧ w = w' := by
  by_cases h : n < 1 ∨ 87 < n
  · have hF : Hid (rform n = 0) := Lib.hid (by unfold rform; rw [if_pos h])
    rcases h with h | h
    all_goals
      go_enter Tryz.func46, Tryz.ntmps46
      go_wp2
      go_ret
      exact ⟨ret_int (by rw [hF.out] <;> rfl), rfl⟩
  · have hF : Hid (rform n = if n ≤ 2 then 1 else if n = 3 then 2 else if n = 4 ∨ (22 ≤ n ∧ n ≤ 27) ∨ n = 31 then 3 else if n ≤ 10 then 6 else if n ≤ 17 then 4 else if n ≤ 21 then 5 else if n ≤ 34 then 7 else if n ≤ 62 then 8 else if n = 63 then 9 else if n ≤ 65 then 10 else if n ≤ 67 then 11 else 12) := Lib.hid (by unfold rform; rw [if_neg h])
    have g1 : 1 ≤ n := by omega
    have g2 : n ≤ 87 := by omega
    clear h
    have hx : n ≤ 2 ∨ n = 3 ∨ n = 4 ∨ (5 ≤ n ∧ n ≤ 10) ∨ (11 ≤ n ∧ n ≤ 17) ∨ (18 ≤ n ∧ n ≤ 21) ∨ (22 ≤ n ∧ n ≤ 27) ∨ (28 ≤ n ∧ n ≤ 30) ∨ n = 31 ∨ (32 ≤ n ∧ n ≤ 34) ∨ (35 ≤ n ∧ n ≤ 62) ∨ n = 63 ∨ (64 ≤ n ∧ n ≤ 65) ∨ (66 ≤ n ∧ n ≤ 67) ∨ 68 ≤ n := by omega
    rcases hx with hx | rfl | rfl | ⟨hx, hy⟩ | ⟨hx, hy⟩ | ⟨hx, hy⟩ | ⟨hx, hy⟩ | ⟨hx, hy⟩ | rfl | ⟨hx, hy⟩ | ⟨hx, hy⟩ | rfl | ⟨hx, hy⟩ | ⟨hx, hy⟩ | hx
    all_goals
      try have u3 : (n == 3) = false := by rw [beq_eq_false_iff_ne]; omega
      try have u4 : (n == 4) = false := by rw [beq_eq_false_iff_ne]; omega
      try have u31 : (n == 31) = false := by rw [beq_eq_false_iff_ne]; omega
      try have u63 : (n == 63) = false := by rw [beq_eq_false_iff_ne]; omega
      go_enter Tryz.func46, Tryz.ntmps46
      go_wp2
      go_ret
      refine ⟨ret_int ?_, rfl⟩
      rw [hF.out]
      first | decide | (repeat' split <;> omega)
end Go.Proofs.YtcgflnkgekkidaaGreatDoor
namespace Go.Proofs.YtcgflnkgekkidaaGreatDoor
open Go.RowKit
def rnames : List (List UInt8) := [[], [108, 117, 105], [97, 117, 105, 112, 99], [106, 97, 108], [106, 97, 108, 114], [98, 101, 113], [98, 110, 101], [98, 108, 116], [98, 103, 101], [98, 108, 116, 117], [98, 103, 101, 117], [108, 98], [108, 104], [108, 119], [108, 100], [108, 98, 117], [108, 104, 117], [108, 119, 117], [115, 98], [115, 104], [115, 119], [115, 100], [97, 100, 100, 105], [115, 108, 116, 105], [115, 108, 116, 105, 117], [120, 111, 114, 105], [111, 114, 105], [97, 110, 100, 105], [115, 108, 108, 105], [115, 114, 108, 105], [115, 114, 97, 105], [97, 100, 100, 105, 119], [115, 108, 108, 105, 119], [115, 114, 108, 105, 119], [115, 114, 97, 105, 119], [97, 100, 100], [115, 117, 98], [115, 108, 108], [115, 108, 116], [115, 108, 116, 117], [120, 111, 114], [115, 114, 108], [115, 114, 97], [111, 114], [97, 110, 100], [97, 100, 100, 119], [115, 117, 98, 119], [115, 108, 108, 119], [115, 114, 108, 119], [115, 114, 97, 119], [109, 117, 108], [109, 117, 108, 104], [109, 117, 108, 104, 115, 117], [109, 117, 108, 104, 117], [100, 105, 118], [100, 105, 118, 117], [114, 101, 109], [114, 101, 109, 117], [109, 117, 108, 119], [100, 105, 118, 119], [100, 105, 118, 117, 119], [114, 101, 109, 119], [114, 101, 109, 117, 119], [102, 101, 110, 99, 101], [101, 99, 97, 108, 108], [101, 98, 114, 101, 97, 107], [108, 114, 46, 119], [108, 114, 46, 100], [115, 99, 46, 119], [115, 99, 46, 100], [97, 109, 111, 115, 119, 97, 112, 46, 119], [97, 109, 111, 97, 100, 100, 46, 119], [97, 109, 111, 120, 111, 114, 46, 119], [97, 109, 111, 97, 110, 100, 46, 119], [97, 109, 111, 111, 114, 46, 119], [97, 109, 111, 109, 105, 110, 46, 119], [97, 109, 111, 109, 97, 120, 46, 119], [97, 109, 111, 109, 105, 110, 117, 46, 119], [97, 109, 111, 109, 97, 120, 117, 46, 119], [97, 109, 111, 115, 119, 97, 112, 46, 100], [97, 109, 111, 97, 100, 100, 46, 100], [97, 109, 111, 120, 111, 114, 46, 100], [97, 109, 111, 97, 110, 100, 46, 100], [97, 109, 111, 111, 114, 46, 100], [97, 109, 111, 109, 105, 110, 46, 100], [97, 109, 111, 109, 97, 120, 46, 100], [97, 109, 111, 109, 105, 110, 117, 46, 100], [97, 109, 111, 109, 97, 120, 117, 46, 100]]
def strV (l : List UInt8) : Value := .string ⟨l.toArray⟩
theorem rnames_all : ((List.range 88).all fun n => decide (rnames.getD n [] = (opOf (n : Int)).name)) = true := by decide +kernel
theorem rnames_len : rnames.length = 88 := rfl
theorem rnames_at (n : Nat) (h : n < 88) : rnames[n]? = some (opOf (n : Int)).name := by
  have := List.all_eq_true.1 rnames_all n (List.mem_range.2 h)
  rw [decide_eq_true_eq] at this
  rw [← this, List.getD]
  rw [List.getElem?_eq_getElem (by rw [rnames_len]; exact h)]; rfl
theorem name_none (n : Int) (h : n < 1 ∨ 87 < n) : (opOf n).name = [] := by
  rcases h with h | h
  · unfold opOf; rw [if_pos h]; rfl
  · rw [opOf_big n h]; rfl
set_option maxRecDepth 100000 in
set_option maxHeartbeats 4000000 in
theorem Names_any (w : World) : Calls Tryz.prog 111 #[] w fun e w' => (∃ g cap, e = .returned (.slice (some ⟨g, 0, none⟩) 88 cap) ∧ ∀ j : Nat, j < 88 → w'.cell? ⟨g, j, none⟩ = some (strV (opOf (j : Int)).name)) ∧ Below w.heap.size w w' := by
  go_enter Tryz.func111, Tryz.ntmps111
  go_wp2
  go_ret
  refine ⟨⟨w.heap.size, 88, rfl, ?_⟩, (Below.refl _ _).alloc (Nat.le_refl _) _⟩
  intro j hj
  rw [World.cell?_alloc_new]
  have hA : ∀ A : Array Value, A = (rnames.map strV).toArray → A[j]? = some (strV (opOf (j : Int)).name) := fun A h => by
    rw [h]; have e := rnames_at j hj; simp [e]
  exact hA _ (by kernel_rfl)
set_option maxHeartbeats 2000000 in
theorem R2Name_any (n : Int) (w : World) : Calls Tryz.prog 84 #[.int .i64 n] w fun e w' => e = .returned (strV (opOf n).name) ∧ Below w.heap.size w w' := by
  by_cases h : n < 1 ∨ 87 < n
  · have e := name_none n h
    have hf : rform n = 0 := by unfold rform; rw [if_pos h]
    rw [e]
    clear e h
    go_enter Tryz.func84, Tryz.ntmps84
    go_wp2_with (go_at_call 46; refine (R2Form_any n _).mono ?_; rintro e w1 ⟨rfl, rfl⟩; rw [hf])
    go_ret
    exact ⟨rfl, Below.refl _ _⟩
  · have h0 : ¬ rform n = 0 := by unfold rform; rw [if_neg h]; repeat' split
                                  all_goals omega
    have tb : (rform n == 0) = false := by rw [beq_eq_false_iff_ne]; exact h0
    obtain ⟨m, rfl⟩ := Int.eq_ofNat_of_zero_le (show 0 ≤ n by omega)
    have hm : m < 88 := by omega
    clear h h0
    generalize hs : (opOf (m : Int)).name = s
    have hs := Lib.hid hs
    have hF : Hid (∀ W, Calls Tryz.prog 46 #[.int .i64 (m : Int)] W fun e w' => e = .returned (.int .i64 (rform (m : Int))) ∧ W = w') := Lib.hid fun W => R2Form_any (m : Int) W
    generalize rform (m : Int) = f at tb hF
    go_enter Tryz.func84, Tryz.ntmps84
    go_wp2_with (first | (go_at_call 46; go_loud (refine (hF.out _).mono ?_; rintro e w1 ⟨rfl, rfl⟩)) | (go_at_call 111; go_loud (refine (Names_any _).mono ?_; rintro e w2 ⟨⟨g, cap, rfl, hc⟩, hb⟩; have hc1 := hc m hm; rw [hs.out] at hc1; clear hc)))
    go_ret
    exact ⟨rfl, hb⟩
end Go.Proofs.YtcgflnkgekkidaaGreatDoor
namespace Go.Proofs.YtcgflnkgekkidaaGreatDoor
open Go.RowKit
theorem R2has_0 (w : World) : Calls Tryz.prog 96 #[.int .i64 0] w fun e w' => e = .returned (.tuple #[.bool false, .bool false, .bool false, .bool false]) ∧ w = w' := by
  go_enter Tryz.func96, Tryz.ntmps96
  go_wp2
  exact bodyPost_ret (v := .tuple #[.bool false, .bool false, .bool false, .bool false]) (by simp [results, Tryz.results96, go_sem]) rfl ⟨rfl, rfl⟩
theorem R2has_1 (w : World) : Calls Tryz.prog 96 #[.int .i64 1] w fun e w' => e = .returned (.tuple #[.bool true, .bool false, .bool false, .bool true]) ∧ w = w' := by
  go_enter Tryz.func96, Tryz.ntmps96
  go_wp2
  exact bodyPost_ret (v := .tuple #[.bool true, .bool false, .bool false, .bool true]) (by simp [results, Tryz.results96, go_sem]) rfl ⟨rfl, rfl⟩
theorem R2has_2 (w : World) : Calls Tryz.prog 96 #[.int .i64 2] w fun e w' => e = .returned (.tuple #[.bool true, .bool false, .bool false, .bool true]) ∧ w = w' := by
  go_enter Tryz.func96, Tryz.ntmps96
  go_wp2
  exact bodyPost_ret (v := .tuple #[.bool true, .bool false, .bool false, .bool true]) (by simp [results, Tryz.results96, go_sem]) rfl ⟨rfl, rfl⟩
theorem R2has_3 (w : World) : Calls Tryz.prog 96 #[.int .i64 3] w fun e w' => e = .returned (.tuple #[.bool true, .bool true, .bool false, .bool true]) ∧ w = w' := by
  go_enter Tryz.func96, Tryz.ntmps96
  go_wp2
  exact bodyPost_ret (v := .tuple #[.bool true, .bool true, .bool false, .bool true]) (by simp [results, Tryz.results96, go_sem]) rfl ⟨rfl, rfl⟩
theorem R2has_4 (w : World) : Calls Tryz.prog 96 #[.int .i64 4] w fun e w' => e = .returned (.tuple #[.bool true, .bool true, .bool false, .bool true]) ∧ w = w' := by
  go_enter Tryz.func96, Tryz.ntmps96
  go_wp2
  exact bodyPost_ret (v := .tuple #[.bool true, .bool true, .bool false, .bool true]) (by simp [results, Tryz.results96, go_sem]) rfl ⟨rfl, rfl⟩
theorem R2has_5 (w : World) : Calls Tryz.prog 96 #[.int .i64 5] w fun e w' => e = .returned (.tuple #[.bool false, .bool true, .bool true, .bool true]) ∧ w = w' := by
  go_enter Tryz.func96, Tryz.ntmps96
  go_wp2
  exact bodyPost_ret (v := .tuple #[.bool false, .bool true, .bool true, .bool true]) (by simp [results, Tryz.results96, go_sem]) rfl ⟨rfl, rfl⟩
theorem R2has_6 (w : World) : Calls Tryz.prog 96 #[.int .i64 6] w fun e w' => e = .returned (.tuple #[.bool false, .bool true, .bool true, .bool true]) ∧ w = w' := by
  go_enter Tryz.func96, Tryz.ntmps96
  go_wp2
  exact bodyPost_ret (v := .tuple #[.bool false, .bool true, .bool true, .bool true]) (by simp [results, Tryz.results96, go_sem]) rfl ⟨rfl, rfl⟩
theorem R2has_7 (w : World) : Calls Tryz.prog 96 #[.int .i64 7] w fun e w' => e = .returned (.tuple #[.bool true, .bool true, .bool false, .bool true]) ∧ w = w' := by
  go_enter Tryz.func96, Tryz.ntmps96
  go_wp2
  exact bodyPost_ret (v := .tuple #[.bool true, .bool true, .bool false, .bool true]) (by simp [results, Tryz.results96, go_sem]) rfl ⟨rfl, rfl⟩
theorem R2has_8 (w : World) : Calls Tryz.prog 96 #[.int .i64 8] w fun e w' => e = .returned (.tuple #[.bool true, .bool true, .bool true, .bool false]) ∧ w = w' := by
  go_enter Tryz.func96, Tryz.ntmps96
  go_wp2
  exact bodyPost_ret (v := .tuple #[.bool true, .bool true, .bool true, .bool false]) (by simp [results, Tryz.results96, go_sem]) rfl ⟨rfl, rfl⟩
theorem R2has_9 (w : World) : Calls Tryz.prog 96 #[.int .i64 9] w fun e w' => e = .returned (.tuple #[.bool false, .bool false, .bool false, .bool false]) ∧ w = w' := by
  go_enter Tryz.func96, Tryz.ntmps96
  go_wp2
  exact bodyPost_ret (v := .tuple #[.bool false, .bool false, .bool false, .bool false]) (by simp [results, Tryz.results96, go_sem]) rfl ⟨rfl, rfl⟩
theorem R2has_10 (w : World) : Calls Tryz.prog 96 #[.int .i64 10] w fun e w' => e = .returned (.tuple #[.bool false, .bool false, .bool false, .bool false]) ∧ w = w' := by
  go_enter Tryz.func96, Tryz.ntmps96
  go_wp2
  exact bodyPost_ret (v := .tuple #[.bool false, .bool false, .bool false, .bool false]) (by simp [results, Tryz.results96, go_sem]) rfl ⟨rfl, rfl⟩
theorem R2has_11 (w : World) : Calls Tryz.prog 96 #[.int .i64 11] w fun e w' => e = .returned (.tuple #[.bool true, .bool true, .bool false, .bool false]) ∧ w = w' := by
  go_enter Tryz.func96, Tryz.ntmps96
  go_wp2
  exact bodyPost_ret (v := .tuple #[.bool true, .bool true, .bool false, .bool false]) (by simp [results, Tryz.results96, go_sem]) rfl ⟨rfl, rfl⟩
theorem R2has_12 (w : World) : Calls Tryz.prog 96 #[.int .i64 12] w fun e w' => e = .returned (.tuple #[.bool true, .bool true, .bool true, .bool false]) ∧ w = w' := by
  go_enter Tryz.func96, Tryz.ntmps96
  go_wp2
  exact bodyPost_ret (v := .tuple #[.bool true, .bool true, .bool true, .bool false]) (by simp [results, Tryz.results96, go_sem]) rfl ⟨rfl, rfl⟩
set_option maxRecDepth 100000 in
theorem R2number_1 (op n : Int) (h : rform op = 1) (w : World) : Calls Tryz.prog 97 #[.int .i64 op, .int .i64 n] w fun e w' => e = .returned (.bool (Fits n 20)) ∧ w = w' := by
  have hF := Lib.hid (fun w => R2Form_any op w)
  rw [h] at hF
  clear h
  cases hX : Fits n 13 with
  | true =>
    go_enter Tryz.func97, Tryz.ntmps97
    go_wp2_with (first | (go_at_call 46; refine (hF.out _).mono ?_; rintro e w' ⟨rfl, rfl⟩) | (go_at_call 62; (with_reducible refine (RFits_any _ _ _).mono ?_); rintro e w' ⟨rfl, rfl⟩))
    go_ret
    exact ⟨ret_bool (by first | rfl | simp [hX]), rfl⟩
  | false =>
    go_enter Tryz.func97, Tryz.ntmps97
    go_wp2_with (first | (go_at_call 46; refine (hF.out _).mono ?_; rintro e w' ⟨rfl, rfl⟩) | (go_at_call 62; (with_reducible refine (RFits_any _ _ _).mono ?_); rintro e w' ⟨rfl, rfl⟩))
    go_ret
    exact ⟨ret_bool (by first | rfl | simp [hX]), rfl⟩
set_option maxRecDepth 100000 in
theorem R2number_2 (op n : Int) (h : rform op = 2) (w : World) : Calls Tryz.prog 97 #[.int .i64 op, .int .i64 n] w fun e w' => e = .returned (.bool (Fits n 21 && n.tmod 2 == 0)) ∧ w = w' := by
  have hF := Lib.hid (fun w => R2Form_any op w)
  rw [h] at hF
  clear h
  cases hX : Fits n 21 with
  | true =>
    go_enter Tryz.func97, Tryz.ntmps97
    go_wp2_with (first | (go_at_call 46; refine (hF.out _).mono ?_; rintro e w' ⟨rfl, rfl⟩) | (go_at_call 62; (with_reducible refine (RFits_any _ _ _).mono ?_); rintro e w' ⟨rfl, rfl⟩))
    go_ret
    exact ⟨ret_bool (by first | rfl | simp [hX]), rfl⟩
  | false =>
    go_enter Tryz.func97, Tryz.ntmps97
    go_wp2_with (first | (go_at_call 46; refine (hF.out _).mono ?_; rintro e w' ⟨rfl, rfl⟩) | (go_at_call 62; (with_reducible refine (RFits_any _ _ _).mono ?_); rintro e w' ⟨rfl, rfl⟩))
    go_ret
    exact ⟨ret_bool (by first | rfl | simp [hX]), rfl⟩
set_option maxRecDepth 100000 in
theorem R2number_3 (op n : Int) (h : rform op = 3) (w : World) : Calls Tryz.prog 97 #[.int .i64 op, .int .i64 n] w fun e w' => e = .returned (.bool (Fits n 12)) ∧ w = w' := by
  have hF := Lib.hid (fun w => R2Form_any op w)
  rw [h] at hF
  clear h
  go_enter Tryz.func97, Tryz.ntmps97
  go_wp2_with (first | (go_at_call 46; refine (hF.out _).mono ?_; rintro e w' ⟨rfl, rfl⟩) | (go_at_call 62; (with_reducible refine (RFits_any _ _ _).mono ?_); rintro e w' ⟨rfl, rfl⟩))
  go_ret
  exact ⟨ret_bool rfl, rfl⟩
set_option maxRecDepth 100000 in
theorem R2number_4 (op n : Int) (h : rform op = 4) (w : World) : Calls Tryz.prog 97 #[.int .i64 op, .int .i64 n] w fun e w' => e = .returned (.bool (Fits n 12)) ∧ w = w' := by
  have hF := Lib.hid (fun w => R2Form_any op w)
  rw [h] at hF
  clear h
  go_enter Tryz.func97, Tryz.ntmps97
  go_wp2_with (first | (go_at_call 46; refine (hF.out _).mono ?_; rintro e w' ⟨rfl, rfl⟩) | (go_at_call 62; (with_reducible refine (RFits_any _ _ _).mono ?_); rintro e w' ⟨rfl, rfl⟩))
  go_ret
  exact ⟨ret_bool rfl, rfl⟩
set_option maxRecDepth 100000 in
theorem R2number_5 (op n : Int) (h : rform op = 5) (w : World) : Calls Tryz.prog 97 #[.int .i64 op, .int .i64 n] w fun e w' => e = .returned (.bool (Fits n 12)) ∧ w = w' := by
  have hF := Lib.hid (fun w => R2Form_any op w)
  rw [h] at hF
  clear h
  go_enter Tryz.func97, Tryz.ntmps97
  go_wp2_with (first | (go_at_call 46; refine (hF.out _).mono ?_; rintro e w' ⟨rfl, rfl⟩) | (go_at_call 62; (with_reducible refine (RFits_any _ _ _).mono ?_); rintro e w' ⟨rfl, rfl⟩))
  go_ret
  exact ⟨ret_bool rfl, rfl⟩
set_option maxRecDepth 100000 in
theorem R2number_6 (op n : Int) (h : rform op = 6) (w : World) : Calls Tryz.prog 97 #[.int .i64 op, .int .i64 n] w fun e w' => e = .returned (.bool (Fits n 13 && n.tmod 2 == 0)) ∧ w = w' := by
  have hF := Lib.hid (fun w => R2Form_any op w)
  rw [h] at hF
  clear h
  cases hX : Fits n 13 with
  | true =>
    go_enter Tryz.func97, Tryz.ntmps97
    go_wp2_with (first | (go_at_call 46; refine (hF.out _).mono ?_; rintro e w' ⟨rfl, rfl⟩) | (go_at_call 62; (with_reducible refine (RFits_any _ _ _).mono ?_); rintro e w' ⟨rfl, rfl⟩))
    go_ret
    exact ⟨ret_bool (by first | rfl | simp [hX]), rfl⟩
  | false =>
    go_enter Tryz.func97, Tryz.ntmps97
    go_wp2_with (first | (go_at_call 46; refine (hF.out _).mono ?_; rintro e w' ⟨rfl, rfl⟩) | (go_at_call 62; (with_reducible refine (RFits_any _ _ _).mono ?_); rintro e w' ⟨rfl, rfl⟩))
    go_ret
    exact ⟨ret_bool (by first | rfl | simp [hX]), rfl⟩
set_option maxRecDepth 100000 in
theorem R2number_7 (op n : Int) (h : rform op = 7) (w : World) : Calls Tryz.prog 97 #[.int .i64 op, .int .i64 n] w fun e w' => e = .returned (.bool (decide (0 ≤ n) && decide (n ≤ if 32 ≤ op then 31 else 63))) ∧ w = w' := by
  have hF := Lib.hid (fun w => R2Form_any op w)
  rw [h] at hF
  clear h
  rcases (show 32 ≤ op ∨ op < 32 by omega) with ho | ho <;> rcases (show n < 0 ∨ 0 ≤ n by omega) with hn | hn
  all_goals
    go_enter Tryz.func97, Tryz.ntmps97
    go_wp2_with (go_at_call 46; refine (hF.out _).mono ?_; rintro e w' ⟨rfl, rfl⟩)
    go_ret
    refine ⟨ret_bool ?_, rfl⟩
    first | (rw [Bool.eq_iff_iff]; done) | (rw [Bool.eq_iff_iff]; simp; done) | (rw [Bool.eq_iff_iff]; simp; omega) | (rw [Bool.eq_iff_iff]; simp; split <;> omega)
end Go.Proofs.YtcgflnkgekkidaaGreatDoor
namespace Go.Proofs.YtcgflnkgekkidaaGreatDoor
open Go.RowKit
theorem fresh_thawR (w : World) (cs : Array Value) (t : TypeId) (j : Nat) : (w.alloc (.cells cs t)).frozen? ⟨w.heap.size, j, none⟩ = false := by
  rw [frozen?_alloc_cells]; unfold World.frozen?; rw [Array.getElem?_eq_none (Nat.le_refl _)]
theorem result_insn (W : World) (a : Nat) (cs : List Value) (hr : W.rangeAt a 0 cs) (h9 : cs.length = 9) : (loadVar 26 ⟨a, 0, none⟩).run Tryz.prog W = .ok (.agg cs.toArray) W := run_loadVar_mid W a 0 26 cs _ hr Tryz.underlying26 rfl (by rw [h9]; kernel_rfl)
theorem below_cells {B a : Nat} {w : World} (ha : B ≤ a) : ∀ (vs : List Value) (o : Nat) (W : World), Below B w W → Below B w (W.setCells a o vs)
  | [], _, _, h => h
  | v :: vs, o, _, h => below_cells ha vs (o + 1) _ (h.setCell ha v)
theorem InsnV.one (i : InsnV) : i.cells.all (·.oneCell') = true := by
  obtain ⟨op, rd, r1, r2, imm, aq, rl, pred, succ⟩ := i; kernel_rfl
/-- Only that block is another. -/
structure KE (g : Nat) (w w' : World) : Prop where
  bl : Below g w w'
  block : ∀ k, k < w.heap.size → k ≠ g → w'.heap[k]? = w.heap[k]?
theorem KE.refl (g : Nat) (w : World) : KE g w w := ⟨Below.refl _ _, fun _ _ _ => rfl⟩
theorem KE.trans {g : Nat} {u v w : World} (h : KE g u v) (k : KE g v w) : KE g u w :=
  ⟨h.bl.trans k.bl, fun j hj hb => (k.block j (Nat.lt_of_lt_of_le hj h.bl.size) hb).trans (h.block j hj hb)⟩
theorem KE.setCell {g : Nat} {u w : World} (h : KE g u w) (o : Nat) (v : Value) : KE g u (w.setCell ⟨g, o, none⟩ v) :=
  ⟨h.bl.setCell (Nat.le_refl g) v, fun j hj hb => (Below.heap_setCell w ⟨g, o, none⟩ v j hb).trans (h.block j hj hb)⟩
theorem KE.drewN {g : Nat} {u w : World} (h : KE g u w) (n : Nat) : KE g u (w.drewN n) := ⟨h.bl.trans ⟨rfl, rfl, rfl, Nat.le_refl _, fun _ _ => rfl⟩, fun j hj hb => h.block j hj hb⟩
theorem KE.cell {g : Nat} {w w' : World} (h : KE g w w') {x : Nat} (j : Nat) (hx : x < w.heap.size) (hb : x ≠ g) : w'.cell? ⟨x, j, none⟩ = w.cell? ⟨x, j, none⟩ := World.cell?_of_block (w := w) (h.block x hx hb)
theorem KE.frozen {g : Nat} {w w' : World} (h : KE g w w') {x : Nat} (j : Nat) (hx : x < w.heap.size) (hb : x ≠ g) : w'.frozen? ⟨x, j, none⟩ = w.frozen? ⟨x, j, none⟩ := World.frozen?_of_block (w := w) (h.block x hx hb)
theorem setCell_froz (W : World) (b o j : Nat) (v : Value) : (W.setCell ⟨b, o, none⟩ v).frozen? ⟨b, j, none⟩ = W.frozen? ⟨b, j, none⟩ := World.frozen?_setCells b [v] o W ⟨b, j, none⟩
theorem setCell_in {W : World} {b o j : Nat} {v u : Value} (h : W.cell? ⟨b, o, none⟩ = some u) : (W.setCell ⟨b, o, none⟩ v).cell? ⟨b, j, none⟩ = if j = o then some v else W.cell? ⟨b, j, none⟩ := by
  split
  · rename_i e; subst e; exact World.cell?_setCell_same _ _ _ h
  · rename_i e; exact World.cell?_setCell_other _ _ _ _ (fun h => e (by injection h with _ h2 _; exact h2.symm))
theorem rform_range (n : Int) : 0 ≤ rform n ∧ rform n ≤ 12 := by
  unfold rform
  repeat' split
  all_goals omega
end Go.Proofs.YtcgflnkgekkidaaGreatDoor
