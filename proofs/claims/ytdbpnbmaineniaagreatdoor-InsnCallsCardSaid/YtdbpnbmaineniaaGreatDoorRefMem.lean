/- The walk of the document's Memory: what an op loads and stores is what the program says. Conditions: none. -/
import Derived.Test.YtdbpnbmaineniaaGreatDoorRefFC
import Derived.OwnWalk
namespace Go.Proofs.YtdbpnbmaineniaaGreatDoor
open Go.RowKit
def rloads (n : Int) : Bool := rform n == 4 || rform n == 11 || (rform n == 12 && decide (69 < n))
def rstores (n : Int) : Bool := rform n == 5 || rform n == 12
theorem rmem_all : ((List.range 88).all fun n => decide ((opOf (n : Int)).loads = rloads n) && decide ((opOf (n : Int)).stores = rstores n) && (rloads n || rstores n || decide ((opOf (n : Int)).size = 0))) = true := by decide +kernel
theorem rmem_eq (n : Int) : (opOf n).loads = rloads n ∧ (opOf n).stores = rstores n ∧ (rloads n = false → rstores n = false → (opOf n).size = 0) := by
  by_cases h0 : n < 1 ∨ 87 < n
  · have hf : rform n = 0 := by unfold rform; rw [if_pos h0]
    have ho : opOf n = noOp := by
      rcases h0 with h | h
      · unfold opOf; rw [if_pos h]
      · rw [opOf_big n h]
    rw [ho]; unfold rloads rstores; rw [hf]
    exact ⟨by simp [noOp], by simp [noOp], fun _ _ => rfl⟩
  · obtain ⟨m, rfl⟩ := Int.eq_ofNat_of_zero_le (show 0 ≤ n by omega)
    have := List.all_eq_true.1 rmem_all m (List.mem_range.2 (by omega))
    simp only [Bool.and_eq_true, decide_eq_true_eq, Bool.or_eq_true] at this
    refine ⟨this.1.1, this.1.2, fun h1 h2 => ?_⟩
    rcases this.2 with (h | h) | h
    · rw [h1] at h; cases h
    · rw [h2] at h; cases h
    · exact h
/-- what Memory answers -/
def memV (n : Int) : Value := .tuple #[.bool (opOf n).loads, .bool (opOf n).stores, .int .i64 (opOf n).size]
theorem Mem_11 (w : World) : Calls Tryz.prog 37 #[.int .i64 11] w fun e w' => e = .returned (memV 11) ∧ Below w.heap.size w w' := by
  have hN : Hid (∀ W, Calls Tryz.prog 40 #[.int .i64 11] W fun e w' => e = .returned (.string { data := #[108, 98] }) ∧ Below W.heap.size W w') := Lib.hid fun W => by have h := R2Name_any 11 W; rw [show (opOf 11).name = [108, 98] by decide +kernel] at h; exact h
  have hF : Hid (∀ W, Calls Tryz.prog 39 #[.int .i64 11] W fun e w' => e = .returned (.int .i64 4) ∧ W = w') := Lib.hid fun W => R2Form_any 11 W
  rw [show memV 11 = .tuple #[.bool true, .bool false, .int .i64 1] by kernel_rfl]
  have x98 : ((({ data := #[108, 98] } : ByteArray).extract 1 2).toList == [98]) = true := by kernel_rfl
  have x104 : ((({ data := #[108, 98] } : ByteArray).extract 1 2).toList == [104]) = false := by kernel_rfl
  have x119 : ((({ data := #[108, 98] } : ByteArray).extract 1 2).toList == [119]) = false := by kernel_rfl
  go_enter Tryz.func37, Tryz.ntmps37
  go_wp2_with (first | (go_at_call 40; refine (hN.out _).mono ?_; rintro e w1 ⟨rfl, hb⟩) | (go_at_call 39; refine (hF.out _).mono ?_; rintro e w2 ⟨rfl, rfl⟩))
  go_ret3
  exact ⟨rfl, hb⟩
theorem Mem_12 (w : World) : Calls Tryz.prog 37 #[.int .i64 12] w fun e w' => e = .returned (memV 12) ∧ Below w.heap.size w w' := by
  have hN : Hid (∀ W, Calls Tryz.prog 40 #[.int .i64 12] W fun e w' => e = .returned (.string { data := #[108, 104] }) ∧ Below W.heap.size W w') := Lib.hid fun W => by have h := R2Name_any 12 W; rw [show (opOf 12).name = [108, 104] by decide +kernel] at h; exact h
  have hF : Hid (∀ W, Calls Tryz.prog 39 #[.int .i64 12] W fun e w' => e = .returned (.int .i64 4) ∧ W = w') := Lib.hid fun W => R2Form_any 12 W
  rw [show memV 12 = .tuple #[.bool true, .bool false, .int .i64 2] by kernel_rfl]
  have x98 : ((({ data := #[108, 104] } : ByteArray).extract 1 2).toList == [98]) = false := by kernel_rfl
  have x104 : ((({ data := #[108, 104] } : ByteArray).extract 1 2).toList == [104]) = true := by kernel_rfl
  have x119 : ((({ data := #[108, 104] } : ByteArray).extract 1 2).toList == [119]) = false := by kernel_rfl
  go_enter Tryz.func37, Tryz.ntmps37
  go_wp2_with (first | (go_at_call 40; refine (hN.out _).mono ?_; rintro e w1 ⟨rfl, hb⟩) | (go_at_call 39; refine (hF.out _).mono ?_; rintro e w2 ⟨rfl, rfl⟩))
  go_ret3
  exact ⟨rfl, hb⟩
theorem Mem_13 (w : World) : Calls Tryz.prog 37 #[.int .i64 13] w fun e w' => e = .returned (memV 13) ∧ Below w.heap.size w w' := by
  have hN : Hid (∀ W, Calls Tryz.prog 40 #[.int .i64 13] W fun e w' => e = .returned (.string { data := #[108, 119] }) ∧ Below W.heap.size W w') := Lib.hid fun W => by have h := R2Name_any 13 W; rw [show (opOf 13).name = [108, 119] by decide +kernel] at h; exact h
  have hF : Hid (∀ W, Calls Tryz.prog 39 #[.int .i64 13] W fun e w' => e = .returned (.int .i64 4) ∧ W = w') := Lib.hid fun W => R2Form_any 13 W
  rw [show memV 13 = .tuple #[.bool true, .bool false, .int .i64 4] by kernel_rfl]
  have x98 : ((({ data := #[108, 119] } : ByteArray).extract 1 2).toList == [98]) = false := by kernel_rfl
  have x104 : ((({ data := #[108, 119] } : ByteArray).extract 1 2).toList == [104]) = false := by kernel_rfl
  have x119 : ((({ data := #[108, 119] } : ByteArray).extract 1 2).toList == [119]) = true := by kernel_rfl
  go_enter Tryz.func37, Tryz.ntmps37
  go_wp2_with (first | (go_at_call 40; refine (hN.out _).mono ?_; rintro e w1 ⟨rfl, hb⟩) | (go_at_call 39; refine (hF.out _).mono ?_; rintro e w2 ⟨rfl, rfl⟩))
  go_ret3
  exact ⟨rfl, hb⟩
theorem Mem_14 (w : World) : Calls Tryz.prog 37 #[.int .i64 14] w fun e w' => e = .returned (memV 14) ∧ Below w.heap.size w w' := by
  have hN : Hid (∀ W, Calls Tryz.prog 40 #[.int .i64 14] W fun e w' => e = .returned (.string { data := #[108, 100] }) ∧ Below W.heap.size W w') := Lib.hid fun W => by have h := R2Name_any 14 W; rw [show (opOf 14).name = [108, 100] by decide +kernel] at h; exact h
  have hF : Hid (∀ W, Calls Tryz.prog 39 #[.int .i64 14] W fun e w' => e = .returned (.int .i64 4) ∧ W = w') := Lib.hid fun W => R2Form_any 14 W
  rw [show memV 14 = .tuple #[.bool true, .bool false, .int .i64 8] by kernel_rfl]
  have x98 : ((({ data := #[108, 100] } : ByteArray).extract 1 2).toList == [98]) = false := by kernel_rfl
  have x104 : ((({ data := #[108, 100] } : ByteArray).extract 1 2).toList == [104]) = false := by kernel_rfl
  have x119 : ((({ data := #[108, 100] } : ByteArray).extract 1 2).toList == [119]) = false := by kernel_rfl
  go_enter Tryz.func37, Tryz.ntmps37
  go_wp2_with (first | (go_at_call 40; refine (hN.out _).mono ?_; rintro e w1 ⟨rfl, hb⟩) | (go_at_call 39; refine (hF.out _).mono ?_; rintro e w2 ⟨rfl, rfl⟩))
  go_ret3
  exact ⟨rfl, hb⟩
theorem Mem_15 (w : World) : Calls Tryz.prog 37 #[.int .i64 15] w fun e w' => e = .returned (memV 15) ∧ Below w.heap.size w w' := by
  have hN : Hid (∀ W, Calls Tryz.prog 40 #[.int .i64 15] W fun e w' => e = .returned (.string { data := #[108, 98, 117] }) ∧ Below W.heap.size W w') := Lib.hid fun W => by have h := R2Name_any 15 W; rw [show (opOf 15).name = [108, 98, 117] by decide +kernel] at h; exact h
  have hF : Hid (∀ W, Calls Tryz.prog 39 #[.int .i64 15] W fun e w' => e = .returned (.int .i64 4) ∧ W = w') := Lib.hid fun W => R2Form_any 15 W
  rw [show memV 15 = .tuple #[.bool true, .bool false, .int .i64 1] by kernel_rfl]
  have x98 : ((({ data := #[108, 98, 117] } : ByteArray).extract 1 2).toList == [98]) = true := by kernel_rfl
  have x104 : ((({ data := #[108, 98, 117] } : ByteArray).extract 1 2).toList == [104]) = false := by kernel_rfl
  have x119 : ((({ data := #[108, 98, 117] } : ByteArray).extract 1 2).toList == [119]) = false := by kernel_rfl
  go_enter Tryz.func37, Tryz.ntmps37
  go_wp2_with (first | (go_at_call 40; refine (hN.out _).mono ?_; rintro e w1 ⟨rfl, hb⟩) | (go_at_call 39; refine (hF.out _).mono ?_; rintro e w2 ⟨rfl, rfl⟩))
  go_ret3
  exact ⟨rfl, hb⟩
theorem Mem_16 (w : World) : Calls Tryz.prog 37 #[.int .i64 16] w fun e w' => e = .returned (memV 16) ∧ Below w.heap.size w w' := by
  have hN : Hid (∀ W, Calls Tryz.prog 40 #[.int .i64 16] W fun e w' => e = .returned (.string { data := #[108, 104, 117] }) ∧ Below W.heap.size W w') := Lib.hid fun W => by have h := R2Name_any 16 W; rw [show (opOf 16).name = [108, 104, 117] by decide +kernel] at h; exact h
  have hF : Hid (∀ W, Calls Tryz.prog 39 #[.int .i64 16] W fun e w' => e = .returned (.int .i64 4) ∧ W = w') := Lib.hid fun W => R2Form_any 16 W
  rw [show memV 16 = .tuple #[.bool true, .bool false, .int .i64 2] by kernel_rfl]
  have x98 : ((({ data := #[108, 104, 117] } : ByteArray).extract 1 2).toList == [98]) = false := by kernel_rfl
  have x104 : ((({ data := #[108, 104, 117] } : ByteArray).extract 1 2).toList == [104]) = true := by kernel_rfl
  have x119 : ((({ data := #[108, 104, 117] } : ByteArray).extract 1 2).toList == [119]) = false := by kernel_rfl
  go_enter Tryz.func37, Tryz.ntmps37
  go_wp2_with (first | (go_at_call 40; refine (hN.out _).mono ?_; rintro e w1 ⟨rfl, hb⟩) | (go_at_call 39; refine (hF.out _).mono ?_; rintro e w2 ⟨rfl, rfl⟩))
  go_ret3
  exact ⟨rfl, hb⟩
theorem Mem_17 (w : World) : Calls Tryz.prog 37 #[.int .i64 17] w fun e w' => e = .returned (memV 17) ∧ Below w.heap.size w w' := by
  have hN : Hid (∀ W, Calls Tryz.prog 40 #[.int .i64 17] W fun e w' => e = .returned (.string { data := #[108, 119, 117] }) ∧ Below W.heap.size W w') := Lib.hid fun W => by have h := R2Name_any 17 W; rw [show (opOf 17).name = [108, 119, 117] by decide +kernel] at h; exact h
  have hF : Hid (∀ W, Calls Tryz.prog 39 #[.int .i64 17] W fun e w' => e = .returned (.int .i64 4) ∧ W = w') := Lib.hid fun W => R2Form_any 17 W
  rw [show memV 17 = .tuple #[.bool true, .bool false, .int .i64 4] by kernel_rfl]
  have x98 : ((({ data := #[108, 119, 117] } : ByteArray).extract 1 2).toList == [98]) = false := by kernel_rfl
  have x104 : ((({ data := #[108, 119, 117] } : ByteArray).extract 1 2).toList == [104]) = false := by kernel_rfl
  have x119 : ((({ data := #[108, 119, 117] } : ByteArray).extract 1 2).toList == [119]) = true := by kernel_rfl
  go_enter Tryz.func37, Tryz.ntmps37
  go_wp2_with (first | (go_at_call 40; refine (hN.out _).mono ?_; rintro e w1 ⟨rfl, hb⟩) | (go_at_call 39; refine (hF.out _).mono ?_; rintro e w2 ⟨rfl, rfl⟩))
  go_ret3
  exact ⟨rfl, hb⟩
theorem Mem_18 (w : World) : Calls Tryz.prog 37 #[.int .i64 18] w fun e w' => e = .returned (memV 18) ∧ Below w.heap.size w w' := by
  have hN : Hid (∀ W, Calls Tryz.prog 40 #[.int .i64 18] W fun e w' => e = .returned (.string { data := #[115, 98] }) ∧ Below W.heap.size W w') := Lib.hid fun W => by have h := R2Name_any 18 W; rw [show (opOf 18).name = [115, 98] by decide +kernel] at h; exact h
  have hF : Hid (∀ W, Calls Tryz.prog 39 #[.int .i64 18] W fun e w' => e = .returned (.int .i64 5) ∧ W = w') := Lib.hid fun W => R2Form_any 18 W
  rw [show memV 18 = .tuple #[.bool false, .bool true, .int .i64 1] by kernel_rfl]
  have x98 : ((({ data := #[115, 98] } : ByteArray).extract 1 2).toList == [98]) = true := by kernel_rfl
  have x104 : ((({ data := #[115, 98] } : ByteArray).extract 1 2).toList == [104]) = false := by kernel_rfl
  have x119 : ((({ data := #[115, 98] } : ByteArray).extract 1 2).toList == [119]) = false := by kernel_rfl
  go_enter Tryz.func37, Tryz.ntmps37
  go_wp2_with (first | (go_at_call 40; refine (hN.out _).mono ?_; rintro e w1 ⟨rfl, hb⟩) | (go_at_call 39; refine (hF.out _).mono ?_; rintro e w2 ⟨rfl, rfl⟩))
  go_ret3
  exact ⟨rfl, hb⟩
theorem Mem_19 (w : World) : Calls Tryz.prog 37 #[.int .i64 19] w fun e w' => e = .returned (memV 19) ∧ Below w.heap.size w w' := by
  have hN : Hid (∀ W, Calls Tryz.prog 40 #[.int .i64 19] W fun e w' => e = .returned (.string { data := #[115, 104] }) ∧ Below W.heap.size W w') := Lib.hid fun W => by have h := R2Name_any 19 W; rw [show (opOf 19).name = [115, 104] by decide +kernel] at h; exact h
  have hF : Hid (∀ W, Calls Tryz.prog 39 #[.int .i64 19] W fun e w' => e = .returned (.int .i64 5) ∧ W = w') := Lib.hid fun W => R2Form_any 19 W
  rw [show memV 19 = .tuple #[.bool false, .bool true, .int .i64 2] by kernel_rfl]
  have x98 : ((({ data := #[115, 104] } : ByteArray).extract 1 2).toList == [98]) = false := by kernel_rfl
  have x104 : ((({ data := #[115, 104] } : ByteArray).extract 1 2).toList == [104]) = true := by kernel_rfl
  have x119 : ((({ data := #[115, 104] } : ByteArray).extract 1 2).toList == [119]) = false := by kernel_rfl
  go_enter Tryz.func37, Tryz.ntmps37
  go_wp2_with (first | (go_at_call 40; refine (hN.out _).mono ?_; rintro e w1 ⟨rfl, hb⟩) | (go_at_call 39; refine (hF.out _).mono ?_; rintro e w2 ⟨rfl, rfl⟩))
  go_ret3
  exact ⟨rfl, hb⟩
theorem Mem_20 (w : World) : Calls Tryz.prog 37 #[.int .i64 20] w fun e w' => e = .returned (memV 20) ∧ Below w.heap.size w w' := by
  have hN : Hid (∀ W, Calls Tryz.prog 40 #[.int .i64 20] W fun e w' => e = .returned (.string { data := #[115, 119] }) ∧ Below W.heap.size W w') := Lib.hid fun W => by have h := R2Name_any 20 W; rw [show (opOf 20).name = [115, 119] by decide +kernel] at h; exact h
  have hF : Hid (∀ W, Calls Tryz.prog 39 #[.int .i64 20] W fun e w' => e = .returned (.int .i64 5) ∧ W = w') := Lib.hid fun W => R2Form_any 20 W
  rw [show memV 20 = .tuple #[.bool false, .bool true, .int .i64 4] by kernel_rfl]
  have x98 : ((({ data := #[115, 119] } : ByteArray).extract 1 2).toList == [98]) = false := by kernel_rfl
  have x104 : ((({ data := #[115, 119] } : ByteArray).extract 1 2).toList == [104]) = false := by kernel_rfl
  have x119 : ((({ data := #[115, 119] } : ByteArray).extract 1 2).toList == [119]) = true := by kernel_rfl
  go_enter Tryz.func37, Tryz.ntmps37
  go_wp2_with (first | (go_at_call 40; refine (hN.out _).mono ?_; rintro e w1 ⟨rfl, hb⟩) | (go_at_call 39; refine (hF.out _).mono ?_; rintro e w2 ⟨rfl, rfl⟩))
  go_ret3
  exact ⟨rfl, hb⟩
theorem Mem_21 (w : World) : Calls Tryz.prog 37 #[.int .i64 21] w fun e w' => e = .returned (memV 21) ∧ Below w.heap.size w w' := by
  have hN : Hid (∀ W, Calls Tryz.prog 40 #[.int .i64 21] W fun e w' => e = .returned (.string { data := #[115, 100] }) ∧ Below W.heap.size W w') := Lib.hid fun W => by have h := R2Name_any 21 W; rw [show (opOf 21).name = [115, 100] by decide +kernel] at h; exact h
  have hF : Hid (∀ W, Calls Tryz.prog 39 #[.int .i64 21] W fun e w' => e = .returned (.int .i64 5) ∧ W = w') := Lib.hid fun W => R2Form_any 21 W
  rw [show memV 21 = .tuple #[.bool false, .bool true, .int .i64 8] by kernel_rfl]
  have x98 : ((({ data := #[115, 100] } : ByteArray).extract 1 2).toList == [98]) = false := by kernel_rfl
  have x104 : ((({ data := #[115, 100] } : ByteArray).extract 1 2).toList == [104]) = false := by kernel_rfl
  have x119 : ((({ data := #[115, 100] } : ByteArray).extract 1 2).toList == [119]) = false := by kernel_rfl
  go_enter Tryz.func37, Tryz.ntmps37
  go_wp2_with (first | (go_at_call 40; refine (hN.out _).mono ?_; rintro e w1 ⟨rfl, hb⟩) | (go_at_call 39; refine (hF.out _).mono ?_; rintro e w2 ⟨rfl, rfl⟩))
  go_ret3
  exact ⟨rfl, hb⟩
theorem Mem_66 (w : World) : Calls Tryz.prog 37 #[.int .i64 66] w fun e w' => e = .returned (memV 66) ∧ Below w.heap.size w w' := by
  have hN : Hid (∀ W, Calls Tryz.prog 40 #[.int .i64 66] W fun e w' => e = .returned (.string { data := #[108, 114, 46, 119] }) ∧ Below W.heap.size W w') := Lib.hid fun W => by have h := R2Name_any 66 W; rw [show (opOf 66).name = [108, 114, 46, 119] by decide +kernel] at h; exact h
  have hF : Hid (∀ W, Calls Tryz.prog 39 #[.int .i64 66] W fun e w' => e = .returned (.int .i64 11) ∧ W = w') := Lib.hid fun W => R2Form_any 66 W
  rw [show memV 66 = .tuple #[.bool true, .bool false, .int .i64 4] by kernel_rfl]
  have x119 : ((({ data := #[108, 114, 46, 119] } : ByteArray).extract 3 4).toList == [119]) = true := by kernel_rfl
  go_enter Tryz.func37, Tryz.ntmps37
  go_wp2_with (first | (go_at_call 40; refine (hN.out _).mono ?_; rintro e w1 ⟨rfl, hb⟩) | (go_at_call 39; refine (hF.out _).mono ?_; rintro e w2 ⟨rfl, rfl⟩))
  go_ret3
  exact ⟨rfl, hb⟩
theorem Mem_67 (w : World) : Calls Tryz.prog 37 #[.int .i64 67] w fun e w' => e = .returned (memV 67) ∧ Below w.heap.size w w' := by
  have hN : Hid (∀ W, Calls Tryz.prog 40 #[.int .i64 67] W fun e w' => e = .returned (.string { data := #[108, 114, 46, 100] }) ∧ Below W.heap.size W w') := Lib.hid fun W => by have h := R2Name_any 67 W; rw [show (opOf 67).name = [108, 114, 46, 100] by decide +kernel] at h; exact h
  have hF : Hid (∀ W, Calls Tryz.prog 39 #[.int .i64 67] W fun e w' => e = .returned (.int .i64 11) ∧ W = w') := Lib.hid fun W => R2Form_any 67 W
  rw [show memV 67 = .tuple #[.bool true, .bool false, .int .i64 8] by kernel_rfl]
  have x119 : ((({ data := #[108, 114, 46, 100] } : ByteArray).extract 3 4).toList == [119]) = false := by kernel_rfl
  go_enter Tryz.func37, Tryz.ntmps37
  go_wp2_with (first | (go_at_call 40; refine (hN.out _).mono ?_; rintro e w1 ⟨rfl, hb⟩) | (go_at_call 39; refine (hF.out _).mono ?_; rintro e w2 ⟨rfl, rfl⟩))
  go_ret3
  exact ⟨rfl, hb⟩
theorem Mem_68 (w : World) : Calls Tryz.prog 37 #[.int .i64 68] w fun e w' => e = .returned (memV 68) ∧ Below w.heap.size w w' := by
  have hN : Hid (∀ W, Calls Tryz.prog 40 #[.int .i64 68] W fun e w' => e = .returned (.string { data := #[115, 99, 46, 119] }) ∧ Below W.heap.size W w') := Lib.hid fun W => by have h := R2Name_any 68 W; rw [show (opOf 68).name = [115, 99, 46, 119] by decide +kernel] at h; exact h
  have hF : Hid (∀ W, Calls Tryz.prog 39 #[.int .i64 68] W fun e w' => e = .returned (.int .i64 12) ∧ W = w') := Lib.hid fun W => R2Form_any 68 W
  rw [show memV 68 = .tuple #[.bool false, .bool true, .int .i64 4] by kernel_rfl]
  have x119 : ((({ data := #[115, 99, 46, 119] } : ByteArray).extract 3 4).toList == [119]) = true := by kernel_rfl
  go_enter Tryz.func37, Tryz.ntmps37
  go_wp2_with (first | (go_at_call 40; refine (hN.out _).mono ?_; rintro e w1 ⟨rfl, hb⟩) | (go_at_call 39; refine (hF.out _).mono ?_; rintro e w2 ⟨rfl, rfl⟩))
  go_ret3
  exact ⟨rfl, hb⟩
theorem Mem_69 (w : World) : Calls Tryz.prog 37 #[.int .i64 69] w fun e w' => e = .returned (memV 69) ∧ Below w.heap.size w w' := by
  have hN : Hid (∀ W, Calls Tryz.prog 40 #[.int .i64 69] W fun e w' => e = .returned (.string { data := #[115, 99, 46, 100] }) ∧ Below W.heap.size W w') := Lib.hid fun W => by have h := R2Name_any 69 W; rw [show (opOf 69).name = [115, 99, 46, 100] by decide +kernel] at h; exact h
  have hF : Hid (∀ W, Calls Tryz.prog 39 #[.int .i64 69] W fun e w' => e = .returned (.int .i64 12) ∧ W = w') := Lib.hid fun W => R2Form_any 69 W
  rw [show memV 69 = .tuple #[.bool false, .bool true, .int .i64 8] by kernel_rfl]
  have x119 : ((({ data := #[115, 99, 46, 100] } : ByteArray).extract 3 4).toList == [119]) = false := by kernel_rfl
  go_enter Tryz.func37, Tryz.ntmps37
  go_wp2_with (first | (go_at_call 40; refine (hN.out _).mono ?_; rintro e w1 ⟨rfl, hb⟩) | (go_at_call 39; refine (hF.out _).mono ?_; rintro e w2 ⟨rfl, rfl⟩))
  go_ret3
  exact ⟨rfl, hb⟩
theorem Mem_70 (w : World) : Calls Tryz.prog 37 #[.int .i64 70] w fun e w' => e = .returned (memV 70) ∧ Below w.heap.size w w' := by
  have hN : Hid (∀ W, Calls Tryz.prog 40 #[.int .i64 70] W fun e w' => e = .returned (.string { data := #[97, 109, 111, 115, 119, 97, 112, 46, 119] }) ∧ Below W.heap.size W w') := Lib.hid fun W => by have h := R2Name_any 70 W; rw [show (opOf 70).name = [97, 109, 111, 115, 119, 97, 112, 46, 119] by decide +kernel] at h; exact h
  have hF : Hid (∀ W, Calls Tryz.prog 39 #[.int .i64 70] W fun e w' => e = .returned (.int .i64 12) ∧ W = w') := Lib.hid fun W => R2Form_any 70 W
  rw [show memV 70 = .tuple #[.bool true, .bool true, .int .i64 4] by kernel_rfl]
  have x119 : ((({ data := #[97, 109, 111, 115, 119, 97, 112, 46, 119] } : ByteArray).extract 8 9).toList == [119]) = true := by kernel_rfl
  go_enter Tryz.func37, Tryz.ntmps37
  go_wp2_with (first | (go_at_call 40; refine (hN.out _).mono ?_; rintro e w1 ⟨rfl, hb⟩) | (go_at_call 39; refine (hF.out _).mono ?_; rintro e w2 ⟨rfl, rfl⟩))
  go_ret3
  exact ⟨rfl, hb⟩
theorem Mem_71 (w : World) : Calls Tryz.prog 37 #[.int .i64 71] w fun e w' => e = .returned (memV 71) ∧ Below w.heap.size w w' := by
  have hN : Hid (∀ W, Calls Tryz.prog 40 #[.int .i64 71] W fun e w' => e = .returned (.string { data := #[97, 109, 111, 97, 100, 100, 46, 119] }) ∧ Below W.heap.size W w') := Lib.hid fun W => by have h := R2Name_any 71 W; rw [show (opOf 71).name = [97, 109, 111, 97, 100, 100, 46, 119] by decide +kernel] at h; exact h
  have hF : Hid (∀ W, Calls Tryz.prog 39 #[.int .i64 71] W fun e w' => e = .returned (.int .i64 12) ∧ W = w') := Lib.hid fun W => R2Form_any 71 W
  rw [show memV 71 = .tuple #[.bool true, .bool true, .int .i64 4] by kernel_rfl]
  have x119 : ((({ data := #[97, 109, 111, 97, 100, 100, 46, 119] } : ByteArray).extract 7 8).toList == [119]) = true := by kernel_rfl
  go_enter Tryz.func37, Tryz.ntmps37
  go_wp2_with (first | (go_at_call 40; refine (hN.out _).mono ?_; rintro e w1 ⟨rfl, hb⟩) | (go_at_call 39; refine (hF.out _).mono ?_; rintro e w2 ⟨rfl, rfl⟩))
  go_ret3
  exact ⟨rfl, hb⟩
theorem Mem_72 (w : World) : Calls Tryz.prog 37 #[.int .i64 72] w fun e w' => e = .returned (memV 72) ∧ Below w.heap.size w w' := by
  have hN : Hid (∀ W, Calls Tryz.prog 40 #[.int .i64 72] W fun e w' => e = .returned (.string { data := #[97, 109, 111, 120, 111, 114, 46, 119] }) ∧ Below W.heap.size W w') := Lib.hid fun W => by have h := R2Name_any 72 W; rw [show (opOf 72).name = [97, 109, 111, 120, 111, 114, 46, 119] by decide +kernel] at h; exact h
  have hF : Hid (∀ W, Calls Tryz.prog 39 #[.int .i64 72] W fun e w' => e = .returned (.int .i64 12) ∧ W = w') := Lib.hid fun W => R2Form_any 72 W
  rw [show memV 72 = .tuple #[.bool true, .bool true, .int .i64 4] by kernel_rfl]
  have x119 : ((({ data := #[97, 109, 111, 120, 111, 114, 46, 119] } : ByteArray).extract 7 8).toList == [119]) = true := by kernel_rfl
  go_enter Tryz.func37, Tryz.ntmps37
  go_wp2_with (first | (go_at_call 40; refine (hN.out _).mono ?_; rintro e w1 ⟨rfl, hb⟩) | (go_at_call 39; refine (hF.out _).mono ?_; rintro e w2 ⟨rfl, rfl⟩))
  go_ret3
  exact ⟨rfl, hb⟩
theorem Mem_73 (w : World) : Calls Tryz.prog 37 #[.int .i64 73] w fun e w' => e = .returned (memV 73) ∧ Below w.heap.size w w' := by
  have hN : Hid (∀ W, Calls Tryz.prog 40 #[.int .i64 73] W fun e w' => e = .returned (.string { data := #[97, 109, 111, 97, 110, 100, 46, 119] }) ∧ Below W.heap.size W w') := Lib.hid fun W => by have h := R2Name_any 73 W; rw [show (opOf 73).name = [97, 109, 111, 97, 110, 100, 46, 119] by decide +kernel] at h; exact h
  have hF : Hid (∀ W, Calls Tryz.prog 39 #[.int .i64 73] W fun e w' => e = .returned (.int .i64 12) ∧ W = w') := Lib.hid fun W => R2Form_any 73 W
  rw [show memV 73 = .tuple #[.bool true, .bool true, .int .i64 4] by kernel_rfl]
  have x119 : ((({ data := #[97, 109, 111, 97, 110, 100, 46, 119] } : ByteArray).extract 7 8).toList == [119]) = true := by kernel_rfl
  go_enter Tryz.func37, Tryz.ntmps37
  go_wp2_with (first | (go_at_call 40; refine (hN.out _).mono ?_; rintro e w1 ⟨rfl, hb⟩) | (go_at_call 39; refine (hF.out _).mono ?_; rintro e w2 ⟨rfl, rfl⟩))
  go_ret3
  exact ⟨rfl, hb⟩
theorem Mem_74 (w : World) : Calls Tryz.prog 37 #[.int .i64 74] w fun e w' => e = .returned (memV 74) ∧ Below w.heap.size w w' := by
  have hN : Hid (∀ W, Calls Tryz.prog 40 #[.int .i64 74] W fun e w' => e = .returned (.string { data := #[97, 109, 111, 111, 114, 46, 119] }) ∧ Below W.heap.size W w') := Lib.hid fun W => by have h := R2Name_any 74 W; rw [show (opOf 74).name = [97, 109, 111, 111, 114, 46, 119] by decide +kernel] at h; exact h
  have hF : Hid (∀ W, Calls Tryz.prog 39 #[.int .i64 74] W fun e w' => e = .returned (.int .i64 12) ∧ W = w') := Lib.hid fun W => R2Form_any 74 W
  rw [show memV 74 = .tuple #[.bool true, .bool true, .int .i64 4] by kernel_rfl]
  have x119 : ((({ data := #[97, 109, 111, 111, 114, 46, 119] } : ByteArray).extract 6 7).toList == [119]) = true := by kernel_rfl
  go_enter Tryz.func37, Tryz.ntmps37
  go_wp2_with (first | (go_at_call 40; refine (hN.out _).mono ?_; rintro e w1 ⟨rfl, hb⟩) | (go_at_call 39; refine (hF.out _).mono ?_; rintro e w2 ⟨rfl, rfl⟩))
  go_ret3
  exact ⟨rfl, hb⟩
theorem Mem_75 (w : World) : Calls Tryz.prog 37 #[.int .i64 75] w fun e w' => e = .returned (memV 75) ∧ Below w.heap.size w w' := by
  have hN : Hid (∀ W, Calls Tryz.prog 40 #[.int .i64 75] W fun e w' => e = .returned (.string { data := #[97, 109, 111, 109, 105, 110, 46, 119] }) ∧ Below W.heap.size W w') := Lib.hid fun W => by have h := R2Name_any 75 W; rw [show (opOf 75).name = [97, 109, 111, 109, 105, 110, 46, 119] by decide +kernel] at h; exact h
  have hF : Hid (∀ W, Calls Tryz.prog 39 #[.int .i64 75] W fun e w' => e = .returned (.int .i64 12) ∧ W = w') := Lib.hid fun W => R2Form_any 75 W
  rw [show memV 75 = .tuple #[.bool true, .bool true, .int .i64 4] by kernel_rfl]
  have x119 : ((({ data := #[97, 109, 111, 109, 105, 110, 46, 119] } : ByteArray).extract 7 8).toList == [119]) = true := by kernel_rfl
  go_enter Tryz.func37, Tryz.ntmps37
  go_wp2_with (first | (go_at_call 40; refine (hN.out _).mono ?_; rintro e w1 ⟨rfl, hb⟩) | (go_at_call 39; refine (hF.out _).mono ?_; rintro e w2 ⟨rfl, rfl⟩))
  go_ret3
  exact ⟨rfl, hb⟩
theorem Mem_76 (w : World) : Calls Tryz.prog 37 #[.int .i64 76] w fun e w' => e = .returned (memV 76) ∧ Below w.heap.size w w' := by
  have hN : Hid (∀ W, Calls Tryz.prog 40 #[.int .i64 76] W fun e w' => e = .returned (.string { data := #[97, 109, 111, 109, 97, 120, 46, 119] }) ∧ Below W.heap.size W w') := Lib.hid fun W => by have h := R2Name_any 76 W; rw [show (opOf 76).name = [97, 109, 111, 109, 97, 120, 46, 119] by decide +kernel] at h; exact h
  have hF : Hid (∀ W, Calls Tryz.prog 39 #[.int .i64 76] W fun e w' => e = .returned (.int .i64 12) ∧ W = w') := Lib.hid fun W => R2Form_any 76 W
  rw [show memV 76 = .tuple #[.bool true, .bool true, .int .i64 4] by kernel_rfl]
  have x119 : ((({ data := #[97, 109, 111, 109, 97, 120, 46, 119] } : ByteArray).extract 7 8).toList == [119]) = true := by kernel_rfl
  go_enter Tryz.func37, Tryz.ntmps37
  go_wp2_with (first | (go_at_call 40; refine (hN.out _).mono ?_; rintro e w1 ⟨rfl, hb⟩) | (go_at_call 39; refine (hF.out _).mono ?_; rintro e w2 ⟨rfl, rfl⟩))
  go_ret3
  exact ⟨rfl, hb⟩
theorem Mem_77 (w : World) : Calls Tryz.prog 37 #[.int .i64 77] w fun e w' => e = .returned (memV 77) ∧ Below w.heap.size w w' := by
  have hN : Hid (∀ W, Calls Tryz.prog 40 #[.int .i64 77] W fun e w' => e = .returned (.string { data := #[97, 109, 111, 109, 105, 110, 117, 46, 119] }) ∧ Below W.heap.size W w') := Lib.hid fun W => by have h := R2Name_any 77 W; rw [show (opOf 77).name = [97, 109, 111, 109, 105, 110, 117, 46, 119] by decide +kernel] at h; exact h
  have hF : Hid (∀ W, Calls Tryz.prog 39 #[.int .i64 77] W fun e w' => e = .returned (.int .i64 12) ∧ W = w') := Lib.hid fun W => R2Form_any 77 W
  rw [show memV 77 = .tuple #[.bool true, .bool true, .int .i64 4] by kernel_rfl]
  have x119 : ((({ data := #[97, 109, 111, 109, 105, 110, 117, 46, 119] } : ByteArray).extract 8 9).toList == [119]) = true := by kernel_rfl
  go_enter Tryz.func37, Tryz.ntmps37
  go_wp2_with (first | (go_at_call 40; refine (hN.out _).mono ?_; rintro e w1 ⟨rfl, hb⟩) | (go_at_call 39; refine (hF.out _).mono ?_; rintro e w2 ⟨rfl, rfl⟩))
  go_ret3
  exact ⟨rfl, hb⟩
theorem Mem_78 (w : World) : Calls Tryz.prog 37 #[.int .i64 78] w fun e w' => e = .returned (memV 78) ∧ Below w.heap.size w w' := by
  have hN : Hid (∀ W, Calls Tryz.prog 40 #[.int .i64 78] W fun e w' => e = .returned (.string { data := #[97, 109, 111, 109, 97, 120, 117, 46, 119] }) ∧ Below W.heap.size W w') := Lib.hid fun W => by have h := R2Name_any 78 W; rw [show (opOf 78).name = [97, 109, 111, 109, 97, 120, 117, 46, 119] by decide +kernel] at h; exact h
  have hF : Hid (∀ W, Calls Tryz.prog 39 #[.int .i64 78] W fun e w' => e = .returned (.int .i64 12) ∧ W = w') := Lib.hid fun W => R2Form_any 78 W
  rw [show memV 78 = .tuple #[.bool true, .bool true, .int .i64 4] by kernel_rfl]
  have x119 : ((({ data := #[97, 109, 111, 109, 97, 120, 117, 46, 119] } : ByteArray).extract 8 9).toList == [119]) = true := by kernel_rfl
  go_enter Tryz.func37, Tryz.ntmps37
  go_wp2_with (first | (go_at_call 40; refine (hN.out _).mono ?_; rintro e w1 ⟨rfl, hb⟩) | (go_at_call 39; refine (hF.out _).mono ?_; rintro e w2 ⟨rfl, rfl⟩))
  go_ret3
  exact ⟨rfl, hb⟩
theorem Mem_79 (w : World) : Calls Tryz.prog 37 #[.int .i64 79] w fun e w' => e = .returned (memV 79) ∧ Below w.heap.size w w' := by
  have hN : Hid (∀ W, Calls Tryz.prog 40 #[.int .i64 79] W fun e w' => e = .returned (.string { data := #[97, 109, 111, 115, 119, 97, 112, 46, 100] }) ∧ Below W.heap.size W w') := Lib.hid fun W => by have h := R2Name_any 79 W; rw [show (opOf 79).name = [97, 109, 111, 115, 119, 97, 112, 46, 100] by decide +kernel] at h; exact h
  have hF : Hid (∀ W, Calls Tryz.prog 39 #[.int .i64 79] W fun e w' => e = .returned (.int .i64 12) ∧ W = w') := Lib.hid fun W => R2Form_any 79 W
  rw [show memV 79 = .tuple #[.bool true, .bool true, .int .i64 8] by kernel_rfl]
  have x119 : ((({ data := #[97, 109, 111, 115, 119, 97, 112, 46, 100] } : ByteArray).extract 8 9).toList == [119]) = false := by kernel_rfl
  go_enter Tryz.func37, Tryz.ntmps37
  go_wp2_with (first | (go_at_call 40; refine (hN.out _).mono ?_; rintro e w1 ⟨rfl, hb⟩) | (go_at_call 39; refine (hF.out _).mono ?_; rintro e w2 ⟨rfl, rfl⟩))
  go_ret3
  exact ⟨rfl, hb⟩
theorem Mem_80 (w : World) : Calls Tryz.prog 37 #[.int .i64 80] w fun e w' => e = .returned (memV 80) ∧ Below w.heap.size w w' := by
  have hN : Hid (∀ W, Calls Tryz.prog 40 #[.int .i64 80] W fun e w' => e = .returned (.string { data := #[97, 109, 111, 97, 100, 100, 46, 100] }) ∧ Below W.heap.size W w') := Lib.hid fun W => by have h := R2Name_any 80 W; rw [show (opOf 80).name = [97, 109, 111, 97, 100, 100, 46, 100] by decide +kernel] at h; exact h
  have hF : Hid (∀ W, Calls Tryz.prog 39 #[.int .i64 80] W fun e w' => e = .returned (.int .i64 12) ∧ W = w') := Lib.hid fun W => R2Form_any 80 W
  rw [show memV 80 = .tuple #[.bool true, .bool true, .int .i64 8] by kernel_rfl]
  have x119 : ((({ data := #[97, 109, 111, 97, 100, 100, 46, 100] } : ByteArray).extract 7 8).toList == [119]) = false := by kernel_rfl
  go_enter Tryz.func37, Tryz.ntmps37
  go_wp2_with (first | (go_at_call 40; refine (hN.out _).mono ?_; rintro e w1 ⟨rfl, hb⟩) | (go_at_call 39; refine (hF.out _).mono ?_; rintro e w2 ⟨rfl, rfl⟩))
  go_ret3
  exact ⟨rfl, hb⟩
theorem Mem_81 (w : World) : Calls Tryz.prog 37 #[.int .i64 81] w fun e w' => e = .returned (memV 81) ∧ Below w.heap.size w w' := by
  have hN : Hid (∀ W, Calls Tryz.prog 40 #[.int .i64 81] W fun e w' => e = .returned (.string { data := #[97, 109, 111, 120, 111, 114, 46, 100] }) ∧ Below W.heap.size W w') := Lib.hid fun W => by have h := R2Name_any 81 W; rw [show (opOf 81).name = [97, 109, 111, 120, 111, 114, 46, 100] by decide +kernel] at h; exact h
  have hF : Hid (∀ W, Calls Tryz.prog 39 #[.int .i64 81] W fun e w' => e = .returned (.int .i64 12) ∧ W = w') := Lib.hid fun W => R2Form_any 81 W
  rw [show memV 81 = .tuple #[.bool true, .bool true, .int .i64 8] by kernel_rfl]
  have x119 : ((({ data := #[97, 109, 111, 120, 111, 114, 46, 100] } : ByteArray).extract 7 8).toList == [119]) = false := by kernel_rfl
  go_enter Tryz.func37, Tryz.ntmps37
  go_wp2_with (first | (go_at_call 40; refine (hN.out _).mono ?_; rintro e w1 ⟨rfl, hb⟩) | (go_at_call 39; refine (hF.out _).mono ?_; rintro e w2 ⟨rfl, rfl⟩))
  go_ret3
  exact ⟨rfl, hb⟩
theorem Mem_82 (w : World) : Calls Tryz.prog 37 #[.int .i64 82] w fun e w' => e = .returned (memV 82) ∧ Below w.heap.size w w' := by
  have hN : Hid (∀ W, Calls Tryz.prog 40 #[.int .i64 82] W fun e w' => e = .returned (.string { data := #[97, 109, 111, 97, 110, 100, 46, 100] }) ∧ Below W.heap.size W w') := Lib.hid fun W => by have h := R2Name_any 82 W; rw [show (opOf 82).name = [97, 109, 111, 97, 110, 100, 46, 100] by decide +kernel] at h; exact h
  have hF : Hid (∀ W, Calls Tryz.prog 39 #[.int .i64 82] W fun e w' => e = .returned (.int .i64 12) ∧ W = w') := Lib.hid fun W => R2Form_any 82 W
  rw [show memV 82 = .tuple #[.bool true, .bool true, .int .i64 8] by kernel_rfl]
  have x119 : ((({ data := #[97, 109, 111, 97, 110, 100, 46, 100] } : ByteArray).extract 7 8).toList == [119]) = false := by kernel_rfl
  go_enter Tryz.func37, Tryz.ntmps37
  go_wp2_with (first | (go_at_call 40; refine (hN.out _).mono ?_; rintro e w1 ⟨rfl, hb⟩) | (go_at_call 39; refine (hF.out _).mono ?_; rintro e w2 ⟨rfl, rfl⟩))
  go_ret3
  exact ⟨rfl, hb⟩
theorem Mem_83 (w : World) : Calls Tryz.prog 37 #[.int .i64 83] w fun e w' => e = .returned (memV 83) ∧ Below w.heap.size w w' := by
  have hN : Hid (∀ W, Calls Tryz.prog 40 #[.int .i64 83] W fun e w' => e = .returned (.string { data := #[97, 109, 111, 111, 114, 46, 100] }) ∧ Below W.heap.size W w') := Lib.hid fun W => by have h := R2Name_any 83 W; rw [show (opOf 83).name = [97, 109, 111, 111, 114, 46, 100] by decide +kernel] at h; exact h
  have hF : Hid (∀ W, Calls Tryz.prog 39 #[.int .i64 83] W fun e w' => e = .returned (.int .i64 12) ∧ W = w') := Lib.hid fun W => R2Form_any 83 W
  rw [show memV 83 = .tuple #[.bool true, .bool true, .int .i64 8] by kernel_rfl]
  have x119 : ((({ data := #[97, 109, 111, 111, 114, 46, 100] } : ByteArray).extract 6 7).toList == [119]) = false := by kernel_rfl
  go_enter Tryz.func37, Tryz.ntmps37
  go_wp2_with (first | (go_at_call 40; refine (hN.out _).mono ?_; rintro e w1 ⟨rfl, hb⟩) | (go_at_call 39; refine (hF.out _).mono ?_; rintro e w2 ⟨rfl, rfl⟩))
  go_ret3
  exact ⟨rfl, hb⟩
theorem Mem_84 (w : World) : Calls Tryz.prog 37 #[.int .i64 84] w fun e w' => e = .returned (memV 84) ∧ Below w.heap.size w w' := by
  have hN : Hid (∀ W, Calls Tryz.prog 40 #[.int .i64 84] W fun e w' => e = .returned (.string { data := #[97, 109, 111, 109, 105, 110, 46, 100] }) ∧ Below W.heap.size W w') := Lib.hid fun W => by have h := R2Name_any 84 W; rw [show (opOf 84).name = [97, 109, 111, 109, 105, 110, 46, 100] by decide +kernel] at h; exact h
  have hF : Hid (∀ W, Calls Tryz.prog 39 #[.int .i64 84] W fun e w' => e = .returned (.int .i64 12) ∧ W = w') := Lib.hid fun W => R2Form_any 84 W
  rw [show memV 84 = .tuple #[.bool true, .bool true, .int .i64 8] by kernel_rfl]
  have x119 : ((({ data := #[97, 109, 111, 109, 105, 110, 46, 100] } : ByteArray).extract 7 8).toList == [119]) = false := by kernel_rfl
  go_enter Tryz.func37, Tryz.ntmps37
  go_wp2_with (first | (go_at_call 40; refine (hN.out _).mono ?_; rintro e w1 ⟨rfl, hb⟩) | (go_at_call 39; refine (hF.out _).mono ?_; rintro e w2 ⟨rfl, rfl⟩))
  go_ret3
  exact ⟨rfl, hb⟩
theorem Mem_85 (w : World) : Calls Tryz.prog 37 #[.int .i64 85] w fun e w' => e = .returned (memV 85) ∧ Below w.heap.size w w' := by
  have hN : Hid (∀ W, Calls Tryz.prog 40 #[.int .i64 85] W fun e w' => e = .returned (.string { data := #[97, 109, 111, 109, 97, 120, 46, 100] }) ∧ Below W.heap.size W w') := Lib.hid fun W => by have h := R2Name_any 85 W; rw [show (opOf 85).name = [97, 109, 111, 109, 97, 120, 46, 100] by decide +kernel] at h; exact h
  have hF : Hid (∀ W, Calls Tryz.prog 39 #[.int .i64 85] W fun e w' => e = .returned (.int .i64 12) ∧ W = w') := Lib.hid fun W => R2Form_any 85 W
  rw [show memV 85 = .tuple #[.bool true, .bool true, .int .i64 8] by kernel_rfl]
  have x119 : ((({ data := #[97, 109, 111, 109, 97, 120, 46, 100] } : ByteArray).extract 7 8).toList == [119]) = false := by kernel_rfl
  go_enter Tryz.func37, Tryz.ntmps37
  go_wp2_with (first | (go_at_call 40; refine (hN.out _).mono ?_; rintro e w1 ⟨rfl, hb⟩) | (go_at_call 39; refine (hF.out _).mono ?_; rintro e w2 ⟨rfl, rfl⟩))
  go_ret3
  exact ⟨rfl, hb⟩
theorem Mem_86 (w : World) : Calls Tryz.prog 37 #[.int .i64 86] w fun e w' => e = .returned (memV 86) ∧ Below w.heap.size w w' := by
  have hN : Hid (∀ W, Calls Tryz.prog 40 #[.int .i64 86] W fun e w' => e = .returned (.string { data := #[97, 109, 111, 109, 105, 110, 117, 46, 100] }) ∧ Below W.heap.size W w') := Lib.hid fun W => by have h := R2Name_any 86 W; rw [show (opOf 86).name = [97, 109, 111, 109, 105, 110, 117, 46, 100] by decide +kernel] at h; exact h
  have hF : Hid (∀ W, Calls Tryz.prog 39 #[.int .i64 86] W fun e w' => e = .returned (.int .i64 12) ∧ W = w') := Lib.hid fun W => R2Form_any 86 W
  rw [show memV 86 = .tuple #[.bool true, .bool true, .int .i64 8] by kernel_rfl]
  have x119 : ((({ data := #[97, 109, 111, 109, 105, 110, 117, 46, 100] } : ByteArray).extract 8 9).toList == [119]) = false := by kernel_rfl
  go_enter Tryz.func37, Tryz.ntmps37
  go_wp2_with (first | (go_at_call 40; refine (hN.out _).mono ?_; rintro e w1 ⟨rfl, hb⟩) | (go_at_call 39; refine (hF.out _).mono ?_; rintro e w2 ⟨rfl, rfl⟩))
  go_ret3
  exact ⟨rfl, hb⟩
theorem Mem_87 (w : World) : Calls Tryz.prog 37 #[.int .i64 87] w fun e w' => e = .returned (memV 87) ∧ Below w.heap.size w w' := by
  have hN : Hid (∀ W, Calls Tryz.prog 40 #[.int .i64 87] W fun e w' => e = .returned (.string { data := #[97, 109, 111, 109, 97, 120, 117, 46, 100] }) ∧ Below W.heap.size W w') := Lib.hid fun W => by have h := R2Name_any 87 W; rw [show (opOf 87).name = [97, 109, 111, 109, 97, 120, 117, 46, 100] by decide +kernel] at h; exact h
  have hF : Hid (∀ W, Calls Tryz.prog 39 #[.int .i64 87] W fun e w' => e = .returned (.int .i64 12) ∧ W = w') := Lib.hid fun W => R2Form_any 87 W
  rw [show memV 87 = .tuple #[.bool true, .bool true, .int .i64 8] by kernel_rfl]
  have x119 : ((({ data := #[97, 109, 111, 109, 97, 120, 117, 46, 100] } : ByteArray).extract 8 9).toList == [119]) = false := by kernel_rfl
  go_enter Tryz.func37, Tryz.ntmps37
  go_wp2_with (first | (go_at_call 40; refine (hN.out _).mono ?_; rintro e w1 ⟨rfl, hb⟩) | (go_at_call 39; refine (hF.out _).mono ?_; rintro e w2 ⟨rfl, rfl⟩))
  go_ret3
  exact ⟨rfl, hb⟩
theorem Mem_none (n : Int) (h1 : rloads n = false) (h2 : rstores n = false) (w : World) : Calls Tryz.prog 37 #[.int .i64 n] w fun e w' => e = .returned (memV n) ∧ Below w.heap.size w w' := by
  have hV : memV n = .tuple #[.bool false, .bool false, .int .i64 0] := by
    obtain ⟨e1, e2, e3⟩ := rmem_eq n
    unfold memV; rw [e1, e2, e3 h1 h2, h1, h2]
  rw [hV]
  clear hV
  have hN : Hid (∀ W, Calls Tryz.prog 40 #[.int .i64 n] W fun e w' => e = .returned (strV (opOf n).name) ∧ Below W.heap.size W w') := Lib.hid fun W => R2Name_any n W
  have hF : Hid (∀ W, Calls Tryz.prog 39 #[.int .i64 n] W fun e w' => e = .returned (.int .i64 (rform n)) ∧ W = w') := Lib.hid fun W => R2Form_any n W
  generalize strV (opOf n).name = s at hN
  obtain ⟨t4, t5, t11, t12⟩ : (rform n == 4) = false ∧ (rform n == 5) = false ∧ (rform n == 11) = false ∧ (rform n == 12) = false := by
    unfold rloads at h1; unfold rstores at h2; simp only [Bool.or_eq_false_iff] at h1 h2
    exact ⟨h1.1.1, h2.1, h1.1.2, h2.2⟩
  generalize rform n = f at hF t4 t5 t11 t12
  clear h1 h2
  have hund : ∀ b : Bool, (some undef = some (Value.bool b)) = False := fun b => by simp [undef]
  go_enter Tryz.func37, Tryz.ntmps37
  go_wp2_with (first | (go_at_call 40; refine (hN.out _).mono ?_; rintro e w1 ⟨rfl, hb⟩) | (go_at_call 39; refine (hF.out _).mono ?_; rintro e w2 ⟨rfl, rfl⟩))
  go_ret3
  exact ⟨rfl, hb⟩
theorem mem_ops : ((List.range 88).all fun n => !(rloads (n : Int) || rstores (n : Int)) || [11, 12, 13, 14, 15, 16, 17, 18, 19, 20, 21, 66, 67, 68, 69, 70, 71, 72, 73, 74, 75, 76, 77, 78, 79, 80, 81, 82, 83, 84, 85, 86, 87].contains n) = true := by decide +kernel
theorem R2Mem_any (n : Int) (w : World) : Calls Tryz.prog 37 #[.int .i64 n] w fun e w' => e = .returned (memV n) ∧ Below w.heap.size w w' := by
  by_cases h : rloads n = false ∧ rstores n = false
  · exact Mem_none n h.1 h.2 w
  · have hr : 0 ≤ n ∧ n < 88 := by
      by_cases h0 : n < 1 ∨ 87 < n
      · have hf : rform n = 0 := by unfold rform; rw [if_pos h0]
        exact absurd ⟨by unfold rloads; rw [hf]; rfl, by unfold rstores; rw [hf]; rfl⟩ h
      · omega
    obtain ⟨k, rfl⟩ := Int.eq_ofNat_of_zero_le hr.1
    have hk := List.all_eq_true.1 mem_ops k (List.mem_range.2 (by omega))
    have hm : k ∈ [11, 12, 13, 14, 15, 16, 17, 18, 19, 20, 21, 66, 67, 68, 69, 70, 71, 72, 73, 74, 75, 76, 77, 78, 79, 80, 81, 82, 83, 84, 85, 86, 87] := by
      rcases Bool.or_eq_true_iff.1 hk with h1 | h1
      · simp only [Bool.not_eq_true', Bool.or_eq_false_iff] at h1; exact absurd h1 h
      · simpa using h1
    simp only [List.mem_cons, List.not_mem_nil, or_false] at hm
    rcases hm with rfl | rfl | rfl | rfl | rfl | rfl | rfl | rfl | rfl | rfl | rfl | rfl | rfl | rfl | rfl | rfl | rfl | rfl | rfl | rfl | rfl | rfl | rfl | rfl | rfl | rfl | rfl | rfl | rfl | rfl | rfl | rfl | rfl
    · exact Mem_11 w
    · exact Mem_12 w
    · exact Mem_13 w
    · exact Mem_14 w
    · exact Mem_15 w
    · exact Mem_16 w
    · exact Mem_17 w
    · exact Mem_18 w
    · exact Mem_19 w
    · exact Mem_20 w
    · exact Mem_21 w
    · exact Mem_66 w
    · exact Mem_67 w
    · exact Mem_68 w
    · exact Mem_69 w
    · exact Mem_70 w
    · exact Mem_71 w
    · exact Mem_72 w
    · exact Mem_73 w
    · exact Mem_74 w
    · exact Mem_75 w
    · exact Mem_76 w
    · exact Mem_77 w
    · exact Mem_78 w
    · exact Mem_79 w
    · exact Mem_80 w
    · exact Mem_81 w
    · exact Mem_82 w
    · exact Mem_83 w
    · exact Mem_84 w
    · exact Mem_85 w
    · exact Mem_86 w
    · exact Mem_87 w
end Go.Proofs.YtdbpnbmaineniaaGreatDoor
