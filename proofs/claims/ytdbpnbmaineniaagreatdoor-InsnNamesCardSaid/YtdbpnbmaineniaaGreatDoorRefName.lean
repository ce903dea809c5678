/- The document's names of the ops: they are the program's. Conditions: none. -/
import Derived.Test.YtdbpnbmaineniaaGreatDoorRefForm
namespace Go.Proofs.YtdbpnbmaineniaaGreatDoor
open Go.RowKit
def rnames : List (List UInt8) := [[], [108, 117, 105], [97, 117, 105, 112, 99], [106, 97, 108], [106, 97, 108, 114], [98, 101, 113], [98, 110, 101], [98, 108, 116], [98, 103, 101], [98, 108, 116, 117], [98, 103, 101, 117], [108, 98], [108, 104], [108, 119], [108, 100], [108, 98, 117], [108, 104, 117], [108, 119, 117], [115, 98], [115, 104], [115, 119], [115, 100], [97, 100, 100, 105], [115, 108, 116, 105], [115, 108, 116, 105, 117], [120, 111, 114, 105], [111, 114, 105], [97, 110, 100, 105], [115, 108, 108, 105], [115, 114, 108, 105], [115, 114, 97, 105], [97, 100, 100, 105, 119], [115, 108, 108, 105, 119], [115, 114, 108, 105, 119], [115, 114, 97, 105, 119], [97, 100, 100], [115, 117, 98], [115, 108, 108], [115, 108, 116], [115, 108, 116, 117], [120, 111, 114], [115, 114, 108], [115, 114, 97], [111, 114], [97, 110, 100], [97, 100, 100, 119], [115, 117, 98, 119], [115, 108, 108, 119], [115, 114, 108, 119], [115, 114, 97, 119], [109, 117, 108], [109, 117, 108, 104], [109, 117, 108, 104, 115, 117], [109, 117, 108, 104, 117], [100, 105, 118], [100, 105, 118, 117], [114, 101, 109], [114, 101, 109, 117], [109, 117, 108, 119], [100, 105, 118, 119], [100, 105, 118, 117, 119], [114, 101, 109, 119], [114, 101, 109, 117, 119], [102, 101, 110, 99, 101], [101, 99, 97, 108, 108], [101, 98, 114, 101, 97, 107], [108, 114, 46, 119], [108, 114, 46, 100], [115, 99, 46, 119], [115, 99, 46, 100], [97, 109, 111, 115, 119, 97, 112, 46, 119], [97, 109, 111, 97, 100, 100, 46, 119], [97, 109, 111, 120, 111, 114, 46, 119], [97, 109, 111, 97, 110, 100, 46, 119], [97, 109, 111, 111, 114, 46, 119], [97, 109, 111, 109, 105, 110, 46, 119], [97, 109, 111, 109, 97, 120, 46, 119], [97, 109, 111, 109, 105, 110, 117, 46, 119], [97, 109, 111, 109, 97, 120, 117, 46, 119], [97, 109, 111, 115, 119, 97, 112, 46, 100], [97, 109, 111, 97, 100, 100, 46, 100], [97, 109, 111, 120, 111, 114, 46, 100], [97, 109, 111, 97, 110, 100, 46, 100], [97, 109, 111, 111, 114, 46, 100], [97, 109, 111, 109, 105, 110, 46, 100], [97, 109, 111, 109, 97, 120, 46, 100], [97, 109, 111, 109, 105, 110, 117, 46, 100], [97, 109, 111, 109, 97, 120, 117, 46, 100]]
def strV (l : List UInt8) : Value := .string ⟨l.toArray⟩
theorem rnames_all : ((List.range 88).all fun n => decide (rnames.getD n [] = (opOf (n : Int)).name)) = true := by decide +kernel
theorem rnames_len : rnames.length = 88 := rfl
theorem rnames_at (n : Nat) (h : n < 88) : rnames[n]? = some (opOf (n : Int)).name := by
  have := List.all_eq_true.1 rnames_all n (List.mem_range.2 h)
  rw [decide_eq_true_eq] at this
  rw [← this, List.getD]
  rw [List.getElem?_eq_getElem (by rw [rnames_len]; exact h)]; rfl
theorem name_none (n : Int) (h : n < 1 ∨ 87 < n) : (opOf n).name = [] := by
  rcases h with h | h
  · unfold opOf; rw [if_pos h]; rfl
  · rw [opOf_big n h]; rfl
set_option maxRecDepth 100000 in
set_option maxHeartbeats 4000000 in
theorem Names_any (w : World) : Calls Tryz.prog 102 #[] w fun e w' => (∃ g cap, e = .returned (.slice (some ⟨g, 0, none⟩) 88 cap) ∧ ∀ j : Nat, j < 88 → w'.cell? ⟨g, j, none⟩ = some (strV (opOf (j : Int)).name)) ∧ Below w.heap.size w w' := by
  go_enter Tryz.func102, Tryz.ntmps102
  go_wp2
  go_ret
  refine ⟨⟨w.heap.size, 88, rfl, ?_⟩, (Below.refl _ _).alloc (Nat.le_refl _) _⟩
  intro j hj
  rw [World.cell?_alloc_new]
  have hA : ∀ A : Array Value, A = (rnames.map strV).toArray → A[j]? = some (strV (opOf (j : Int)).name) := fun A h => by
    rw [h]; have e := rnames_at j hj; simp [e]
  exact hA _ (by kernel_rfl)
set_option maxHeartbeats 2000000 in
theorem R2Name_any (n : Int) (w : World) : Calls Tryz.prog 40 #[.int .i64 n] w fun e w' => e = .returned (strV (opOf n).name) ∧ Below w.heap.size w w' := by
  by_cases h : n < 1 ∨ 87 < n
  · have e := name_none n h
    have hf : rform n = 0 := by unfold rform; rw [if_pos h]
    rw [e]
    clear e h
    go_enter Tryz.func40, Tryz.ntmps40
    go_wp2_with (go_at_call 39; refine (R2Form_any n _).mono ?_; rintro e w1 ⟨rfl, rfl⟩; rw [hf])
    go_ret
    exact ⟨rfl, Below.refl _ _⟩
  · have h0 : ¬ rform n = 0 := by unfold rform; rw [if_neg h]; repeat' split
                                  all_goals omega
    have tb : (rform n == 0) = false := by rw [beq_eq_false_iff_ne]; exact h0
    obtain ⟨m, rfl⟩ := Int.eq_ofNat_of_zero_le (show 0 ≤ n by omega)
    have hm : m < 88 := by omega
    clear h h0
    generalize hs : (opOf (m : Int)).name = s
    have hs := Lib.hid hs
    have hF : Hid (∀ W, Calls Tryz.prog 39 #[.int .i64 (m : Int)] W fun e w' => e = .returned (.int .i64 (rform (m : Int))) ∧ W = w') := Lib.hid fun W => R2Form_any (m : Int) W
    generalize rform (m : Int) = f at tb hF
    go_enter Tryz.func40, Tryz.ntmps40
    go_wp2_with (first | (go_at_call 39; go_loud (refine (hF.out _).mono ?_; rintro e w1 ⟨rfl, rfl⟩)) | (go_at_call 102; go_loud (refine (Names_any _).mono ?_; rintro e w2 ⟨⟨g, cap, rfl, hc⟩, hb⟩; have hc1 := hc m hm; rw [hs.out] at hc1; clear hc)))
    go_ret
    exact ⟨rfl, hb⟩
end Go.Proofs.YtdbpnbmaineniaaGreatDoor
