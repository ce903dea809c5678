/- The walk of the document's Check at form 6. The walk of the document's Check at form 7. The walk of the document's Check at form 8. Conditions: as each theorem says. -/
import Derived.Test.YtcgflnkgekkidaaGreatDoorRefFC
import Derived.Test.YtcgflnkgekkidaaGreatDoorInsnKn
import Derived.BigQuiet
import Derived.Deep.QuietTactic
namespace Go.Proofs.YtcgflnkgekkidaaGreatDoor
open Go.RowKit
attribute [local irreducible] Fits
set_option maxRecDepth 100000 in
set_option maxHeartbeats 8000000 in
theorem R2Check_6 (op rd rs1 rs2 imm : Int) (aq rl : Bool) (pred succ : Int) (hf : rform op = 6) (sh : Bool) (hE0 : Hid (∀ rd rs1 rs2 imm aq rl pred succ, checkE ⟨op, rd, rs1, rs2, imm, aq, rl, pred, succ⟩ = if formOk 6 sh ⟨op, rd, rs1, rs2, imm, aq, rl, pred, succ⟩ then 0 else 2)) (w : World) :
    Calls Tryz.prog 65 #[.agg #[.int .i64 op, .int .i64 rd, .int .i64 rs1, .int .i64 rs2, .int .i64 imm, .bool aq, .bool rl, .int .i64 pred, .int .i64 succ]] w fun e w' => e = .returned (.int .i64 (checkE ⟨op, rd, rs1, rs2, imm, aq, rl, pred, succ⟩)) ∧ Below w.heap.size w w' := by
  have hF := Lib.hid (fun w => R2Form_any op w)
  rw [hf] at hF
  have hN := Lib.hid (fun n w => R2number_6 op n hf w)
  clear hf
  have hund : ∀ b : Bool, (some undef = some (Value.bool b)) = False := fun b => by simp [undef]
  go_enter Tryz.func65, Tryz.ntmps65
  go_upto_region 16 with (first | (go_at_call 46; refine (hF.out _).mono ?_; rintro e w1 ⟨rfl, rfl⟩) | (go_at_call 96; refine (R2has_6 _).mono ?_; rintro e w1 ⟨rfl, rfl⟩))
  by_cases hz : rd = 0 ∧ aq = false ∧ rl = false ∧ pred = 0 ∧ succ = 0
  · obtain ⟨rfl, rfl, rfl, rfl, rfl⟩ := hz
    rcases (show rs1 < 0 ∨ 31 < rs1 ∨ (0 ≤ rs1 ∧ rs1 ≤ 31) by omega) with g_rs1 | g_rs1 | ⟨g_rs1, g'_rs1⟩
    · have b_rs1 : regBad rs1 = true := by simp [regBad]; omega
      have hE : Hid (_ = (2 : Int)) := Lib.hid ((hE0.out 0 rs1 rs2 imm false false 0 0).trans (by simp [formOk, badIn, b_rs1]))
      go_wp2_with ((go_at_call 97; refine (hN.out _ _).mono ?_; rintro e w1 ⟨rfl, rfl⟩))
      all_goals go_ret
      all_goals exact ⟨ret_int (by rw [hE.out]), (by first | exact ((Below.refl _ _).alloc (Nat.le_refl _) _).alloc (by simp) _ | exact (((Below.refl _ _).alloc (Nat.le_refl _) _).alloc (by simp) _).drew | exact (((Below.refl _ _).alloc (Nat.le_refl _) _).alloc (by simp) _).trans ⟨rfl, rfl, rfl, Nat.le_refl _, fun _ _ => rfl⟩ | exact (((Below.refl _ _).alloc (Nat.le_refl _) _).alloc (by simp) _).drew.trans ⟨rfl, rfl, rfl, Nat.le_refl _, fun _ _ => rfl⟩)⟩
    · have b_rs1 : regBad rs1 = true := by simp [regBad]; omega
      have hE : Hid (_ = (2 : Int)) := Lib.hid ((hE0.out 0 rs1 rs2 imm false false 0 0).trans (by simp [formOk, badIn, b_rs1]))
      go_wp2_with ((go_at_call 97; refine (hN.out _ _).mono ?_; rintro e w1 ⟨rfl, rfl⟩))
      all_goals go_ret
      all_goals exact ⟨ret_int (by rw [hE.out]), (by first | exact ((Below.refl _ _).alloc (Nat.le_refl _) _).alloc (by simp) _ | exact (((Below.refl _ _).alloc (Nat.le_refl _) _).alloc (by simp) _).drew | exact (((Below.refl _ _).alloc (Nat.le_refl _) _).alloc (by simp) _).trans ⟨rfl, rfl, rfl, Nat.le_refl _, fun _ _ => rfl⟩ | exact (((Below.refl _ _).alloc (Nat.le_refl _) _).alloc (by simp) _).drew.trans ⟨rfl, rfl, rfl, Nat.le_refl _, fun _ _ => rfl⟩)⟩
    · have b_rs1 : regBad rs1 = false := by simp [regBad]; omega
      rcases (show rs2 < 0 ∨ 31 < rs2 ∨ (0 ≤ rs2 ∧ rs2 ≤ 31) by omega) with g_rs2 | g_rs2 | ⟨g_rs2, g'_rs2⟩
      · have b_rs2 : regBad rs2 = true := by simp [regBad]; omega
        have hE : Hid (_ = (2 : Int)) := Lib.hid ((hE0.out 0 rs1 rs2 imm false false 0 0).trans (by simp [formOk, badIn, b_rs1, b_rs2]))
        go_wp2_with ((go_at_call 97; refine (hN.out _ _).mono ?_; rintro e w1 ⟨rfl, rfl⟩))
        all_goals go_ret
        all_goals exact ⟨ret_int (by rw [hE.out]), (by first | exact ((Below.refl _ _).alloc (Nat.le_refl _) _).alloc (by simp) _ | exact (((Below.refl _ _).alloc (Nat.le_refl _) _).alloc (by simp) _).drew | exact (((Below.refl _ _).alloc (Nat.le_refl _) _).alloc (by simp) _).trans ⟨rfl, rfl, rfl, Nat.le_refl _, fun _ _ => rfl⟩ | exact (((Below.refl _ _).alloc (Nat.le_refl _) _).alloc (by simp) _).drew.trans ⟨rfl, rfl, rfl, Nat.le_refl _, fun _ _ => rfl⟩)⟩
      · have b_rs2 : regBad rs2 = true := by simp [regBad]; omega
        have hE : Hid (_ = (2 : Int)) := Lib.hid ((hE0.out 0 rs1 rs2 imm false false 0 0).trans (by simp [formOk, badIn, b_rs1, b_rs2]))
        go_wp2_with ((go_at_call 97; refine (hN.out _ _).mono ?_; rintro e w1 ⟨rfl, rfl⟩))
        all_goals go_ret
        all_goals exact ⟨ret_int (by rw [hE.out]), (by first | exact ((Below.refl _ _).alloc (Nat.le_refl _) _).alloc (by simp) _ | exact (((Below.refl _ _).alloc (Nat.le_refl _) _).alloc (by simp) _).drew | exact (((Below.refl _ _).alloc (Nat.le_refl _) _).alloc (by simp) _).trans ⟨rfl, rfl, rfl, Nat.le_refl _, fun _ _ => rfl⟩ | exact (((Below.refl _ _).alloc (Nat.le_refl _) _).alloc (by simp) _).drew.trans ⟨rfl, rfl, rfl, Nat.le_refl _, fun _ _ => rfl⟩)⟩
      · have b_rs2 : regBad rs2 = false := by simp [regBad]; omega
        cases hX : Fits imm 13 with
        | false =>
          have hE : Hid (_ = (2 : Int)) := Lib.hid ((hE0.out 0 rs1 rs2 imm false false 0 0).trans (by simp [formOk, badIn, b_rs1, b_rs2, hX]))
          go_wp2_with ((go_at_call 97; refine (hN.out _ _).mono ?_; rintro e w1 ⟨rfl, rfl⟩))
          all_goals go_ret
          all_goals exact ⟨ret_int (by rw [hE.out]), (by first | exact ((Below.refl _ _).alloc (Nat.le_refl _) _).alloc (by simp) _ | exact (((Below.refl _ _).alloc (Nat.le_refl _) _).alloc (by simp) _).drew | exact (((Below.refl _ _).alloc (Nat.le_refl _) _).alloc (by simp) _).trans ⟨rfl, rfl, rfl, Nat.le_refl _, fun _ _ => rfl⟩ | exact (((Below.refl _ _).alloc (Nat.le_refl _) _).alloc (by simp) _).drew.trans ⟨rfl, rfl, rfl, Nat.le_refl _, fun _ _ => rfl⟩)⟩
        | true =>
          cases hM : (imm.tmod 2 == 0) with
          | false =>
            have hE : Hid (_ = (2 : Int)) := Lib.hid ((hE0.out 0 rs1 rs2 imm false false 0 0).trans (by simp [formOk, badIn, b_rs1, b_rs2, hX, show ¬ imm.tmod 2 = 0 by simpa using hM]))
            go_wp2_with ((go_at_call 97; refine (hN.out _ _).mono ?_; rintro e w1 ⟨rfl, rfl⟩))
            all_goals go_ret
            all_goals exact ⟨ret_int (by rw [hE.out]), (by first | exact ((Below.refl _ _).alloc (Nat.le_refl _) _).alloc (by simp) _ | exact (((Below.refl _ _).alloc (Nat.le_refl _) _).alloc (by simp) _).drew | exact (((Below.refl _ _).alloc (Nat.le_refl _) _).alloc (by simp) _).trans ⟨rfl, rfl, rfl, Nat.le_refl _, fun _ _ => rfl⟩ | exact (((Below.refl _ _).alloc (Nat.le_refl _) _).alloc (by simp) _).drew.trans ⟨rfl, rfl, rfl, Nat.le_refl _, fun _ _ => rfl⟩)⟩
          | true =>
            have hE : Hid (_ = (0 : Int)) := Lib.hid ((hE0.out 0 rs1 rs2 imm false false 0 0).trans (by simp [formOk, badIn, b_rs1, b_rs2, hX, show imm.tmod 2 = 0 by simpa using hM]))
            go_wp2_with ((go_at_call 97; refine (hN.out _ _).mono ?_; rintro e w1 ⟨rfl, rfl⟩))
            all_goals go_ret
            all_goals exact ⟨ret_int (by rw [hE.out]), (by first | exact ((Below.refl _ _).alloc (Nat.le_refl _) _).alloc (by simp) _ | exact (((Below.refl _ _).alloc (Nat.le_refl _) _).alloc (by simp) _).drew | exact (((Below.refl _ _).alloc (Nat.le_refl _) _).alloc (by simp) _).trans ⟨rfl, rfl, rfl, Nat.le_refl _, fun _ _ => rfl⟩ | exact (((Below.refl _ _).alloc (Nat.le_refl _) _).alloc (by simp) _).drew.trans ⟨rfl, rfl, rfl, Nat.le_refl _, fun _ _ => rfl⟩)⟩
  · have hneq : ∀ w, (binOp .neq 26 (.agg #[.int .i64 op, .int .i64 0, .int .i64 rs1, .int .i64 rs2, .int .i64 imm, .bool false, .bool false, .int .i64 0, .int .i64 0]) (.agg #[.int .i64 op, .int .i64 rd, .int .i64 rs1, .int .i64 rs2, .int .i64 imm, .bool aq, .bool rl, .int .i64 pred, .int .i64 succ])).run Tryz.prog w = .ok (.bool true) w := fun w => (insn_neq ⟨op, 0, rs1, rs2, imm, false, false, 0, 0⟩ ⟨op, rd, rs1, rs2, imm, aq, rl, pred, succ⟩ w).trans (congrArg (fun b => Result.ok (Value.bool b) w) (decide_eq_true (fun h => hz (by cases h; simp))))
    have hE : Hid (_ = (2 : Int)) := Lib.hid ((hE0.out rd rs1 rs2 imm aq rl pred succ).trans (if_neg (fun h => hz (by simp [formOk] at h; simp [h]))))
    clear hz
    go_wp2_with ((go_at_call 97; refine (hN.out _ _).mono ?_; rintro e w1 ⟨rfl, rfl⟩))
    all_goals go_ret
    all_goals exact ⟨ret_int (by rw [hE.out]), (by first | exact ((Below.refl _ _).alloc (Nat.le_refl _) _).alloc (by simp) _ | exact (((Below.refl _ _).alloc (Nat.le_refl _) _).alloc (by simp) _).drew | exact (((Below.refl _ _).alloc (Nat.le_refl _) _).alloc (by simp) _).trans ⟨rfl, rfl, rfl, Nat.le_refl _, fun _ _ => rfl⟩ | exact (((Below.refl _ _).alloc (Nat.le_refl _) _).alloc (by simp) _).drew.trans ⟨rfl, rfl, rfl, Nat.le_refl _, fun _ _ => rfl⟩)⟩
end Go.Proofs.YtcgflnkgekkidaaGreatDoor
namespace Go.Proofs.YtcgflnkgekkidaaGreatDoor
open Go.RowKit
theorem num7_eq (op imm : Int) : (decide (0 ≤ imm) && decide (imm ≤ 63) && (!decide (32 ≤ op) || decide (imm ≤ 31))) = (decide (0 ≤ imm) && decide (imm ≤ if 32 ≤ op then 31 else 63)) := by
  by_cases h : 32 ≤ op
  · rw [if_pos h, Bool.eq_iff_iff]; simp [h]; omega
  · rw [if_neg h, Bool.eq_iff_iff]; simp; omega
set_option maxRecDepth 100000 in
set_option maxHeartbeats 8000000 in
theorem R2Check_7 (op rd rs1 rs2 imm : Int) (aq rl : Bool) (pred succ : Int) (hf : rform op = 7) (sh : Bool) (hsh : sh = decide (32 ≤ op)) (hE0 : Hid (∀ rd rs1 rs2 imm aq rl pred succ, checkE ⟨op, rd, rs1, rs2, imm, aq, rl, pred, succ⟩ = if formOk 7 sh ⟨op, rd, rs1, rs2, imm, aq, rl, pred, succ⟩ then 0 else 2)) (w : World) :
    Calls Tryz.prog 65 #[.agg #[.int .i64 op, .int .i64 rd, .int .i64 rs1, .int .i64 rs2, .int .i64 imm, .bool aq, .bool rl, .int .i64 pred, .int .i64 succ]] w fun e w' => e = .returned (.int .i64 (checkE ⟨op, rd, rs1, rs2, imm, aq, rl, pred, succ⟩)) ∧ Below w.heap.size w w' := by
  have hF := Lib.hid (fun w => R2Form_any op w)
  rw [hf] at hF
  have hN := Lib.hid (fun n w => R2number_7 op n hf w)
  clear hf
  have hund : ∀ b : Bool, (some undef = some (Value.bool b)) = False := fun b => by simp [undef]
  go_enter Tryz.func65, Tryz.ntmps65
  go_upto_region 16 with (first | (go_at_call 46; refine (hF.out _).mono ?_; rintro e w1 ⟨rfl, rfl⟩) | (go_at_call 96; refine (R2has_7 _).mono ?_; rintro e w1 ⟨rfl, rfl⟩))
  by_cases hz : rs2 = 0 ∧ aq = false ∧ rl = false ∧ pred = 0 ∧ succ = 0
  · obtain ⟨rfl, rfl, rfl, rfl, rfl⟩ := hz
    rcases (show rd < 0 ∨ 31 < rd ∨ (0 ≤ rd ∧ rd ≤ 31) by omega) with g_rd | g_rd | ⟨g_rd, g'_rd⟩
    · have b_rd : regBad rd = true := by simp [regBad]; omega
      have hE : Hid (_ = (2 : Int)) := Lib.hid ((hE0.out rd rs1 0 imm false false 0 0).trans (by subst hsh; simp only [formOk, Int.reduceEq, if_false, if_true, num7_eq]; simp [badIn, b_rd]))
      go_wp2_with ((go_at_call 97; refine (hN.out _ _).mono ?_; rintro e w1 ⟨rfl, rfl⟩))
      all_goals go_ret
      all_goals exact ⟨ret_int (by rw [hE.out]), (by first | exact ((Below.refl _ _).alloc (Nat.le_refl _) _).alloc (by simp) _ | exact (((Below.refl _ _).alloc (Nat.le_refl _) _).alloc (by simp) _).drew | exact (((Below.refl _ _).alloc (Nat.le_refl _) _).alloc (by simp) _).trans ⟨rfl, rfl, rfl, Nat.le_refl _, fun _ _ => rfl⟩ | exact (((Below.refl _ _).alloc (Nat.le_refl _) _).alloc (by simp) _).drew.trans ⟨rfl, rfl, rfl, Nat.le_refl _, fun _ _ => rfl⟩)⟩
    · have b_rd : regBad rd = true := by simp [regBad]; omega
      have hE : Hid (_ = (2 : Int)) := Lib.hid ((hE0.out rd rs1 0 imm false false 0 0).trans (by subst hsh; simp only [formOk, Int.reduceEq, if_false, if_true, num7_eq]; simp [badIn, b_rd]))
      go_wp2_with ((go_at_call 97; refine (hN.out _ _).mono ?_; rintro e w1 ⟨rfl, rfl⟩))
      all_goals go_ret
      all_goals exact ⟨ret_int (by rw [hE.out]), (by first | exact ((Below.refl _ _).alloc (Nat.le_refl _) _).alloc (by simp) _ | exact (((Below.refl _ _).alloc (Nat.le_refl _) _).alloc (by simp) _).drew | exact (((Below.refl _ _).alloc (Nat.le_refl _) _).alloc (by simp) _).trans ⟨rfl, rfl, rfl, Nat.le_refl _, fun _ _ => rfl⟩ | exact (((Below.refl _ _).alloc (Nat.le_refl _) _).alloc (by simp) _).drew.trans ⟨rfl, rfl, rfl, Nat.le_refl _, fun _ _ => rfl⟩)⟩
    · have b_rd : regBad rd = false := by simp [regBad]; omega
      rcases (show rs1 < 0 ∨ 31 < rs1 ∨ (0 ≤ rs1 ∧ rs1 ≤ 31) by omega) with g_rs1 | g_rs1 | ⟨g_rs1, g'_rs1⟩
      · have b_rs1 : regBad rs1 = true := by simp [regBad]; omega
        have hE : Hid (_ = (2 : Int)) := Lib.hid ((hE0.out rd rs1 0 imm false false 0 0).trans (by subst hsh; simp only [formOk, Int.reduceEq, if_false, if_true, num7_eq]; simp [badIn, b_rd, b_rs1]))
        go_wp2_with ((go_at_call 97; refine (hN.out _ _).mono ?_; rintro e w1 ⟨rfl, rfl⟩))
        all_goals go_ret
        all_goals exact ⟨ret_int (by rw [hE.out]), (by first | exact ((Below.refl _ _).alloc (Nat.le_refl _) _).alloc (by simp) _ | exact (((Below.refl _ _).alloc (Nat.le_refl _) _).alloc (by simp) _).drew | exact (((Below.refl _ _).alloc (Nat.le_refl _) _).alloc (by simp) _).trans ⟨rfl, rfl, rfl, Nat.le_refl _, fun _ _ => rfl⟩ | exact (((Below.refl _ _).alloc (Nat.le_refl _) _).alloc (by simp) _).drew.trans ⟨rfl, rfl, rfl, Nat.le_refl _, fun _ _ => rfl⟩)⟩
      · have b_rs1 : regBad rs1 = true := by simp [regBad]; omega
        have hE : Hid (_ = (2 : Int)) := Lib.hid ((hE0.out rd rs1 0 imm false false 0 0).trans (by subst hsh; simp only [formOk, Int.reduceEq, if_false, if_true, num7_eq]; simp [badIn, b_rd, b_rs1]))
        go_wp2_with ((go_at_call 97; refine (hN.out _ _).mono ?_; rintro e w1 ⟨rfl, rfl⟩))
        all_goals go_ret
        all_goals exact ⟨ret_int (by rw [hE.out]), (by first | exact ((Below.refl _ _).alloc (Nat.le_refl _) _).alloc (by simp) _ | exact (((Below.refl _ _).alloc (Nat.le_refl _) _).alloc (by simp) _).drew | exact (((Below.refl _ _).alloc (Nat.le_refl _) _).alloc (by simp) _).trans ⟨rfl, rfl, rfl, Nat.le_refl _, fun _ _ => rfl⟩ | exact (((Below.refl _ _).alloc (Nat.le_refl _) _).alloc (by simp) _).drew.trans ⟨rfl, rfl, rfl, Nat.le_refl _, fun _ _ => rfl⟩)⟩
      · have b_rs1 : regBad rs1 = false := by simp [regBad]; omega
        cases hX : (decide (0 ≤ imm) && decide (imm ≤ if 32 ≤ op then 31 else 63)) with
        | false =>
          have hE : Hid (_ = (2 : Int)) := Lib.hid ((hE0.out rd rs1 0 imm false false 0 0).trans (by subst hsh; simp only [formOk, Int.reduceEq, if_false, if_true, num7_eq]; simp [badIn, b_rd, b_rs1, hX]))
          go_wp2_with ((go_at_call 97; refine (hN.out _ _).mono ?_; rintro e w1 ⟨rfl, rfl⟩))
          all_goals go_ret
          all_goals exact ⟨ret_int (by rw [hE.out]), (by first | exact ((Below.refl _ _).alloc (Nat.le_refl _) _).alloc (by simp) _ | exact (((Below.refl _ _).alloc (Nat.le_refl _) _).alloc (by simp) _).drew | exact (((Below.refl _ _).alloc (Nat.le_refl _) _).alloc (by simp) _).trans ⟨rfl, rfl, rfl, Nat.le_refl _, fun _ _ => rfl⟩ | exact (((Below.refl _ _).alloc (Nat.le_refl _) _).alloc (by simp) _).drew.trans ⟨rfl, rfl, rfl, Nat.le_refl _, fun _ _ => rfl⟩)⟩
        | true =>
          have hE : Hid (_ = (0 : Int)) := Lib.hid ((hE0.out rd rs1 0 imm false false 0 0).trans (by subst hsh; simp only [formOk, Int.reduceEq, if_false, if_true, num7_eq]; simp [badIn, b_rd, b_rs1, hX]))
          go_wp2_with ((go_at_call 97; refine (hN.out _ _).mono ?_; rintro e w1 ⟨rfl, rfl⟩))
          all_goals go_ret
          all_goals exact ⟨ret_int (by rw [hE.out]), (by first | exact ((Below.refl _ _).alloc (Nat.le_refl _) _).alloc (by simp) _ | exact (((Below.refl _ _).alloc (Nat.le_refl _) _).alloc (by simp) _).drew | exact (((Below.refl _ _).alloc (Nat.le_refl _) _).alloc (by simp) _).trans ⟨rfl, rfl, rfl, Nat.le_refl _, fun _ _ => rfl⟩ | exact (((Below.refl _ _).alloc (Nat.le_refl _) _).alloc (by simp) _).drew.trans ⟨rfl, rfl, rfl, Nat.le_refl _, fun _ _ => rfl⟩)⟩
  · have hneq : ∀ w, (binOp .neq 26 (.agg #[.int .i64 op, .int .i64 rd, .int .i64 rs1, .int .i64 0, .int .i64 imm, .bool false, .bool false, .int .i64 0, .int .i64 0]) (.agg #[.int .i64 op, .int .i64 rd, .int .i64 rs1, .int .i64 rs2, .int .i64 imm, .bool aq, .bool rl, .int .i64 pred, .int .i64 succ])).run Tryz.prog w = .ok (.bool true) w := fun w => (insn_neq ⟨op, rd, rs1, 0, imm, false, false, 0, 0⟩ ⟨op, rd, rs1, rs2, imm, aq, rl, pred, succ⟩ w).trans (congrArg (fun b => Result.ok (Value.bool b) w) (decide_eq_true (fun h => hz (by cases h; simp))))
    have hE : Hid (_ = (2 : Int)) := Lib.hid ((hE0.out rd rs1 rs2 imm aq rl pred succ).trans (if_neg (fun h => hz (by simp [formOk] at h; simp [h]))))
    clear hz
    go_wp2_with ((go_at_call 97; refine (hN.out _ _).mono ?_; rintro e w1 ⟨rfl, rfl⟩))
    all_goals go_ret
    all_goals exact ⟨ret_int (by rw [hE.out]), (by first | exact ((Below.refl _ _).alloc (Nat.le_refl _) _).alloc (by simp) _ | exact (((Below.refl _ _).alloc (Nat.le_refl _) _).alloc (by simp) _).drew | exact (((Below.refl _ _).alloc (Nat.le_refl _) _).alloc (by simp) _).trans ⟨rfl, rfl, rfl, Nat.le_refl _, fun _ _ => rfl⟩ | exact (((Below.refl _ _).alloc (Nat.le_refl _) _).alloc (by simp) _).drew.trans ⟨rfl, rfl, rfl, Nat.le_refl _, fun _ _ => rfl⟩)⟩
end Go.Proofs.YtcgflnkgekkidaaGreatDoor
namespace Go.Proofs.YtcgflnkgekkidaaGreatDoor
open Go.RowKit
set_option maxRecDepth 100000 in
set_option maxHeartbeats 8000000 in
theorem R2Check_8 (op rd rs1 rs2 imm : Int) (aq rl : Bool) (pred succ : Int) (hf : rform op = 8) (sh : Bool) (hE0 : Hid (∀ rd rs1 rs2 imm aq rl pred succ, checkE ⟨op, rd, rs1, rs2, imm, aq, rl, pred, succ⟩ = if formOk 8 sh ⟨op, rd, rs1, rs2, imm, aq, rl, pred, succ⟩ then 0 else 2)) (w : World) :
    Calls Tryz.prog 65 #[.agg #[.int .i64 op, .int .i64 rd, .int .i64 rs1, .int .i64 rs2, .int .i64 imm, .bool aq, .bool rl, .int .i64 pred, .int .i64 succ]] w fun e w' => e = .returned (.int .i64 (checkE ⟨op, rd, rs1, rs2, imm, aq, rl, pred, succ⟩)) ∧ Below w.heap.size w w' := by
  have hF := Lib.hid (fun w => R2Form_any op w)
  rw [hf] at hF
  clear hf
  have hund : ∀ b : Bool, (some undef = some (Value.bool b)) = False := fun b => by simp [undef]
  go_enter Tryz.func65, Tryz.ntmps65
  go_upto_region 16 with (first | (go_at_call 46; refine (hF.out _).mono ?_; rintro e w1 ⟨rfl, rfl⟩) | (go_at_call 96; refine (R2has_8 _).mono ?_; rintro e w1 ⟨rfl, rfl⟩))
  by_cases hz : imm = 0 ∧ aq = false ∧ rl = false ∧ pred = 0 ∧ succ = 0
  · obtain ⟨rfl, rfl, rfl, rfl, rfl⟩ := hz
    rcases (show rd < 0 ∨ 31 < rd ∨ (0 ≤ rd ∧ rd ≤ 31) by omega) with g_rd | g_rd | ⟨g_rd, g'_rd⟩
    · have b_rd : regBad rd = true := by simp [regBad]; omega
      have hE : Hid (_ = (2 : Int)) := Lib.hid ((hE0.out rd rs1 rs2 0 false false 0 0).trans (by simp [formOk, badIn, b_rd]))
      go_wp2_with (fail)
      all_goals go_ret
      all_goals exact ⟨ret_int (by rw [hE.out]), (by first | exact ((Below.refl _ _).alloc (Nat.le_refl _) _).alloc (by simp) _ | exact (((Below.refl _ _).alloc (Nat.le_refl _) _).alloc (by simp) _).drew | exact (((Below.refl _ _).alloc (Nat.le_refl _) _).alloc (by simp) _).trans ⟨rfl, rfl, rfl, Nat.le_refl _, fun _ _ => rfl⟩ | exact (((Below.refl _ _).alloc (Nat.le_refl _) _).alloc (by simp) _).drew.trans ⟨rfl, rfl, rfl, Nat.le_refl _, fun _ _ => rfl⟩)⟩
    · have b_rd : regBad rd = true := by simp [regBad]; omega
      have hE : Hid (_ = (2 : Int)) := Lib.hid ((hE0.out rd rs1 rs2 0 false false 0 0).trans (by simp [formOk, badIn, b_rd]))
      go_wp2_with (fail)
      all_goals go_ret
      all_goals exact ⟨ret_int (by rw [hE.out]), (by first | exact ((Below.refl _ _).alloc (Nat.le_refl _) _).alloc (by simp) _ | exact (((Below.refl _ _).alloc (Nat.le_refl _) _).alloc (by simp) _).drew | exact (((Below.refl _ _).alloc (Nat.le_refl _) _).alloc (by simp) _).trans ⟨rfl, rfl, rfl, Nat.le_refl _, fun _ _ => rfl⟩ | exact (((Below.refl _ _).alloc (Nat.le_refl _) _).alloc (by simp) _).drew.trans ⟨rfl, rfl, rfl, Nat.le_refl _, fun _ _ => rfl⟩)⟩
    · have b_rd : regBad rd = false := by simp [regBad]; omega
      rcases (show rs1 < 0 ∨ 31 < rs1 ∨ (0 ≤ rs1 ∧ rs1 ≤ 31) by omega) with g_rs1 | g_rs1 | ⟨g_rs1, g'_rs1⟩
      · have b_rs1 : regBad rs1 = true := by simp [regBad]; omega
        have hE : Hid (_ = (2 : Int)) := Lib.hid ((hE0.out rd rs1 rs2 0 false false 0 0).trans (by simp [formOk, badIn, b_rd, b_rs1]))
        go_wp2_with (fail)
        all_goals go_ret
        all_goals exact ⟨ret_int (by rw [hE.out]), (by first | exact ((Below.refl _ _).alloc (Nat.le_refl _) _).alloc (by simp) _ | exact (((Below.refl _ _).alloc (Nat.le_refl _) _).alloc (by simp) _).drew | exact (((Below.refl _ _).alloc (Nat.le_refl _) _).alloc (by simp) _).trans ⟨rfl, rfl, rfl, Nat.le_refl _, fun _ _ => rfl⟩ | exact (((Below.refl _ _).alloc (Nat.le_refl _) _).alloc (by simp) _).drew.trans ⟨rfl, rfl, rfl, Nat.le_refl _, fun _ _ => rfl⟩)⟩
      · have b_rs1 : regBad rs1 = true := by simp [regBad]; omega
        have hE : Hid (_ = (2 : Int)) := Lib.hid ((hE0.out rd rs1 rs2 0 false false 0 0).trans (by simp [formOk, badIn, b_rd, b_rs1]))
        go_wp2_with (fail)
        all_goals go_ret
        all_goals exact ⟨ret_int (by rw [hE.out]), (by first | exact ((Below.refl _ _).alloc (Nat.le_refl _) _).alloc (by simp) _ | exact (((Below.refl _ _).alloc (Nat.le_refl _) _).alloc (by simp) _).drew | exact (((Below.refl _ _).alloc (Nat.le_refl _) _).alloc (by simp) _).trans ⟨rfl, rfl, rfl, Nat.le_refl _, fun _ _ => rfl⟩ | exact (((Below.refl _ _).alloc (Nat.le_refl _) _).alloc (by simp) _).drew.trans ⟨rfl, rfl, rfl, Nat.le_refl _, fun _ _ => rfl⟩)⟩
      · have b_rs1 : regBad rs1 = false := by simp [regBad]; omega
        rcases (show rs2 < 0 ∨ 31 < rs2 ∨ (0 ≤ rs2 ∧ rs2 ≤ 31) by omega) with g_rs2 | g_rs2 | ⟨g_rs2, g'_rs2⟩
        · have b_rs2 : regBad rs2 = true := by simp [regBad]; omega
          have hE : Hid (_ = (2 : Int)) := Lib.hid ((hE0.out rd rs1 rs2 0 false false 0 0).trans (by simp [formOk, badIn, b_rd, b_rs1, b_rs2]))
          go_wp2_with (fail)
          all_goals go_ret
          all_goals exact ⟨ret_int (by rw [hE.out]), (by first | exact ((Below.refl _ _).alloc (Nat.le_refl _) _).alloc (by simp) _ | exact (((Below.refl _ _).alloc (Nat.le_refl _) _).alloc (by simp) _).drew | exact (((Below.refl _ _).alloc (Nat.le_refl _) _).alloc (by simp) _).trans ⟨rfl, rfl, rfl, Nat.le_refl _, fun _ _ => rfl⟩ | exact (((Below.refl _ _).alloc (Nat.le_refl _) _).alloc (by simp) _).drew.trans ⟨rfl, rfl, rfl, Nat.le_refl _, fun _ _ => rfl⟩)⟩
        · have b_rs2 : regBad rs2 = true := by simp [regBad]; omega
          have hE : Hid (_ = (2 : Int)) := Lib.hid ((hE0.out rd rs1 rs2 0 false false 0 0).trans (by simp [formOk, badIn, b_rd, b_rs1, b_rs2]))
          go_wp2_with (fail)
          all_goals go_ret
          all_goals exact ⟨ret_int (by rw [hE.out]), (by first | exact ((Below.refl _ _).alloc (Nat.le_refl _) _).alloc (by simp) _ | exact (((Below.refl _ _).alloc (Nat.le_refl _) _).alloc (by simp) _).drew | exact (((Below.refl _ _).alloc (Nat.le_refl _) _).alloc (by simp) _).trans ⟨rfl, rfl, rfl, Nat.le_refl _, fun _ _ => rfl⟩ | exact (((Below.refl _ _).alloc (Nat.le_refl _) _).alloc (by simp) _).drew.trans ⟨rfl, rfl, rfl, Nat.le_refl _, fun _ _ => rfl⟩)⟩
        · have b_rs2 : regBad rs2 = false := by simp [regBad]; omega
          have hE : Hid (_ = (0 : Int)) := Lib.hid ((hE0.out rd rs1 rs2 0 false false 0 0).trans (by simp [formOk, badIn, b_rd, b_rs1, b_rs2]))
          go_wp2_with (fail)
          all_goals go_ret
          all_goals exact ⟨ret_int (by rw [hE.out]), (by first | exact ((Below.refl _ _).alloc (Nat.le_refl _) _).alloc (by simp) _ | exact (((Below.refl _ _).alloc (Nat.le_refl _) _).alloc (by simp) _).drew | exact (((Below.refl _ _).alloc (Nat.le_refl _) _).alloc (by simp) _).trans ⟨rfl, rfl, rfl, Nat.le_refl _, fun _ _ => rfl⟩ | exact (((Below.refl _ _).alloc (Nat.le_refl _) _).alloc (by simp) _).drew.trans ⟨rfl, rfl, rfl, Nat.le_refl _, fun _ _ => rfl⟩)⟩
  · have hneq : ∀ w, (binOp .neq 26 (.agg #[.int .i64 op, .int .i64 rd, .int .i64 rs1, .int .i64 rs2, .int .i64 0, .bool false, .bool false, .int .i64 0, .int .i64 0]) (.agg #[.int .i64 op, .int .i64 rd, .int .i64 rs1, .int .i64 rs2, .int .i64 imm, .bool aq, .bool rl, .int .i64 pred, .int .i64 succ])).run Tryz.prog w = .ok (.bool true) w := fun w => (insn_neq ⟨op, rd, rs1, rs2, 0, false, false, 0, 0⟩ ⟨op, rd, rs1, rs2, imm, aq, rl, pred, succ⟩ w).trans (congrArg (fun b => Result.ok (Value.bool b) w) (decide_eq_true (fun h => hz (by cases h; simp))))
    have hE : Hid (_ = (2 : Int)) := Lib.hid ((hE0.out rd rs1 rs2 imm aq rl pred succ).trans (if_neg (fun h => hz (by simp [formOk] at h; simp [h]))))
    clear hz
    go_wp2_with (fail)
    all_goals go_ret
    all_goals exact ⟨ret_int (by rw [hE.out]), (by first | exact ((Below.refl _ _).alloc (Nat.le_refl _) _).alloc (by simp) _ | exact (((Below.refl _ _).alloc (Nat.le_refl _) _).alloc (by simp) _).drew | exact (((Below.refl _ _).alloc (Nat.le_refl _) _).alloc (by simp) _).trans ⟨rfl, rfl, rfl, Nat.le_refl _, fun _ _ => rfl⟩ | exact (((Below.refl _ _).alloc (Nat.le_refl _) _).alloc (by simp) _).drew.trans ⟨rfl, rfl, rfl, Nat.le_refl _, fun _ _ => rfl⟩)⟩
end Go.Proofs.YtcgflnkgekkidaaGreatDoor
