/- The walk of the document's Check at form 9. The walk of the document's Check at form 11. The walk of the document's Check at form 12. Conditions: as each theorem says. -/
import Derived.Test.YtcgflnkgekkidaaGreatDoorRefFC
import Derived.Test.YtcgflnkgekkidaaGreatDoorInsnKn
import Derived.BigQuiet
import Derived.Deep.QuietTactic
namespace Go.Proofs.YtcgflnkgekkidaaGreatDoor
open Go.RowKit
set_option maxRecDepth 100000 in
set_option maxHeartbeats 8000000 in
theorem R2Check_9 (op rd rs1 rs2 imm : Int) (aq rl : Bool) (pred succ : Int) (hf : rform op = 9) (sh : Bool) (hE0 : Hid (∀ rd rs1 rs2 imm aq rl pred succ, checkE ⟨op, rd, rs1, rs2, imm, aq, rl, pred, succ⟩ = if formOk 9 sh ⟨op, rd, rs1, rs2, imm, aq, rl, pred, succ⟩ then 0 else 2)) (w : World) :
    Calls Tryz.prog 65 #[.agg #[.int .i64 op, .int .i64 rd, .int .i64 rs1, .int .i64 rs2, .int .i64 imm, .bool aq, .bool rl, .int .i64 pred, .int .i64 succ]] w fun e w' => e = .returned (.int .i64 (checkE ⟨op, rd, rs1, rs2, imm, aq, rl, pred, succ⟩)) ∧ Below w.heap.size w w' := by
  have hF := Lib.hid (fun w => R2Form_any op w)
  rw [hf] at hF
  clear hf
  have hund : ∀ b : Bool, (some undef = some (Value.bool b)) = False := fun b => by simp [undef]
  go_enter Tryz.func65, Tryz.ntmps65
  go_upto_region 15 with (first | (go_at_call 46; refine (hF.out _).mono ?_; rintro e w1 ⟨rfl, rfl⟩) | (go_at_call 96; refine (R2has_9 _).mono ?_; rintro e w1 ⟨rfl, rfl⟩))
  go_region
  all_goals
    go_upto_region 16 with (fail)
    by_cases hz : rd = 0 ∧ rs1 = 0 ∧ rs2 = 0 ∧ imm = 0 ∧ aq = false ∧ rl = false
    · obtain ⟨rfl, rfl, rfl, rfl, rfl, rfl⟩ := hz
      rcases (show pred < 0 ∨ 15 < pred ∨ (0 ≤ pred ∧ pred ≤ 15) by omega) with g_pred | g_pred | ⟨g_pred, g'_pred⟩
      · have u : decide (0 ≤ pred) = false := decide_eq_false (by omega)
        have hE : Hid (_ = (2 : Int)) := Lib.hid ((hE0.out 0 0 0 0 false false pred succ).trans (by simp [formOk, badIn, u]))
        go_wp2_with (fail)
        all_goals go_ret
        all_goals exact ⟨ret_int (by rw [hE.out]), (by first | exact ((Below.refl _ _).alloc (Nat.le_refl _) _).alloc (by simp) _ | exact (((Below.refl _ _).alloc (Nat.le_refl _) _).alloc (by simp) _).drew | exact (((Below.refl _ _).alloc (Nat.le_refl _) _).alloc (by simp) _).trans ⟨rfl, rfl, rfl, Nat.le_refl _, fun _ _ => rfl⟩ | exact (((Below.refl _ _).alloc (Nat.le_refl _) _).alloc (by simp) _).drew.trans ⟨rfl, rfl, rfl, Nat.le_refl _, fun _ _ => rfl⟩)⟩
      · have u : decide (pred ≤ 15) = false := decide_eq_false (by omega)
        have hE : Hid (_ = (2 : Int)) := Lib.hid ((hE0.out 0 0 0 0 false false pred succ).trans (by simp [formOk, badIn, u]))
        go_wp2_with (fail)
        all_goals go_ret
        all_goals exact ⟨ret_int (by rw [hE.out]), (by first | exact ((Below.refl _ _).alloc (Nat.le_refl _) _).alloc (by simp) _ | exact (((Below.refl _ _).alloc (Nat.le_refl _) _).alloc (by simp) _).drew | exact (((Below.refl _ _).alloc (Nat.le_refl _) _).alloc (by simp) _).trans ⟨rfl, rfl, rfl, Nat.le_refl _, fun _ _ => rfl⟩ | exact (((Below.refl _ _).alloc (Nat.le_refl _) _).alloc (by simp) _).drew.trans ⟨rfl, rfl, rfl, Nat.le_refl _, fun _ _ => rfl⟩)⟩
      · skip
        rcases (show succ < 0 ∨ 15 < succ ∨ (0 ≤ succ ∧ succ ≤ 15) by omega) with g_succ | g_succ | ⟨g_succ, g'_succ⟩
        · have u : decide (0 ≤ succ) = false := decide_eq_false (by omega)
          have hE : Hid (_ = (2 : Int)) := Lib.hid ((hE0.out 0 0 0 0 false false pred succ).trans (by simp [formOk, badIn, g_pred, g'_pred, u]))
          go_wp2_with (fail)
          all_goals go_ret
          all_goals exact ⟨ret_int (by rw [hE.out]), (by first | exact ((Below.refl _ _).alloc (Nat.le_refl _) _).alloc (by simp) _ | exact (((Below.refl _ _).alloc (Nat.le_refl _) _).alloc (by simp) _).drew | exact (((Below.refl _ _).alloc (Nat.le_refl _) _).alloc (by simp) _).trans ⟨rfl, rfl, rfl, Nat.le_refl _, fun _ _ => rfl⟩ | exact (((Below.refl _ _).alloc (Nat.le_refl _) _).alloc (by simp) _).drew.trans ⟨rfl, rfl, rfl, Nat.le_refl _, fun _ _ => rfl⟩)⟩
        · have u : decide (succ ≤ 15) = false := decide_eq_false (by omega)
          have hE : Hid (_ = (2 : Int)) := Lib.hid ((hE0.out 0 0 0 0 false false pred succ).trans (by simp [formOk, badIn, g_pred, g'_pred, u]))
          go_wp2_with (fail)
          all_goals go_ret
          all_goals exact ⟨ret_int (by rw [hE.out]), (by first | exact ((Below.refl _ _).alloc (Nat.le_refl _) _).alloc (by simp) _ | exact (((Below.refl _ _).alloc (Nat.le_refl _) _).alloc (by simp) _).drew | exact (((Below.refl _ _).alloc (Nat.le_refl _) _).alloc (by simp) _).trans ⟨rfl, rfl, rfl, Nat.le_refl _, fun _ _ => rfl⟩ | exact (((Below.refl _ _).alloc (Nat.le_refl _) _).alloc (by simp) _).drew.trans ⟨rfl, rfl, rfl, Nat.le_refl _, fun _ _ => rfl⟩)⟩
        · skip
          have hE : Hid (_ = (0 : Int)) := Lib.hid ((hE0.out 0 0 0 0 false false pred succ).trans (by simp [formOk, badIn, g_pred, g'_pred, g_succ, g'_succ]))
          go_wp2_with (fail)
          all_goals go_ret
          all_goals exact ⟨ret_int (by rw [hE.out]), (by first | exact ((Below.refl _ _).alloc (Nat.le_refl _) _).alloc (by simp) _ | exact (((Below.refl _ _).alloc (Nat.le_refl _) _).alloc (by simp) _).drew | exact (((Below.refl _ _).alloc (Nat.le_refl _) _).alloc (by simp) _).trans ⟨rfl, rfl, rfl, Nat.le_refl _, fun _ _ => rfl⟩ | exact (((Below.refl _ _).alloc (Nat.le_refl _) _).alloc (by simp) _).drew.trans ⟨rfl, rfl, rfl, Nat.le_refl _, fun _ _ => rfl⟩)⟩
    · have hneq : ∀ w, (binOp .neq 26 (.agg #[.int .i64 op, .int .i64 0, .int .i64 0, .int .i64 0, .int .i64 0, .bool false, .bool false, .int .i64 pred, .int .i64 succ]) (.agg #[.int .i64 op, .int .i64 rd, .int .i64 rs1, .int .i64 rs2, .int .i64 imm, .bool aq, .bool rl, .int .i64 pred, .int .i64 succ])).run Tryz.prog w = .ok (.bool true) w := fun w => (insn_neq ⟨op, 0, 0, 0, 0, false, false, pred, succ⟩ ⟨op, rd, rs1, rs2, imm, aq, rl, pred, succ⟩ w).trans (congrArg (fun b => Result.ok (Value.bool b) w) (decide_eq_true (fun h => hz (by cases h; simp))))
      have hE : Hid (_ = (2 : Int)) := Lib.hid ((hE0.out rd rs1 rs2 imm aq rl pred succ).trans (if_neg (fun h => hz (by simp [formOk] at h; simp [h]))))
      clear hz
      go_wp2_with (fail)
      all_goals go_ret
      all_goals exact ⟨ret_int (by rw [hE.out]), (by first | exact ((Below.refl _ _).alloc (Nat.le_refl _) _).alloc (by simp) _ | exact (((Below.refl _ _).alloc (Nat.le_refl _) _).alloc (by simp) _).drew | exact (((Below.refl _ _).alloc (Nat.le_refl _) _).alloc (by simp) _).trans ⟨rfl, rfl, rfl, Nat.le_refl _, fun _ _ => rfl⟩ | exact (((Below.refl _ _).alloc (Nat.le_refl _) _).alloc (by simp) _).drew.trans ⟨rfl, rfl, rfl, Nat.le_refl _, fun _ _ => rfl⟩)⟩
end Go.Proofs.YtcgflnkgekkidaaGreatDoor
namespace Go.Proofs.YtcgflnkgekkidaaGreatDoor
open Go.RowKit
set_option maxRecDepth 100000 in
set_option maxHeartbeats 8000000 in
theorem R2Check_11 (op rd rs1 rs2 imm : Int) (aq rl : Bool) (pred succ : Int) (hf : rform op = 11) (sh : Bool) (hE0 : Hid (∀ rd rs1 rs2 imm aq rl pred succ, checkE ⟨op, rd, rs1, rs2, imm, aq, rl, pred, succ⟩ = if formOk 11 sh ⟨op, rd, rs1, rs2, imm, aq, rl, pred, succ⟩ then 0 else 2)) (w : World) :
    Calls Tryz.prog 65 #[.agg #[.int .i64 op, .int .i64 rd, .int .i64 rs1, .int .i64 rs2, .int .i64 imm, .bool aq, .bool rl, .int .i64 pred, .int .i64 succ]] w fun e w' => e = .returned (.int .i64 (checkE ⟨op, rd, rs1, rs2, imm, aq, rl, pred, succ⟩)) ∧ Below w.heap.size w w' := by
  have hF := Lib.hid (fun w => R2Form_any op w)
  rw [hf] at hF
  clear hf
  have hund : ∀ b : Bool, (some undef = some (Value.bool b)) = False := fun b => by simp [undef]
  go_enter Tryz.func65, Tryz.ntmps65
  go_upto_region 13 with (first | (go_at_call 46; refine (hF.out _).mono ?_; rintro e w1 ⟨rfl, rfl⟩) | (go_at_call 96; refine (R2has_11 _).mono ?_; rintro e w1 ⟨rfl, rfl⟩))
  go_region
  all_goals
    go_upto_region 16 with (fail)
    by_cases hz : rs2 = 0 ∧ imm = 0 ∧ pred = 0 ∧ succ = 0
    · obtain ⟨rfl, rfl, rfl, rfl⟩ := hz
      rcases (show rd < 0 ∨ 31 < rd ∨ (0 ≤ rd ∧ rd ≤ 31) by omega) with g_rd | g_rd | ⟨g_rd, g'_rd⟩
      · have b_rd : regBad rd = true := by simp [regBad]; omega
        have hE : Hid (_ = (2 : Int)) := Lib.hid ((hE0.out rd rs1 0 0 aq rl 0 0).trans (by simp [formOk, badIn, b_rd]))
        go_wp2_with (fail)
        all_goals go_ret
        all_goals exact ⟨ret_int (by rw [hE.out]), (by first | exact ((Below.refl _ _).alloc (Nat.le_refl _) _).alloc (by simp) _ | exact (((Below.refl _ _).alloc (Nat.le_refl _) _).alloc (by simp) _).drew | exact (((Below.refl _ _).alloc (Nat.le_refl _) _).alloc (by simp) _).trans ⟨rfl, rfl, rfl, Nat.le_refl _, fun _ _ => rfl⟩ | exact (((Below.refl _ _).alloc (Nat.le_refl _) _).alloc (by simp) _).drew.trans ⟨rfl, rfl, rfl, Nat.le_refl _, fun _ _ => rfl⟩)⟩
      · have b_rd : regBad rd = true := by simp [regBad]; omega
        have hE : Hid (_ = (2 : Int)) := Lib.hid ((hE0.out rd rs1 0 0 aq rl 0 0).trans (by simp [formOk, badIn, b_rd]))
        go_wp2_with (fail)
        all_goals go_ret
        all_goals exact ⟨ret_int (by rw [hE.out]), (by first | exact ((Below.refl _ _).alloc (Nat.le_refl _) _).alloc (by simp) _ | exact (((Below.refl _ _).alloc (Nat.le_refl _) _).alloc (by simp) _).drew | exact (((Below.refl _ _).alloc (Nat.le_refl _) _).alloc (by simp) _).trans ⟨rfl, rfl, rfl, Nat.le_refl _, fun _ _ => rfl⟩ | exact (((Below.refl _ _).alloc (Nat.le_refl _) _).alloc (by simp) _).drew.trans ⟨rfl, rfl, rfl, Nat.le_refl _, fun _ _ => rfl⟩)⟩
      · have b_rd : regBad rd = false := by simp [regBad]; omega
        rcases (show rs1 < 0 ∨ 31 < rs1 ∨ (0 ≤ rs1 ∧ rs1 ≤ 31) by omega) with g_rs1 | g_rs1 | ⟨g_rs1, g'_rs1⟩
        · have b_rs1 : regBad rs1 = true := by simp [regBad]; omega
          have hE : Hid (_ = (2 : Int)) := Lib.hid ((hE0.out rd rs1 0 0 aq rl 0 0).trans (by simp [formOk, badIn, b_rd, b_rs1]))
          go_wp2_with (fail)
          all_goals go_ret
          all_goals exact ⟨ret_int (by rw [hE.out]), (by first | exact ((Below.refl _ _).alloc (Nat.le_refl _) _).alloc (by simp) _ | exact (((Below.refl _ _).alloc (Nat.le_refl _) _).alloc (by simp) _).drew | exact (((Below.refl _ _).alloc (Nat.le_refl _) _).alloc (by simp) _).trans ⟨rfl, rfl, rfl, Nat.le_refl _, fun _ _ => rfl⟩ | exact (((Below.refl _ _).alloc (Nat.le_refl _) _).alloc (by simp) _).drew.trans ⟨rfl, rfl, rfl, Nat.le_refl _, fun _ _ => rfl⟩)⟩
        · have b_rs1 : regBad rs1 = true := by simp [regBad]; omega
          have hE : Hid (_ = (2 : Int)) := Lib.hid ((hE0.out rd rs1 0 0 aq rl 0 0).trans (by simp [formOk, badIn, b_rd, b_rs1]))
          go_wp2_with (fail)
          all_goals go_ret
          all_goals exact ⟨ret_int (by rw [hE.out]), (by first | exact ((Below.refl _ _).alloc (Nat.le_refl _) _).alloc (by simp) _ | exact (((Below.refl _ _).alloc (Nat.le_refl _) _).alloc (by simp) _).drew | exact (((Below.refl _ _).alloc (Nat.le_refl _) _).alloc (by simp) _).trans ⟨rfl, rfl, rfl, Nat.le_refl _, fun _ _ => rfl⟩ | exact (((Below.refl _ _).alloc (Nat.le_refl _) _).alloc (by simp) _).drew.trans ⟨rfl, rfl, rfl, Nat.le_refl _, fun _ _ => rfl⟩)⟩
        · have b_rs1 : regBad rs1 = false := by simp [regBad]; omega
          have hE : Hid (_ = (0 : Int)) := Lib.hid ((hE0.out rd rs1 0 0 aq rl 0 0).trans (by simp [formOk, badIn, b_rd, b_rs1]))
          go_wp2_with (fail)
          all_goals go_ret
          all_goals exact ⟨ret_int (by rw [hE.out]), (by first | exact ((Below.refl _ _).alloc (Nat.le_refl _) _).alloc (by simp) _ | exact (((Below.refl _ _).alloc (Nat.le_refl _) _).alloc (by simp) _).drew | exact (((Below.refl _ _).alloc (Nat.le_refl _) _).alloc (by simp) _).trans ⟨rfl, rfl, rfl, Nat.le_refl _, fun _ _ => rfl⟩ | exact (((Below.refl _ _).alloc (Nat.le_refl _) _).alloc (by simp) _).drew.trans ⟨rfl, rfl, rfl, Nat.le_refl _, fun _ _ => rfl⟩)⟩
    · have hneq : ∀ w, (binOp .neq 26 (.agg #[.int .i64 op, .int .i64 rd, .int .i64 rs1, .int .i64 0, .int .i64 0, .bool aq, .bool rl, .int .i64 0, .int .i64 0]) (.agg #[.int .i64 op, .int .i64 rd, .int .i64 rs1, .int .i64 rs2, .int .i64 imm, .bool aq, .bool rl, .int .i64 pred, .int .i64 succ])).run Tryz.prog w = .ok (.bool true) w := fun w => (insn_neq ⟨op, rd, rs1, 0, 0, aq, rl, 0, 0⟩ ⟨op, rd, rs1, rs2, imm, aq, rl, pred, succ⟩ w).trans (congrArg (fun b => Result.ok (Value.bool b) w) (decide_eq_true (fun h => hz (by cases h; simp))))
      have hE : Hid (_ = (2 : Int)) := Lib.hid ((hE0.out rd rs1 rs2 imm aq rl pred succ).trans (if_neg (fun h => hz (by simp [formOk] at h; simp [h]))))
      clear hz
      go_wp2_with (fail)
      all_goals go_ret
      all_goals exact ⟨ret_int (by rw [hE.out]), (by first | exact ((Below.refl _ _).alloc (Nat.le_refl _) _).alloc (by simp) _ | exact (((Below.refl _ _).alloc (Nat.le_refl _) _).alloc (by simp) _).drew | exact (((Below.refl _ _).alloc (Nat.le_refl _) _).alloc (by simp) _).trans ⟨rfl, rfl, rfl, Nat.le_refl _, fun _ _ => rfl⟩ | exact (((Below.refl _ _).alloc (Nat.le_refl _) _).alloc (by simp) _).drew.trans ⟨rfl, rfl, rfl, Nat.le_refl _, fun _ _ => rfl⟩)⟩
end Go.Proofs.YtcgflnkgekkidaaGreatDoor
namespace Go.Proofs.YtcgflnkgekkidaaGreatDoor
open Go.RowKit
set_option maxRecDepth 100000 in
set_option maxHeartbeats 8000000 in
theorem R2Check_12 (op rd rs1 rs2 imm : Int) (aq rl : Bool) (pred succ : Int) (hf : rform op = 12) (sh : Bool) (hE0 : Hid (∀ rd rs1 rs2 imm aq rl pred succ, checkE ⟨op, rd, rs1, rs2, imm, aq, rl, pred, succ⟩ = if formOk 12 sh ⟨op, rd, rs1, rs2, imm, aq, rl, pred, succ⟩ then 0 else 2)) (w : World) :
    Calls Tryz.prog 65 #[.agg #[.int .i64 op, .int .i64 rd, .int .i64 rs1, .int .i64 rs2, .int .i64 imm, .bool aq, .bool rl, .int .i64 pred, .int .i64 succ]] w fun e w' => e = .returned (.int .i64 (checkE ⟨op, rd, rs1, rs2, imm, aq, rl, pred, succ⟩)) ∧ Below w.heap.size w w' := by
  have hF := Lib.hid (fun w => R2Form_any op w)
  rw [hf] at hF
  clear hf
  have hund : ∀ b : Bool, (some undef = some (Value.bool b)) = False := fun b => by simp [undef]
  go_enter Tryz.func65, Tryz.ntmps65
  go_upto_region 13 with (first | (go_at_call 46; refine (hF.out _).mono ?_; rintro e w1 ⟨rfl, rfl⟩) | (go_at_call 96; refine (R2has_12 _).mono ?_; rintro e w1 ⟨rfl, rfl⟩))
  go_region
  all_goals
    go_upto_region 16 with (fail)
    by_cases hz : imm = 0 ∧ pred = 0 ∧ succ = 0
    · obtain ⟨rfl, rfl, rfl⟩ := hz
      rcases (show rd < 0 ∨ 31 < rd ∨ (0 ≤ rd ∧ rd ≤ 31) by omega) with g_rd | g_rd | ⟨g_rd, g'_rd⟩
      · have b_rd : regBad rd = true := by simp [regBad]; omega
        have hE : Hid (_ = (2 : Int)) := Lib.hid ((hE0.out rd rs1 rs2 0 aq rl 0 0).trans (by simp [formOk, badIn, b_rd]))
        go_wp2_with (fail)
        all_goals go_ret
        all_goals exact ⟨ret_int (by rw [hE.out]), (by first | exact ((Below.refl _ _).alloc (Nat.le_refl _) _).alloc (by simp) _ | exact (((Below.refl _ _).alloc (Nat.le_refl _) _).alloc (by simp) _).drew | exact (((Below.refl _ _).alloc (Nat.le_refl _) _).alloc (by simp) _).trans ⟨rfl, rfl, rfl, Nat.le_refl _, fun _ _ => rfl⟩ | exact (((Below.refl _ _).alloc (Nat.le_refl _) _).alloc (by simp) _).drew.trans ⟨rfl, rfl, rfl, Nat.le_refl _, fun _ _ => rfl⟩)⟩
      · have b_rd : regBad rd = true := by simp [regBad]; omega
        have hE : Hid (_ = (2 : Int)) := Lib.hid ((hE0.out rd rs1 rs2 0 aq rl 0 0).trans (by simp [formOk, badIn, b_rd]))
        go_wp2_with (fail)
        all_goals go_ret
        all_goals exact ⟨ret_int (by rw [hE.out]), (by first | exact ((Below.refl _ _).alloc (Nat.le_refl _) _).alloc (by simp) _ | exact (((Below.refl _ _).alloc (Nat.le_refl _) _).alloc (by simp) _).drew | exact (((Below.refl _ _).alloc (Nat.le_refl _) _).alloc (by simp) _).trans ⟨rfl, rfl, rfl, Nat.le_refl _, fun _ _ => rfl⟩ | exact (((Below.refl _ _).alloc (Nat.le_refl _) _).alloc (by simp) _).drew.trans ⟨rfl, rfl, rfl, Nat.le_refl _, fun _ _ => rfl⟩)⟩
      · have b_rd : regBad rd = false := by simp [regBad]; omega
        rcases (show rs1 < 0 ∨ 31 < rs1 ∨ (0 ≤ rs1 ∧ rs1 ≤ 31) by omega) with g_rs1 | g_rs1 | ⟨g_rs1, g'_rs1⟩
        · have b_rs1 : regBad rs1 = true := by simp [regBad]; omega
          have hE : Hid (_ = (2 : Int)) := Lib.hid ((hE0.out rd rs1 rs2 0 aq rl 0 0).trans (by simp [formOk, badIn, b_rd, b_rs1]))
          go_wp2_with (fail)
          all_goals go_ret
          all_goals exact ⟨ret_int (by rw [hE.out]), (by first | exact ((Below.refl _ _).alloc (Nat.le_refl _) _).alloc (by simp) _ | exact (((Below.refl _ _).alloc (Nat.le_refl _) _).alloc (by simp) _).drew | exact (((Below.refl _ _).alloc (Nat.le_refl _) _).alloc (by simp) _).trans ⟨rfl, rfl, rfl, Nat.le_refl _, fun _ _ => rfl⟩ | exact (((Below.refl _ _).alloc (Nat.le_refl _) _).alloc (by simp) _).drew.trans ⟨rfl, rfl, rfl, Nat.le_refl _, fun _ _ => rfl⟩)⟩
        · have b_rs1 : regBad rs1 = true := by simp [regBad]; omega
          have hE : Hid (_ = (2 : Int)) := Lib.hid ((hE0.out rd rs1 rs2 0 aq rl 0 0).trans (by simp [formOk, badIn, b_rd, b_rs1]))
          go_wp2_with (fail)
          all_goals go_ret
          all_goals exact ⟨ret_int (by rw [hE.out]), (by first | exact ((Below.refl _ _).alloc (Nat.le_refl _) _).alloc (by simp) _ | exact (((Below.refl _ _).alloc (Nat.le_refl _) _).alloc (by simp) _).drew | exact (((Below.refl _ _).alloc (Nat.le_refl _) _).alloc (by simp) _).trans ⟨rfl, rfl, rfl, Nat.le_refl _, fun _ _ => rfl⟩ | exact (((Below.refl _ _).alloc (Nat.le_refl _) _).alloc (by simp) _).drew.trans ⟨rfl, rfl, rfl, Nat.le_refl _, fun _ _ => rfl⟩)⟩
        · have b_rs1 : regBad rs1 = false := by simp [regBad]; omega
          rcases (show rs2 < 0 ∨ 31 < rs2 ∨ (0 ≤ rs2 ∧ rs2 ≤ 31) by omega) with g_rs2 | g_rs2 | ⟨g_rs2, g'_rs2⟩
          · have b_rs2 : regBad rs2 = true := by simp [regBad]; omega
            have hE : Hid (_ = (2 : Int)) := Lib.hid ((hE0.out rd rs1 rs2 0 aq rl 0 0).trans (by simp [formOk, badIn, b_rd, b_rs1, b_rs2]))
            go_wp2_with (fail)
            all_goals go_ret
            all_goals exact ⟨ret_int (by rw [hE.out]), (by first | exact ((Below.refl _ _).alloc (Nat.le_refl _) _).alloc (by simp) _ | exact (((Below.refl _ _).alloc (Nat.le_refl _) _).alloc (by simp) _).drew | exact (((Below.refl _ _).alloc (Nat.le_refl _) _).alloc (by simp) _).trans ⟨rfl, rfl, rfl, Nat.le_refl _, fun _ _ => rfl⟩ | exact (((Below.refl _ _).alloc (Nat.le_refl _) _).alloc (by simp) _).drew.trans ⟨rfl, rfl, rfl, Nat.le_refl _, fun _ _ => rfl⟩)⟩
          · have b_rs2 : regBad rs2 = true := by simp [regBad]; omega
            have hE : Hid (_ = (2 : Int)) := Lib.hid ((hE0.out rd rs1 rs2 0 aq rl 0 0).trans (by simp [formOk, badIn, b_rd, b_rs1, b_rs2]))
            go_wp2_with (fail)
            all_goals go_ret
            all_goals exact ⟨ret_int (by rw [hE.out]), (by first | exact ((Below.refl _ _).alloc (Nat.le_refl _) _).alloc (by simp) _ | exact (((Below.refl _ _).alloc (Nat.le_refl _) _).alloc (by simp) _).drew | exact (((Below.refl _ _).alloc (Nat.le_refl _) _).alloc (by simp) _).trans ⟨rfl, rfl, rfl, Nat.le_refl _, fun _ _ => rfl⟩ | exact (((Below.refl _ _).alloc (Nat.le_refl _) _).alloc (by simp) _).drew.trans ⟨rfl, rfl, rfl, Nat.le_refl _, fun _ _ => rfl⟩)⟩
          · have b_rs2 : regBad rs2 = false := by simp [regBad]; omega
            have hE : Hid (_ = (0 : Int)) := Lib.hid ((hE0.out rd rs1 rs2 0 aq rl 0 0).trans (by simp [formOk, badIn, b_rd, b_rs1, b_rs2]))
            go_wp2_with (fail)
            all_goals go_ret
            all_goals exact ⟨ret_int (by rw [hE.out]), (by first | exact ((Below.refl _ _).alloc (Nat.le_refl _) _).alloc (by simp) _ | exact (((Below.refl _ _).alloc (Nat.le_refl _) _).alloc (by simp) _).drew | exact (((Below.refl _ _).alloc (Nat.le_refl _) _).alloc (by simp) _).trans ⟨rfl, rfl, rfl, Nat.le_refl _, fun _ _ => rfl⟩ | exact (((Below.refl _ _).alloc (Nat.le_refl _) _).alloc (by simp) _).drew.trans ⟨rfl, rfl, rfl, Nat.le_refl _, fun _ _ => rfl⟩)⟩
    · have hneq : ∀ w, (binOp .neq 26 (.agg #[.int .i64 op, .int .i64 rd, .int .i64 rs1, .int .i64 rs2, .int .i64 0, .bool aq, .bool rl, .int .i64 0, .int .i64 0]) (.agg #[.int .i64 op, .int .i64 rd, .int .i64 rs1, .int .i64 rs2, .int .i64 imm, .bool aq, .bool rl, .int .i64 pred, .int .i64 succ])).run Tryz.prog w = .ok (.bool true) w := fun w => (insn_neq ⟨op, rd, rs1, rs2, 0, aq, rl, 0, 0⟩ ⟨op, rd, rs1, rs2, imm, aq, rl, pred, succ⟩ w).trans (congrArg (fun b => Result.ok (Value.bool b) w) (decide_eq_true (fun h => hz (by cases h; simp))))
      have hE : Hid (_ = (2 : Int)) := Lib.hid ((hE0.out rd rs1 rs2 imm aq rl pred succ).trans (if_neg (fun h => hz (by simp [formOk] at h; simp [h]))))
      clear hz
      go_wp2_with (fail)
      all_goals go_ret
      all_goals exact ⟨ret_int (by rw [hE.out]), (by first | exact ((Below.refl _ _).alloc (Nat.le_refl _) _).alloc (by simp) _ | exact (((Below.refl _ _).alloc (Nat.le_refl _) _).alloc (by simp) _).drew | exact (((Below.refl _ _).alloc (Nat.le_refl _) _).alloc (by simp) _).trans ⟨rfl, rfl, rfl, Nat.le_refl _, fun _ _ => rfl⟩ | exact (((Below.refl _ _).alloc (Nat.le_refl _) _).alloc (by simp) _).drew.trans ⟨rfl, rfl, rfl, Nat.le_refl _, fun _ _ => rfl⟩)⟩
end Go.Proofs.YtcgflnkgekkidaaGreatDoor
