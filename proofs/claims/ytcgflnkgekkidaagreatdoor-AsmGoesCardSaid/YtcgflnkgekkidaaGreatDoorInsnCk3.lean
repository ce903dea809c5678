/- The walk of insn.Check at form 9. The walk of insn.Check at form 10. The walk of insn.Check at form 11. The walk of insn.Check at form 12. Conditions: as each theorem says. -/
import Derived.Test.YtcgflnkgekkidaaGreatDoorInsnCkA
import Derived.Deep.RegionWith
namespace Go.Proofs.YtcgflnkgekkidaaGreatDoor
open Go.RowKit
set_option maxRecDepth 100000 in
set_option maxHeartbeats 8000000 in
theorem Check_9 (op rd rs1 rs2 imm : Int) (aq rl : Bool) (pred succ : Int) (hop : op ≤ 9223372036854775807) (nm : List UInt8) (z : Int) (l s : Bool) (hO : Hid (opOf op = ⟨nm, 9, l, s, z⟩)) (w : World) (ht : Tabs w) :
    Calls Tryz.prog 90 #[.agg #[.int .i64 op, .int .i64 rd, .int .i64 rs1, .int .i64 rs2, .int .i64 imm, .bool aq, .bool rl, .int .i64 pred, .int .i64 succ]] w fun e w' => e = .returned (.int .i64 (checkE ⟨op, rd, rs1, rs2, imm, aq, rl, pred, succ⟩)) ∧ Below w.heap.size w w' := by
  have hmf : ∀ (fn : Fn) (first cap : Array Value) (w : World), (Instr.makeFunc fn first cap).run Tryz.prog w = .ok (.func fn first cap) w := fun _ _ _ _ => rfl
  have hof := Lib.hid (fun W (hW : Tabs W) => of_any op hop W hW)
  rw [hO.out] at hof
  have hE0 : Hid (∀ rd rs1 rs2 imm aq rl pred succ, checkE ⟨op, rd, rs1, rs2, imm, aq, rl, pred, succ⟩ = if formOk 9 (shortName nm) ⟨op, rd, rs1, rs2, imm, aq, rl, pred, succ⟩ then 0 else 2) := Lib.hid (checkE_form hO.out)
  clear hO hop
  go_enter Tryz.func90, Tryz.ntmps90
  go_upto_region 41 with (first | (go_at_call 116; refine (hof.out _ (ht.later ((Below.refl _ _).alloc (Nat.le_refl _) _) (Nat.le_refl _))).mono ?_; rintro e w2 ⟨rfl, hb2⟩; have g0 := op_cell (t' := 158) (ds := #[.string ⟨nm.toArray⟩, .int .i64 9, .bool l, .bool s, .int .i64 z]) hb2 0; have hC := CK.start hb2 #[.string ⟨nm.toArray⟩, .int .i64 9, .bool l, .bool s, .int .i64 z] rfl 158 26 3 4 32) | (go_at_call 117; refine (Check_reg1 hC rd rfl (by simp)).mono ?_; rintro e w' ⟨rfl, hC⟩) | (go_at_call 118; refine (Check_reg2 hC rs1 rfl (by simp)).mono ?_; rintro e w' ⟨rfl, hC⟩) | (go_at_call 119; refine (Check_reg3 hC rs2 rfl (by simp)).mono ?_; rintro e w' ⟨rfl, hC⟩) | (go_at_call 120; refine (Check_imm hC imm rfl _ _).mono ?_; rintro e w' ⟨rfl, hC⟩))
  generalize (((((w2.alloc (.cells #[.string ⟨nm.toArray⟩, .int .i64 9, .bool l, .bool s, .int .i64 z] 158)).alloc (.cells #[.int .i64 op, .int .i64 0, .int .i64 0, .int .i64 0, .int .i64 0, .bool false, .bool false, .int .i64 0, .int .i64 0] 26)).alloc (.cells #[.int .i64 0] 3)).alloc (.cells #[.bool false] 4)).alloc (.cells #[.slice none 0 0] 32)) = W8 at hC ⊢
  have m7 : _ = some (Value.int .i64 0) := hC.k 7 (by decide)
  have f7 := hC.kf 7 (by decide)
  have j7 : _ = some (Value.int .i64 pred) := hC.i 7 (by decide)
  have j8 : _ = some (Value.int .i64 succ) := hC.i 8 (by decide)
  have hC2 := hC.setK 7 (by decide) (.int .i64 pred) (fun j => rfl)
  have m8' : _ = some (Value.int .i64 0) := hC2.k 8 (by decide)
  have f8' := hC2.kf 8 (by decide)
  have j8' : _ = some (Value.int .i64 succ) := hC2.i 8 (by decide)
  have hC3 := (hC2.setK 8 (by decide) (.int .i64 succ) (fun j => rfl)).drew
  have n7 : _ = some (Value.int .i64 pred) := hC3.i 7 (by decide)
  have n8 : _ = some (Value.int .i64 succ) := hC3.i 8 (by decide)
  clear hC hC2
  have hC3 := Lib.hid hC3
  go_region
  all_goals
    have hC := hC3.out
    rcases (show pred < 0 ∨ 15 < pred ∨ (0 ≤ pred ∧ pred ≤ 15) by omega) with hp | hp | ⟨hp, hp'⟩
    · have u : decide (0 ≤ pred) = false := decide_eq_false (by omega)
      have hE : Hid (_ = (2 : Int)) := Lib.hid ((hE0.out rd rs1 rs2 imm aq rl pred succ).trans (by simp [formOk, u]))
      have hbl := Lib.hid hC.bl
      clear hC
      go_wp2_with fail
      go_ret
      exact ⟨ret_int (by rw [hE.out]), hbl.out⟩
    · have u : decide (pred ≤ 15) = false := decide_eq_false (by omega)
      have hE : Hid (_ = (2 : Int)) := Lib.hid ((hE0.out rd rs1 rs2 imm aq rl pred succ).trans (by simp [formOk, u]))
      have hbl := Lib.hid hC.bl
      clear hC
      go_wp2_with fail
      go_ret
      exact ⟨ret_int (by rw [hE.out]), hbl.out⟩
    · rcases (show succ < 0 ∨ 15 < succ ∨ (0 ≤ succ ∧ succ ≤ 15) by omega) with hq | hq | ⟨hq, hq'⟩
      · have u : decide (0 ≤ succ) = false := decide_eq_false (by omega)
        have hE : Hid (_ = (2 : Int)) := Lib.hid ((hE0.out rd rs1 rs2 imm aq rl pred succ).trans (by simp [formOk, u]))
        have hbl := Lib.hid hC.bl
        clear hC
        go_wp2_with fail
        go_ret
        exact ⟨ret_int (by rw [hE.out]), hbl.out⟩
      · have u : decide (succ ≤ 15) = false := decide_eq_false (by omega)
        have hE : Hid (_ = (2 : Int)) := Lib.hid ((hE0.out rd rs1 rs2 imm aq rl pred succ).trans (by simp [formOk, u]))
        have hbl := Lib.hid hC.bl
        clear hC
        go_wp2_with fail
        go_ret
        exact ⟨ret_int (by rw [hE.out]), hbl.out⟩
      · go_upto_region 52 with (fail)
        have k0 : _ = some (Value.int .i64 op) := hC.k 0 (by decide)
        have k1 : _ = some (Value.int .i64 0) := hC.k 1 (by decide)
        have k2 : _ = some (Value.int .i64 0) := hC.k 2 (by decide)
        have k3 : _ = some (Value.int .i64 0) := hC.k 3 (by decide)
        have k4 : _ = some (Value.int .i64 0) := hC.k 4 (by decide)
        have k5 : _ = some (Value.bool false) := hC.k 5 (by decide)
        have k6 : _ = some (Value.bool false) := hC.k 6 (by decide)
        have k7 : _ = some (Value.int .i64 pred) := hC.k 7 (by decide)
        have k8 : _ = some (Value.int .i64 succ) := hC.k 8 (by decide)
        have i0 : _ = some (Value.int .i64 op) := hC.i 0 (by decide)
        have i1 : _ = some (Value.int .i64 rd) := hC.i 1 (by decide)
        have i2 : _ = some (Value.int .i64 rs1) := hC.i 2 (by decide)
        have i3 : _ = some (Value.int .i64 rs2) := hC.i 3 (by decide)
        have i4 : _ = some (Value.int .i64 imm) := hC.i 4 (by decide)
        have i5 : _ = some (Value.bool aq) := hC.i 5 (by decide)
        have i6 : _ = some (Value.bool rl) := hC.i 6 (by decide)
        have i7 : _ = some (Value.int .i64 pred) := hC.i 7 (by decide)
        have i8 : _ = some (Value.int .i64 succ) := hC.i 8 (by decide)
        have eb := hC.b
        have ee := hC.e
        obtain ⟨v, hv, hown⟩ := hC.r
        have hbl := Lib.hid hC.bl
        clear hC
        by_cases c_rd : rd = 0
        · subst c_rd
          by_cases c_rs1 : rs1 = 0
          · subst c_rs1
            by_cases c_rs2 : rs2 = 0
            · subst c_rs2
              by_cases c_imm : imm = 0
              · subst c_imm
                cases aq with
                | true =>
                  have hE : Hid (_ = (2 : Int)) := Lib.hid ((hE0.out 0 0 0 0 true rl pred succ).trans (by simp [formOk, hp, hp', hq, hq']))
                  go_wp2_with (first | (go_at_call 73; (with_reducible refine (Fits_any _ _ _).mono ?_); rintro e w1 ⟨rfl, rfl⟩) | (go_at_call 122; refine (ContainsFunc_any _ v [] _ hown (by simp)).mono ?_; rintro e w1 ⟨rfl, rfl⟩))
                  go_ret
                  exact ⟨ret_int (by rw [hE.out]), hbl.out⟩
                | false =>
                  cases rl with
                  | true =>
                    have hE : Hid (_ = (2 : Int)) := Lib.hid ((hE0.out 0 0 0 0 false true pred succ).trans (by simp [formOk, hp, hp', hq, hq']))
                    go_wp2_with (first | (go_at_call 73; (with_reducible refine (Fits_any _ _ _).mono ?_); rintro e w1 ⟨rfl, rfl⟩) | (go_at_call 122; refine (ContainsFunc_any _ v [] _ hown (by simp)).mono ?_; rintro e w1 ⟨rfl, rfl⟩))
                    go_ret
                    exact ⟨ret_int (by rw [hE.out]), hbl.out⟩
                  | false =>
                    cases hR : badIn [] with
                    | true =>
                      have hE : Hid (_ = (2 : Int)) := Lib.hid ((hE0.out 0 0 0 0 false false pred succ).trans (by simp [formOk, hp, hp', hq, hq', hR]))
                      go_wp2_with (first | (go_at_call 73; (with_reducible refine (Fits_any _ _ _).mono ?_); rintro e w1 ⟨rfl, rfl⟩) | (go_at_call 122; refine (ContainsFunc_any _ v [] _ hown (by simp)).mono ?_; rintro e w1 ⟨rfl, rfl⟩))
                      go_ret
                      exact ⟨ret_int (by rw [hE.out]), hbl.out⟩
                    | false =>
                      have hE : Hid (_ = (0 : Int)) := Lib.hid ((hE0.out 0 0 0 0 false false pred succ).trans (by simp [formOk, hp, hp', hq, hq', hR]))
                      go_wp2_with (first | (go_at_call 73; (with_reducible refine (Fits_any _ _ _).mono ?_); rintro e w1 ⟨rfl, rfl⟩) | (go_at_call 122; refine (ContainsFunc_any _ v [] _ hown (by simp)).mono ?_; rintro e w1 ⟨rfl, rfl⟩))
                      go_ret
                      exact ⟨ret_int (by rw [hE.out]), hbl.out⟩
              · have t_imm : ((0 : Int) == imm) = false := by rw [beq_eq_false_iff_ne]; exact fun h => c_imm h.symm
                have hE : Hid (_ = (2 : Int)) := Lib.hid ((hE0.out 0 0 0 imm aq rl pred succ).trans (by simp [formOk, hp, hp', hq, hq', c_imm]))
                go_wp2_with (first | (go_at_call 73; (with_reducible refine (Fits_any _ _ _).mono ?_); rintro e w1 ⟨rfl, rfl⟩) | (go_at_call 122; refine (ContainsFunc_any _ v [] _ hown (by simp)).mono ?_; rintro e w1 ⟨rfl, rfl⟩))
                go_ret
                exact ⟨ret_int (by rw [hE.out]), hbl.out⟩
            · have t_rs2 : ((0 : Int) == rs2) = false := by rw [beq_eq_false_iff_ne]; exact fun h => c_rs2 h.symm
              have hE : Hid (_ = (2 : Int)) := Lib.hid ((hE0.out 0 0 rs2 imm aq rl pred succ).trans (by simp [formOk, hp, hp', hq, hq', c_rs2]))
              go_wp2_with (first | (go_at_call 73; (with_reducible refine (Fits_any _ _ _).mono ?_); rintro e w1 ⟨rfl, rfl⟩) | (go_at_call 122; refine (ContainsFunc_any _ v [] _ hown (by simp)).mono ?_; rintro e w1 ⟨rfl, rfl⟩))
              go_ret
              exact ⟨ret_int (by rw [hE.out]), hbl.out⟩
          · have t_rs1 : ((0 : Int) == rs1) = false := by rw [beq_eq_false_iff_ne]; exact fun h => c_rs1 h.symm
            have hE : Hid (_ = (2 : Int)) := Lib.hid ((hE0.out 0 rs1 rs2 imm aq rl pred succ).trans (by simp [formOk, hp, hp', hq, hq', c_rs1]))
            go_wp2_with (first | (go_at_call 73; (with_reducible refine (Fits_any _ _ _).mono ?_); rintro e w1 ⟨rfl, rfl⟩) | (go_at_call 122; refine (ContainsFunc_any _ v [] _ hown (by simp)).mono ?_; rintro e w1 ⟨rfl, rfl⟩))
            go_ret
            exact ⟨ret_int (by rw [hE.out]), hbl.out⟩
        · have t_rd : ((0 : Int) == rd) = false := by rw [beq_eq_false_iff_ne]; exact fun h => c_rd h.symm
          have hE : Hid (_ = (2 : Int)) := Lib.hid ((hE0.out rd rs1 rs2 imm aq rl pred succ).trans (by simp [formOk, hp, hp', hq, hq', c_rd]))
          go_wp2_with (first | (go_at_call 73; (with_reducible refine (Fits_any _ _ _).mono ?_); rintro e w1 ⟨rfl, rfl⟩) | (go_at_call 122; refine (ContainsFunc_any _ v [] _ hown (by simp)).mono ?_; rintro e w1 ⟨rfl, rfl⟩))
          go_ret
          exact ⟨ret_int (by rw [hE.out]), hbl.out⟩
end Go.Proofs.YtcgflnkgekkidaaGreatDoor
namespace Go.Proofs.YtcgflnkgekkidaaGreatDoor
open Go.RowKit
set_option maxRecDepth 100000 in
set_option maxHeartbeats 8000000 in
theorem Check_10 (op rd rs1 rs2 imm : Int) (aq rl : Bool) (pred succ : Int) (hop : op ≤ 9223372036854775807) (nm : List UInt8) (z : Int) (l s : Bool) (hO : Hid (opOf op = ⟨nm, 10, l, s, z⟩)) (w : World) (ht : Tabs w) :
    Calls Tryz.prog 90 #[.agg #[.int .i64 op, .int .i64 rd, .int .i64 rs1, .int .i64 rs2, .int .i64 imm, .bool aq, .bool rl, .int .i64 pred, .int .i64 succ]] w fun e w' => e = .returned (.int .i64 (checkE ⟨op, rd, rs1, rs2, imm, aq, rl, pred, succ⟩)) ∧ Below w.heap.size w w' := by
  have hmf : ∀ (fn : Fn) (first cap : Array Value) (w : World), (Instr.makeFunc fn first cap).run Tryz.prog w = .ok (.func fn first cap) w := fun _ _ _ _ => rfl
  have hof := Lib.hid (fun W (hW : Tabs W) => of_any op hop W hW)
  rw [hO.out] at hof
  have hE0 : Hid (∀ rd rs1 rs2 imm aq rl pred succ, checkE ⟨op, rd, rs1, rs2, imm, aq, rl, pred, succ⟩ = if formOk 10 (shortName nm) ⟨op, rd, rs1, rs2, imm, aq, rl, pred, succ⟩ then 0 else 2) := Lib.hid (checkE_form hO.out)
  clear hO hop
  go_enter Tryz.func90, Tryz.ntmps90
  go_upto_region 52 with (first | (go_at_call 116; refine (hof.out _ (ht.later ((Below.refl _ _).alloc (Nat.le_refl _) _) (Nat.le_refl _))).mono ?_; rintro e w2 ⟨rfl, hb2⟩; have g0 := op_cell (t' := 158) (ds := #[.string ⟨nm.toArray⟩, .int .i64 10, .bool l, .bool s, .int .i64 z]) hb2 0; have hC := CK.start hb2 #[.string ⟨nm.toArray⟩, .int .i64 10, .bool l, .bool s, .int .i64 z] rfl 158 26 3 4 32) | (go_at_call 117; refine (Check_reg1 hC rd rfl (by simp)).mono ?_; rintro e w' ⟨rfl, hC⟩) | (go_at_call 118; refine (Check_reg2 hC rs1 rfl (by simp)).mono ?_; rintro e w' ⟨rfl, hC⟩) | (go_at_call 119; refine (Check_reg3 hC rs2 rfl (by simp)).mono ?_; rintro e w' ⟨rfl, hC⟩) | (go_at_call 120; refine (Check_imm hC imm rfl _ _).mono ?_; rintro e w' ⟨rfl, hC⟩))
  have k0 : _ = some (Value.int .i64 op) := hC.k 0 (by decide)
  have k1 : _ = some (Value.int .i64 0) := hC.k 1 (by decide)
  have k2 : _ = some (Value.int .i64 0) := hC.k 2 (by decide)
  have k3 : _ = some (Value.int .i64 0) := hC.k 3 (by decide)
  have k4 : _ = some (Value.int .i64 0) := hC.k 4 (by decide)
  have k5 : _ = some (Value.bool false) := hC.k 5 (by decide)
  have k6 : _ = some (Value.bool false) := hC.k 6 (by decide)
  have k7 : _ = some (Value.int .i64 0) := hC.k 7 (by decide)
  have k8 : _ = some (Value.int .i64 0) := hC.k 8 (by decide)
  have i0 : _ = some (Value.int .i64 op) := hC.i 0 (by decide)
  have i1 : _ = some (Value.int .i64 rd) := hC.i 1 (by decide)
  have i2 : _ = some (Value.int .i64 rs1) := hC.i 2 (by decide)
  have i3 : _ = some (Value.int .i64 rs2) := hC.i 3 (by decide)
  have i4 : _ = some (Value.int .i64 imm) := hC.i 4 (by decide)
  have i5 : _ = some (Value.bool aq) := hC.i 5 (by decide)
  have i6 : _ = some (Value.bool rl) := hC.i 6 (by decide)
  have i7 : _ = some (Value.int .i64 pred) := hC.i 7 (by decide)
  have i8 : _ = some (Value.int .i64 succ) := hC.i 8 (by decide)
  have eb := hC.b
  have ee := hC.e
  obtain ⟨v, hv, hown⟩ := hC.r
  have hbl := Lib.hid hC.bl
  clear hC
  by_cases c_rd : rd = 0
  · subst c_rd
    by_cases c_rs1 : rs1 = 0
    · subst c_rs1
      by_cases c_rs2 : rs2 = 0
      · subst c_rs2
        by_cases c_imm : imm = 0
        · subst c_imm
          cases aq with
          | true =>
            have hE : Hid (_ = (2 : Int)) := Lib.hid ((hE0.out 0 0 0 0 true rl pred succ).trans (by simp [formOk]))
            go_wp2_with (first | (go_at_call 73; (with_reducible refine (Fits_any _ _ _).mono ?_); rintro e w1 ⟨rfl, rfl⟩) | (go_at_call 122; refine (ContainsFunc_any _ v [] _ hown (by simp)).mono ?_; rintro e w1 ⟨rfl, rfl⟩))
            go_ret
            exact ⟨ret_int (by rw [hE.out]), hbl.out⟩
          | false =>
            cases rl with
            | true =>
              have hE : Hid (_ = (2 : Int)) := Lib.hid ((hE0.out 0 0 0 0 false true pred succ).trans (by simp [formOk]))
              go_wp2_with (first | (go_at_call 73; (with_reducible refine (Fits_any _ _ _).mono ?_); rintro e w1 ⟨rfl, rfl⟩) | (go_at_call 122; refine (ContainsFunc_any _ v [] _ hown (by simp)).mono ?_; rintro e w1 ⟨rfl, rfl⟩))
              go_ret
              exact ⟨ret_int (by rw [hE.out]), hbl.out⟩
            | false =>
              by_cases c_pred : pred = 0
              · subst c_pred
                by_cases c_succ : succ = 0
                · subst c_succ
                  cases hR : badIn [] with
                  | true =>
                    have hE : Hid (_ = (2 : Int)) := Lib.hid ((hE0.out 0 0 0 0 false false 0 0).trans (by simp [formOk, hR]))
                    go_wp2_with (first | (go_at_call 73; (with_reducible refine (Fits_any _ _ _).mono ?_); rintro e w1 ⟨rfl, rfl⟩) | (go_at_call 122; refine (ContainsFunc_any _ v [] _ hown (by simp)).mono ?_; rintro e w1 ⟨rfl, rfl⟩))
                    go_ret
                    exact ⟨ret_int (by rw [hE.out]), hbl.out⟩
                  | false =>
                    have hE : Hid (_ = (0 : Int)) := Lib.hid ((hE0.out 0 0 0 0 false false 0 0).trans (by simp [formOk, hR]))
                    go_wp2_with (first | (go_at_call 73; (with_reducible refine (Fits_any _ _ _).mono ?_); rintro e w1 ⟨rfl, rfl⟩) | (go_at_call 122; refine (ContainsFunc_any _ v [] _ hown (by simp)).mono ?_; rintro e w1 ⟨rfl, rfl⟩))
                    go_ret
                    exact ⟨ret_int (by rw [hE.out]), hbl.out⟩
                · have t_succ : ((0 : Int) == succ) = false := by rw [beq_eq_false_iff_ne]; exact fun h => c_succ h.symm
                  have hE : Hid (_ = (2 : Int)) := Lib.hid ((hE0.out 0 0 0 0 false false 0 succ).trans (by simp [formOk, c_succ]))
                  go_wp2_with (first | (go_at_call 73; (with_reducible refine (Fits_any _ _ _).mono ?_); rintro e w1 ⟨rfl, rfl⟩) | (go_at_call 122; refine (ContainsFunc_any _ v [] _ hown (by simp)).mono ?_; rintro e w1 ⟨rfl, rfl⟩))
                  go_ret
                  exact ⟨ret_int (by rw [hE.out]), hbl.out⟩
              · have t_pred : ((0 : Int) == pred) = false := by rw [beq_eq_false_iff_ne]; exact fun h => c_pred h.symm
                have hE : Hid (_ = (2 : Int)) := Lib.hid ((hE0.out 0 0 0 0 false false pred succ).trans (by simp [formOk, c_pred]))
                go_wp2_with (first | (go_at_call 73; (with_reducible refine (Fits_any _ _ _).mono ?_); rintro e w1 ⟨rfl, rfl⟩) | (go_at_call 122; refine (ContainsFunc_any _ v [] _ hown (by simp)).mono ?_; rintro e w1 ⟨rfl, rfl⟩))
                go_ret
                exact ⟨ret_int (by rw [hE.out]), hbl.out⟩
        · have t_imm : ((0 : Int) == imm) = false := by rw [beq_eq_false_iff_ne]; exact fun h => c_imm h.symm
          have hE : Hid (_ = (2 : Int)) := Lib.hid ((hE0.out 0 0 0 imm aq rl pred succ).trans (by simp [formOk, c_imm]))
          go_wp2_with (first | (go_at_call 73; (with_reducible refine (Fits_any _ _ _).mono ?_); rintro e w1 ⟨rfl, rfl⟩) | (go_at_call 122; refine (ContainsFunc_any _ v [] _ hown (by simp)).mono ?_; rintro e w1 ⟨rfl, rfl⟩))
          go_ret
          exact ⟨ret_int (by rw [hE.out]), hbl.out⟩
      · have t_rs2 : ((0 : Int) == rs2) = false := by rw [beq_eq_false_iff_ne]; exact fun h => c_rs2 h.symm
        have hE : Hid (_ = (2 : Int)) := Lib.hid ((hE0.out 0 0 rs2 imm aq rl pred succ).trans (by simp [formOk, c_rs2]))
        go_wp2_with (first | (go_at_call 73; (with_reducible refine (Fits_any _ _ _).mono ?_); rintro e w1 ⟨rfl, rfl⟩) | (go_at_call 122; refine (ContainsFunc_any _ v [] _ hown (by simp)).mono ?_; rintro e w1 ⟨rfl, rfl⟩))
        go_ret
        exact ⟨ret_int (by rw [hE.out]), hbl.out⟩
    · have t_rs1 : ((0 : Int) == rs1) = false := by rw [beq_eq_false_iff_ne]; exact fun h => c_rs1 h.symm
      have hE : Hid (_ = (2 : Int)) := Lib.hid ((hE0.out 0 rs1 rs2 imm aq rl pred succ).trans (by simp [formOk, c_rs1]))
      go_wp2_with (first | (go_at_call 73; (with_reducible refine (Fits_any _ _ _).mono ?_); rintro e w1 ⟨rfl, rfl⟩) | (go_at_call 122; refine (ContainsFunc_any _ v [] _ hown (by simp)).mono ?_; rintro e w1 ⟨rfl, rfl⟩))
      go_ret
      exact ⟨ret_int (by rw [hE.out]), hbl.out⟩
  · have t_rd : ((0 : Int) == rd) = false := by rw [beq_eq_false_iff_ne]; exact fun h => c_rd h.symm
    have hE : Hid (_ = (2 : Int)) := Lib.hid ((hE0.out rd rs1 rs2 imm aq rl pred succ).trans (by simp [formOk, c_rd]))
    go_wp2_with (first | (go_at_call 73; (with_reducible refine (Fits_any _ _ _).mono ?_); rintro e w1 ⟨rfl, rfl⟩) | (go_at_call 122; refine (ContainsFunc_any _ v [] _ hown (by simp)).mono ?_; rintro e w1 ⟨rfl, rfl⟩))
    go_ret
    exact ⟨ret_int (by rw [hE.out]), hbl.out⟩
end Go.Proofs.YtcgflnkgekkidaaGreatDoor
namespace Go.Proofs.YtcgflnkgekkidaaGreatDoor
open Go.RowKit
set_option maxRecDepth 100000 in
set_option maxHeartbeats 8000000 in
theorem Check_11 (op rd rs1 rs2 imm : Int) (aq rl : Bool) (pred succ : Int) (hop : op ≤ 9223372036854775807) (nm : List UInt8) (z : Int) (l s : Bool) (hO : Hid (opOf op = ⟨nm, 11, l, s, z⟩)) (w : World) (ht : Tabs w) :
    Calls Tryz.prog 90 #[.agg #[.int .i64 op, .int .i64 rd, .int .i64 rs1, .int .i64 rs2, .int .i64 imm, .bool aq, .bool rl, .int .i64 pred, .int .i64 succ]] w fun e w' => e = .returned (.int .i64 (checkE ⟨op, rd, rs1, rs2, imm, aq, rl, pred, succ⟩)) ∧ Below w.heap.size w w' := by
  have hmf : ∀ (fn : Fn) (first cap : Array Value) (w : World), (Instr.makeFunc fn first cap).run Tryz.prog w = .ok (.func fn first cap) w := fun _ _ _ _ => rfl
  have hof := Lib.hid (fun W (hW : Tabs W) => of_any op hop W hW)
  rw [hO.out] at hof
  have hE0 : Hid (∀ rd rs1 rs2 imm aq rl pred succ, checkE ⟨op, rd, rs1, rs2, imm, aq, rl, pred, succ⟩ = if formOk 11 (shortName nm) ⟨op, rd, rs1, rs2, imm, aq, rl, pred, succ⟩ then 0 else 2) := Lib.hid (checkE_form hO.out)
  clear hO hop
  go_enter Tryz.func90, Tryz.ntmps90
  go_upto_region 49 with (first | (go_at_call 116; refine (hof.out _ (ht.later ((Below.refl _ _).alloc (Nat.le_refl _) _) (Nat.le_refl _))).mono ?_; rintro e w2 ⟨rfl, hb2⟩; have g0 := op_cell (t' := 158) (ds := #[.string ⟨nm.toArray⟩, .int .i64 11, .bool l, .bool s, .int .i64 z]) hb2 0; have hC := CK.start hb2 #[.string ⟨nm.toArray⟩, .int .i64 11, .bool l, .bool s, .int .i64 z] rfl 158 26 3 4 32) | (go_at_call 117; refine (Check_reg1 hC rd rfl (by simp)).mono ?_; rintro e w' ⟨rfl, hC⟩) | (go_at_call 118; refine (Check_reg2 hC rs1 rfl (by simp)).mono ?_; rintro e w' ⟨rfl, hC⟩) | (go_at_call 119; refine (Check_reg3 hC rs2 rfl (by simp)).mono ?_; rintro e w' ⟨rfl, hC⟩) | (go_at_call 120; refine (Check_imm hC imm rfl _ _).mono ?_; rintro e w' ⟨rfl, hC⟩))
  have o1 : _ = some (Value.int .i64 11) := hC.o 1 (by decide)
  go_upto_region 51 with (first | (go_at_call 116; refine (hof.out _ (ht.later ((Below.refl _ _).alloc (Nat.le_refl _) _) (Nat.le_refl _))).mono ?_; rintro e w2 ⟨rfl, hb2⟩; have g0 := op_cell (t' := 158) (ds := #[.string ⟨nm.toArray⟩, .int .i64 11, .bool l, .bool s, .int .i64 z]) hb2 0; have hC := CK.start hb2 #[.string ⟨nm.toArray⟩, .int .i64 11, .bool l, .bool s, .int .i64 z] rfl 158 26 3 4 32) | (go_at_call 117; refine (Check_reg1 hC rd rfl (by simp)).mono ?_; rintro e w' ⟨rfl, hC⟩) | (go_at_call 118; refine (Check_reg2 hC rs1 rfl (by simp)).mono ?_; rintro e w' ⟨rfl, hC⟩) | (go_at_call 119; refine (Check_reg3 hC rs2 rfl (by simp)).mono ?_; rintro e w' ⟨rfl, hC⟩) | (go_at_call 120; refine (Check_imm hC imm rfl _ _).mono ?_; rintro e w' ⟨rfl, hC⟩))
  have m5 : _ = some (Value.bool false) := hC.k 5 (by decide)
  have f5 := hC.kf 5 (by decide)
  have j5 : _ = some (Value.bool aq) := hC.i 5 (by decide)
  have j6 : _ = some (Value.bool rl) := hC.i 6 (by decide)
  have hC2 := hC.setK 5 (by decide) (.bool aq) (fun j => rfl)
  have m6' : _ = some (Value.bool false) := hC2.k 6 (by decide)
  have f6' := hC2.kf 6 (by decide)
  have j6' : _ = some (Value.bool rl) := hC2.i 6 (by decide)
  have hC3 := Lib.hid (hC2.setK 6 (by decide) (.bool rl) (fun j => rfl)).drew
  clear hC hC2
  go_region
  all_goals
    have hC := hC3.out
    clear hC3
    go_upto_region 52 with (fail)
    have k0 : _ = some (Value.int .i64 op) := hC.k 0 (by decide)
    have k1 : _ = some (Value.int .i64 rd) := hC.k 1 (by decide)
    have k2 : _ = some (Value.int .i64 rs1) := hC.k 2 (by decide)
    have k3 : _ = some (Value.int .i64 0) := hC.k 3 (by decide)
    have k4 : _ = some (Value.int .i64 0) := hC.k 4 (by decide)
    have k5 : _ = some (Value.bool aq) := hC.k 5 (by decide)
    have k6 : _ = some (Value.bool rl) := hC.k 6 (by decide)
    have k7 : _ = some (Value.int .i64 0) := hC.k 7 (by decide)
    have k8 : _ = some (Value.int .i64 0) := hC.k 8 (by decide)
    have i0 : _ = some (Value.int .i64 op) := hC.i 0 (by decide)
    have i1 : _ = some (Value.int .i64 rd) := hC.i 1 (by decide)
    have i2 : _ = some (Value.int .i64 rs1) := hC.i 2 (by decide)
    have i3 : _ = some (Value.int .i64 rs2) := hC.i 3 (by decide)
    have i4 : _ = some (Value.int .i64 imm) := hC.i 4 (by decide)
    have i5 : _ = some (Value.bool aq) := hC.i 5 (by decide)
    have i6 : _ = some (Value.bool rl) := hC.i 6 (by decide)
    have i7 : _ = some (Value.int .i64 pred) := hC.i 7 (by decide)
    have i8 : _ = some (Value.int .i64 succ) := hC.i 8 (by decide)
    have eb := hC.b
    have ee := hC.e
    obtain ⟨v, hv, hown⟩ := hC.r
    have hbl := Lib.hid hC.bl
    clear hC
    by_cases c_rs2 : rs2 = 0
    · subst c_rs2
      by_cases c_imm : imm = 0
      · subst c_imm
        by_cases c_pred : pred = 0
        · subst c_pred
          by_cases c_succ : succ = 0
          · subst c_succ
            cases hR : badIn [rd, rs1] with
            | true =>
              have hE : Hid (_ = (2 : Int)) := Lib.hid ((hE0.out rd rs1 0 0 aq rl 0 0).trans (by simp [formOk, hR]))
              go_wp2_with (first | (go_at_call 73; (with_reducible refine (Fits_any _ _ _).mono ?_); rintro e w1 ⟨rfl, rfl⟩) | (go_at_call 122; refine (ContainsFunc_any _ v [rd, rs1] _ hown (by simp)).mono ?_; rintro e w1 ⟨rfl, rfl⟩))
              go_ret
              exact ⟨ret_int (by rw [hE.out]), hbl.out⟩
            | false =>
              have hE : Hid (_ = (0 : Int)) := Lib.hid ((hE0.out rd rs1 0 0 aq rl 0 0).trans (by simp [formOk, hR]))
              go_wp2_with (first | (go_at_call 73; (with_reducible refine (Fits_any _ _ _).mono ?_); rintro e w1 ⟨rfl, rfl⟩) | (go_at_call 122; refine (ContainsFunc_any _ v [rd, rs1] _ hown (by simp)).mono ?_; rintro e w1 ⟨rfl, rfl⟩))
              go_ret
              exact ⟨ret_int (by rw [hE.out]), hbl.out⟩
          · have t_succ : ((0 : Int) == succ) = false := by rw [beq_eq_false_iff_ne]; exact fun h => c_succ h.symm
            have hE : Hid (_ = (2 : Int)) := Lib.hid ((hE0.out rd rs1 0 0 aq rl 0 succ).trans (by simp [formOk, c_succ]))
            go_wp2_with (first | (go_at_call 73; (with_reducible refine (Fits_any _ _ _).mono ?_); rintro e w1 ⟨rfl, rfl⟩) | (go_at_call 122; refine (ContainsFunc_any _ v [rd, rs1] _ hown (by simp)).mono ?_; rintro e w1 ⟨rfl, rfl⟩))
            go_ret
            exact ⟨ret_int (by rw [hE.out]), hbl.out⟩
        · have t_pred : ((0 : Int) == pred) = false := by rw [beq_eq_false_iff_ne]; exact fun h => c_pred h.symm
          have hE : Hid (_ = (2 : Int)) := Lib.hid ((hE0.out rd rs1 0 0 aq rl pred succ).trans (by simp [formOk, c_pred]))
          go_wp2_with (first | (go_at_call 73; (with_reducible refine (Fits_any _ _ _).mono ?_); rintro e w1 ⟨rfl, rfl⟩) | (go_at_call 122; refine (ContainsFunc_any _ v [rd, rs1] _ hown (by simp)).mono ?_; rintro e w1 ⟨rfl, rfl⟩))
          go_ret
          exact ⟨ret_int (by rw [hE.out]), hbl.out⟩
      · have t_imm : ((0 : Int) == imm) = false := by rw [beq_eq_false_iff_ne]; exact fun h => c_imm h.symm
        have hE : Hid (_ = (2 : Int)) := Lib.hid ((hE0.out rd rs1 0 imm aq rl pred succ).trans (by simp [formOk, c_imm]))
        go_wp2_with (first | (go_at_call 73; (with_reducible refine (Fits_any _ _ _).mono ?_); rintro e w1 ⟨rfl, rfl⟩) | (go_at_call 122; refine (ContainsFunc_any _ v [rd, rs1] _ hown (by simp)).mono ?_; rintro e w1 ⟨rfl, rfl⟩))
        go_ret
        exact ⟨ret_int (by rw [hE.out]), hbl.out⟩
    · have t_rs2 : ((0 : Int) == rs2) = false := by rw [beq_eq_false_iff_ne]; exact fun h => c_rs2 h.symm
      have hE : Hid (_ = (2 : Int)) := Lib.hid ((hE0.out rd rs1 rs2 imm aq rl pred succ).trans (by simp [formOk, c_rs2]))
      go_wp2_with (first | (go_at_call 73; (with_reducible refine (Fits_any _ _ _).mono ?_); rintro e w1 ⟨rfl, rfl⟩) | (go_at_call 122; refine (ContainsFunc_any _ v [rd, rs1] _ hown (by simp)).mono ?_; rintro e w1 ⟨rfl, rfl⟩))
      go_ret
      exact ⟨ret_int (by rw [hE.out]), hbl.out⟩
end Go.Proofs.YtcgflnkgekkidaaGreatDoor
namespace Go.Proofs.YtcgflnkgekkidaaGreatDoor
open Go.RowKit
set_option maxRecDepth 100000 in
set_option maxHeartbeats 8000000 in
theorem Check_12 (op rd rs1 rs2 imm : Int) (aq rl : Bool) (pred succ : Int) (hop : op ≤ 9223372036854775807) (nm : List UInt8) (z : Int) (l s : Bool) (hO : Hid (opOf op = ⟨nm, 12, l, s, z⟩)) (w : World) (ht : Tabs w) :
    Calls Tryz.prog 90 #[.agg #[.int .i64 op, .int .i64 rd, .int .i64 rs1, .int .i64 rs2, .int .i64 imm, .bool aq, .bool rl, .int .i64 pred, .int .i64 succ]] w fun e w' => e = .returned (.int .i64 (checkE ⟨op, rd, rs1, rs2, imm, aq, rl, pred, succ⟩)) ∧ Below w.heap.size w w' := by
  have hmf : ∀ (fn : Fn) (first cap : Array Value) (w : World), (Instr.makeFunc fn first cap).run Tryz.prog w = .ok (.func fn first cap) w := fun _ _ _ _ => rfl
  have hof := Lib.hid (fun W (hW : Tabs W) => of_any op hop W hW)
  rw [hO.out] at hof
  have hE0 : Hid (∀ rd rs1 rs2 imm aq rl pred succ, checkE ⟨op, rd, rs1, rs2, imm, aq, rl, pred, succ⟩ = if formOk 12 (shortName nm) ⟨op, rd, rs1, rs2, imm, aq, rl, pred, succ⟩ then 0 else 2) := Lib.hid (checkE_form hO.out)
  clear hO hop
  go_enter Tryz.func90, Tryz.ntmps90
  go_upto_region 49 with (first | (go_at_call 116; refine (hof.out _ (ht.later ((Below.refl _ _).alloc (Nat.le_refl _) _) (Nat.le_refl _))).mono ?_; rintro e w2 ⟨rfl, hb2⟩; have g0 := op_cell (t' := 158) (ds := #[.string ⟨nm.toArray⟩, .int .i64 12, .bool l, .bool s, .int .i64 z]) hb2 0; have hC := CK.start hb2 #[.string ⟨nm.toArray⟩, .int .i64 12, .bool l, .bool s, .int .i64 z] rfl 158 26 3 4 32) | (go_at_call 117; refine (Check_reg1 hC rd rfl (by simp)).mono ?_; rintro e w' ⟨rfl, hC⟩) | (go_at_call 118; refine (Check_reg2 hC rs1 rfl (by simp)).mono ?_; rintro e w' ⟨rfl, hC⟩) | (go_at_call 119; refine (Check_reg3 hC rs2 rfl (by simp)).mono ?_; rintro e w' ⟨rfl, hC⟩) | (go_at_call 120; refine (Check_imm hC imm rfl _ _).mono ?_; rintro e w' ⟨rfl, hC⟩))
  have o1 : _ = some (Value.int .i64 12) := hC.o 1 (by decide)
  go_upto_region 51 with (first | (go_at_call 116; refine (hof.out _ (ht.later ((Below.refl _ _).alloc (Nat.le_refl _) _) (Nat.le_refl _))).mono ?_; rintro e w2 ⟨rfl, hb2⟩; have g0 := op_cell (t' := 158) (ds := #[.string ⟨nm.toArray⟩, .int .i64 12, .bool l, .bool s, .int .i64 z]) hb2 0; have hC := CK.start hb2 #[.string ⟨nm.toArray⟩, .int .i64 12, .bool l, .bool s, .int .i64 z] rfl 158 26 3 4 32) | (go_at_call 117; refine (Check_reg1 hC rd rfl (by simp)).mono ?_; rintro e w' ⟨rfl, hC⟩) | (go_at_call 118; refine (Check_reg2 hC rs1 rfl (by simp)).mono ?_; rintro e w' ⟨rfl, hC⟩) | (go_at_call 119; refine (Check_reg3 hC rs2 rfl (by simp)).mono ?_; rintro e w' ⟨rfl, hC⟩) | (go_at_call 120; refine (Check_imm hC imm rfl _ _).mono ?_; rintro e w' ⟨rfl, hC⟩))
  have m5 : _ = some (Value.bool false) := hC.k 5 (by decide)
  have f5 := hC.kf 5 (by decide)
  have j5 : _ = some (Value.bool aq) := hC.i 5 (by decide)
  have j6 : _ = some (Value.bool rl) := hC.i 6 (by decide)
  have hC2 := hC.setK 5 (by decide) (.bool aq) (fun j => rfl)
  have m6' : _ = some (Value.bool false) := hC2.k 6 (by decide)
  have f6' := hC2.kf 6 (by decide)
  have j6' : _ = some (Value.bool rl) := hC2.i 6 (by decide)
  have hC3 := Lib.hid (hC2.setK 6 (by decide) (.bool rl) (fun j => rfl)).drew
  clear hC hC2
  go_region
  all_goals
    have hC := hC3.out
    clear hC3
    go_upto_region 52 with (fail)
    have k0 : _ = some (Value.int .i64 op) := hC.k 0 (by decide)
    have k1 : _ = some (Value.int .i64 rd) := hC.k 1 (by decide)
    have k2 : _ = some (Value.int .i64 rs1) := hC.k 2 (by decide)
    have k3 : _ = some (Value.int .i64 rs2) := hC.k 3 (by decide)
    have k4 : _ = some (Value.int .i64 0) := hC.k 4 (by decide)
    have k5 : _ = some (Value.bool aq) := hC.k 5 (by decide)
    have k6 : _ = some (Value.bool rl) := hC.k 6 (by decide)
    have k7 : _ = some (Value.int .i64 0) := hC.k 7 (by decide)
    have k8 : _ = some (Value.int .i64 0) := hC.k 8 (by decide)
    have i0 : _ = some (Value.int .i64 op) := hC.i 0 (by decide)
    have i1 : _ = some (Value.int .i64 rd) := hC.i 1 (by decide)
    have i2 : _ = some (Value.int .i64 rs1) := hC.i 2 (by decide)
    have i3 : _ = some (Value.int .i64 rs2) := hC.i 3 (by decide)
    have i4 : _ = some (Value.int .i64 imm) := hC.i 4 (by decide)
    have i5 : _ = some (Value.bool aq) := hC.i 5 (by decide)
    have i6 : _ = some (Value.bool rl) := hC.i 6 (by decide)
    have i7 : _ = some (Value.int .i64 pred) := hC.i 7 (by decide)
    have i8 : _ = some (Value.int .i64 succ) := hC.i 8 (by decide)
    have eb := hC.b
    have ee := hC.e
    obtain ⟨v, hv, hown⟩ := hC.r
    have hbl := Lib.hid hC.bl
    clear hC
    by_cases c_imm : imm = 0
    · subst c_imm
      by_cases c_pred : pred = 0
      · subst c_pred
        by_cases c_succ : succ = 0
        · subst c_succ
          cases hR : badIn [rd, rs1, rs2] with
          | true =>
            have hE : Hid (_ = (2 : Int)) := Lib.hid ((hE0.out rd rs1 rs2 0 aq rl 0 0).trans (by simp [formOk, hR]))
            go_wp2_with (first | (go_at_call 73; (with_reducible refine (Fits_any _ _ _).mono ?_); rintro e w1 ⟨rfl, rfl⟩) | (go_at_call 122; refine (ContainsFunc_any _ v [rd, rs1, rs2] _ hown (by simp)).mono ?_; rintro e w1 ⟨rfl, rfl⟩))
            go_ret
            exact ⟨ret_int (by rw [hE.out]), hbl.out⟩
          | false =>
            have hE : Hid (_ = (0 : Int)) := Lib.hid ((hE0.out rd rs1 rs2 0 aq rl 0 0).trans (by simp [formOk, hR]))
            go_wp2_with (first | (go_at_call 73; (with_reducible refine (Fits_any _ _ _).mono ?_); rintro e w1 ⟨rfl, rfl⟩) | (go_at_call 122; refine (ContainsFunc_any _ v [rd, rs1, rs2] _ hown (by simp)).mono ?_; rintro e w1 ⟨rfl, rfl⟩))
            go_ret
            exact ⟨ret_int (by rw [hE.out]), hbl.out⟩
        · have t_succ : ((0 : Int) == succ) = false := by rw [beq_eq_false_iff_ne]; exact fun h => c_succ h.symm
          have hE : Hid (_ = (2 : Int)) := Lib.hid ((hE0.out rd rs1 rs2 0 aq rl 0 succ).trans (by simp [formOk, c_succ]))
          go_wp2_with (first | (go_at_call 73; (with_reducible refine (Fits_any _ _ _).mono ?_); rintro e w1 ⟨rfl, rfl⟩) | (go_at_call 122; refine (ContainsFunc_any _ v [rd, rs1, rs2] _ hown (by simp)).mono ?_; rintro e w1 ⟨rfl, rfl⟩))
          go_ret
          exact ⟨ret_int (by rw [hE.out]), hbl.out⟩
      · have t_pred : ((0 : Int) == pred) = false := by rw [beq_eq_false_iff_ne]; exact fun h => c_pred h.symm
        have hE : Hid (_ = (2 : Int)) := Lib.hid ((hE0.out rd rs1 rs2 0 aq rl pred succ).trans (by simp [formOk, c_pred]))
        go_wp2_with (first | (go_at_call 73; (with_reducible refine (Fits_any _ _ _).mono ?_); rintro e w1 ⟨rfl, rfl⟩) | (go_at_call 122; refine (ContainsFunc_any _ v [rd, rs1, rs2] _ hown (by simp)).mono ?_; rintro e w1 ⟨rfl, rfl⟩))
        go_ret
        exact ⟨ret_int (by rw [hE.out]), hbl.out⟩
    · have t_imm : ((0 : Int) == imm) = false := by rw [beq_eq_false_iff_ne]; exact fun h => c_imm h.symm
      have hE : Hid (_ = (2 : Int)) := Lib.hid ((hE0.out rd rs1 rs2 imm aq rl pred succ).trans (by simp [formOk, c_imm]))
      go_wp2_with (first | (go_at_call 73; (with_reducible refine (Fits_any _ _ _).mono ?_); rintro e w1 ⟨rfl, rfl⟩) | (go_at_call 122; refine (ContainsFunc_any _ v [rd, rs1, rs2] _ hown (by simp)).mono ?_; rintro e w1 ⟨rfl, rfl⟩))
      go_ret
      exact ⟨ret_int (by rw [hE.out]), hbl.out⟩
end Go.Proofs.YtcgflnkgekkidaaGreatDoor
