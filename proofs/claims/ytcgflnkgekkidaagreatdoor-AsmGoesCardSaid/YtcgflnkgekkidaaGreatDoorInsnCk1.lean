/- The walk of insn.Check at form 1. The walk of insn.Check at form 2. The walk of insn.Check at form 3. The walk of insn.Check at form 4. Conditions: as each theorem says. -/
import Derived.Test.YtcgflnkgekkidaaGreatDoorInsnCkA
import Derived.Deep.RegionWith
namespace Go.Proofs.YtcgflnkgekkidaaGreatDoor
open Go.RowKit
set_option maxRecDepth 100000 in
set_option maxHeartbeats 8000000 in
theorem Check_1 (op rd rs1 rs2 imm : Int) (aq rl : Bool) (pred succ : Int) (hop : op ≤ 9223372036854775807) (nm : List UInt8) (z : Int) (l s : Bool) (hO : Hid (opOf op = ⟨nm, 1, l, s, z⟩)) (w : World) (ht : Tabs w) :
    Calls Tryz.prog 90 #[.agg #[.int .i64 op, .int .i64 rd, .int .i64 rs1, .int .i64 rs2, .int .i64 imm, .bool aq, .bool rl, .int .i64 pred, .int .i64 succ]] w fun e w' => e = .returned (.int .i64 (checkE ⟨op, rd, rs1, rs2, imm, aq, rl, pred, succ⟩)) ∧ Below w.heap.size w w' := by
  have hmf : ∀ (fn : Fn) (first cap : Array Value) (w : World), (Instr.makeFunc fn first cap).run Tryz.prog w = .ok (.func fn first cap) w := fun _ _ _ _ => rfl
  have hof := Lib.hid (fun W (hW : Tabs W) => of_any op hop W hW)
  rw [hO.out] at hof
  have hE0 : Hid (∀ rd rs1 rs2 imm aq rl pred succ, checkE ⟨op, rd, rs1, rs2, imm, aq, rl, pred, succ⟩ = if formOk 1 (shortName nm) ⟨op, rd, rs1, rs2, imm, aq, rl, pred, succ⟩ then 0 else 2) := Lib.hid (checkE_form hO.out)
  clear hO hop
  go_enter Tryz.func90, Tryz.ntmps90
  go_upto_region 52 with (first | (go_at_call 116; refine (hof.out _ (ht.later ((Below.refl _ _).alloc (Nat.le_refl _) _) (Nat.le_refl _))).mono ?_; rintro e w2 ⟨rfl, hb2⟩; have g0 := op_cell (t' := 158) (ds := #[.string ⟨nm.toArray⟩, .int .i64 1, .bool l, .bool s, .int .i64 z]) hb2 0; have hC := CK.start hb2 #[.string ⟨nm.toArray⟩, .int .i64 1, .bool l, .bool s, .int .i64 z] rfl 158 26 3 4 32) | (go_at_call 117; refine (Check_reg1 hC rd rfl (by simp)).mono ?_; rintro e w' ⟨rfl, hC⟩) | (go_at_call 118; refine (Check_reg2 hC rs1 rfl (by simp)).mono ?_; rintro e w' ⟨rfl, hC⟩) | (go_at_call 119; refine (Check_reg3 hC rs2 rfl (by simp)).mono ?_; rintro e w' ⟨rfl, hC⟩) | (go_at_call 120; refine (Check_imm hC imm rfl _ _).mono ?_; rintro e w' ⟨rfl, hC⟩))
  have k0 : _ = some (Value.int .i64 op) := hC.k 0 (by decide)
  have k1 : _ = some (Value.int .i64 rd) := hC.k 1 (by decide)
  have k2 : _ = some (Value.int .i64 0) := hC.k 2 (by decide)
  have k3 : _ = some (Value.int .i64 0) := hC.k 3 (by decide)
  have k4 : _ = some (Value.int .i64 imm) := hC.k 4 (by decide)
  have k5 : _ = some (Value.bool false) := hC.k 5 (by decide)
  have k6 : _ = some (Value.bool false) := hC.k 6 (by decide)
  have k7 : _ = some (Value.int .i64 0) := hC.k 7 (by decide)
  have k8 : _ = some (Value.int .i64 0) := hC.k 8 (by decide)
  have i0 : _ = some (Value.int .i64 op) := hC.i 0 (by decide)
  have i1 : _ = some (Value.int .i64 rd) := hC.i 1 (by decide)
  have i2 : _ = some (Value.int .i64 rs1) := hC.i 2 (by decide)
  have i3 : _ = some (Value.int .i64 rs2) := hC.i 3 (by decide)
  have i4 : _ = some (Value.int .i64 imm) := hC.i 4 (by decide)
  have i5 : _ = some (Value.bool aq) := hC.i 5 (by decide)
  have i6 : _ = some (Value.bool rl) := hC.i 6 (by decide)
  have i7 : _ = some (Value.int .i64 pred) := hC.i 7 (by decide)
  have i8 : _ = some (Value.int .i64 succ) := hC.i 8 (by decide)
  have eb := hC.b
  have ee := hC.e
  obtain ⟨v, hv, hown⟩ := hC.r
  have hbl := Lib.hid hC.bl
  clear hC
  by_cases c_rs1 : rs1 = 0
  · subst c_rs1
    by_cases c_rs2 : rs2 = 0
    · subst c_rs2
      cases aq with
      | true =>
        have hE : Hid (_ = (2 : Int)) := Lib.hid ((hE0.out rd 0 0 imm true rl pred succ).trans (by simp [formOk]))
        go_wp2_with (first | (go_at_call 73; (with_reducible refine (Fits_any _ _ _).mono ?_); rintro e w1 ⟨rfl, rfl⟩) | (go_at_call 122; refine (ContainsFunc_any _ v [rd] _ hown (by simp)).mono ?_; rintro e w1 ⟨rfl, rfl⟩))
        go_ret
        exact ⟨ret_int (by rw [hE.out]), hbl.out⟩
      | false =>
        cases rl with
        | true =>
          have hE : Hid (_ = (2 : Int)) := Lib.hid ((hE0.out rd 0 0 imm false true pred succ).trans (by simp [formOk]))
          go_wp2_with (first | (go_at_call 73; (with_reducible refine (Fits_any _ _ _).mono ?_); rintro e w1 ⟨rfl, rfl⟩) | (go_at_call 122; refine (ContainsFunc_any _ v [rd] _ hown (by simp)).mono ?_; rintro e w1 ⟨rfl, rfl⟩))
          go_ret
          exact ⟨ret_int (by rw [hE.out]), hbl.out⟩
        | false =>
          by_cases c_pred : pred = 0
          · subst c_pred
            by_cases c_succ : succ = 0
            · subst c_succ
              cases hF : Fits imm 20 with
              | false =>
                have hE : Hid (_ = (2 : Int)) := Lib.hid ((hE0.out rd 0 0 imm false false 0 0).trans (by simp [formOk, hF]))
                go_wp2_with (first | (go_at_call 73; (with_reducible refine (Fits_any _ _ _).mono ?_); rintro e w1 ⟨rfl, rfl⟩) | (go_at_call 122; refine (ContainsFunc_any _ v [rd] _ hown (by simp)).mono ?_; rintro e w1 ⟨rfl, rfl⟩))
                go_ret
                exact ⟨ret_int (by rw [hE.out]), hbl.out⟩
              | true =>
                cases hR : badIn [rd] with
                | true =>
                  have hE : Hid (_ = (2 : Int)) := Lib.hid ((hE0.out rd 0 0 imm false false 0 0).trans (by simp [formOk, hF, hR]))
                  go_wp2_with (first | (go_at_call 73; (with_reducible refine (Fits_any _ _ _).mono ?_); rintro e w1 ⟨rfl, rfl⟩) | (go_at_call 122; refine (ContainsFunc_any _ v [rd] _ hown (by simp)).mono ?_; rintro e w1 ⟨rfl, rfl⟩))
                  go_ret
                  exact ⟨ret_int (by rw [hE.out]), hbl.out⟩
                | false =>
                  have hE : Hid (_ = (0 : Int)) := Lib.hid ((hE0.out rd 0 0 imm false false 0 0).trans (by simp [formOk, hF, hR]))
                  go_wp2_with (first | (go_at_call 73; (with_reducible refine (Fits_any _ _ _).mono ?_); rintro e w1 ⟨rfl, rfl⟩) | (go_at_call 122; refine (ContainsFunc_any _ v [rd] _ hown (by simp)).mono ?_; rintro e w1 ⟨rfl, rfl⟩))
                  go_ret
                  exact ⟨ret_int (by rw [hE.out]), hbl.out⟩
            · have t_succ : ((0 : Int) == succ) = false := by rw [beq_eq_false_iff_ne]; exact fun h => c_succ h.symm
              have hE : Hid (_ = (2 : Int)) := Lib.hid ((hE0.out rd 0 0 imm false false 0 succ).trans (by simp [formOk, c_succ]))
              go_wp2_with (first | (go_at_call 73; (with_reducible refine (Fits_any _ _ _).mono ?_); rintro e w1 ⟨rfl, rfl⟩) | (go_at_call 122; refine (ContainsFunc_any _ v [rd] _ hown (by simp)).mono ?_; rintro e w1 ⟨rfl, rfl⟩))
              go_ret
              exact ⟨ret_int (by rw [hE.out]), hbl.out⟩
          · have t_pred : ((0 : Int) == pred) = false := by rw [beq_eq_false_iff_ne]; exact fun h => c_pred h.symm
            have hE : Hid (_ = (2 : Int)) := Lib.hid ((hE0.out rd 0 0 imm false false pred succ).trans (by simp [formOk, c_pred]))
            go_wp2_with (first | (go_at_call 73; (with_reducible refine (Fits_any _ _ _).mono ?_); rintro e w1 ⟨rfl, rfl⟩) | (go_at_call 122; refine (ContainsFunc_any _ v [rd] _ hown (by simp)).mono ?_; rintro e w1 ⟨rfl, rfl⟩))
            go_ret
            exact ⟨ret_int (by rw [hE.out]), hbl.out⟩
    · have t_rs2 : ((0 : Int) == rs2) = false := by rw [beq_eq_false_iff_ne]; exact fun h => c_rs2 h.symm
      have hE : Hid (_ = (2 : Int)) := Lib.hid ((hE0.out rd 0 rs2 imm aq rl pred succ).trans (by simp [formOk, c_rs2]))
      go_wp2_with (first | (go_at_call 73; (with_reducible refine (Fits_any _ _ _).mono ?_); rintro e w1 ⟨rfl, rfl⟩) | (go_at_call 122; refine (ContainsFunc_any _ v [rd] _ hown (by simp)).mono ?_; rintro e w1 ⟨rfl, rfl⟩))
      go_ret
      exact ⟨ret_int (by rw [hE.out]), hbl.out⟩
  · have t_rs1 : ((0 : Int) == rs1) = false := by rw [beq_eq_false_iff_ne]; exact fun h => c_rs1 h.symm
    have hE : Hid (_ = (2 : Int)) := Lib.hid ((hE0.out rd rs1 rs2 imm aq rl pred succ).trans (by simp [formOk, c_rs1]))
    go_wp2_with (first | (go_at_call 73; (with_reducible refine (Fits_any _ _ _).mono ?_); rintro e w1 ⟨rfl, rfl⟩) | (go_at_call 122; refine (ContainsFunc_any _ v [rd] _ hown (by simp)).mono ?_; rintro e w1 ⟨rfl, rfl⟩))
    go_ret
    exact ⟨ret_int (by rw [hE.out]), hbl.out⟩
end Go.Proofs.YtcgflnkgekkidaaGreatDoor
namespace Go.Proofs.YtcgflnkgekkidaaGreatDoor
open Go.RowKit
set_option maxRecDepth 100000 in
set_option maxHeartbeats 8000000 in
theorem Check_2 (op rd rs1 rs2 imm : Int) (aq rl : Bool) (pred succ : Int) (hop : op ≤ 9223372036854775807) (nm : List UInt8) (z : Int) (l s : Bool) (hO : Hid (opOf op = ⟨nm, 2, l, s, z⟩)) (w : World) (ht : Tabs w) :
    Calls Tryz.prog 90 #[.agg #[.int .i64 op, .int .i64 rd, .int .i64 rs1, .int .i64 rs2, .int .i64 imm, .bool aq, .bool rl, .int .i64 pred, .int .i64 succ]] w fun e w' => e = .returned (.int .i64 (checkE ⟨op, rd, rs1, rs2, imm, aq, rl, pred, succ⟩)) ∧ Below w.heap.size w w' := by
  have hmf : ∀ (fn : Fn) (first cap : Array Value) (w : World), (Instr.makeFunc fn first cap).run Tryz.prog w = .ok (.func fn first cap) w := fun _ _ _ _ => rfl
  have hof := Lib.hid (fun W (hW : Tabs W) => of_any op hop W hW)
  rw [hO.out] at hof
  have hE0 : Hid (∀ rd rs1 rs2 imm aq rl pred succ, checkE ⟨op, rd, rs1, rs2, imm, aq, rl, pred, succ⟩ = if formOk 2 (shortName nm) ⟨op, rd, rs1, rs2, imm, aq, rl, pred, succ⟩ then 0 else 2) := Lib.hid (checkE_form hO.out)
  clear hO hop
  go_enter Tryz.func90, Tryz.ntmps90
  go_upto_region 52 with (first | (go_at_call 116; refine (hof.out _ (ht.later ((Below.refl _ _).alloc (Nat.le_refl _) _) (Nat.le_refl _))).mono ?_; rintro e w2 ⟨rfl, hb2⟩; have g0 := op_cell (t' := 158) (ds := #[.string ⟨nm.toArray⟩, .int .i64 2, .bool l, .bool s, .int .i64 z]) hb2 0; have hC := CK.start hb2 #[.string ⟨nm.toArray⟩, .int .i64 2, .bool l, .bool s, .int .i64 z] rfl 158 26 3 4 32) | (go_at_call 117; refine (Check_reg1 hC rd rfl (by simp)).mono ?_; rintro e w' ⟨rfl, hC⟩) | (go_at_call 118; refine (Check_reg2 hC rs1 rfl (by simp)).mono ?_; rintro e w' ⟨rfl, hC⟩) | (go_at_call 119; refine (Check_reg3 hC rs2 rfl (by simp)).mono ?_; rintro e w' ⟨rfl, hC⟩) | (go_at_call 120; refine (Check_imm hC imm rfl _ _).mono ?_; rintro e w' ⟨rfl, hC⟩))
  have k0 : _ = some (Value.int .i64 op) := hC.k 0 (by decide)
  have k1 : _ = some (Value.int .i64 rd) := hC.k 1 (by decide)
  have k2 : _ = some (Value.int .i64 0) := hC.k 2 (by decide)
  have k3 : _ = some (Value.int .i64 0) := hC.k 3 (by decide)
  have k4 : _ = some (Value.int .i64 imm) := hC.k 4 (by decide)
  have k5 : _ = some (Value.bool false) := hC.k 5 (by decide)
  have k6 : _ = some (Value.bool false) := hC.k 6 (by decide)
  have k7 : _ = some (Value.int .i64 0) := hC.k 7 (by decide)
  have k8 : _ = some (Value.int .i64 0) := hC.k 8 (by decide)
  have i0 : _ = some (Value.int .i64 op) := hC.i 0 (by decide)
  have i1 : _ = some (Value.int .i64 rd) := hC.i 1 (by decide)
  have i2 : _ = some (Value.int .i64 rs1) := hC.i 2 (by decide)
  have i3 : _ = some (Value.int .i64 rs2) := hC.i 3 (by decide)
  have i4 : _ = some (Value.int .i64 imm) := hC.i 4 (by decide)
  have i5 : _ = some (Value.bool aq) := hC.i 5 (by decide)
  have i6 : _ = some (Value.bool rl) := hC.i 6 (by decide)
  have i7 : _ = some (Value.int .i64 pred) := hC.i 7 (by decide)
  have i8 : _ = some (Value.int .i64 succ) := hC.i 8 (by decide)
  have eb := hC.b
  have ee := hC.e
  obtain ⟨v, hv, hown⟩ := hC.r
  have hbl := Lib.hid hC.bl
  clear hC
  by_cases c_rs1 : rs1 = 0
  · subst c_rs1
    by_cases c_rs2 : rs2 = 0
    · subst c_rs2
      cases aq with
      | true =>
        have hE : Hid (_ = (2 : Int)) := Lib.hid ((hE0.out rd 0 0 imm true rl pred succ).trans (by simp [formOk]))
        go_wp2_with (first | (go_at_call 73; (with_reducible refine (Fits_any _ _ _).mono ?_); rintro e w1 ⟨rfl, rfl⟩) | (go_at_call 122; refine (ContainsFunc_any _ v [rd] _ hown (by simp)).mono ?_; rintro e w1 ⟨rfl, rfl⟩))
        go_ret
        exact ⟨ret_int (by rw [hE.out]), hbl.out⟩
      | false =>
        cases rl with
        | true =>
          have hE : Hid (_ = (2 : Int)) := Lib.hid ((hE0.out rd 0 0 imm false true pred succ).trans (by simp [formOk]))
          go_wp2_with (first | (go_at_call 73; (with_reducible refine (Fits_any _ _ _).mono ?_); rintro e w1 ⟨rfl, rfl⟩) | (go_at_call 122; refine (ContainsFunc_any _ v [rd] _ hown (by simp)).mono ?_; rintro e w1 ⟨rfl, rfl⟩))
          go_ret
          exact ⟨ret_int (by rw [hE.out]), hbl.out⟩
        | false =>
          by_cases c_pred : pred = 0
          · subst c_pred
            by_cases c_succ : succ = 0
            · subst c_succ
              cases hF : Fits imm 21 with
              | false =>
                have hE : Hid (_ = (2 : Int)) := Lib.hid ((hE0.out rd 0 0 imm false false 0 0).trans (by simp [formOk, hF]))
                go_wp2_with (first | (go_at_call 73; (with_reducible refine (Fits_any _ _ _).mono ?_); rintro e w1 ⟨rfl, rfl⟩) | (go_at_call 122; refine (ContainsFunc_any _ v [rd] _ hown (by simp)).mono ?_; rintro e w1 ⟨rfl, rfl⟩))
                go_ret
                exact ⟨ret_int (by rw [hE.out]), hbl.out⟩
              | true =>
                cases hM : (imm.tmod 2 != 0) with
                | true =>
                  have hE : Hid (_ = (2 : Int)) := Lib.hid ((hE0.out rd 0 0 imm false false 0 0).trans (by simp [formOk, hF, show ¬ imm.tmod 2 = 0 by simpa using hM]))
                  go_wp2_with (first | (go_at_call 73; (with_reducible refine (Fits_any _ _ _).mono ?_); rintro e w1 ⟨rfl, rfl⟩) | (go_at_call 122; refine (ContainsFunc_any _ v [rd] _ hown (by simp)).mono ?_; rintro e w1 ⟨rfl, rfl⟩))
                  go_ret
                  exact ⟨ret_int (by rw [hE.out]), hbl.out⟩
                | false =>
                  cases hR : badIn [rd] with
                  | true =>
                    have hE : Hid (_ = (2 : Int)) := Lib.hid ((hE0.out rd 0 0 imm false false 0 0).trans (by simp [formOk, hF, show imm.tmod 2 = 0 by simpa using hM, hR]))
                    go_wp2_with (first | (go_at_call 73; (with_reducible refine (Fits_any _ _ _).mono ?_); rintro e w1 ⟨rfl, rfl⟩) | (go_at_call 122; refine (ContainsFunc_any _ v [rd] _ hown (by simp)).mono ?_; rintro e w1 ⟨rfl, rfl⟩))
                    go_ret
                    exact ⟨ret_int (by rw [hE.out]), hbl.out⟩
                  | false =>
                    have hE : Hid (_ = (0 : Int)) := Lib.hid ((hE0.out rd 0 0 imm false false 0 0).trans (by simp [formOk, hF, show imm.tmod 2 = 0 by simpa using hM, hR]))
                    go_wp2_with (first | (go_at_call 73; (with_reducible refine (Fits_any _ _ _).mono ?_); rintro e w1 ⟨rfl, rfl⟩) | (go_at_call 122; refine (ContainsFunc_any _ v [rd] _ hown (by simp)).mono ?_; rintro e w1 ⟨rfl, rfl⟩))
                    go_ret
                    exact ⟨ret_int (by rw [hE.out]), hbl.out⟩
            · have t_succ : ((0 : Int) == succ) = false := by rw [beq_eq_false_iff_ne]; exact fun h => c_succ h.symm
              have hE : Hid (_ = (2 : Int)) := Lib.hid ((hE0.out rd 0 0 imm false false 0 succ).trans (by simp [formOk, c_succ]))
              go_wp2_with (first | (go_at_call 73; (with_reducible refine (Fits_any _ _ _).mono ?_); rintro e w1 ⟨rfl, rfl⟩) | (go_at_call 122; refine (ContainsFunc_any _ v [rd] _ hown (by simp)).mono ?_; rintro e w1 ⟨rfl, rfl⟩))
              go_ret
              exact ⟨ret_int (by rw [hE.out]), hbl.out⟩
          · have t_pred : ((0 : Int) == pred) = false := by rw [beq_eq_false_iff_ne]; exact fun h => c_pred h.symm
            have hE : Hid (_ = (2 : Int)) := Lib.hid ((hE0.out rd 0 0 imm false false pred succ).trans (by simp [formOk, c_pred]))
            go_wp2_with (first | (go_at_call 73; (with_reducible refine (Fits_any _ _ _).mono ?_); rintro e w1 ⟨rfl, rfl⟩) | (go_at_call 122; refine (ContainsFunc_any _ v [rd] _ hown (by simp)).mono ?_; rintro e w1 ⟨rfl, rfl⟩))
            go_ret
            exact ⟨ret_int (by rw [hE.out]), hbl.out⟩
    · have t_rs2 : ((0 : Int) == rs2) = false := by rw [beq_eq_false_iff_ne]; exact fun h => c_rs2 h.symm
      have hE : Hid (_ = (2 : Int)) := Lib.hid ((hE0.out rd 0 rs2 imm aq rl pred succ).trans (by simp [formOk, c_rs2]))
      go_wp2_with (first | (go_at_call 73; (with_reducible refine (Fits_any _ _ _).mono ?_); rintro e w1 ⟨rfl, rfl⟩) | (go_at_call 122; refine (ContainsFunc_any _ v [rd] _ hown (by simp)).mono ?_; rintro e w1 ⟨rfl, rfl⟩))
      go_ret
      exact ⟨ret_int (by rw [hE.out]), hbl.out⟩
  · have t_rs1 : ((0 : Int) == rs1) = false := by rw [beq_eq_false_iff_ne]; exact fun h => c_rs1 h.symm
    have hE : Hid (_ = (2 : Int)) := Lib.hid ((hE0.out rd rs1 rs2 imm aq rl pred succ).trans (by simp [formOk, c_rs1]))
    go_wp2_with (first | (go_at_call 73; (with_reducible refine (Fits_any _ _ _).mono ?_); rintro e w1 ⟨rfl, rfl⟩) | (go_at_call 122; refine (ContainsFunc_any _ v [rd] _ hown (by simp)).mono ?_; rintro e w1 ⟨rfl, rfl⟩))
    go_ret
    exact ⟨ret_int (by rw [hE.out]), hbl.out⟩
end Go.Proofs.YtcgflnkgekkidaaGreatDoor
namespace Go.Proofs.YtcgflnkgekkidaaGreatDoor
open Go.RowKit
set_option maxRecDepth 100000 in
set_option maxHeartbeats 8000000 in
theorem Check_3 (op rd rs1 rs2 imm : Int) (aq rl : Bool) (pred succ : Int) (hop : op ≤ 9223372036854775807) (nm : List UInt8) (z : Int) (l s : Bool) (hO : Hid (opOf op = ⟨nm, 3, l, s, z⟩)) (w : World) (ht : Tabs w) :
    Calls Tryz.prog 90 #[.agg #[.int .i64 op, .int .i64 rd, .int .i64 rs1, .int .i64 rs2, .int .i64 imm, .bool aq, .bool rl, .int .i64 pred, .int .i64 succ]] w fun e w' => e = .returned (.int .i64 (checkE ⟨op, rd, rs1, rs2, imm, aq, rl, pred, succ⟩)) ∧ Below w.heap.size w w' := by
  have hmf : ∀ (fn : Fn) (first cap : Array Value) (w : World), (Instr.makeFunc fn first cap).run Tryz.prog w = .ok (.func fn first cap) w := fun _ _ _ _ => rfl
  have hof := Lib.hid (fun W (hW : Tabs W) => of_any op hop W hW)
  rw [hO.out] at hof
  have hE0 : Hid (∀ rd rs1 rs2 imm aq rl pred succ, checkE ⟨op, rd, rs1, rs2, imm, aq, rl, pred, succ⟩ = if formOk 3 (shortName nm) ⟨op, rd, rs1, rs2, imm, aq, rl, pred, succ⟩ then 0 else 2) := Lib.hid (checkE_form hO.out)
  clear hO hop
  go_enter Tryz.func90, Tryz.ntmps90
  go_upto_region 52 with (first | (go_at_call 116; refine (hof.out _ (ht.later ((Below.refl _ _).alloc (Nat.le_refl _) _) (Nat.le_refl _))).mono ?_; rintro e w2 ⟨rfl, hb2⟩; have g0 := op_cell (t' := 158) (ds := #[.string ⟨nm.toArray⟩, .int .i64 3, .bool l, .bool s, .int .i64 z]) hb2 0; have hC := CK.start hb2 #[.string ⟨nm.toArray⟩, .int .i64 3, .bool l, .bool s, .int .i64 z] rfl 158 26 3 4 32) | (go_at_call 117; refine (Check_reg1 hC rd rfl (by simp)).mono ?_; rintro e w' ⟨rfl, hC⟩) | (go_at_call 118; refine (Check_reg2 hC rs1 rfl (by simp)).mono ?_; rintro e w' ⟨rfl, hC⟩) | (go_at_call 119; refine (Check_reg3 hC rs2 rfl (by simp)).mono ?_; rintro e w' ⟨rfl, hC⟩) | (go_at_call 120; refine (Check_imm hC imm rfl _ _).mono ?_; rintro e w' ⟨rfl, hC⟩))
  have k0 : _ = some (Value.int .i64 op) := hC.k 0 (by decide)
  have k1 : _ = some (Value.int .i64 rd) := hC.k 1 (by decide)
  have k2 : _ = some (Value.int .i64 rs1) := hC.k 2 (by decide)
  have k3 : _ = some (Value.int .i64 0) := hC.k 3 (by decide)
  have k4 : _ = some (Value.int .i64 imm) := hC.k 4 (by decide)
  have k5 : _ = some (Value.bool false) := hC.k 5 (by decide)
  have k6 : _ = some (Value.bool false) := hC.k 6 (by decide)
  have k7 : _ = some (Value.int .i64 0) := hC.k 7 (by decide)
  have k8 : _ = some (Value.int .i64 0) := hC.k 8 (by decide)
  have i0 : _ = some (Value.int .i64 op) := hC.i 0 (by decide)
  have i1 : _ = some (Value.int .i64 rd) := hC.i 1 (by decide)
  have i2 : _ = some (Value.int .i64 rs1) := hC.i 2 (by decide)
  have i3 : _ = some (Value.int .i64 rs2) := hC.i 3 (by decide)
  have i4 : _ = some (Value.int .i64 imm) := hC.i 4 (by decide)
  have i5 : _ = some (Value.bool aq) := hC.i 5 (by decide)
  have i6 : _ = some (Value.bool rl) := hC.i 6 (by decide)
  have i7 : _ = some (Value.int .i64 pred) := hC.i 7 (by decide)
  have i8 : _ = some (Value.int .i64 succ) := hC.i 8 (by decide)
  have eb := hC.b
  have ee := hC.e
  obtain ⟨v, hv, hown⟩ := hC.r
  have hbl := Lib.hid hC.bl
  clear hC
  by_cases c_rs2 : rs2 = 0
  · subst c_rs2
    cases aq with
    | true =>
      have hE : Hid (_ = (2 : Int)) := Lib.hid ((hE0.out rd rs1 0 imm true rl pred succ).trans (by simp [formOk]))
      go_wp2_with (first | (go_at_call 73; (with_reducible refine (Fits_any _ _ _).mono ?_); rintro e w1 ⟨rfl, rfl⟩) | (go_at_call 122; refine (ContainsFunc_any _ v [rd, rs1] _ hown (by simp)).mono ?_; rintro e w1 ⟨rfl, rfl⟩))
      go_ret
      exact ⟨ret_int (by rw [hE.out]), hbl.out⟩
    | false =>
      cases rl with
      | true =>
        have hE : Hid (_ = (2 : Int)) := Lib.hid ((hE0.out rd rs1 0 imm false true pred succ).trans (by simp [formOk]))
        go_wp2_with (first | (go_at_call 73; (with_reducible refine (Fits_any _ _ _).mono ?_); rintro e w1 ⟨rfl, rfl⟩) | (go_at_call 122; refine (ContainsFunc_any _ v [rd, rs1] _ hown (by simp)).mono ?_; rintro e w1 ⟨rfl, rfl⟩))
        go_ret
        exact ⟨ret_int (by rw [hE.out]), hbl.out⟩
      | false =>
        by_cases c_pred : pred = 0
        · subst c_pred
          by_cases c_succ : succ = 0
          · subst c_succ
            cases hF : Fits imm 12 with
            | false =>
              have hE : Hid (_ = (2 : Int)) := Lib.hid ((hE0.out rd rs1 0 imm false false 0 0).trans (by simp [formOk, hF]))
              go_wp2_with (first | (go_at_call 73; (with_reducible refine (Fits_any _ _ _).mono ?_); rintro e w1 ⟨rfl, rfl⟩) | (go_at_call 122; refine (ContainsFunc_any _ v [rd, rs1] _ hown (by simp)).mono ?_; rintro e w1 ⟨rfl, rfl⟩))
              go_ret
              exact ⟨ret_int (by rw [hE.out]), hbl.out⟩
            | true =>
              cases hR : badIn [rd, rs1] with
              | true =>
                have hE : Hid (_ = (2 : Int)) := Lib.hid ((hE0.out rd rs1 0 imm false false 0 0).trans (by simp [formOk, hF, hR]))
                go_wp2_with (first | (go_at_call 73; (with_reducible refine (Fits_any _ _ _).mono ?_); rintro e w1 ⟨rfl, rfl⟩) | (go_at_call 122; refine (ContainsFunc_any _ v [rd, rs1] _ hown (by simp)).mono ?_; rintro e w1 ⟨rfl, rfl⟩))
                go_ret
                exact ⟨ret_int (by rw [hE.out]), hbl.out⟩
              | false =>
                have hE : Hid (_ = (0 : Int)) := Lib.hid ((hE0.out rd rs1 0 imm false false 0 0).trans (by simp [formOk, hF, hR]))
                go_wp2_with (first | (go_at_call 73; (with_reducible refine (Fits_any _ _ _).mono ?_); rintro e w1 ⟨rfl, rfl⟩) | (go_at_call 122; refine (ContainsFunc_any _ v [rd, rs1] _ hown (by simp)).mono ?_; rintro e w1 ⟨rfl, rfl⟩))
                go_ret
                exact ⟨ret_int (by rw [hE.out]), hbl.out⟩
          · have t_succ : ((0 : Int) == succ) = false := by rw [beq_eq_false_iff_ne]; exact fun h => c_succ h.symm
            have hE : Hid (_ = (2 : Int)) := Lib.hid ((hE0.out rd rs1 0 imm false false 0 succ).trans (by simp [formOk, c_succ]))
            go_wp2_with (first | (go_at_call 73; (with_reducible refine (Fits_any _ _ _).mono ?_); rintro e w1 ⟨rfl, rfl⟩) | (go_at_call 122; refine (ContainsFunc_any _ v [rd, rs1] _ hown (by simp)).mono ?_; rintro e w1 ⟨rfl, rfl⟩))
            go_ret
            exact ⟨ret_int (by rw [hE.out]), hbl.out⟩
        · have t_pred : ((0 : Int) == pred) = false := by rw [beq_eq_false_iff_ne]; exact fun h => c_pred h.symm
          have hE : Hid (_ = (2 : Int)) := Lib.hid ((hE0.out rd rs1 0 imm false false pred succ).trans (by simp [formOk, c_pred]))
          go_wp2_with (first | (go_at_call 73; (with_reducible refine (Fits_any _ _ _).mono ?_); rintro e w1 ⟨rfl, rfl⟩) | (go_at_call 122; refine (ContainsFunc_any _ v [rd, rs1] _ hown (by simp)).mono ?_; rintro e w1 ⟨rfl, rfl⟩))
          go_ret
          exact ⟨ret_int (by rw [hE.out]), hbl.out⟩
  · have t_rs2 : ((0 : Int) == rs2) = false := by rw [beq_eq_false_iff_ne]; exact fun h => c_rs2 h.symm
    have hE : Hid (_ = (2 : Int)) := Lib.hid ((hE0.out rd rs1 rs2 imm aq rl pred succ).trans (by simp [formOk, c_rs2]))
    go_wp2_with (first | (go_at_call 73; (with_reducible refine (Fits_any _ _ _).mono ?_); rintro e w1 ⟨rfl, rfl⟩) | (go_at_call 122; refine (ContainsFunc_any _ v [rd, rs1] _ hown (by simp)).mono ?_; rintro e w1 ⟨rfl, rfl⟩))
    go_ret
    exact ⟨ret_int (by rw [hE.out]), hbl.out⟩
end Go.Proofs.YtcgflnkgekkidaaGreatDoor
namespace Go.Proofs.YtcgflnkgekkidaaGreatDoor
open Go.RowKit
set_option maxRecDepth 100000 in
set_option maxHeartbeats 8000000 in
theorem Check_4 (op rd rs1 rs2 imm : Int) (aq rl : Bool) (pred succ : Int) (hop : op ≤ 9223372036854775807) (nm : List UInt8) (z : Int) (l s : Bool) (hO : Hid (opOf op = ⟨nm, 4, l, s, z⟩)) (w : World) (ht : Tabs w) :
    Calls Tryz.prog 90 #[.agg #[.int .i64 op, .int .i64 rd, .int .i64 rs1, .int .i64 rs2, .int .i64 imm, .bool aq, .bool rl, .int .i64 pred, .int .i64 succ]] w fun e w' => e = .returned (.int .i64 (checkE ⟨op, rd, rs1, rs2, imm, aq, rl, pred, succ⟩)) ∧ Below w.heap.size w w' := by
  have hmf : ∀ (fn : Fn) (first cap : Array Value) (w : World), (Instr.makeFunc fn first cap).run Tryz.prog w = .ok (.func fn first cap) w := fun _ _ _ _ => rfl
  have hof := Lib.hid (fun W (hW : Tabs W) => of_any op hop W hW)
  rw [hO.out] at hof
  have hE0 : Hid (∀ rd rs1 rs2 imm aq rl pred succ, checkE ⟨op, rd, rs1, rs2, imm, aq, rl, pred, succ⟩ = if formOk 4 (shortName nm) ⟨op, rd, rs1, rs2, imm, aq, rl, pred, succ⟩ then 0 else 2) := Lib.hid (checkE_form hO.out)
  clear hO hop
  go_enter Tryz.func90, Tryz.ntmps90
  go_upto_region 52 with (first | (go_at_call 116; refine (hof.out _ (ht.later ((Below.refl _ _).alloc (Nat.le_refl _) _) (Nat.le_refl _))).mono ?_; rintro e w2 ⟨rfl, hb2⟩; have g0 := op_cell (t' := 158) (ds := #[.string ⟨nm.toArray⟩, .int .i64 4, .bool l, .bool s, .int .i64 z]) hb2 0; have hC := CK.start hb2 #[.string ⟨nm.toArray⟩, .int .i64 4, .bool l, .bool s, .int .i64 z] rfl 158 26 3 4 32) | (go_at_call 117; refine (Check_reg1 hC rd rfl (by simp)).mono ?_; rintro e w' ⟨rfl, hC⟩) | (go_at_call 118; refine (Check_reg2 hC rs1 rfl (by simp)).mono ?_; rintro e w' ⟨rfl, hC⟩) | (go_at_call 119; refine (Check_reg3 hC rs2 rfl (by simp)).mono ?_; rintro e w' ⟨rfl, hC⟩) | (go_at_call 120; refine (Check_imm hC imm rfl _ _).mono ?_; rintro e w' ⟨rfl, hC⟩))
  have k0 : _ = some (Value.int .i64 op) := hC.k 0 (by decide)
  have k1 : _ = some (Value.int .i64 rd) := hC.k 1 (by decide)
  have k2 : _ = some (Value.int .i64 rs1) := hC.k 2 (by decide)
  have k3 : _ = some (Value.int .i64 0) := hC.k 3 (by decide)
  have k4 : _ = some (Value.int .i64 imm) := hC.k 4 (by decide)
  have k5 : _ = some (Value.bool false) := hC.k 5 (by decide)
  have k6 : _ = some (Value.bool false) := hC.k 6 (by decide)
  have k7 : _ = some (Value.int .i64 0) := hC.k 7 (by decide)
  have k8 : _ = some (Value.int .i64 0) := hC.k 8 (by decide)
  have i0 : _ = some (Value.int .i64 op) := hC.i 0 (by decide)
  have i1 : _ = some (Value.int .i64 rd) := hC.i 1 (by decide)
  have i2 : _ = some (Value.int .i64 rs1) := hC.i 2 (by decide)
  have i3 : _ = some (Value.int .i64 rs2) := hC.i 3 (by decide)
  have i4 : _ = some (Value.int .i64 imm) := hC.i 4 (by decide)
  have i5 : _ = some (Value.bool aq) := hC.i 5 (by decide)
  have i6 : _ = some (Value.bool rl) := hC.i 6 (by decide)
  have i7 : _ = some (Value.int .i64 pred) := hC.i 7 (by decide)
  have i8 : _ = some (Value.int .i64 succ) := hC.i 8 (by decide)
  have eb := hC.b
  have ee := hC.e
  obtain ⟨v, hv, hown⟩ := hC.r
  have hbl := Lib.hid hC.bl
  clear hC
  by_cases c_rs2 : rs2 = 0
  · subst c_rs2
    cases aq with
    | true =>
      have hE : Hid (_ = (2 : Int)) := Lib.hid ((hE0.out rd rs1 0 imm true rl pred succ).trans (by simp [formOk]))
      go_wp2_with (first | (go_at_call 73; (with_reducible refine (Fits_any _ _ _).mono ?_); rintro e w1 ⟨rfl, rfl⟩) | (go_at_call 122; refine (ContainsFunc_any _ v [rd, rs1] _ hown (by simp)).mono ?_; rintro e w1 ⟨rfl, rfl⟩))
      go_ret
      exact ⟨ret_int (by rw [hE.out]), hbl.out⟩
    | false =>
      cases rl with
      | true =>
        have hE : Hid (_ = (2 : Int)) := Lib.hid ((hE0.out rd rs1 0 imm false true pred succ).trans (by simp [formOk]))
        go_wp2_with (first | (go_at_call 73; (with_reducible refine (Fits_any _ _ _).mono ?_); rintro e w1 ⟨rfl, rfl⟩) | (go_at_call 122; refine (ContainsFunc_any _ v [rd, rs1] _ hown (by simp)).mono ?_; rintro e w1 ⟨rfl, rfl⟩))
        go_ret
        exact ⟨ret_int (by rw [hE.out]), hbl.out⟩
      | false =>
        by_cases c_pred : pred = 0
        · subst c_pred
          by_cases c_succ : succ = 0
          · subst c_succ
            cases hF : Fits imm 12 with
            | false =>
              have hE : Hid (_ = (2 : Int)) := Lib.hid ((hE0.out rd rs1 0 imm false false 0 0).trans (by simp [formOk, hF]))
              go_wp2_with (first | (go_at_call 73; (with_reducible refine (Fits_any _ _ _).mono ?_); rintro e w1 ⟨rfl, rfl⟩) | (go_at_call 122; refine (ContainsFunc_any _ v [rd, rs1] _ hown (by simp)).mono ?_; rintro e w1 ⟨rfl, rfl⟩))
              go_ret
              exact ⟨ret_int (by rw [hE.out]), hbl.out⟩
            | true =>
              cases hR : badIn [rd, rs1] with
              | true =>
                have hE : Hid (_ = (2 : Int)) := Lib.hid ((hE0.out rd rs1 0 imm false false 0 0).trans (by simp [formOk, hF, hR]))
                go_wp2_with (first | (go_at_call 73; (with_reducible refine (Fits_any _ _ _).mono ?_); rintro e w1 ⟨rfl, rfl⟩) | (go_at_call 122; refine (ContainsFunc_any _ v [rd, rs1] _ hown (by simp)).mono ?_; rintro e w1 ⟨rfl, rfl⟩))
                go_ret
                exact ⟨ret_int (by rw [hE.out]), hbl.out⟩
              | false =>
                have hE : Hid (_ = (0 : Int)) := Lib.hid ((hE0.out rd rs1 0 imm false false 0 0).trans (by simp [formOk, hF, hR]))
                go_wp2_with (first | (go_at_call 73; (with_reducible refine (Fits_any _ _ _).mono ?_); rintro e w1 ⟨rfl, rfl⟩) | (go_at_call 122; refine (ContainsFunc_any _ v [rd, rs1] _ hown (by simp)).mono ?_; rintro e w1 ⟨rfl, rfl⟩))
                go_ret
                exact ⟨ret_int (by rw [hE.out]), hbl.out⟩
          · have t_succ : ((0 : Int) == succ) = false := by rw [beq_eq_false_iff_ne]; exact fun h => c_succ h.symm
            have hE : Hid (_ = (2 : Int)) := Lib.hid ((hE0.out rd rs1 0 imm false false 0 succ).trans (by simp [formOk, c_succ]))
            go_wp2_with (first | (go_at_call 73; (with_reducible refine (Fits_any _ _ _).mono ?_); rintro e w1 ⟨rfl, rfl⟩) | (go_at_call 122; refine (ContainsFunc_any _ v [rd, rs1] _ hown (by simp)).mono ?_; rintro e w1 ⟨rfl, rfl⟩))
            go_ret
            exact ⟨ret_int (by rw [hE.out]), hbl.out⟩
        · have t_pred : ((0 : Int) == pred) = false := by rw [beq_eq_false_iff_ne]; exact fun h => c_pred h.symm
          have hE : Hid (_ = (2 : Int)) := Lib.hid ((hE0.out rd rs1 0 imm false false pred succ).trans (by simp [formOk, c_pred]))
          go_wp2_with (first | (go_at_call 73; (with_reducible refine (Fits_any _ _ _).mono ?_); rintro e w1 ⟨rfl, rfl⟩) | (go_at_call 122; refine (ContainsFunc_any _ v [rd, rs1] _ hown (by simp)).mono ?_; rintro e w1 ⟨rfl, rfl⟩))
          go_ret
          exact ⟨ret_int (by rw [hE.out]), hbl.out⟩
  · have t_rs2 : ((0 : Int) == rs2) = false := by rw [beq_eq_false_iff_ne]; exact fun h => c_rs2 h.symm
    have hE : Hid (_ = (2 : Int)) := Lib.hid ((hE0.out rd rs1 rs2 imm aq rl pred succ).trans (by simp [formOk, c_rs2]))
    go_wp2_with (first | (go_at_call 73; (with_reducible refine (Fits_any _ _ _).mono ?_); rintro e w1 ⟨rfl, rfl⟩) | (go_at_call 122; refine (ContainsFunc_any _ v [rd, rs1] _ hown (by simp)).mono ?_; rintro e w1 ⟨rfl, rfl⟩))
    go_ret
    exact ⟨ret_int (by rw [hE.out]), hbl.out⟩
end Go.Proofs.YtcgflnkgekkidaaGreatDoor
