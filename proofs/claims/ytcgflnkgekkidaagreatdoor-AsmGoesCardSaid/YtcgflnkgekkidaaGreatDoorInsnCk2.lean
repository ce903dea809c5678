/- The walk of insn.Check at form 5. The walk of insn.Check at form 6. The walk of insn.Check at form 7. The walk of insn.Check at form 8. Conditions: as each theorem says. -/
import Derived.Test.YtcgflnkgekkidaaGreatDoorInsnCkA
import Derived.Deep.RegionWith
namespace Go.Proofs.YtcgflnkgekkidaaGreatDoor
open Go.RowKit
set_option maxRecDepth 100000 in
set_option maxHeartbeats 8000000 in
theorem Check_5 (op rd rs1 rs2 imm : Int) (aq rl : Bool) (pred succ : Int) (hop : op ≤ 9223372036854775807) (nm : List UInt8) (z : Int) (l s : Bool) (hO : Hid (opOf op = ⟨nm, 5, l, s, z⟩)) (w : World) (ht : Tabs w) :
    Calls Tryz.prog 90 #[.agg #[.int .i64 op, .int .i64 rd, .int .i64 rs1, .int .i64 rs2, .int .i64 imm, .bool aq, .bool rl, .int .i64 pred, .int .i64 succ]] w fun e w' => e = .returned (.int .i64 (checkE ⟨op, rd, rs1, rs2, imm, aq, rl, pred, succ⟩)) ∧ Below w.heap.size w w' := by
  have hmf : ∀ (fn : Fn) (first cap : Array Value) (w : World), (Instr.makeFunc fn first cap).run Tryz.prog w = .ok (.func fn first cap) w := fun _ _ _ _ => rfl
  have hof := Lib.hid (fun W (hW : Tabs W) => of_any op hop W hW)
  rw [hO.out] at hof
  have hE0 : Hid (∀ rd rs1 rs2 imm aq rl pred succ, checkE ⟨op, rd, rs1, rs2, imm, aq, rl, pred, succ⟩ = if formOk 5 (shortName nm) ⟨op, rd, rs1, rs2, imm, aq, rl, pred, succ⟩ then 0 else 2) := Lib.hid (checkE_form hO.out)
  clear hO hop
  go_enter Tryz.func90, Tryz.ntmps90
  go_upto_region 52 with (first | (go_at_call 116; refine (hof.out _ (ht.later ((Below.refl _ _).alloc (Nat.le_refl _) _) (Nat.le_refl _))).mono ?_; rintro e w2 ⟨rfl, hb2⟩; have g0 := op_cell (t' := 158) (ds := #[.string ⟨nm.toArray⟩, .int .i64 5, .bool l, .bool s, .int .i64 z]) hb2 0; have hC := CK.start hb2 #[.string ⟨nm.toArray⟩, .int .i64 5, .bool l, .bool s, .int .i64 z] rfl 158 26 3 4 32) | (go_at_call 117; refine (Check_reg1 hC rd rfl (by simp)).mono ?_; rintro e w' ⟨rfl, hC⟩) | (go_at_call 118; refine (Check_reg2 hC rs1 rfl (by simp)).mono ?_; rintro e w' ⟨rfl, hC⟩) | (go_at_call 119; refine (Check_reg3 hC rs2 rfl (by simp)).mono ?_; rintro e w' ⟨rfl, hC⟩) | (go_at_call 120; refine (Check_imm hC imm rfl _ _).mono ?_; rintro e w' ⟨rfl, hC⟩))
  have k0 : _ = some (Value.int .i64 op) := hC.k 0 (by decide)
  have k1 : _ = some (Value.int .i64 0) := hC.k 1 (by decide)
  have k2 : _ = some (Value.int .i64 rs1) := hC.k 2 (by decide)
  have k3 : _ = some (Value.int .i64 rs2) := hC.k 3 (by decide)
  have k4 : _ = some (Value.int .i64 imm) := hC.k 4 (by decide)
  have k5 : _ = some (Value.bool false) := hC.k 5 (by decide)
  have k6 : _ = some (Value.bool false) := hC.k 6 (by decide)
  have k7 : _ = some (Value.int .i64 0) := hC.k 7 (by decide)
  have k8 : _ = some (Value.int .i64 0) := hC.k 8 (by decide)
  have i0 : _ = some (Value.int .i64 op) := hC.i 0 (by decide)
  have i1 : _ = some (Value.int .i64 rd) := hC.i 1 (by decide)
  have i2 : _ = some (Value.int .i64 rs1) := hC.i 2 (by decide)
  have i3 : _ = some (Value.int .i64 rs2) := hC.i 3 (by decide)
  have i4 : _ = some (Value.int .i64 imm) := hC.i 4 (by decide)
  have i5 : _ = some (Value.bool aq) := hC.i 5 (by decide)
  have i6 : _ = some (Value.bool rl) := hC.i 6 (by decide)
  have i7 : _ = some (Value.int .i64 pred) := hC.i 7 (by decide)
  have i8 : _ = some (Value.int .i64 succ) := hC.i 8 (by decide)
  have eb := hC.b
  have ee := hC.e
  obtain ⟨v, hv, hown⟩ := hC.r
  have hbl := Lib.hid hC.bl
  clear hC
  by_cases c_rd : rd = 0
  · subst c_rd
    cases aq with
    | true =>
      have hE : Hid (_ = (2 : Int)) := Lib.hid ((hE0.out 0 rs1 rs2 imm true rl pred succ).trans (by simp [formOk]))
      go_wp2_with (first | (go_at_call 73; (with_reducible refine (Fits_any _ _ _).mono ?_); rintro e w1 ⟨rfl, rfl⟩) | (go_at_call 122; refine (ContainsFunc_any _ v [rs1, rs2] _ hown (by simp)).mono ?_; rintro e w1 ⟨rfl, rfl⟩))
      go_ret
      exact ⟨ret_int (by rw [hE.out]), hbl.out⟩
    | false =>
      cases rl with
      | true =>
        have hE : Hid (_ = (2 : Int)) := Lib.hid ((hE0.out 0 rs1 rs2 imm false true pred succ).trans (by simp [formOk]))
        go_wp2_with (first | (go_at_call 73; (with_reducible refine (Fits_any _ _ _).mono ?_); rintro e w1 ⟨rfl, rfl⟩) | (go_at_call 122; refine (ContainsFunc_any _ v [rs1, rs2] _ hown (by simp)).mono ?_; rintro e w1 ⟨rfl, rfl⟩))
        go_ret
        exact ⟨ret_int (by rw [hE.out]), hbl.out⟩
      | false =>
        by_cases c_pred : pred = 0
        · subst c_pred
          by_cases c_succ : succ = 0
          · subst c_succ
            cases hF : Fits imm 12 with
            | false =>
              have hE : Hid (_ = (2 : Int)) := Lib.hid ((hE0.out 0 rs1 rs2 imm false false 0 0).trans (by simp [formOk, hF]))
              go_wp2_with (first | (go_at_call 73; (with_reducible refine (Fits_any _ _ _).mono ?_); rintro e w1 ⟨rfl, rfl⟩) | (go_at_call 122; refine (ContainsFunc_any _ v [rs1, rs2] _ hown (by simp)).mono ?_; rintro e w1 ⟨rfl, rfl⟩))
              go_ret
              exact ⟨ret_int (by rw [hE.out]), hbl.out⟩
            | true =>
              cases hR : badIn [rs1, rs2] with
              | true =>
                have hE : Hid (_ = (2 : Int)) := Lib.hid ((hE0.out 0 rs1 rs2 imm false false 0 0).trans (by simp [formOk, hF, hR]))
                go_wp2_with (first | (go_at_call 73; (with_reducible refine (Fits_any _ _ _).mono ?_); rintro e w1 ⟨rfl, rfl⟩) | (go_at_call 122; refine (ContainsFunc_any _ v [rs1, rs2] _ hown (by simp)).mono ?_; rintro e w1 ⟨rfl, rfl⟩))
                go_ret
                exact ⟨ret_int (by rw [hE.out]), hbl.out⟩
              | false =>
                have hE : Hid (_ = (0 : Int)) := Lib.hid ((hE0.out 0 rs1 rs2 imm false false 0 0).trans (by simp [formOk, hF, hR]))
                go_wp2_with (first | (go_at_call 73; (with_reducible refine (Fits_any _ _ _).mono ?_); rintro e w1 ⟨rfl, rfl⟩) | (go_at_call 122; refine (ContainsFunc_any _ v [rs1, rs2] _ hown (by simp)).mono ?_; rintro e w1 ⟨rfl, rfl⟩))
                go_ret
                exact ⟨ret_int (by rw [hE.out]), hbl.out⟩
          · have t_succ : ((0 : Int) == succ) = false := by rw [beq_eq_false_iff_ne]; exact fun h => c_succ h.symm
            have hE : Hid (_ = (2 : Int)) := Lib.hid ((hE0.out 0 rs1 rs2 imm false false 0 succ).trans (by simp [formOk, c_succ]))
            go_wp2_with (first | (go_at_call 73; (with_reducible refine (Fits_any _ _ _).mono ?_); rintro e w1 ⟨rfl, rfl⟩) | (go_at_call 122; refine (ContainsFunc_any _ v [rs1, rs2] _ hown (by simp)).mono ?_; rintro e w1 ⟨rfl, rfl⟩))
            go_ret
            exact ⟨ret_int (by rw [hE.out]), hbl.out⟩
        · have t_pred : ((0 : Int) == pred) = false := by rw [beq_eq_false_iff_ne]; exact fun h => c_pred h.symm
          have hE : Hid (_ = (2 : Int)) := Lib.hid ((hE0.out 0 rs1 rs2 imm false false pred succ).trans (by simp [formOk, c_pred]))
          go_wp2_with (first | (go_at_call 73; (with_reducible refine (Fits_any _ _ _).mono ?_); rintro e w1 ⟨rfl, rfl⟩) | (go_at_call 122; refine (ContainsFunc_any _ v [rs1, rs2] _ hown (by simp)).mono ?_; rintro e w1 ⟨rfl, rfl⟩))
          go_ret
          exact ⟨ret_int (by rw [hE.out]), hbl.out⟩
  · have t_rd : ((0 : Int) == rd) = false := by rw [beq_eq_false_iff_ne]; exact fun h => c_rd h.symm
    have hE : Hid (_ = (2 : Int)) := Lib.hid ((hE0.out rd rs1 rs2 imm aq rl pred succ).trans (by simp [formOk, c_rd]))
    go_wp2_with (first | (go_at_call 73; (with_reducible refine (Fits_any _ _ _).mono ?_); rintro e w1 ⟨rfl, rfl⟩) | (go_at_call 122; refine (ContainsFunc_any _ v [rs1, rs2] _ hown (by simp)).mono ?_; rintro e w1 ⟨rfl, rfl⟩))
    go_ret
    exact ⟨ret_int (by rw [hE.out]), hbl.out⟩
end Go.Proofs.YtcgflnkgekkidaaGreatDoor
namespace Go.Proofs.YtcgflnkgekkidaaGreatDoor
open Go.RowKit
set_option maxRecDepth 100000 in
set_option maxHeartbeats 8000000 in
theorem Check_6 (op rd rs1 rs2 imm : Int) (aq rl : Bool) (pred succ : Int) (hop : op ≤ 9223372036854775807) (nm : List UInt8) (z : Int) (l s : Bool) (hO : Hid (opOf op = ⟨nm, 6, l, s, z⟩)) (w : World) (ht : Tabs w) :
    Calls Tryz.prog 90 #[.agg #[.int .i64 op, .int .i64 rd, .int .i64 rs1, .int .i64 rs2, .int .i64 imm, .bool aq, .bool rl, .int .i64 pred, .int .i64 succ]] w fun e w' => e = .returned (.int .i64 (checkE ⟨op, rd, rs1, rs2, imm, aq, rl, pred, succ⟩)) ∧ Below w.heap.size w w' := by
  have hmf : ∀ (fn : Fn) (first cap : Array Value) (w : World), (Instr.makeFunc fn first cap).run Tryz.prog w = .ok (.func fn first cap) w := fun _ _ _ _ => rfl
  have hof := Lib.hid (fun W (hW : Tabs W) => of_any op hop W hW)
  rw [hO.out] at hof
  have hE0 : Hid (∀ rd rs1 rs2 imm aq rl pred succ, checkE ⟨op, rd, rs1, rs2, imm, aq, rl, pred, succ⟩ = if formOk 6 (shortName nm) ⟨op, rd, rs1, rs2, imm, aq, rl, pred, succ⟩ then 0 else 2) := Lib.hid (checkE_form hO.out)
  clear hO hop
  go_enter Tryz.func90, Tryz.ntmps90
  go_upto_region 52 with (first | (go_at_call 116; refine (hof.out _ (ht.later ((Below.refl _ _).alloc (Nat.le_refl _) _) (Nat.le_refl _))).mono ?_; rintro e w2 ⟨rfl, hb2⟩; have g0 := op_cell (t' := 158) (ds := #[.string ⟨nm.toArray⟩, .int .i64 6, .bool l, .bool s, .int .i64 z]) hb2 0; have hC := CK.start hb2 #[.string ⟨nm.toArray⟩, .int .i64 6, .bool l, .bool s, .int .i64 z] rfl 158 26 3 4 32) | (go_at_call 117; refine (Check_reg1 hC rd rfl (by simp)).mono ?_; rintro e w' ⟨rfl, hC⟩) | (go_at_call 118; refine (Check_reg2 hC rs1 rfl (by simp)).mono ?_; rintro e w' ⟨rfl, hC⟩) | (go_at_call 119; refine (Check_reg3 hC rs2 rfl (by simp)).mono ?_; rintro e w' ⟨rfl, hC⟩) | (go_at_call 120; refine (Check_imm hC imm rfl _ _).mono ?_; rintro e w' ⟨rfl, hC⟩))
  have k0 : _ = some (Value.int .i64 op) := hC.k 0 (by decide)
  have k1 : _ = some (Value.int .i64 0) := hC.k 1 (by decide)
  have k2 : _ = some (Value.int .i64 rs1) := hC.k 2 (by decide)
  have k3 : _ = some (Value.int .i64 rs2) := hC.k 3 (by decide)
  have k4 : _ = some (Value.int .i64 imm) := hC.k 4 (by decide)
  have k5 : _ = some (Value.bool false) := hC.k 5 (by decide)
  have k6 : _ = some (Value.bool false) := hC.k 6 (by decide)
  have k7 : _ = some (Value.int .i64 0) := hC.k 7 (by decide)
  have k8 : _ = some (Value.int .i64 0) := hC.k 8 (by decide)
  have i0 : _ = some (Value.int .i64 op) := hC.i 0 (by decide)
  have i1 : _ = some (Value.int .i64 rd) := hC.i 1 (by decide)
  have i2 : _ = some (Value.int .i64 rs1) := hC.i 2 (by decide)
  have i3 : _ = some (Value.int .i64 rs2) := hC.i 3 (by decide)
  have i4 : _ = some (Value.int .i64 imm) := hC.i 4 (by decide)
  have i5 : _ = some (Value.bool aq) := hC.i 5 (by decide)
  have i6 : _ = some (Value.bool rl) := hC.i 6 (by decide)
  have i7 : _ = some (Value.int .i64 pred) := hC.i 7 (by decide)
  have i8 : _ = some (Value.int .i64 succ) := hC.i 8 (by decide)
  have eb := hC.b
  have ee := hC.e
  obtain ⟨v, hv, hown⟩ := hC.r
  have hbl := Lib.hid hC.bl
  clear hC
  by_cases c_rd : rd = 0
  · subst c_rd
    cases aq with
    | true =>
      have hE : Hid (_ = (2 : Int)) := Lib.hid ((hE0.out 0 rs1 rs2 imm true rl pred succ).trans (by simp [formOk]))
      go_wp2_with (first | (go_at_call 73; (with_reducible refine (Fits_any _ _ _).mono ?_); rintro e w1 ⟨rfl, rfl⟩) | (go_at_call 122; refine (ContainsFunc_any _ v [rs1, rs2] _ hown (by simp)).mono ?_; rintro e w1 ⟨rfl, rfl⟩))
      go_ret
      exact ⟨ret_int (by rw [hE.out]), hbl.out⟩
    | false =>
      cases rl with
      | true =>
        have hE : Hid (_ = (2 : Int)) := Lib.hid ((hE0.out 0 rs1 rs2 imm false true pred succ).trans (by simp [formOk]))
        go_wp2_with (first | (go_at_call 73; (with_reducible refine (Fits_any _ _ _).mono ?_); rintro e w1 ⟨rfl, rfl⟩) | (go_at_call 122; refine (ContainsFunc_any _ v [rs1, rs2] _ hown (by simp)).mono ?_; rintro e w1 ⟨rfl, rfl⟩))
        go_ret
        exact ⟨ret_int (by rw [hE.out]), hbl.out⟩
      | false =>
        by_cases c_pred : pred = 0
        · subst c_pred
          by_cases c_succ : succ = 0
          · subst c_succ
            cases hF : Fits imm 13 with
            | false =>
              have hE : Hid (_ = (2 : Int)) := Lib.hid ((hE0.out 0 rs1 rs2 imm false false 0 0).trans (by simp [formOk, hF]))
              go_wp2_with (first | (go_at_call 73; (with_reducible refine (Fits_any _ _ _).mono ?_); rintro e w1 ⟨rfl, rfl⟩) | (go_at_call 122; refine (ContainsFunc_any _ v [rs1, rs2] _ hown (by simp)).mono ?_; rintro e w1 ⟨rfl, rfl⟩))
              go_ret
              exact ⟨ret_int (by rw [hE.out]), hbl.out⟩
            | true =>
              cases hM : (imm.tmod 2 != 0) with
              | true =>
                have hE : Hid (_ = (2 : Int)) := Lib.hid ((hE0.out 0 rs1 rs2 imm false false 0 0).trans (by simp [formOk, hF, show ¬ imm.tmod 2 = 0 by simpa using hM]))
                go_wp2_with (first | (go_at_call 73; (with_reducible refine (Fits_any _ _ _).mono ?_); rintro e w1 ⟨rfl, rfl⟩) | (go_at_call 122; refine (ContainsFunc_any _ v [rs1, rs2] _ hown (by simp)).mono ?_; rintro e w1 ⟨rfl, rfl⟩))
                go_ret
                exact ⟨ret_int (by rw [hE.out]), hbl.out⟩
              | false =>
                cases hR : badIn [rs1, rs2] with
                | true =>
                  have hE : Hid (_ = (2 : Int)) := Lib.hid ((hE0.out 0 rs1 rs2 imm false false 0 0).trans (by simp [formOk, hF, show imm.tmod 2 = 0 by simpa using hM, hR]))
                  go_wp2_with (first | (go_at_call 73; (with_reducible refine (Fits_any _ _ _).mono ?_); rintro e w1 ⟨rfl, rfl⟩) | (go_at_call 122; refine (ContainsFunc_any _ v [rs1, rs2] _ hown (by simp)).mono ?_; rintro e w1 ⟨rfl, rfl⟩))
                  go_ret
                  exact ⟨ret_int (by rw [hE.out]), hbl.out⟩
                | false =>
                  have hE : Hid (_ = (0 : Int)) := Lib.hid ((hE0.out 0 rs1 rs2 imm false false 0 0).trans (by simp [formOk, hF, show imm.tmod 2 = 0 by simpa using hM, hR]))
                  go_wp2_with (first | (go_at_call 73; (with_reducible refine (Fits_any _ _ _).mono ?_); rintro e w1 ⟨rfl, rfl⟩) | (go_at_call 122; refine (ContainsFunc_any _ v [rs1, rs2] _ hown (by simp)).mono ?_; rintro e w1 ⟨rfl, rfl⟩))
                  go_ret
                  exact ⟨ret_int (by rw [hE.out]), hbl.out⟩
          · have t_succ : ((0 : Int) == succ) = false := by rw [beq_eq_false_iff_ne]; exact fun h => c_succ h.symm
            have hE : Hid (_ = (2 : Int)) := Lib.hid ((hE0.out 0 rs1 rs2 imm false false 0 succ).trans (by simp [formOk, c_succ]))
            go_wp2_with (first | (go_at_call 73; (with_reducible refine (Fits_any _ _ _).mono ?_); rintro e w1 ⟨rfl, rfl⟩) | (go_at_call 122; refine (ContainsFunc_any _ v [rs1, rs2] _ hown (by simp)).mono ?_; rintro e w1 ⟨rfl, rfl⟩))
            go_ret
            exact ⟨ret_int (by rw [hE.out]), hbl.out⟩
        · have t_pred : ((0 : Int) == pred) = false := by rw [beq_eq_false_iff_ne]; exact fun h => c_pred h.symm
          have hE : Hid (_ = (2 : Int)) := Lib.hid ((hE0.out 0 rs1 rs2 imm false false pred succ).trans (by simp [formOk, c_pred]))
          go_wp2_with (first | (go_at_call 73; (with_reducible refine (Fits_any _ _ _).mono ?_); rintro e w1 ⟨rfl, rfl⟩) | (go_at_call 122; refine (ContainsFunc_any _ v [rs1, rs2] _ hown (by simp)).mono ?_; rintro e w1 ⟨rfl, rfl⟩))
          go_ret
          exact ⟨ret_int (by rw [hE.out]), hbl.out⟩
  · have t_rd : ((0 : Int) == rd) = false := by rw [beq_eq_false_iff_ne]; exact fun h => c_rd h.symm
    have hE : Hid (_ = (2 : Int)) := Lib.hid ((hE0.out rd rs1 rs2 imm aq rl pred succ).trans (by simp [formOk, c_rd]))
    go_wp2_with (first | (go_at_call 73; (with_reducible refine (Fits_any _ _ _).mono ?_); rintro e w1 ⟨rfl, rfl⟩) | (go_at_call 122; refine (ContainsFunc_any _ v [rs1, rs2] _ hown (by simp)).mono ?_; rintro e w1 ⟨rfl, rfl⟩))
    go_ret
    exact ⟨ret_int (by rw [hE.out]), hbl.out⟩
end Go.Proofs.YtcgflnkgekkidaaGreatDoor
namespace Go.Proofs.YtcgflnkgekkidaaGreatDoor
open Go.RowKit
/-- Later worlds that only have more. -/
theorem CK.keep {w0 w w' : World} {B O : Nat} {ic oc kc : Nat → Value} {bits : Int} {even : Bool} {xs : List Int} (h : CK w0 B O ic oc kc bits even xs w) (hb : Below w.heap.size w w') : CK w0 B O ic oc kc bits even xs w' := by
  have lo := h.lo
  have sz := h.sz
  obtain ⟨v, h1, h2⟩ := h.r
  have c : ∀ b j, b < O + 5 → w'.cell? ⟨b, j, none⟩ = w.cell? ⟨b, j, none⟩ := fun b j hbj => hb.cell (p := ⟨b, j, none⟩) (by show b < _; omega)
  have f : ∀ b j, b < O + 5 → w'.frozen? ⟨b, j, none⟩ = w.frozen? ⟨b, j, none⟩ := fun b j hbj => hb.frozen (p := ⟨b, j, none⟩) (by show b < _; omega)
  exact ⟨lo, h.hB, fun j hj => by rw [c _ _ (by omega)]; exact h.i j hj, fun j hj => by rw [c _ _ (by omega)]; exact h.o j hj, fun j hj => by rw [c _ _ (by omega)]; exact h.k j hj, fun j hj => by rw [f _ _ (by omega)]; exact h.kf j hj,
    by rw [c _ _ (by omega)]; exact h.b, by rw [f _ _ (by omega)]; exact h.bf, by rw [c _ _ (by omega)]; exact h.e, by rw [f _ _ (by omega)]; exact h.ef,
    ⟨v, by rw [c _ _ (by omega)]; exact h1, h2.kept (row := none) ⟨hb.os, hb.tape, hb.output, hb.size, fun k hk _ => hb.block k hk⟩ (by rcases v.ownBlock with _ | b <;> simp)⟩, by rw [f _ _ (by omega)]; exact h.rf, h.bl.trans (hb.mono (by have := h.hB; omega)), Nat.le_trans sz hb.size⟩
set_option maxRecDepth 100000 in
set_option maxHeartbeats 8000000 in
theorem Check_7 (op rd rs1 rs2 imm : Int) (aq rl : Bool) (pred succ : Int) (hop : op ≤ 9223372036854775807) (nm : List UInt8) (z : Int) (l s : Bool) (hnm : nm.length ≤ 1000) (hO : Hid (opOf op = ⟨nm, 7, l, s, z⟩)) (w : World) (ht : Tabs w) :
    Calls Tryz.prog 90 #[.agg #[.int .i64 op, .int .i64 rd, .int .i64 rs1, .int .i64 rs2, .int .i64 imm, .bool aq, .bool rl, .int .i64 pred, .int .i64 succ]] w fun e w' => e = .returned (.int .i64 (checkE ⟨op, rd, rs1, rs2, imm, aq, rl, pred, succ⟩)) ∧ Below w.heap.size w w' := by
  have hmf : ∀ (fn : Fn) (first cap : Array Value) (w : World), (Instr.makeFunc fn first cap).run Tryz.prog w = .ok (.func fn first cap) w := fun _ _ _ _ => rfl
  have hof := Lib.hid (fun W (hW : Tabs W) => of_any op hop W hW)
  rw [hO.out] at hof
  have hE0 : Hid (∀ rd rs1 rs2 imm aq rl pred succ, checkE ⟨op, rd, rs1, rs2, imm, aq, rl, pred, succ⟩ = if formOk 7 (shortName nm) ⟨op, rd, rs1, rs2, imm, aq, rl, pred, succ⟩ then 0 else 2) := Lib.hid (checkE_form hO.out)
  clear hO hop
  go_enter Tryz.func90, Tryz.ntmps90
  go_upto_region 33 with (first | (go_at_call 116; refine (hof.out _ (ht.later ((Below.refl _ _).alloc (Nat.le_refl _) _) (Nat.le_refl _))).mono ?_; rintro e w2 ⟨rfl, hb2⟩; have g0 := op_cell (t' := 158) (ds := #[.string ⟨nm.toArray⟩, .int .i64 7, .bool l, .bool s, .int .i64 z]) hb2 0; have hC := CK.start hb2 #[.string ⟨nm.toArray⟩, .int .i64 7, .bool l, .bool s, .int .i64 z] rfl 158 26 3 4 32) | (go_at_call 117; refine (Check_reg1 hC rd rfl (by simp)).mono ?_; rintro e w' ⟨rfl, hC⟩) | (go_at_call 118; refine (Check_reg2 hC rs1 rfl (by simp)).mono ?_; rintro e w' ⟨rfl, hC⟩) | (go_at_call 119; refine (Check_reg3 hC rs2 rfl (by simp)).mono ?_; rintro e w' ⟨rfl, hC⟩) | (go_at_call 120; refine (Check_imm hC imm rfl _ _).mono ?_; rintro e w' ⟨rfl, hC⟩))
  have m4 : _ = some (Value.int .i64 0) := hC.k 4 (by decide)
  have f4 := hC.kf 4 (by decide)
  have j4 : _ = some (Value.int .i64 imm) := hC.i 4 (by decide)
  have hC2 := hC.setK 4 (by decide) (.int .i64 imm) (fun j => rfl)
  have n4 : _ = some (Value.int .i64 imm) := hC2.i 4 (by decide)
  have o0 : _ = some (Value.string ⟨nm.toArray⟩) := hC2.o 0 (by decide)
  have o1 : _ = some (Value.int .i64 7) := hC2.o 1 (by decide)
  have o2 : _ = some (Value.bool l) := hC2.o 2 (by decide)
  have o3 : _ = some (Value.bool s) := hC2.o 3 (by decide)
  have o4 : _ = some (Value.int .i64 z) := hC2.o 4 (by decide)
  have hbl := Lib.hid hC2.bl
  have hC4 := Lib.hid hC2
  have hSh := Lib.hid (fun W => insn_short nm hnm 7 z l s W)
  clear hC hC2 hnm
  rcases (show imm < 0 ∨ 63 < imm ∨ (0 ≤ imm ∧ imm ≤ 63) by omega) with hp | hp | ⟨hp, hp'⟩
  · have u : decide (0 ≤ imm) = false := decide_eq_false (by omega)
    have hE : Hid (_ = (2 : Int)) := Lib.hid ((hE0.out rd rs1 rs2 imm aq rl pred succ).trans (by simp [formOk, u]))
    go_wp2_with fail
    go_ret
    exact ⟨ret_int (by rw [hE.out]), hbl.out⟩
  · have u : decide (imm ≤ 63) = false := decide_eq_false (by omega)
    have hE : Hid (_ = (2 : Int)) := Lib.hid ((hE0.out rd rs1 rs2 imm aq rl pred succ).trans (by simp [formOk, u]))
    go_wp2_with fail
    go_ret
    exact ⟨ret_int (by rw [hE.out]), hbl.out⟩
  · cases hS : shortName nm with
    | false =>
      rw [hS] at hSh
      go_upto_region 52 with (go_at_call 121; refine (hSh.out _).mono ?_; rintro e w5 ⟨rfl, hbs⟩)
      have hC := hC4.out.keep hbs
      clear hbs hbl hC4
      have k0 : _ = some (Value.int .i64 op) := hC.k 0 (by decide)
      have k1 : _ = some (Value.int .i64 rd) := hC.k 1 (by decide)
      have k2 : _ = some (Value.int .i64 rs1) := hC.k 2 (by decide)
      have k3 : _ = some (Value.int .i64 0) := hC.k 3 (by decide)
      have k4 : _ = some (Value.int .i64 imm) := hC.k 4 (by decide)
      have k5 : _ = some (Value.bool false) := hC.k 5 (by decide)
      have k6 : _ = some (Value.bool false) := hC.k 6 (by decide)
      have k7 : _ = some (Value.int .i64 0) := hC.k 7 (by decide)
      have k8 : _ = some (Value.int .i64 0) := hC.k 8 (by decide)
      have i0 : _ = some (Value.int .i64 op) := hC.i 0 (by decide)
      have i1 : _ = some (Value.int .i64 rd) := hC.i 1 (by decide)
      have i2 : _ = some (Value.int .i64 rs1) := hC.i 2 (by decide)
      have i3 : _ = some (Value.int .i64 rs2) := hC.i 3 (by decide)
      have i4 : _ = some (Value.int .i64 imm) := hC.i 4 (by decide)
      have i5 : _ = some (Value.bool aq) := hC.i 5 (by decide)
      have i6 : _ = some (Value.bool rl) := hC.i 6 (by decide)
      have i7 : _ = some (Value.int .i64 pred) := hC.i 7 (by decide)
      have i8 : _ = some (Value.int .i64 succ) := hC.i 8 (by decide)
      have eb := hC.b
      have ee := hC.e
      obtain ⟨v, hv, hown⟩ := hC.r
      have hbl := Lib.hid hC.bl
      clear hC
      by_cases c_rs2 : rs2 = 0
      · subst c_rs2
        cases aq with
        | true =>
          have hE : Hid (_ = (2 : Int)) := Lib.hid ((hE0.out rd rs1 0 imm true rl pred succ).trans (by simp [formOk, hp, hp', hS]))
          go_wp2_with (first | (go_at_call 73; (with_reducible refine (Fits_any _ _ _).mono ?_); rintro e w1 ⟨rfl, rfl⟩) | (go_at_call 122; refine (ContainsFunc_any _ v [rd, rs1] _ hown (by simp)).mono ?_; rintro e w1 ⟨rfl, rfl⟩))
          go_ret
          exact ⟨ret_int (by rw [hE.out]), hbl.out⟩
        | false =>
          cases rl with
          | true =>
            have hE : Hid (_ = (2 : Int)) := Lib.hid ((hE0.out rd rs1 0 imm false true pred succ).trans (by simp [formOk, hp, hp', hS]))
            go_wp2_with (first | (go_at_call 73; (with_reducible refine (Fits_any _ _ _).mono ?_); rintro e w1 ⟨rfl, rfl⟩) | (go_at_call 122; refine (ContainsFunc_any _ v [rd, rs1] _ hown (by simp)).mono ?_; rintro e w1 ⟨rfl, rfl⟩))
            go_ret
            exact ⟨ret_int (by rw [hE.out]), hbl.out⟩
          | false =>
            by_cases c_pred : pred = 0
            · subst c_pred
              by_cases c_succ : succ = 0
              · subst c_succ
                cases hR : badIn [rd, rs1] with
                | true =>
                  have hE : Hid (_ = (2 : Int)) := Lib.hid ((hE0.out rd rs1 0 imm false false 0 0).trans (by simp [formOk, hp, hp', hS, hR]))
                  go_wp2_with (first | (go_at_call 73; (with_reducible refine (Fits_any _ _ _).mono ?_); rintro e w1 ⟨rfl, rfl⟩) | (go_at_call 122; refine (ContainsFunc_any _ v [rd, rs1] _ hown (by simp)).mono ?_; rintro e w1 ⟨rfl, rfl⟩))
                  go_ret
                  exact ⟨ret_int (by rw [hE.out]), hbl.out⟩
                | false =>
                  have hE : Hid (_ = (0 : Int)) := Lib.hid ((hE0.out rd rs1 0 imm false false 0 0).trans (by simp [formOk, hp, hp', hS, hR]))
                  go_wp2_with (first | (go_at_call 73; (with_reducible refine (Fits_any _ _ _).mono ?_); rintro e w1 ⟨rfl, rfl⟩) | (go_at_call 122; refine (ContainsFunc_any _ v [rd, rs1] _ hown (by simp)).mono ?_; rintro e w1 ⟨rfl, rfl⟩))
                  go_ret
                  exact ⟨ret_int (by rw [hE.out]), hbl.out⟩
              · have t_succ : ((0 : Int) == succ) = false := by rw [beq_eq_false_iff_ne]; exact fun h => c_succ h.symm
                have hE : Hid (_ = (2 : Int)) := Lib.hid ((hE0.out rd rs1 0 imm false false 0 succ).trans (by simp [formOk, hp, hp', hS, c_succ]))
                go_wp2_with (first | (go_at_call 73; (with_reducible refine (Fits_any _ _ _).mono ?_); rintro e w1 ⟨rfl, rfl⟩) | (go_at_call 122; refine (ContainsFunc_any _ v [rd, rs1] _ hown (by simp)).mono ?_; rintro e w1 ⟨rfl, rfl⟩))
                go_ret
                exact ⟨ret_int (by rw [hE.out]), hbl.out⟩
            · have t_pred : ((0 : Int) == pred) = false := by rw [beq_eq_false_iff_ne]; exact fun h => c_pred h.symm
              have hE : Hid (_ = (2 : Int)) := Lib.hid ((hE0.out rd rs1 0 imm false false pred succ).trans (by simp [formOk, hp, hp', hS, c_pred]))
              go_wp2_with (first | (go_at_call 73; (with_reducible refine (Fits_any _ _ _).mono ?_); rintro e w1 ⟨rfl, rfl⟩) | (go_at_call 122; refine (ContainsFunc_any _ v [rd, rs1] _ hown (by simp)).mono ?_; rintro e w1 ⟨rfl, rfl⟩))
              go_ret
              exact ⟨ret_int (by rw [hE.out]), hbl.out⟩
      · have t_rs2 : ((0 : Int) == rs2) = false := by rw [beq_eq_false_iff_ne]; exact fun h => c_rs2 h.symm
        have hE : Hid (_ = (2 : Int)) := Lib.hid ((hE0.out rd rs1 rs2 imm aq rl pred succ).trans (by simp [formOk, hp, hp', hS, c_rs2]))
        go_wp2_with (first | (go_at_call 73; (with_reducible refine (Fits_any _ _ _).mono ?_); rintro e w1 ⟨rfl, rfl⟩) | (go_at_call 122; refine (ContainsFunc_any _ v [rd, rs1] _ hown (by simp)).mono ?_; rintro e w1 ⟨rfl, rfl⟩))
        go_ret
        exact ⟨ret_int (by rw [hE.out]), hbl.out⟩
    | true =>
      rw [hS] at hSh
      rcases (show 31 < imm ∨ imm ≤ 31 by omega) with hq | hq
      · have u : decide (imm ≤ 31) = false := decide_eq_false (by omega)
        have n4' : ∀ w5, Below (w'.setCell ⟨w2.heap.size + 1, 4, none⟩ (.int .i64 imm)).heap.size (w'.setCell ⟨w2.heap.size + 1, 4, none⟩ (.int .i64 imm)) w5 → w5.cell? ⟨w.heap.size, 4, none⟩ = some (Value.int .i64 imm) := fun w5 hb => (hC4.out.keep hb).i 4 (by decide)
        have hE : Hid (_ = (2 : Int)) := Lib.hid ((hE0.out rd rs1 rs2 imm aq rl pred succ).trans (by simp [formOk, u, hS]))
        go_wp2_with (go_at_call 121; refine (hSh.out _).mono ?_; rintro e w5 ⟨rfl, hbs⟩; have n4 := n4' _ hbs)
        go_ret
        exact ⟨ret_int (by rw [hE.out]), (hC4.out.keep hbs).bl⟩
      · have n4' : ∀ w5, Below (w'.setCell ⟨w2.heap.size + 1, 4, none⟩ (.int .i64 imm)).heap.size (w'.setCell ⟨w2.heap.size + 1, 4, none⟩ (.int .i64 imm)) w5 → w5.cell? ⟨w.heap.size, 4, none⟩ = some (Value.int .i64 imm) := fun w5 hb => (hC4.out.keep hb).i 4 (by decide)
        go_upto_region 52 with (go_at_call 121; refine (hSh.out _).mono ?_; rintro e w5 ⟨rfl, hbs⟩; have n4 := n4' _ hbs)
        have hC := hC4.out.keep hbs
        clear hbs hbl hC4 n4'
        have k0 : _ = some (Value.int .i64 op) := hC.k 0 (by decide)
        have k1 : _ = some (Value.int .i64 rd) := hC.k 1 (by decide)
        have k2 : _ = some (Value.int .i64 rs1) := hC.k 2 (by decide)
        have k3 : _ = some (Value.int .i64 0) := hC.k 3 (by decide)
        have k4 : _ = some (Value.int .i64 imm) := hC.k 4 (by decide)
        have k5 : _ = some (Value.bool false) := hC.k 5 (by decide)
        have k6 : _ = some (Value.bool false) := hC.k 6 (by decide)
        have k7 : _ = some (Value.int .i64 0) := hC.k 7 (by decide)
        have k8 : _ = some (Value.int .i64 0) := hC.k 8 (by decide)
        have i0 : _ = some (Value.int .i64 op) := hC.i 0 (by decide)
        have i1 : _ = some (Value.int .i64 rd) := hC.i 1 (by decide)
        have i2 : _ = some (Value.int .i64 rs1) := hC.i 2 (by decide)
        have i3 : _ = some (Value.int .i64 rs2) := hC.i 3 (by decide)
        have i4 : _ = some (Value.int .i64 imm) := hC.i 4 (by decide)
        have i5 : _ = some (Value.bool aq) := hC.i 5 (by decide)
        have i6 : _ = some (Value.bool rl) := hC.i 6 (by decide)
        have i7 : _ = some (Value.int .i64 pred) := hC.i 7 (by decide)
        have i8 : _ = some (Value.int .i64 succ) := hC.i 8 (by decide)
        have eb := hC.b
        have ee := hC.e
        obtain ⟨v, hv, hown⟩ := hC.r
        have hbl := Lib.hid hC.bl
        clear hC
        by_cases c_rs2 : rs2 = 0
        · subst c_rs2
          cases aq with
          | true =>
            have hE : Hid (_ = (2 : Int)) := Lib.hid ((hE0.out rd rs1 0 imm true rl pred succ).trans (by simp [formOk, hp, hp', hS, hq]))
            go_wp2_with (first | (go_at_call 73; (with_reducible refine (Fits_any _ _ _).mono ?_); rintro e w1 ⟨rfl, rfl⟩) | (go_at_call 122; refine (ContainsFunc_any _ v [rd, rs1] _ hown (by simp)).mono ?_; rintro e w1 ⟨rfl, rfl⟩))
            go_ret
            exact ⟨ret_int (by rw [hE.out]), hbl.out⟩
          | false =>
            cases rl with
            | true =>
              have hE : Hid (_ = (2 : Int)) := Lib.hid ((hE0.out rd rs1 0 imm false true pred succ).trans (by simp [formOk, hp, hp', hS, hq]))
              go_wp2_with (first | (go_at_call 73; (with_reducible refine (Fits_any _ _ _).mono ?_); rintro e w1 ⟨rfl, rfl⟩) | (go_at_call 122; refine (ContainsFunc_any _ v [rd, rs1] _ hown (by simp)).mono ?_; rintro e w1 ⟨rfl, rfl⟩))
              go_ret
              exact ⟨ret_int (by rw [hE.out]), hbl.out⟩
            | false =>
              by_cases c_pred : pred = 0
              · subst c_pred
                by_cases c_succ : succ = 0
                · subst c_succ
                  cases hR : badIn [rd, rs1] with
                  | true =>
                    have hE : Hid (_ = (2 : Int)) := Lib.hid ((hE0.out rd rs1 0 imm false false 0 0).trans (by simp [formOk, hp, hp', hS, hq, hR]))
                    go_wp2_with (first | (go_at_call 73; (with_reducible refine (Fits_any _ _ _).mono ?_); rintro e w1 ⟨rfl, rfl⟩) | (go_at_call 122; refine (ContainsFunc_any _ v [rd, rs1] _ hown (by simp)).mono ?_; rintro e w1 ⟨rfl, rfl⟩))
                    go_ret
                    exact ⟨ret_int (by rw [hE.out]), hbl.out⟩
                  | false =>
                    have hE : Hid (_ = (0 : Int)) := Lib.hid ((hE0.out rd rs1 0 imm false false 0 0).trans (by simp [formOk, hp, hp', hS, hq, hR]))
                    go_wp2_with (first | (go_at_call 73; (with_reducible refine (Fits_any _ _ _).mono ?_); rintro e w1 ⟨rfl, rfl⟩) | (go_at_call 122; refine (ContainsFunc_any _ v [rd, rs1] _ hown (by simp)).mono ?_; rintro e w1 ⟨rfl, rfl⟩))
                    go_ret
                    exact ⟨ret_int (by rw [hE.out]), hbl.out⟩
                · have t_succ : ((0 : Int) == succ) = false := by rw [beq_eq_false_iff_ne]; exact fun h => c_succ h.symm
                  have hE : Hid (_ = (2 : Int)) := Lib.hid ((hE0.out rd rs1 0 imm false false 0 succ).trans (by simp [formOk, hp, hp', hS, hq, c_succ]))
                  go_wp2_with (first | (go_at_call 73; (with_reducible refine (Fits_any _ _ _).mono ?_); rintro e w1 ⟨rfl, rfl⟩) | (go_at_call 122; refine (ContainsFunc_any _ v [rd, rs1] _ hown (by simp)).mono ?_; rintro e w1 ⟨rfl, rfl⟩))
                  go_ret
                  exact ⟨ret_int (by rw [hE.out]), hbl.out⟩
              · have t_pred : ((0 : Int) == pred) = false := by rw [beq_eq_false_iff_ne]; exact fun h => c_pred h.symm
                have hE : Hid (_ = (2 : Int)) := Lib.hid ((hE0.out rd rs1 0 imm false false pred succ).trans (by simp [formOk, hp, hp', hS, hq, c_pred]))
                go_wp2_with (first | (go_at_call 73; (with_reducible refine (Fits_any _ _ _).mono ?_); rintro e w1 ⟨rfl, rfl⟩) | (go_at_call 122; refine (ContainsFunc_any _ v [rd, rs1] _ hown (by simp)).mono ?_; rintro e w1 ⟨rfl, rfl⟩))
                go_ret
                exact ⟨ret_int (by rw [hE.out]), hbl.out⟩
        · have t_rs2 : ((0 : Int) == rs2) = false := by rw [beq_eq_false_iff_ne]; exact fun h => c_rs2 h.symm
          have hE : Hid (_ = (2 : Int)) := Lib.hid ((hE0.out rd rs1 rs2 imm aq rl pred succ).trans (by simp [formOk, hp, hp', hS, hq, c_rs2]))
          go_wp2_with (first | (go_at_call 73; (with_reducible refine (Fits_any _ _ _).mono ?_); rintro e w1 ⟨rfl, rfl⟩) | (go_at_call 122; refine (ContainsFunc_any _ v [rd, rs1] _ hown (by simp)).mono ?_; rintro e w1 ⟨rfl, rfl⟩))
          go_ret
          exact ⟨ret_int (by rw [hE.out]), hbl.out⟩
end Go.Proofs.YtcgflnkgekkidaaGreatDoor
namespace Go.Proofs.YtcgflnkgekkidaaGreatDoor
open Go.RowKit
set_option maxRecDepth 100000 in
set_option maxHeartbeats 8000000 in
theorem Check_8 (op rd rs1 rs2 imm : Int) (aq rl : Bool) (pred succ : Int) (hop : op ≤ 9223372036854775807) (nm : List UInt8) (z : Int) (l s : Bool) (hO : Hid (opOf op = ⟨nm, 8, l, s, z⟩)) (w : World) (ht : Tabs w) :
    Calls Tryz.prog 90 #[.agg #[.int .i64 op, .int .i64 rd, .int .i64 rs1, .int .i64 rs2, .int .i64 imm, .bool aq, .bool rl, .int .i64 pred, .int .i64 succ]] w fun e w' => e = .returned (.int .i64 (checkE ⟨op, rd, rs1, rs2, imm, aq, rl, pred, succ⟩)) ∧ Below w.heap.size w w' := by
  have hmf : ∀ (fn : Fn) (first cap : Array Value) (w : World), (Instr.makeFunc fn first cap).run Tryz.prog w = .ok (.func fn first cap) w := fun _ _ _ _ => rfl
  have hof := Lib.hid (fun W (hW : Tabs W) => of_any op hop W hW)
  rw [hO.out] at hof
  have hE0 : Hid (∀ rd rs1 rs2 imm aq rl pred succ, checkE ⟨op, rd, rs1, rs2, imm, aq, rl, pred, succ⟩ = if formOk 8 (shortName nm) ⟨op, rd, rs1, rs2, imm, aq, rl, pred, succ⟩ then 0 else 2) := Lib.hid (checkE_form hO.out)
  clear hO hop
  go_enter Tryz.func90, Tryz.ntmps90
  go_upto_region 52 with (first | (go_at_call 116; refine (hof.out _ (ht.later ((Below.refl _ _).alloc (Nat.le_refl _) _) (Nat.le_refl _))).mono ?_; rintro e w2 ⟨rfl, hb2⟩; have g0 := op_cell (t' := 158) (ds := #[.string ⟨nm.toArray⟩, .int .i64 8, .bool l, .bool s, .int .i64 z]) hb2 0; have hC := CK.start hb2 #[.string ⟨nm.toArray⟩, .int .i64 8, .bool l, .bool s, .int .i64 z] rfl 158 26 3 4 32) | (go_at_call 117; refine (Check_reg1 hC rd rfl (by simp)).mono ?_; rintro e w' ⟨rfl, hC⟩) | (go_at_call 118; refine (Check_reg2 hC rs1 rfl (by simp)).mono ?_; rintro e w' ⟨rfl, hC⟩) | (go_at_call 119; refine (Check_reg3 hC rs2 rfl (by simp)).mono ?_; rintro e w' ⟨rfl, hC⟩) | (go_at_call 120; refine (Check_imm hC imm rfl _ _).mono ?_; rintro e w' ⟨rfl, hC⟩))
  have k0 : _ = some (Value.int .i64 op) := hC.k 0 (by decide)
  have k1 : _ = some (Value.int .i64 rd) := hC.k 1 (by decide)
  have k2 : _ = some (Value.int .i64 rs1) := hC.k 2 (by decide)
  have k3 : _ = some (Value.int .i64 rs2) := hC.k 3 (by decide)
  have k4 : _ = some (Value.int .i64 0) := hC.k 4 (by decide)
  have k5 : _ = some (Value.bool false) := hC.k 5 (by decide)
  have k6 : _ = some (Value.bool false) := hC.k 6 (by decide)
  have k7 : _ = some (Value.int .i64 0) := hC.k 7 (by decide)
  have k8 : _ = some (Value.int .i64 0) := hC.k 8 (by decide)
  have i0 : _ = some (Value.int .i64 op) := hC.i 0 (by decide)
  have i1 : _ = some (Value.int .i64 rd) := hC.i 1 (by decide)
  have i2 : _ = some (Value.int .i64 rs1) := hC.i 2 (by decide)
  have i3 : _ = some (Value.int .i64 rs2) := hC.i 3 (by decide)
  have i4 : _ = some (Value.int .i64 imm) := hC.i 4 (by decide)
  have i5 : _ = some (Value.bool aq) := hC.i 5 (by decide)
  have i6 : _ = some (Value.bool rl) := hC.i 6 (by decide)
  have i7 : _ = some (Value.int .i64 pred) := hC.i 7 (by decide)
  have i8 : _ = some (Value.int .i64 succ) := hC.i 8 (by decide)
  have eb := hC.b
  have ee := hC.e
  obtain ⟨v, hv, hown⟩ := hC.r
  have hbl := Lib.hid hC.bl
  clear hC
  by_cases c_imm : imm = 0
  · subst c_imm
    cases aq with
    | true =>
      have hE : Hid (_ = (2 : Int)) := Lib.hid ((hE0.out rd rs1 rs2 0 true rl pred succ).trans (by simp [formOk]))
      go_wp2_with (first | (go_at_call 73; (with_reducible refine (Fits_any _ _ _).mono ?_); rintro e w1 ⟨rfl, rfl⟩) | (go_at_call 122; refine (ContainsFunc_any _ v [rd, rs1, rs2] _ hown (by simp)).mono ?_; rintro e w1 ⟨rfl, rfl⟩))
      go_ret
      exact ⟨ret_int (by rw [hE.out]), hbl.out⟩
    | false =>
      cases rl with
      | true =>
        have hE : Hid (_ = (2 : Int)) := Lib.hid ((hE0.out rd rs1 rs2 0 false true pred succ).trans (by simp [formOk]))
        go_wp2_with (first | (go_at_call 73; (with_reducible refine (Fits_any _ _ _).mono ?_); rintro e w1 ⟨rfl, rfl⟩) | (go_at_call 122; refine (ContainsFunc_any _ v [rd, rs1, rs2] _ hown (by simp)).mono ?_; rintro e w1 ⟨rfl, rfl⟩))
        go_ret
        exact ⟨ret_int (by rw [hE.out]), hbl.out⟩
      | false =>
        by_cases c_pred : pred = 0
        · subst c_pred
          by_cases c_succ : succ = 0
          · subst c_succ
            cases hR : badIn [rd, rs1, rs2] with
            | true =>
              have hE : Hid (_ = (2 : Int)) := Lib.hid ((hE0.out rd rs1 rs2 0 false false 0 0).trans (by simp [formOk, hR]))
              go_wp2_with (first | (go_at_call 73; (with_reducible refine (Fits_any _ _ _).mono ?_); rintro e w1 ⟨rfl, rfl⟩) | (go_at_call 122; refine (ContainsFunc_any _ v [rd, rs1, rs2] _ hown (by simp)).mono ?_; rintro e w1 ⟨rfl, rfl⟩))
              go_ret
              exact ⟨ret_int (by rw [hE.out]), hbl.out⟩
            | false =>
              have hE : Hid (_ = (0 : Int)) := Lib.hid ((hE0.out rd rs1 rs2 0 false false 0 0).trans (by simp [formOk, hR]))
              go_wp2_with (first | (go_at_call 73; (with_reducible refine (Fits_any _ _ _).mono ?_); rintro e w1 ⟨rfl, rfl⟩) | (go_at_call 122; refine (ContainsFunc_any _ v [rd, rs1, rs2] _ hown (by simp)).mono ?_; rintro e w1 ⟨rfl, rfl⟩))
              go_ret
              exact ⟨ret_int (by rw [hE.out]), hbl.out⟩
          · have t_succ : ((0 : Int) == succ) = false := by rw [beq_eq_false_iff_ne]; exact fun h => c_succ h.symm
            have hE : Hid (_ = (2 : Int)) := Lib.hid ((hE0.out rd rs1 rs2 0 false false 0 succ).trans (by simp [formOk, c_succ]))
            go_wp2_with (first | (go_at_call 73; (with_reducible refine (Fits_any _ _ _).mono ?_); rintro e w1 ⟨rfl, rfl⟩) | (go_at_call 122; refine (ContainsFunc_any _ v [rd, rs1, rs2] _ hown (by simp)).mono ?_; rintro e w1 ⟨rfl, rfl⟩))
            go_ret
            exact ⟨ret_int (by rw [hE.out]), hbl.out⟩
        · have t_pred : ((0 : Int) == pred) = false := by rw [beq_eq_false_iff_ne]; exact fun h => c_pred h.symm
          have hE : Hid (_ = (2 : Int)) := Lib.hid ((hE0.out rd rs1 rs2 0 false false pred succ).trans (by simp [formOk, c_pred]))
          go_wp2_with (first | (go_at_call 73; (with_reducible refine (Fits_any _ _ _).mono ?_); rintro e w1 ⟨rfl, rfl⟩) | (go_at_call 122; refine (ContainsFunc_any _ v [rd, rs1, rs2] _ hown (by simp)).mono ?_; rintro e w1 ⟨rfl, rfl⟩))
          go_ret
          exact ⟨ret_int (by rw [hE.out]), hbl.out⟩
  · have t_imm : ((0 : Int) == imm) = false := by rw [beq_eq_false_iff_ne]; exact fun h => c_imm h.symm
    have hE : Hid (_ = (2 : Int)) := Lib.hid ((hE0.out rd rs1 rs2 imm aq rl pred succ).trans (by simp [formOk, c_imm]))
    go_wp2_with (first | (go_at_call 73; (with_reducible refine (Fits_any _ _ _).mono ?_); rintro e w1 ⟨rfl, rfl⟩) | (go_at_call 122; refine (ContainsFunc_any _ v [rd, rs1, rs2] _ hown (by simp)).mono ?_; rintro e w1 ⟨rfl, rfl⟩))
    go_ret
    exact ⟨ret_int (by rw [hE.out]), hbl.out⟩
end Go.Proofs.YtcgflnkgekkidaaGreatDoor
