/- The document's hart at a branch, a jump. Conditions: as each theorem says. -/
import Derived.Test.YtcgflnkgekkidaaGreatDoorAsmNb
set_option linter.unusedSimpArgs false
set_option linter.unusedVariables false
namespace Go.Proofs.YtcgflnkgekkidaaGreatDoor
open Go.RowKit
theorem un_0 : un 0#64 = 0 := by decide +kernel
theorem MemB (n : Int) (ho : n = 3 ∨ (5 ≤ n ∧ n ≤ 10)) (w : World) : Calls Tryz.prog 48 #[.int .i64 n] w fun e w' => e = .returned (.tuple #[.bool false, .bool false, .int .i64 0]) ∧ Below w.heap.size w w' := by
  have hN : Hid (∀ W, Calls Tryz.prog 84 #[.int .i64 n] W fun e w' => e = .returned (strV (opOf n).name) ∧ Below W.heap.size W w') := Lib.hid fun W => R2Name_any n W
  have hF : Hid (∀ W, Calls Tryz.prog 46 #[.int .i64 n] W fun e w' => e = .returned (.int .i64 (rform n)) ∧ W = w') := Lib.hid fun W => R2Form_any n W
  generalize strV (opOf n).name = s at hN
  obtain ⟨t4, t5, t11, t12⟩ : (rform n == 4) = false ∧ (rform n == 5) = false ∧ (rform n == 11) = false ∧ (rform n == 12) = false := by
    have hx : n = 3 ∨ n = 5 ∨ n = 6 ∨ n = 7 ∨ n = 8 ∨ n = 9 ∨ n = 10 := by omega
    rcases hx with rfl | rfl | rfl | rfl | rfl | rfl | rfl <;> exact ⟨rfl, rfl, rfl, rfl⟩
  generalize rform n = f at hF t4 t5 t11 t12
  have hund : ∀ b : Bool, (some undef = some (Value.bool b)) = False := fun b => by simp [undef]
  clear ho
  go_enter Tryz.func48, Tryz.ntmps48
  go_wp2_with (first | (go_at_call 84; refine (hN.out _).mono ?_; rintro e w1 ⟨rfl, hb⟩) | (go_at_call 46; refine (hF.out _).mono ?_; rintro e w2 ⟨rfl, rfl⟩))
  go_ret3
  exact ⟨rfl, hb⟩
theorem RDo_none (op : Int) (ho : op = 3 ∨ (5 ≤ op ∧ op ≤ 10)) (a b : BitVec 64) (w : World) :
    Calls Tryz.prog 47 #[.int .i64 op, .int .u64 (un a), .int .u64 (un b)] w fun e w' => e = .returned (.tuple #[.int .u64 (un 0#64), .int .i64 2]) ∧ Below w.heap.size w w' := by
  have t1 : (op == 1) = false := by rw [beq_eq_false_iff_ne]; omega
  have hP : Hid (∀ w, Calls Tryz.prog 81 #[.int .i64 op] w fun e w' => e = .returned (.int .i64 0) ∧ w = w') := Lib.hid (fun w => by
    have := RPlain_any op w
    have hx : op = 3 ∨ op = 5 ∨ op = 6 ∨ op = 7 ∨ op = 8 ∨ op = 9 ∨ op = 10 := by omega
    rwa [show plainOf op = 0 by rcases hx with rfl | rfl | rfl | rfl | rfl | rfl | rfl <;> decide +kernel] at this)
  clear ho
  rw [un_0]
  go_enter Tryz.func47, Tryz.ntmps47
  go_wp2_with (go_at_call 81; refine (hP.out _).mono ?_; rintro e w1 ⟨rfl, rfl⟩)
  go_ret2
  exact ⟨rfl, Below.refl _ _⟩
attribute [local go_sem] wrap_u64_bv bv_un bv_sn bv_add bv_mul bv_neg bv_sub mul_bvpow shr_min shl_min sshr_min bv_lit bv_0 bv_1 un_shr sn_shr wrap_i64_un bits_u64_and bits_u64_or bits_u64_xor bits_u64_andNot bv_max u64_unsigned
section
attribute [local irreducible] un sn hartL
set_option maxRecDepth 100000 in
set_option maxHeartbeats 4000000 in
theorem RTgt_jal (h : HartV) (op : Int) (d r1 r2 : Nat) (imm : Int) (aq rl : Bool) (pred succ : Int) (w : World) (hr1 : r1 < 32) (hr2 : r2 < 32) (ho : op = 3) :
    Calls Tryz.prog 49 #[.agg (hartArr h), .agg #[.int .i64 op, .int .i64 d, .int .i64 r1, .int .i64 r2, .int .i64 imm, .bool aq, .bool rl, .int .i64 pred, .int .i64 succ]] w fun e w' => e = .returned (.tuple #[.int .u64 (un (h.pc + bv imm)), .bool true]) ∧ Below w.heap.size w w' := by
  have hB0 := BK.start w h ⟨op, d, r1, r2, imm, aq, rl, pred, succ⟩ 47 26
  have hT := Lib.hid (fun W => RTakes_any op (h.x r1) (h.x r2) W)
  have hl1 : 0 ≤ (r1 : Int) ∧ (r1 : Int) < 32 := by omega
  have hl2 : 0 ≤ (r2 : Int) ∧ (r2 : Int) < 32 := by omega
  have t3 : (op == 3) = true := by rw [ho]; rfl
  clear ho
  generalize takesF op (h.x r1) (h.x r2) = tb at hT
  generalize takesE op = te at hT
  have hund : ∀ b : Bool, (some undef = some (Value.bool b)) = False := fun b => by simp [undef]
  go_enter Tryz.func49, Tryz.ntmps49
  go_upto_region 1 with fail
  refine wp_region_held_drew (S := fun W => BK w h ⟨op, d, r1, r2, imm, aq, rl, pred, succ⟩ W) (by kernel_rfl) hB0.drew (fun hHeld => ?_)
  refine wpAnyH_take (i := 0) (v := .pointer (some ⟨(w.heap.size + 1), 0, none⟩)) rfl (by kernel_rfl) (by kernel_rfl) (by kernel_rfl) (fun _ _ _ h => h) (Or.inl ⟨by rfl, fun W _ => by kernel_rfl⟩) hHeld ?_
  try simp only [Act.put, List.getElem_toArray, List.getElem_cons_zero, List.setIfInBounds_toArray, List.set_cons_zero, List.set_cons_succ]
  refine wpAnyH_take (i := 1) (v := .int .i64 op) rfl (by kernel_rfl) (by kernel_rfl) (by kernel_rfl) (fun _ _ _ h => h) (Or.inl ⟨by rfl, fun W hS => by (have k : W.cell? ⟨(w.heap.size + 1), 0, none⟩ = some (.int .i64 op) := hS.c 0 (by decide)); go_simp⟩) hHeld ?_
  try simp only [Act.put, List.getElem_toArray, List.getElem_cons_succ, List.getElem_cons_zero, List.setIfInBounds_toArray, List.set_cons_zero, List.set_cons_succ]
  refine wpAnyH_take (i := 2) (v := .pointer (some ⟨(w.heap.size + 1), 2, none⟩)) rfl (by kernel_rfl) (by kernel_rfl) (by kernel_rfl) (fun _ _ _ h => h) (Or.inl ⟨by rfl, fun W _ => by kernel_rfl⟩) hHeld ?_
  try simp only [Act.put, List.getElem_toArray, List.getElem_cons_succ, List.getElem_cons_zero, List.setIfInBounds_toArray, List.set_cons_zero, List.set_cons_succ]
  refine wpAnyH_take (i := 3) (v := .int .i64 r1) rfl (by kernel_rfl) (by kernel_rfl) (by kernel_rfl) (fun _ _ _ h => h) (Or.inl ⟨by rfl, fun W hS => by (have k : W.cell? ⟨(w.heap.size + 1), 2, none⟩ = some (.int .i64 r1) := hS.c 2 (by decide)); go_simp⟩) hHeld ?_
  try simp only [Act.put, List.getElem_toArray, List.getElem_cons_succ, List.getElem_cons_zero, List.setIfInBounds_toArray, List.set_cons_zero, List.set_cons_succ]
  refine wpAnyH_take (i := 4) (v := .pointer (some ⟨w.heap.size, 1, none⟩)) rfl (by kernel_rfl) (by kernel_rfl) (by kernel_rfl) (fun _ _ _ h => h) (Or.inl ⟨by rfl, fun W _ => by kernel_rfl⟩) hHeld ?_
  try simp only [Act.put, List.getElem_toArray, List.getElem_cons_succ, List.getElem_cons_zero, List.setIfInBounds_toArray, List.set_cons_zero, List.set_cons_succ]
  refine wpAnyH_take (i := 5) (v := .pointer (some ⟨w.heap.size, 1 + r1, none⟩)) rfl (by kernel_rfl) (by kernel_rfl) (by kernel_rfl) (fun _ _ _ h => h) (Or.inl ⟨by rfl, fun W _ => by go_simp⟩) hHeld ?_
  try simp only [Act.put, List.getElem_toArray, List.getElem_cons_succ, List.getElem_cons_zero, List.setIfInBounds_toArray, List.set_cons_zero, List.set_cons_succ]
  refine wpAnyH_take (i := 6) (v := .int .u64 (un (h.x r1))) rfl (by kernel_rfl) (by kernel_rfl) (by kernel_rfl) (fun _ _ _ h => h) (Or.inl ⟨by rfl, fun W hS => by (have k : W.cell? ⟨w.heap.size, 1 + r1, none⟩ = some (.int .u64 (un (h.x r1))) := (hS.h (1 + r1) (by omega)).trans (congrArg some (hartCell_x h r1 hr1))); go_simp⟩) hHeld ?_
  try simp only [Act.put, List.getElem_toArray, List.getElem_cons_succ, List.getElem_cons_zero, List.setIfInBounds_toArray, List.set_cons_zero, List.set_cons_succ]
  refine wpAnyH_take (i := 7) (v := .pointer (some ⟨(w.heap.size + 1), 3, none⟩)) rfl (by kernel_rfl) (by kernel_rfl) (by kernel_rfl) (fun _ _ _ h => h) (Or.inl ⟨by rfl, fun W _ => by kernel_rfl⟩) hHeld ?_
  try simp only [Act.put, List.getElem_toArray, List.getElem_cons_succ, List.getElem_cons_zero, List.setIfInBounds_toArray, List.set_cons_zero, List.set_cons_succ]
  refine wpAnyH_take (i := 8) (v := .int .i64 r2) rfl (by kernel_rfl) (by kernel_rfl) (by kernel_rfl) (fun _ _ _ h => h) (Or.inl ⟨by rfl, fun W hS => by (have k : W.cell? ⟨(w.heap.size + 1), 3, none⟩ = some (.int .i64 r2) := hS.c 3 (by decide)); go_simp⟩) hHeld ?_
  try simp only [Act.put, List.getElem_toArray, List.getElem_cons_succ, List.getElem_cons_zero, List.setIfInBounds_toArray, List.set_cons_zero, List.set_cons_succ]
  refine wpAnyH_take (i := 9) (v := .pointer (some ⟨w.heap.size, 1, none⟩)) rfl (by kernel_rfl) (by kernel_rfl) (by kernel_rfl) (fun _ _ _ h => h) (Or.inl ⟨by rfl, fun W _ => by kernel_rfl⟩) hHeld ?_
  try simp only [Act.put, List.getElem_toArray, List.getElem_cons_succ, List.getElem_cons_zero, List.setIfInBounds_toArray, List.set_cons_zero, List.set_cons_succ]
  refine wpAnyH_take (i := 10) (v := .pointer (some ⟨w.heap.size, 1 + r2, none⟩)) rfl (by kernel_rfl) (by kernel_rfl) (by kernel_rfl) (fun _ _ _ h => h) (Or.inl ⟨by rfl, fun W _ => by go_simp⟩) hHeld ?_
  try simp only [Act.put, List.getElem_toArray, List.getElem_cons_succ, List.getElem_cons_zero, List.setIfInBounds_toArray, List.set_cons_zero, List.set_cons_succ]
  refine wpAnyH_take (i := 11) (v := .int .u64 (un (h.x r2))) rfl (by kernel_rfl) (by kernel_rfl) (by kernel_rfl) (fun _ _ _ h => h) (Or.inl ⟨by rfl, fun W hS => by (have k : W.cell? ⟨w.heap.size, 1 + r2, none⟩ = some (.int .u64 (un (h.x r2))) := (hS.h (1 + r2) (by omega)).trans (congrArg some (hartCell_x h r2 hr2))); go_simp⟩) hHeld ?_
  try simp only [Act.put, List.getElem_toArray, List.getElem_cons_succ, List.getElem_cons_zero, List.setIfInBounds_toArray, List.set_cons_zero, List.set_cons_succ]
  refine wpAnyH_ready (rs := [12]) (by kernel_rfl) (by simp) (AllReadyH.cons rfl (fun K hK2 => ?_) AllReadyH.nil)
  rw [if_pos (by rfl)]
  simp only [List.getElem_toArray, List.getElem_cons_succ, List.getElem_cons_zero]
  go_wp2_with (go_at_call 85; refine (hT.out _).mono ?_; rintro e wb ⟨rfl, rfl⟩)
  refine hK2.out _ _ (hHeld) (fun hHeld2 => ?_)
  clear hK2 K hHeld
  have hHeld := hHeld2
  clear hHeld2
  try simp only [Act.put, List.getElem_toArray, List.getElem_cons_succ, List.getElem_cons_zero, List.setIfInBounds_toArray, List.set_cons_zero, List.set_cons_succ]
  refine wpAnyH_take (i := 13) (v := .tuple #[.bool tb, .int .i64 te]) rfl (by kernel_rfl) (by kernel_rfl) (by kernel_rfl) (fun _ _ _ h => h) (Or.inl ⟨by rfl, fun W _ => by kernel_rfl⟩) hHeld ?_
  try simp only [Act.put, List.getElem_toArray, List.getElem_cons_succ, List.getElem_cons_zero, List.setIfInBounds_toArray, List.set_cons_zero, List.set_cons_succ]
  refine wpAnyH_take (i := 14) (v := .bool tb) rfl (by kernel_rfl) (by kernel_rfl) (by kernel_rfl) (fun _ _ _ h => h) (Or.inl ⟨by rfl, fun W _ => by kernel_rfl⟩) hHeld ?_
  try simp only [Act.put, List.getElem_toArray, List.getElem_cons_succ, List.getElem_cons_zero, List.setIfInBounds_toArray, List.set_cons_zero, List.set_cons_succ]
  refine wpAnyH_take (i := 15) (v := .int .i64 te) rfl (by kernel_rfl) (by kernel_rfl) (by kernel_rfl) (fun _ _ _ h => h) (Or.inl ⟨by rfl, fun W _ => by kernel_rfl⟩) hHeld ?_
  try simp only [Act.put, List.getElem_toArray, List.getElem_cons_succ, List.getElem_cons_zero, List.setIfInBounds_toArray, List.set_cons_zero, List.set_cons_succ]
  refine wpAnyH_take (i := 16) (v := .bool tb) rfl (by kernel_rfl) (by kernel_rfl) (by kernel_rfl) (fun _ _ _ h => h) (Or.inl ⟨by rfl, fun W _ => by kernel_rfl⟩) hHeld ?_
  try simp only [Act.put, List.getElem_toArray, List.getElem_cons_succ, List.getElem_cons_zero, List.setIfInBounds_toArray, List.set_cons_zero, List.set_cons_succ]
  refine wpAnyH_take (i := 17) (v := .int .i64 te) rfl (by kernel_rfl) (by kernel_rfl) (by kernel_rfl) (fun _ _ _ h => h) (Or.inl ⟨by rfl, fun W _ => by kernel_rfl⟩) hHeld ?_
  try simp only [Act.put, List.getElem_toArray, List.getElem_cons_succ, List.getElem_cons_zero, List.setIfInBounds_toArray, List.set_cons_zero, List.set_cons_succ]
  refine wpAnyH_done (by kernel_rfl) ?_ _
  have hB := hHeld
  clear hHeld hB0
  obtain ⟨-, -, -, c0, c1, c2, c3, c4, c5, c6, c7, c8⟩ := hB.facts
  generalize World.drew _ = W0 at hB c0 c1 c2 c3 c4 c5 c6 c7 c8 ⊢
  have pc0 : W0.cell? ⟨w.heap.size, 0, none⟩ = some (.int .u64 (un h.pc)) := hB.h 0 (by decide)
  go_wp2_with fail
  go_ret2
  exact ⟨rfl, by first | exact hB.bl | exact hB.bl.trans ⟨rfl, rfl, rfl, Nat.le_refl _, fun _ _ => rfl⟩⟩
set_option maxRecDepth 100000 in
set_option maxHeartbeats 4000000 in
theorem RTgt_br (h : HartV) (op : Int) (d r1 r2 : Nat) (imm : Int) (aq rl : Bool) (pred succ : Int) (w : World) (hr1 : r1 < 32) (hr2 : r2 < 32) (ho : op ≠ 3) (h1 : takesE op = 0) (h2 : takesF op (h.x r1) (h.x r2) = true) :
    Calls Tryz.prog 49 #[.agg (hartArr h), .agg #[.int .i64 op, .int .i64 d, .int .i64 r1, .int .i64 r2, .int .i64 imm, .bool aq, .bool rl, .int .i64 pred, .int .i64 succ]] w fun e w' => e = .returned (.tuple #[.int .u64 (un (h.pc + bv imm)), .bool true]) ∧ Below w.heap.size w w' := by
  have hB0 := BK.start w h ⟨op, d, r1, r2, imm, aq, rl, pred, succ⟩ 47 26
  have hT := Lib.hid (fun W => RTakes_any op (h.x r1) (h.x r2) W)
  have hl1 : 0 ≤ (r1 : Int) ∧ (r1 : Int) < 32 := by omega
  have hl2 : 0 ≤ (r2 : Int) ∧ (r2 : Int) < 32 := by omega
  have t3 : (op == 3) = false := by rw [beq_eq_false_iff_ne]; exact ho
  clear ho
  have t0 : (takesE op == 0) = true := by rw [h1]; rfl
  clear h1
  generalize takesF op (h.x r1) (h.x r2) = tb at hT h2
  generalize takesE op = te at hT t0
  subst h2
  have hund : ∀ b : Bool, (some undef = some (Value.bool b)) = False := fun b => by simp [undef]
  go_enter Tryz.func49, Tryz.ntmps49
  go_upto_region 1 with fail
  refine wp_region_held_drew (S := fun W => BK w h ⟨op, d, r1, r2, imm, aq, rl, pred, succ⟩ W) (by kernel_rfl) hB0.drew (fun hHeld => ?_)
  refine wpAnyH_take (i := 0) (v := .pointer (some ⟨(w.heap.size + 1), 0, none⟩)) rfl (by kernel_rfl) (by kernel_rfl) (by kernel_rfl) (fun _ _ _ h => h) (Or.inl ⟨by rfl, fun W _ => by kernel_rfl⟩) hHeld ?_
  try simp only [Act.put, List.getElem_toArray, List.getElem_cons_zero, List.setIfInBounds_toArray, List.set_cons_zero, List.set_cons_succ]
  refine wpAnyH_take (i := 1) (v := .int .i64 op) rfl (by kernel_rfl) (by kernel_rfl) (by kernel_rfl) (fun _ _ _ h => h) (Or.inl ⟨by rfl, fun W hS => by (have k : W.cell? ⟨(w.heap.size + 1), 0, none⟩ = some (.int .i64 op) := hS.c 0 (by decide)); go_simp⟩) hHeld ?_
  try simp only [Act.put, List.getElem_toArray, List.getElem_cons_succ, List.getElem_cons_zero, List.setIfInBounds_toArray, List.set_cons_zero, List.set_cons_succ]
  refine wpAnyH_take (i := 2) (v := .pointer (some ⟨(w.heap.size + 1), 2, none⟩)) rfl (by kernel_rfl) (by kernel_rfl) (by kernel_rfl) (fun _ _ _ h => h) (Or.inl ⟨by rfl, fun W _ => by kernel_rfl⟩) hHeld ?_
  try simp only [Act.put, List.getElem_toArray, List.getElem_cons_succ, List.getElem_cons_zero, List.setIfInBounds_toArray, List.set_cons_zero, List.set_cons_succ]
  refine wpAnyH_take (i := 3) (v := .int .i64 r1) rfl (by kernel_rfl) (by kernel_rfl) (by kernel_rfl) (fun _ _ _ h => h) (Or.inl ⟨by rfl, fun W hS => by (have k : W.cell? ⟨(w.heap.size + 1), 2, none⟩ = some (.int .i64 r1) := hS.c 2 (by decide)); go_simp⟩) hHeld ?_
  try simp only [Act.put, List.getElem_toArray, List.getElem_cons_succ, List.getElem_cons_zero, List.setIfInBounds_toArray, List.set_cons_zero, List.set_cons_succ]
  refine wpAnyH_take (i := 4) (v := .pointer (some ⟨w.heap.size, 1, none⟩)) rfl (by kernel_rfl) (by kernel_rfl) (by kernel_rfl) (fun _ _ _ h => h) (Or.inl ⟨by rfl, fun W _ => by kernel_rfl⟩) hHeld ?_
  try simp only [Act.put, List.getElem_toArray, List.getElem_cons_succ, List.getElem_cons_zero, List.setIfInBounds_toArray, List.set_cons_zero, List.set_cons_succ]
  refine wpAnyH_take (i := 5) (v := .pointer (some ⟨w.heap.size, 1 + r1, none⟩)) rfl (by kernel_rfl) (by kernel_rfl) (by kernel_rfl) (fun _ _ _ h => h) (Or.inl ⟨by rfl, fun W _ => by go_simp⟩) hHeld ?_
  try simp only [Act.put, List.getElem_toArray, List.getElem_cons_succ, List.getElem_cons_zero, List.setIfInBounds_toArray, List.set_cons_zero, List.set_cons_succ]
  refine wpAnyH_take (i := 6) (v := .int .u64 (un (h.x r1))) rfl (by kernel_rfl) (by kernel_rfl) (by kernel_rfl) (fun _ _ _ h => h) (Or.inl ⟨by rfl, fun W hS => by (have k : W.cell? ⟨w.heap.size, 1 + r1, none⟩ = some (.int .u64 (un (h.x r1))) := (hS.h (1 + r1) (by omega)).trans (congrArg some (hartCell_x h r1 hr1))); go_simp⟩) hHeld ?_
  try simp only [Act.put, List.getElem_toArray, List.getElem_cons_succ, List.getElem_cons_zero, List.setIfInBounds_toArray, List.set_cons_zero, List.set_cons_succ]
  refine wpAnyH_take (i := 7) (v := .pointer (some ⟨(w.heap.size + 1), 3, none⟩)) rfl (by kernel_rfl) (by kernel_rfl) (by kernel_rfl) (fun _ _ _ h => h) (Or.inl ⟨by rfl, fun W _ => by kernel_rfl⟩) hHeld ?_
  try simp only [Act.put, List.getElem_toArray, List.getElem_cons_succ, List.getElem_cons_zero, List.setIfInBounds_toArray, List.set_cons_zero, List.set_cons_succ]
  refine wpAnyH_take (i := 8) (v := .int .i64 r2) rfl (by kernel_rfl) (by kernel_rfl) (by kernel_rfl) (fun _ _ _ h => h) (Or.inl ⟨by rfl, fun W hS => by (have k : W.cell? ⟨(w.heap.size + 1), 3, none⟩ = some (.int .i64 r2) := hS.c 3 (by decide)); go_simp⟩) hHeld ?_
  try simp only [Act.put, List.getElem_toArray, List.getElem_cons_succ, List.getElem_cons_zero, List.setIfInBounds_toArray, List.set_cons_zero, List.set_cons_succ]
  refine wpAnyH_take (i := 9) (v := .pointer (some ⟨w.heap.size, 1, none⟩)) rfl (by kernel_rfl) (by kernel_rfl) (by kernel_rfl) (fun _ _ _ h => h) (Or.inl ⟨by rfl, fun W _ => by kernel_rfl⟩) hHeld ?_
  try simp only [Act.put, List.getElem_toArray, List.getElem_cons_succ, List.getElem_cons_zero, List.setIfInBounds_toArray, List.set_cons_zero, List.set_cons_succ]
  refine wpAnyH_take (i := 10) (v := .pointer (some ⟨w.heap.size, 1 + r2, none⟩)) rfl (by kernel_rfl) (by kernel_rfl) (by kernel_rfl) (fun _ _ _ h => h) (Or.inl ⟨by rfl, fun W _ => by go_simp⟩) hHeld ?_
  try simp only [Act.put, List.getElem_toArray, List.getElem_cons_succ, List.getElem_cons_zero, List.setIfInBounds_toArray, List.set_cons_zero, List.set_cons_succ]
  refine wpAnyH_take (i := 11) (v := .int .u64 (un (h.x r2))) rfl (by kernel_rfl) (by kernel_rfl) (by kernel_rfl) (fun _ _ _ h => h) (Or.inl ⟨by rfl, fun W hS => by (have k : W.cell? ⟨w.heap.size, 1 + r2, none⟩ = some (.int .u64 (un (h.x r2))) := (hS.h (1 + r2) (by omega)).trans (congrArg some (hartCell_x h r2 hr2))); go_simp⟩) hHeld ?_
  try simp only [Act.put, List.getElem_toArray, List.getElem_cons_succ, List.getElem_cons_zero, List.setIfInBounds_toArray, List.set_cons_zero, List.set_cons_succ]
  refine wpAnyH_ready (rs := [12]) (by kernel_rfl) (by simp) (AllReadyH.cons rfl (fun K hK2 => ?_) AllReadyH.nil)
  rw [if_pos (by rfl)]
  simp only [List.getElem_toArray, List.getElem_cons_succ, List.getElem_cons_zero]
  go_wp2_with (go_at_call 85; refine (hT.out _).mono ?_; rintro e wb ⟨rfl, rfl⟩)
  refine hK2.out _ _ (hHeld) (fun hHeld2 => ?_)
  clear hK2 K hHeld
  have hHeld := hHeld2
  clear hHeld2
  try simp only [Act.put, List.getElem_toArray, List.getElem_cons_succ, List.getElem_cons_zero, List.setIfInBounds_toArray, List.set_cons_zero, List.set_cons_succ]
  refine wpAnyH_take (i := 13) (v := .tuple #[.bool true, .int .i64 te]) rfl (by kernel_rfl) (by kernel_rfl) (by kernel_rfl) (fun _ _ _ h => h) (Or.inl ⟨by rfl, fun W _ => by kernel_rfl⟩) hHeld ?_
  try simp only [Act.put, List.getElem_toArray, List.getElem_cons_succ, List.getElem_cons_zero, List.setIfInBounds_toArray, List.set_cons_zero, List.set_cons_succ]
  refine wpAnyH_take (i := 14) (v := .bool true) rfl (by kernel_rfl) (by kernel_rfl) (by kernel_rfl) (fun _ _ _ h => h) (Or.inl ⟨by rfl, fun W _ => by kernel_rfl⟩) hHeld ?_
  try simp only [Act.put, List.getElem_toArray, List.getElem_cons_succ, List.getElem_cons_zero, List.setIfInBounds_toArray, List.set_cons_zero, List.set_cons_succ]
  refine wpAnyH_take (i := 15) (v := .int .i64 te) rfl (by kernel_rfl) (by kernel_rfl) (by kernel_rfl) (fun _ _ _ h => h) (Or.inl ⟨by rfl, fun W _ => by kernel_rfl⟩) hHeld ?_
  try simp only [Act.put, List.getElem_toArray, List.getElem_cons_succ, List.getElem_cons_zero, List.setIfInBounds_toArray, List.set_cons_zero, List.set_cons_succ]
  refine wpAnyH_take (i := 16) (v := .bool true) rfl (by kernel_rfl) (by kernel_rfl) (by kernel_rfl) (fun _ _ _ h => h) (Or.inl ⟨by rfl, fun W _ => by kernel_rfl⟩) hHeld ?_
  try simp only [Act.put, List.getElem_toArray, List.getElem_cons_succ, List.getElem_cons_zero, List.setIfInBounds_toArray, List.set_cons_zero, List.set_cons_succ]
  refine wpAnyH_take (i := 17) (v := .int .i64 te) rfl (by kernel_rfl) (by kernel_rfl) (by kernel_rfl) (fun _ _ _ h => h) (Or.inl ⟨by rfl, fun W _ => by kernel_rfl⟩) hHeld ?_
  try simp only [Act.put, List.getElem_toArray, List.getElem_cons_succ, List.getElem_cons_zero, List.setIfInBounds_toArray, List.set_cons_zero, List.set_cons_succ]
  refine wpAnyH_done (by kernel_rfl) ?_ _
  have hB := hHeld
  clear hHeld hB0
  obtain ⟨-, -, -, c0, c1, c2, c3, c4, c5, c6, c7, c8⟩ := hB.facts
  generalize World.drew _ = W0 at hB c0 c1 c2 c3 c4 c5 c6 c7 c8 ⊢
  have pc0 : W0.cell? ⟨w.heap.size, 0, none⟩ = some (.int .u64 (un h.pc)) := hB.h 0 (by decide)
  go_wp2_with fail
  go_ret2
  exact ⟨rfl, by first | exact hB.bl | exact hB.bl.trans ⟨rfl, rfl, rfl, Nat.le_refl _, fun _ _ => rfl⟩⟩
set_option maxRecDepth 100000 in
set_option maxHeartbeats 4000000 in
theorem RTgt_next1 (h : HartV) (op : Int) (d r1 r2 : Nat) (imm : Int) (aq rl : Bool) (pred succ : Int) (w : World) (hr1 : r1 < 32) (hr2 : r2 < 32) (t3 : (op == 3) = false) (h4 : op ≠ 4) (t0 : (takesE op == 0) = true) (h2 : takesF op (h.x r1) (h.x r2) = false) :
    Calls Tryz.prog 49 #[.agg (hartArr h), .agg #[.int .i64 op, .int .i64 d, .int .i64 r1, .int .i64 r2, .int .i64 imm, .bool aq, .bool rl, .int .i64 pred, .int .i64 succ]] w fun e w' => e = .returned (.tuple #[.int .u64 (un (h.pc + 4#64)), .bool false]) ∧ Below w.heap.size w w' := by
  have hB0 := BK.start w h ⟨op, d, r1, r2, imm, aq, rl, pred, succ⟩ 47 26
  have hT := Lib.hid (fun W => RTakes_any op (h.x r1) (h.x r2) W)
  have hl1 : 0 ≤ (r1 : Int) ∧ (r1 : Int) < 32 := by omega
  have hl2 : 0 ≤ (r2 : Int) ∧ (r2 : Int) < 32 := by omega
  have t4 : (op == 4) = false := by rw [beq_eq_false_iff_ne]; exact h4
  clear h4
  generalize takesF op (h.x r1) (h.x r2) = tb at hT h2
  generalize takesE op = te at hT t0
  subst h2
  have hund : ∀ b : Bool, (some undef = some (Value.bool b)) = False := fun b => by simp [undef]
  go_enter Tryz.func49, Tryz.ntmps49
  go_upto_region 1 with fail
  refine wp_region_held_drew (S := fun W => BK w h ⟨op, d, r1, r2, imm, aq, rl, pred, succ⟩ W) (by kernel_rfl) hB0.drew (fun hHeld => ?_)
  refine wpAnyH_take (i := 0) (v := .pointer (some ⟨(w.heap.size + 1), 0, none⟩)) rfl (by kernel_rfl) (by kernel_rfl) (by kernel_rfl) (fun _ _ _ h => h) (Or.inl ⟨by rfl, fun W _ => by kernel_rfl⟩) hHeld ?_
  try simp only [Act.put, List.getElem_toArray, List.getElem_cons_zero, List.setIfInBounds_toArray, List.set_cons_zero, List.set_cons_succ]
  refine wpAnyH_take (i := 1) (v := .int .i64 op) rfl (by kernel_rfl) (by kernel_rfl) (by kernel_rfl) (fun _ _ _ h => h) (Or.inl ⟨by rfl, fun W hS => by (have k : W.cell? ⟨(w.heap.size + 1), 0, none⟩ = some (.int .i64 op) := hS.c 0 (by decide)); go_simp⟩) hHeld ?_
  try simp only [Act.put, List.getElem_toArray, List.getElem_cons_succ, List.getElem_cons_zero, List.setIfInBounds_toArray, List.set_cons_zero, List.set_cons_succ]
  refine wpAnyH_take (i := 2) (v := .pointer (some ⟨(w.heap.size + 1), 2, none⟩)) rfl (by kernel_rfl) (by kernel_rfl) (by kernel_rfl) (fun _ _ _ h => h) (Or.inl ⟨by rfl, fun W _ => by kernel_rfl⟩) hHeld ?_
  try simp only [Act.put, List.getElem_toArray, List.getElem_cons_succ, List.getElem_cons_zero, List.setIfInBounds_toArray, List.set_cons_zero, List.set_cons_succ]
  refine wpAnyH_take (i := 3) (v := .int .i64 r1) rfl (by kernel_rfl) (by kernel_rfl) (by kernel_rfl) (fun _ _ _ h => h) (Or.inl ⟨by rfl, fun W hS => by (have k : W.cell? ⟨(w.heap.size + 1), 2, none⟩ = some (.int .i64 r1) := hS.c 2 (by decide)); go_simp⟩) hHeld ?_
  try simp only [Act.put, List.getElem_toArray, List.getElem_cons_succ, List.getElem_cons_zero, List.setIfInBounds_toArray, List.set_cons_zero, List.set_cons_succ]
  refine wpAnyH_take (i := 4) (v := .pointer (some ⟨w.heap.size, 1, none⟩)) rfl (by kernel_rfl) (by kernel_rfl) (by kernel_rfl) (fun _ _ _ h => h) (Or.inl ⟨by rfl, fun W _ => by kernel_rfl⟩) hHeld ?_
  try simp only [Act.put, List.getElem_toArray, List.getElem_cons_succ, List.getElem_cons_zero, List.setIfInBounds_toArray, List.set_cons_zero, List.set_cons_succ]
  refine wpAnyH_take (i := 5) (v := .pointer (some ⟨w.heap.size, 1 + r1, none⟩)) rfl (by kernel_rfl) (by kernel_rfl) (by kernel_rfl) (fun _ _ _ h => h) (Or.inl ⟨by rfl, fun W _ => by go_simp⟩) hHeld ?_
  try simp only [Act.put, List.getElem_toArray, List.getElem_cons_succ, List.getElem_cons_zero, List.setIfInBounds_toArray, List.set_cons_zero, List.set_cons_succ]
  refine wpAnyH_take (i := 6) (v := .int .u64 (un (h.x r1))) rfl (by kernel_rfl) (by kernel_rfl) (by kernel_rfl) (fun _ _ _ h => h) (Or.inl ⟨by rfl, fun W hS => by (have k : W.cell? ⟨w.heap.size, 1 + r1, none⟩ = some (.int .u64 (un (h.x r1))) := (hS.h (1 + r1) (by omega)).trans (congrArg some (hartCell_x h r1 hr1))); go_simp⟩) hHeld ?_
  try simp only [Act.put, List.getElem_toArray, List.getElem_cons_succ, List.getElem_cons_zero, List.setIfInBounds_toArray, List.set_cons_zero, List.set_cons_succ]
  refine wpAnyH_take (i := 7) (v := .pointer (some ⟨(w.heap.size + 1), 3, none⟩)) rfl (by kernel_rfl) (by kernel_rfl) (by kernel_rfl) (fun _ _ _ h => h) (Or.inl ⟨by rfl, fun W _ => by kernel_rfl⟩) hHeld ?_
  try simp only [Act.put, List.getElem_toArray, List.getElem_cons_succ, List.getElem_cons_zero, List.setIfInBounds_toArray, List.set_cons_zero, List.set_cons_succ]
  refine wpAnyH_take (i := 8) (v := .int .i64 r2) rfl (by kernel_rfl) (by kernel_rfl) (by kernel_rfl) (fun _ _ _ h => h) (Or.inl ⟨by rfl, fun W hS => by (have k : W.cell? ⟨(w.heap.size + 1), 3, none⟩ = some (.int .i64 r2) := hS.c 3 (by decide)); go_simp⟩) hHeld ?_
  try simp only [Act.put, List.getElem_toArray, List.getElem_cons_succ, List.getElem_cons_zero, List.setIfInBounds_toArray, List.set_cons_zero, List.set_cons_succ]
  refine wpAnyH_take (i := 9) (v := .pointer (some ⟨w.heap.size, 1, none⟩)) rfl (by kernel_rfl) (by kernel_rfl) (by kernel_rfl) (fun _ _ _ h => h) (Or.inl ⟨by rfl, fun W _ => by kernel_rfl⟩) hHeld ?_
  try simp only [Act.put, List.getElem_toArray, List.getElem_cons_succ, List.getElem_cons_zero, List.setIfInBounds_toArray, List.set_cons_zero, List.set_cons_succ]
  refine wpAnyH_take (i := 10) (v := .pointer (some ⟨w.heap.size, 1 + r2, none⟩)) rfl (by kernel_rfl) (by kernel_rfl) (by kernel_rfl) (fun _ _ _ h => h) (Or.inl ⟨by rfl, fun W _ => by go_simp⟩) hHeld ?_
  try simp only [Act.put, List.getElem_toArray, List.getElem_cons_succ, List.getElem_cons_zero, List.setIfInBounds_toArray, List.set_cons_zero, List.set_cons_succ]
  refine wpAnyH_take (i := 11) (v := .int .u64 (un (h.x r2))) rfl (by kernel_rfl) (by kernel_rfl) (by kernel_rfl) (fun _ _ _ h => h) (Or.inl ⟨by rfl, fun W hS => by (have k : W.cell? ⟨w.heap.size, 1 + r2, none⟩ = some (.int .u64 (un (h.x r2))) := (hS.h (1 + r2) (by omega)).trans (congrArg some (hartCell_x h r2 hr2))); go_simp⟩) hHeld ?_
  try simp only [Act.put, List.getElem_toArray, List.getElem_cons_succ, List.getElem_cons_zero, List.setIfInBounds_toArray, List.set_cons_zero, List.set_cons_succ]
  refine wpAnyH_ready (rs := [12]) (by kernel_rfl) (by simp) (AllReadyH.cons rfl (fun K hK2 => ?_) AllReadyH.nil)
  rw [if_pos (by rfl)]
  simp only [List.getElem_toArray, List.getElem_cons_succ, List.getElem_cons_zero]
  go_wp2_with (go_at_call 85; refine (hT.out _).mono ?_; rintro e wb ⟨rfl, rfl⟩)
  refine hK2.out _ _ (hHeld) (fun hHeld2 => ?_)
  clear hK2 K hHeld
  have hHeld := hHeld2
  clear hHeld2
  try simp only [Act.put, List.getElem_toArray, List.getElem_cons_succ, List.getElem_cons_zero, List.setIfInBounds_toArray, List.set_cons_zero, List.set_cons_succ]
  refine wpAnyH_take (i := 13) (v := .tuple #[.bool false, .int .i64 te]) rfl (by kernel_rfl) (by kernel_rfl) (by kernel_rfl) (fun _ _ _ h => h) (Or.inl ⟨by rfl, fun W _ => by kernel_rfl⟩) hHeld ?_
  try simp only [Act.put, List.getElem_toArray, List.getElem_cons_succ, List.getElem_cons_zero, List.setIfInBounds_toArray, List.set_cons_zero, List.set_cons_succ]
  refine wpAnyH_take (i := 14) (v := .bool false) rfl (by kernel_rfl) (by kernel_rfl) (by kernel_rfl) (fun _ _ _ h => h) (Or.inl ⟨by rfl, fun W _ => by kernel_rfl⟩) hHeld ?_
  try simp only [Act.put, List.getElem_toArray, List.getElem_cons_succ, List.getElem_cons_zero, List.setIfInBounds_toArray, List.set_cons_zero, List.set_cons_succ]
  refine wpAnyH_take (i := 15) (v := .int .i64 te) rfl (by kernel_rfl) (by kernel_rfl) (by kernel_rfl) (fun _ _ _ h => h) (Or.inl ⟨by rfl, fun W _ => by kernel_rfl⟩) hHeld ?_
  try simp only [Act.put, List.getElem_toArray, List.getElem_cons_succ, List.getElem_cons_zero, List.setIfInBounds_toArray, List.set_cons_zero, List.set_cons_succ]
  refine wpAnyH_take (i := 16) (v := .bool false) rfl (by kernel_rfl) (by kernel_rfl) (by kernel_rfl) (fun _ _ _ h => h) (Or.inl ⟨by rfl, fun W _ => by kernel_rfl⟩) hHeld ?_
  try simp only [Act.put, List.getElem_toArray, List.getElem_cons_succ, List.getElem_cons_zero, List.setIfInBounds_toArray, List.set_cons_zero, List.set_cons_succ]
  refine wpAnyH_take (i := 17) (v := .int .i64 te) rfl (by kernel_rfl) (by kernel_rfl) (by kernel_rfl) (fun _ _ _ h => h) (Or.inl ⟨by rfl, fun W _ => by kernel_rfl⟩) hHeld ?_
  try simp only [Act.put, List.getElem_toArray, List.getElem_cons_succ, List.getElem_cons_zero, List.setIfInBounds_toArray, List.set_cons_zero, List.set_cons_succ]
  refine wpAnyH_done (by kernel_rfl) ?_ _
  have hB := hHeld
  clear hHeld hB0
  obtain ⟨-, -, -, c0, c1, c2, c3, c4, c5, c6, c7, c8⟩ := hB.facts
  generalize World.drew _ = W0 at hB c0 c1 c2 c3 c4 c5 c6 c7 c8 ⊢
  have pc0 : W0.cell? ⟨w.heap.size, 0, none⟩ = some (.int .u64 (un h.pc)) := hB.h 0 (by decide)
  go_wp2_with fail
  go_ret2
  exact ⟨rfl, by first | exact hB.bl | exact hB.bl.trans ⟨rfl, rfl, rfl, Nat.le_refl _, fun _ _ => rfl⟩⟩
set_option maxRecDepth 100000 in
set_option maxHeartbeats 4000000 in
theorem REndJ_q (h : HartV) (op : Int) (d r1 r2 : Nat) (imm : Int) (aq rl : Bool) (pred succ : Int) (w : World) (x17 ad tw : BitVec 64) (z : Int) (h17 : Hid (h.x 17 = x17)) (hA : Hid (∀ W, Calls Tryz.prog 79 #[.agg (hartArr h), .agg #[.int .i64 op, .int .i64 d, .int .i64 r1, .int .i64 r2, .int .i64 imm, .bool aq, .bool rl, .int .i64 pred, .int .i64 succ]] W fun e w' => e = .returned (.tuple #[.int .u64 (un ad), .int .i64 z]) ∧ Below W.heap.size W w')) (hT : Hid (∀ W, Calls Tryz.prog 49 #[.agg (hartArr h), .agg #[.int .i64 op, .int .i64 d, .int .i64 r1, .int .i64 r2, .int .i64 imm, .bool aq, .bool rl, .int .i64 pred, .int .i64 succ]] W fun e w' => e = .returned (.tuple #[.int .u64 (un tw), .bool true]) ∧ Below W.heap.size W w')) (t65 : (op == 65) = false) (t64 : (op == 64) = false) (s0 : decide (0 < z) = false) (j4 : ((un tw).tmod 4 != 0) = false) :
    Calls Tryz.prog 45 #[.agg (hartArr h), .agg #[.int .i64 op, .int .i64 d, .int .i64 r1, .int .i64 r2, .int .i64 imm, .bool aq, .bool rl, .int .i64 pred, .int .i64 succ]] w fun e w' => e = .returned (.int .i64 0) ∧ Below w.heap.size w w' := by
  have hB0 := BK.start w h ⟨op, d, r1, r2, imm, aq, rl, pred, succ⟩ 47 26
  have hu := Tryz.underlying47
  have hund : ∀ b : Bool, (some undef = some (Value.bool b)) = False := fun b => by simp [undef]
  obtain ⟨rh, ri, x33, c0, c1, c2, c3, c4, c5, c6, c7, c8⟩ := hB0.facts
  go_enter Tryz.func45, Tryz.ntmps45
  go_wp2_with (first | (refine wpList_load_mid rfl 47 _ rfl w.heap.size 0 rfl (hartL h) _ rh hu rfl (size_hart _) ?_) | (go_at_call 79; refine (hA.out _).mono ?_; rintro e wa ⟨rfl, hba⟩; replace hB0 := hB0.keep hba; clear hba rh ri x33 c0 c1 c2 c3 c4 c5 c6 c7 c8; obtain ⟨rh, ri, x33, c0, c1, c2, c3, c4, c5, c6, c7, c8⟩ := hB0.facts) | (go_at_call 49; refine (hT.out _).mono ?_; rintro e wt ⟨rfl, hbt⟩; have hB := hB0.keep hbt; clear hbt rh ri x33 c0 c1 c2 c3 c4 c5 c6 c7 c8; obtain ⟨rh, ri, x33, c0, c1, c2, c3, c4, c5, c6, c7, c8⟩ := hB.facts; have k17 : wt.cell? ⟨w.heap.size, 18, none⟩ = some (.int .u64 (un x17)) := by rw [← h17.out]; exact hB.h 18 (by decide)))
  go_ret
  exact ⟨rfl, hB.bl⟩
set_option maxRecDepth 100000 in
set_option maxHeartbeats 8000000 in
theorem RStepJ_q (h : HartV) (op : Int) (d r1 r2 : Nat) (imm : Int) (aq rl : Bool) (pred succ : Int) (found : BitVec 64) (won : Bool) (w : World) (hr1 : r1 < 32) (hr2 : r2 < 32) (hd : d < 32) (tn : BitVec 64) (tv : Bool) (hM : Hid (∀ W, Calls Tryz.prog 44 #[.agg (hartArr h), .agg #[.int .i64 op, .int .i64 d, .int .i64 r1, .int .i64 r2, .int .i64 imm, .bool aq, .bool rl, .int .i64 pred, .int .i64 succ]] W fun e w' => e = .returned (.int .i64 0) ∧ Below W.heap.size W w')) (hN : Hid (∀ W, Calls Tryz.prog 45 #[.agg (hartArr h), .agg #[.int .i64 op, .int .i64 d, .int .i64 r1, .int .i64 r2, .int .i64 imm, .bool aq, .bool rl, .int .i64 pred, .int .i64 succ]] W fun e w' => e = .returned (.int .i64 0) ∧ Below W.heap.size W w')) (q : BitVec 64) (qe : Int) (hD : Hid (∀ W, Calls Tryz.prog 47 #[.int .i64 op, .int .u64 (un (h.x r1)), .int .u64 (un (bv imm))] W fun e w' => e = .returned (.tuple #[.int .u64 (un q), .int .i64 qe]) ∧ Below W.heap.size W w')) (hMem : Hid (∀ W, Calls Tryz.prog 48 #[.int .i64 op] W fun e w' => e = .returned (.tuple #[.bool false, .bool false, .int .i64 0]) ∧ Below W.heap.size W w')) (hT : Hid (∀ W, Calls Tryz.prog 49 #[.agg (hartArr h), .agg #[.int .i64 op, .int .i64 d, .int .i64 r1, .int .i64 r2, .int .i64 imm, .bool aq, .bool rl, .int .i64 pred, .int .i64 succ]] W fun e w' => e = .returned (.tuple #[.int .u64 (un tn), .bool tv]) ∧ Below W.heap.size W w')) (hWr : Hid (∀ W, Calls Tryz.prog 50 #[.agg #[.int .i64 op, .int .i64 d, .int .i64 r1, .int .i64 r2, .int .i64 imm, .bool aq, .bool rl, .int .i64 pred, .int .i64 succ]] W fun e w' => e = .returned (.int .i64 d) ∧ Below W.heap.size W w')) (t8 : (rform op != 8) = true) (t69 : (op == 69) = false) (t3 : (op == 3) = true) :
    Calls Tryz.prog 19 #[.agg (hartArr h), .agg #[.int .i64 op, .int .i64 d, .int .i64 r1, .int .i64 r2, .int .i64 imm, .bool aq, .bool rl, .int .i64 pred, .int .i64 succ], .int .u64 (un found), .bool won] w fun e w' => e = .returned (.tuple #[.agg (hartArr (rgoneV h ⟨op, d, r1, r2, imm, aq, rl, pred, succ⟩ tn (h.pc + 4#64))), .int .i64 0]) ∧ Below w.heap.size w w' := by
  have hE := RK.start w h ⟨op, d, r1, r2, imm, aq, rl, pred, succ⟩ 47 26 47
  obtain ⟨rh, c0, c1, c2, c3, c4, c5, c6, c7, c8⟩ := hE.facts
  have hu := Tryz.underlying47
  have hF := Lib.hid (fun W => R2Form_any op W)
  generalize rform op = ff at hF t8
  obtain ⟨v, hv⟩ : ∃ v, v = (h.pc + 4#64) := ⟨_, rfl⟩
  rw [← hv]
  have hund : ∀ b : Bool, (some undef = some (Value.bool b)) = False := fun b => by simp [undef]
  have hl1 : 0 ≤ (r1 : Int) ∧ (r1 : Int) < 32 := by omega
  have hl2 : 0 ≤ (r2 : Int) ∧ (r2 : Int) < 32 := by omega
  have hld : 0 ≤ (d : Int) ∧ (d : Int) < 32 := by omega
  have hun : Hid (un v = un (h.pc + 4#64)) := Lib.hid (by rw [hv])
  clear hv
  go_enter Tryz.func19, Tryz.ntmps19
  go_upto_region 10 with (first | (refine wpList_load_mid rfl 47 _ rfl w.heap.size 0 rfl (hartL h) _ rh hu rfl (size_hart _) ?_) | (go_at_call 44; refine (hM.out _).mono ?_; rintro e wk ⟨rfl, hbk⟩; have hE9 := hE.keep hbk; clear hbk hE rh c0 c1 c2 c3 c4 c5 c6 c7 c8; have hE := hE9; clear hE9; obtain ⟨rh, c0, c1, c2, c3, c4, c5, c6, c7, c8⟩ := hE.facts) | (go_at_call 45; refine (hN.out _).mono ?_; rintro e wk ⟨rfl, hbk⟩; have hE9 := hE.keep hbk; clear hbk hE rh c0 c1 c2 c3 c4 c5 c6 c7 c8; have hE := hE9; clear hE9; obtain ⟨rh, c0, c1, c2, c3, c4, c5, c6, c7, c8⟩ := hE.facts))
  have x2 : wk.cell? ⟨w.heap.size, 1 + r2, none⟩ = some (.int .u64 (un (h.x r2))) := (hE.h (1 + r2) (by omega)).trans (congrArg some (hartCell_x h r2 hr2))
  go_upto_region 13 with (go_at_call 46; refine (hF.out _).mono ?_; rintro e wk ⟨rfl, rfl⟩; skip)
  clear x2 rh c0 c1 c2 c3 c4 c5 c6 c7 c8
  refine wp_region_held_drew (S := fun W => RK w h ⟨op, d, r1, r2, imm, aq, rl, pred, succ⟩ W) (by kernel_rfl) hE.drew (fun hHeld => ?_)
  refine wpAnyH_take (i := 0) (v := .pointer (some ⟨(w.heap.size + 1), 0, none⟩)) rfl (by kernel_rfl) (by kernel_rfl) (by kernel_rfl) (fun _ _ _ h => h) (Or.inl ⟨by rfl, fun W _ => by kernel_rfl⟩) hHeld ?_
  try simp only [Act.put, List.getElem_toArray, List.getElem_cons_zero, List.setIfInBounds_toArray, List.set_cons_zero, List.set_cons_succ]
  refine wpAnyH_take (i := 1) (v := .int .i64 op) rfl (by kernel_rfl) (by kernel_rfl) (by kernel_rfl) (fun _ _ _ h => h) (Or.inl ⟨by rfl, fun W hS => by (have k : W.cell? ⟨(w.heap.size + 1), 0, none⟩ = some (.int .i64 op) := (hS.c 0 (by decide))); go_simp⟩) hHeld ?_
  try simp only [Act.put, List.getElem_toArray, List.getElem_cons_succ, List.getElem_cons_zero, List.setIfInBounds_toArray, List.set_cons_zero, List.set_cons_succ]
  refine wpAnyH_take (i := 2) (v := .pointer (some ⟨(w.heap.size + 1), 2, none⟩)) rfl (by kernel_rfl) (by kernel_rfl) (by kernel_rfl) (fun _ _ _ h => h) (Or.inl ⟨by rfl, fun W _ => by kernel_rfl⟩) hHeld ?_
  try simp only [Act.put, List.getElem_toArray, List.getElem_cons_succ, List.getElem_cons_zero, List.setIfInBounds_toArray, List.set_cons_zero, List.set_cons_succ]
  refine wpAnyH_take (i := 3) (v := .int .i64 r1) rfl (by kernel_rfl) (by kernel_rfl) (by kernel_rfl) (fun _ _ _ h => h) (Or.inl ⟨by rfl, fun W hS => by (have k : W.cell? ⟨(w.heap.size + 1), 2, none⟩ = some (.int .i64 r1) := (hS.c 2 (by decide))); go_simp⟩) hHeld ?_
  try simp only [Act.put, List.getElem_toArray, List.getElem_cons_succ, List.getElem_cons_zero, List.setIfInBounds_toArray, List.set_cons_zero, List.set_cons_succ]
  refine wpAnyH_take (i := 4) (v := .pointer (some ⟨w.heap.size, 1, none⟩)) rfl (by kernel_rfl) (by kernel_rfl) (by kernel_rfl) (fun _ _ _ h => h) (Or.inl ⟨by rfl, fun W _ => by kernel_rfl⟩) hHeld ?_
  try simp only [Act.put, List.getElem_toArray, List.getElem_cons_succ, List.getElem_cons_zero, List.setIfInBounds_toArray, List.set_cons_zero, List.set_cons_succ]
  refine wpAnyH_take (i := 5) (v := .pointer (some ⟨w.heap.size, 1 + r1, none⟩)) rfl (by kernel_rfl) (by kernel_rfl) (by kernel_rfl) (fun _ _ _ h => h) (Or.inl ⟨by rfl, fun W _ => by go_simp⟩) hHeld ?_
  try simp only [Act.put, List.getElem_toArray, List.getElem_cons_succ, List.getElem_cons_zero, List.setIfInBounds_toArray, List.set_cons_zero, List.set_cons_succ]
  refine wpAnyH_take (i := 6) (v := .int .u64 (un (h.x r1))) rfl (by kernel_rfl) (by kernel_rfl) (by kernel_rfl) (fun _ _ _ h => h) (Or.inl ⟨by rfl, fun W hS => by (have k : W.cell? ⟨w.heap.size, 1 + r1, none⟩ = some (.int .u64 (un (h.x r1))) := (hS.h (1 + r1) (by omega)).trans (congrArg some (hartCell_x h r1 hr1))); go_simp⟩) hHeld ?_
  try simp only [Act.put, List.getElem_toArray, List.getElem_cons_succ, List.getElem_cons_zero, List.setIfInBounds_toArray, List.set_cons_zero, List.set_cons_succ]
  refine wpAnyH_take (i := 7) (v := .int .u64 (un (bv imm))) rfl (by kernel_rfl) (by kernel_rfl) (by kernel_rfl) (fun _ _ _ h => h) (Or.inl ⟨by rfl, fun W _ => by kernel_rfl⟩) hHeld ?_
  try simp only [Act.put, List.getElem_toArray, List.getElem_cons_succ, List.getElem_cons_zero, List.setIfInBounds_toArray, List.set_cons_zero, List.set_cons_succ]
  refine wpAnyH_ready (rs := [8]) (by kernel_rfl) (by simp) (AllReadyH.cons rfl (fun K hK2 => ?_) AllReadyH.nil)
  rw [if_pos (by rfl)]
  simp only [List.getElem_toArray, List.getElem_cons_succ, List.getElem_cons_zero]
  go_wp2_with (go_at_call 47; refine (hD.out _).mono ?_; rintro e wb ⟨rfl, hbb⟩)
  refine hK2.out _ _ (hHeld.keep hbb) (fun hHeld2 => ?_)
  clear hK2 K hHeld
  have hHeld := hHeld2
  clear hHeld2
  try simp only [Act.put, List.getElem_toArray, List.getElem_cons_succ, List.getElem_cons_zero, List.setIfInBounds_toArray, List.set_cons_zero, List.set_cons_succ]
  clear hbb
  refine wpAnyH_take (i := 9) (v := .tuple #[.int .u64 (un q), .int .i64 qe]) rfl (by kernel_rfl) (by kernel_rfl) (by kernel_rfl) (fun _ _ _ h => h) (Or.inl ⟨by rfl, fun W _ => by kernel_rfl⟩) hHeld ?_
  try simp only [Act.put, List.getElem_toArray, List.getElem_cons_succ, List.getElem_cons_zero, List.setIfInBounds_toArray, List.set_cons_zero, List.set_cons_succ]
  refine wpAnyH_take (i := 10) (v := .int .u64 (un q)) rfl (by kernel_rfl) (by kernel_rfl) (by kernel_rfl) (fun _ _ _ h => h) (Or.inl ⟨by rfl, fun W _ => by kernel_rfl⟩) hHeld ?_
  try simp only [Act.put, List.getElem_toArray, List.getElem_cons_succ, List.getElem_cons_zero, List.setIfInBounds_toArray, List.set_cons_zero, List.set_cons_succ]
  refine wpAnyH_take (i := 11) (v := .int .i64 qe) rfl (by kernel_rfl) (by kernel_rfl) (by kernel_rfl) (fun _ _ _ h => h) (Or.inl ⟨by rfl, fun W _ => by kernel_rfl⟩) hHeld ?_
  try simp only [Act.put, List.getElem_toArray, List.getElem_cons_succ, List.getElem_cons_zero, List.setIfInBounds_toArray, List.set_cons_zero, List.set_cons_succ]
  refine wpAnyH_take (i := 12) (v := .int .u64 (un q)) rfl (by kernel_rfl) (by kernel_rfl) (by kernel_rfl) (fun _ _ _ h => h) (Or.inl ⟨by rfl, fun W _ => by kernel_rfl⟩) hHeld ?_
  try simp only [Act.put, List.getElem_toArray, List.getElem_cons_succ, List.getElem_cons_zero, List.setIfInBounds_toArray, List.set_cons_zero, List.set_cons_succ]
  refine wpAnyH_take (i := 13) (v := .int .i64 qe) rfl (by kernel_rfl) (by kernel_rfl) (by kernel_rfl) (fun _ _ _ h => h) (Or.inl ⟨by rfl, fun W _ => by kernel_rfl⟩) hHeld ?_
  try simp only [Act.put, List.getElem_toArray, List.getElem_cons_succ, List.getElem_cons_zero, List.setIfInBounds_toArray, List.set_cons_zero, List.set_cons_succ]
  refine wpAnyH_done (by kernel_rfl) ?_ _
  have hE := hHeld
  clear hHeld hD
  skip
  obtain ⟨rh, c0, c1, c2, c3, c4, c5, c6, c7, c8⟩ := hE.facts
  have pc0 := hE.h 0 (by decide)
  rw [show hartCell h 0 = .int .u64 (un h.pc) from rfl] at pc0
  go_upto_region 28 with (first | (go_at_call 48; refine (hMem.out _).mono ?_; rintro e wk ⟨rfl, hbk⟩; have hE9 := hE.keep hbk; clear pc0; clear hbk hE rh c0 c1 c2 c3 c4 c5 c6 c7 c8; have hE := hE9; clear hE9; obtain ⟨rh, c0, c1, c2, c3, c4, c5, c6, c7, c8⟩ := hE.facts; have pc0 : wk.cell? ⟨w.heap.size, 0, none⟩ = some (.int .u64 (un h.pc)) := hE.h 0 (by decide)) | (go_at_call 47; refine (hD1.out _).mono ?_; rintro e wk ⟨rfl, hbk⟩; have hE9 := hE.keep hbk; clear pc0; clear hbk hE rh c0 c1 c2 c3 c4 c5 c6 c7 c8; have hE := hE9; clear hE9; obtain ⟨rh, c0, c1, c2, c3, c4, c5, c6, c7, c8⟩ := hE.facts; have pc0 : wk.cell? ⟨w.heap.size, 0, none⟩ = some (.int .u64 (un h.pc)) := hE.h 0 (by decide)))
  have z0 : wk.frozen? ⟨w.heap.size, 0, none⟩ = false := hE.hf 0 (by decide)
  go_upto_region 29 with (first | (refine wpList_load_mid rfl 47 _ rfl w.heap.size 0 rfl (hartL h) _ rh hu rfl (size_hart _) ?_) | (go_at_call 49; refine (hT.out _).mono ?_; rintro e wk ⟨rfl, hbk⟩; have hE9 := hE.keep hbk; clear pc0 z0; clear hbk hE rh c0 c1 c2 c3 c4 c5 c6 c7 c8; have hE := hE9; clear hE9; obtain ⟨rh, c0, c1, c2, c3, c4, c5, c6, c7, c8⟩ := hE.facts; have pc0 : wk.cell? ⟨w.heap.size, 0, none⟩ = some (.int .u64 (un h.pc)) := hE.h 0 (by decide); have z0 : wk.frozen? ⟨w.heap.size, 0, none⟩ = false := hE.hf 0 (by decide)))
  have hE9 := hE.put 0 (.int .u64 (un tn)) (hE.h.goes tn)
  clear hE pc0 z0 rh c0 c1 c2 c3 c4 c5 c6 c7 c8
  have hE := hE9
  clear hE9
  generalize World.setCell _ _ _ = u1 at hE ⊢
  obtain ⟨rh, c0, c1, c2, c3, c4, c5, c6, c7, c8⟩ := hE.facts
  go_upto_region 30 with (go_at_call 50; refine (hWr.out _).mono ?_; rintro e wk ⟨rfl, hbk⟩; have hE9 := hE.keep hbk; clear hbk hE rh c0 c1 c2 c3 c4 c5 c6 c7 c8; have hE := hE9; clear hE9; obtain ⟨rh, c0, c1, c2, c3, c4, c5, c6, c7, c8⟩ := hE.facts)
  by_cases hz : d = 0
  · have tz : decide (0 < (d : Int)) = false := by rw [decide_eq_false_iff_not]; omega
    have tz2 : decide (0 < d) = false := by rw [decide_eq_false_iff_not]; omega
    have hres : rgoneV h ⟨op, d, r1, r2, imm, aq, rl, pred, succ⟩ tn v = h.goes tn := if_pos (show (d : Int) = 0 by omega)
    replace hres := Lib.hid hres
    clear hz
    go_wp2_with (first | (refine wpList_load_mid rfl 47 _ rfl w.heap.size 0 rfl (hartL (h.goes tn)) _ rh hu rfl (size_hart _) ?_) | (refine wpList_store_mid rfl 47 _ _ rfl (w.heap.size + 2) 0 (hartL (h.goes tn)).toArray rfl rfl (there_hart hE.z _) (size_hartA _) (hartL_one _) ?_))
    have hr := World.rangeAt_setCells_same wk (w.heap.size + 2) 0 (hartL (h.goes tn)) (by rw [hartL_len]; exact hE.z)
    have hbl : Below w.heap.size w (World.setCells wk (w.heap.size + 2) 0 (hartL (h.goes tn))) := below_setCells (Nat.le_add_right _ _) (hartL (h.goes tn)) 0 wk hE.bl
    generalize World.setCells wk (w.heap.size + 2) 0 (hartL (h.goes tn)) = W5 at hr hbl ⊢
    have hlv := result_hart W5 (w.heap.size + 2) (h.goes tn) hr
    exact bodyPost_ret (v := .tuple #[.agg (hartL (h.goes tn)).toArray, .int .i64 0]) (by simp [results, Tryz.results19, asAddr, hlv]) rfl ⟨by rw [hres.out]; rfl, hbl⟩
  · have tz : decide (0 < (d : Int)) = true := by rw [decide_eq_true_iff]; omega
    have tz2 : decide (0 < d) = true := by rw [decide_eq_true_iff]; omega
    have hres : rgoneV h ⟨op, d, r1, r2, imm, aq, rl, pred, succ⟩ tn v = (h.goes tn).set d v := if_neg (show ¬ (d : Int) = 0 by omega)
    replace hres := Lib.hid hres
    clear hz
    have xd : wk.cell? ⟨w.heap.size, 1 + d, none⟩ = some (.int .u64 (un (h.x d))) := (hE.h (1 + d) (by omega)).trans (congrArg some (hartCell_x (h.goes tn) d hd))
    have zd : wk.frozen? ⟨w.heap.size, 1 + d, none⟩ = false := hE.hf (1 + d) (by omega)
    go_upto_region 32 with fail
    have hE9 := hE.put (h' := (h.goes tn).set d v) (1 + d) (.int .u64 (un (h.pc + 4#64))) (by have h9 := hE.h.setX d hd v; rw [hun.out] at h9; exact h9)
    clear hE xd zd rh c0 c1 c2 c3 c4 c5 c6 c7 c8
    have hE := hE9
    clear hE9
    generalize World.setCell _ _ _ = u2 at hE ⊢
    have rh := hE.h.range
    go_wp2_with (first | (refine wpList_load_mid rfl 47 _ rfl w.heap.size 0 rfl (hartL ((h.goes tn).set d v)) _ rh hu rfl (size_hart _) ?_) | (refine wpList_store_mid rfl 47 _ _ rfl (w.heap.size + 2) 0 (hartL ((h.goes tn).set d v)).toArray rfl rfl (there_hart hE.z _) (size_hartA _) (hartL_one _) ?_))
    have hr := World.rangeAt_setCells_same u2 (w.heap.size + 2) 0 (hartL ((h.goes tn).set d v)) (by rw [hartL_len]; exact hE.z)
    have hbl : Below w.heap.size w (World.setCells u2 (w.heap.size + 2) 0 (hartL ((h.goes tn).set d v))) := below_setCells (Nat.le_add_right _ _) (hartL ((h.goes tn).set d v)) 0 u2 hE.bl
    generalize World.setCells u2 (w.heap.size + 2) 0 (hartL ((h.goes tn).set d v)) = W5 at hr hbl ⊢
    have hlv := result_hart W5 (w.heap.size + 2) ((h.goes tn).set d v) hr
    exact bodyPost_ret (v := .tuple #[.agg (hartL ((h.goes tn).set d v)).toArray, .int .i64 0]) (by simp [results, Tryz.results19, asAddr, hlv]) rfl ⟨by rw [hres.out]; rfl, hbl⟩
set_option maxRecDepth 100000 in
set_option maxHeartbeats 8000000 in
theorem RStepB_q (h : HartV) (op : Int) (d r1 r2 : Nat) (imm : Int) (aq rl : Bool) (pred succ : Int) (found : BitVec 64) (won : Bool) (w : World) (hr1 : r1 < 32) (hr2 : r2 < 32) (hd : d < 32) (tn : BitVec 64) (tv : Bool) (hM : Hid (∀ W, Calls Tryz.prog 44 #[.agg (hartArr h), .agg #[.int .i64 op, .int .i64 d, .int .i64 r1, .int .i64 r2, .int .i64 imm, .bool aq, .bool rl, .int .i64 pred, .int .i64 succ]] W fun e w' => e = .returned (.int .i64 0) ∧ Below W.heap.size W w')) (hN : Hid (∀ W, Calls Tryz.prog 45 #[.agg (hartArr h), .agg #[.int .i64 op, .int .i64 d, .int .i64 r1, .int .i64 r2, .int .i64 imm, .bool aq, .bool rl, .int .i64 pred, .int .i64 succ]] W fun e w' => e = .returned (.int .i64 0) ∧ Below W.heap.size W w')) (q : BitVec 64) (qe : Int) (hD : Hid (∀ W, Calls Tryz.prog 47 #[.int .i64 op, .int .u64 (un (h.x r1)), .int .u64 (un (bv imm))] W fun e w' => e = .returned (.tuple #[.int .u64 (un q), .int .i64 qe]) ∧ Below W.heap.size W w')) (hMem : Hid (∀ W, Calls Tryz.prog 48 #[.int .i64 op] W fun e w' => e = .returned (.tuple #[.bool false, .bool false, .int .i64 0]) ∧ Below W.heap.size W w')) (hT : Hid (∀ W, Calls Tryz.prog 49 #[.agg (hartArr h), .agg #[.int .i64 op, .int .i64 d, .int .i64 r1, .int .i64 r2, .int .i64 imm, .bool aq, .bool rl, .int .i64 pred, .int .i64 succ]] W fun e w' => e = .returned (.tuple #[.int .u64 (un tn), .bool tv]) ∧ Below W.heap.size W w')) (hWr : Hid (∀ W, Calls Tryz.prog 50 #[.agg #[.int .i64 op, .int .i64 d, .int .i64 r1, .int .i64 r2, .int .i64 imm, .bool aq, .bool rl, .int .i64 pred, .int .i64 succ]] W fun e w' => e = .returned (.int .i64 d) ∧ Below W.heap.size W w')) (t8 : (rform op != 8) = true) (t69 : (op == 69) = false) (t3 : (op == 3) = false) (t4 : (op == 4) = false) (t2 : (op == 2) = false) (tE : (qe != 0) = true) :
    Calls Tryz.prog 19 #[.agg (hartArr h), .agg #[.int .i64 op, .int .i64 d, .int .i64 r1, .int .i64 r2, .int .i64 imm, .bool aq, .bool rl, .int .i64 pred, .int .i64 succ], .int .u64 (un found), .bool won] w fun e w' => e = .returned (.tuple #[.agg (hartArr (rgoneV h ⟨op, d, r1, r2, imm, aq, rl, pred, succ⟩ tn 0#64)), .int .i64 0]) ∧ Below w.heap.size w w' := by
  have hE := RK.start w h ⟨op, d, r1, r2, imm, aq, rl, pred, succ⟩ 47 26 47
  obtain ⟨rh, c0, c1, c2, c3, c4, c5, c6, c7, c8⟩ := hE.facts
  have hu := Tryz.underlying47
  have hF := Lib.hid (fun W => R2Form_any op W)
  generalize rform op = ff at hF t8
  obtain ⟨v, hv⟩ : ∃ v, v = 0#64 := ⟨_, rfl⟩
  rw [← hv]
  have hund : ∀ b : Bool, (some undef = some (Value.bool b)) = False := fun b => by simp [undef]
  have hl1 : 0 ≤ (r1 : Int) ∧ (r1 : Int) < 32 := by omega
  have hl2 : 0 ≤ (r2 : Int) ∧ (r2 : Int) < 32 := by omega
  have hld : 0 ≤ (d : Int) ∧ (d : Int) < 32 := by omega
  have hun : Hid (un v = 0) := Lib.hid (by rw [hv]; exact un_0)
  clear hv
  go_enter Tryz.func19, Tryz.ntmps19
  go_upto_region 10 with (first | (refine wpList_load_mid rfl 47 _ rfl w.heap.size 0 rfl (hartL h) _ rh hu rfl (size_hart _) ?_) | (go_at_call 44; refine (hM.out _).mono ?_; rintro e wk ⟨rfl, hbk⟩; have hE9 := hE.keep hbk; clear hbk hE rh c0 c1 c2 c3 c4 c5 c6 c7 c8; have hE := hE9; clear hE9; obtain ⟨rh, c0, c1, c2, c3, c4, c5, c6, c7, c8⟩ := hE.facts) | (go_at_call 45; refine (hN.out _).mono ?_; rintro e wk ⟨rfl, hbk⟩; have hE9 := hE.keep hbk; clear hbk hE rh c0 c1 c2 c3 c4 c5 c6 c7 c8; have hE := hE9; clear hE9; obtain ⟨rh, c0, c1, c2, c3, c4, c5, c6, c7, c8⟩ := hE.facts))
  have x2 : wk.cell? ⟨w.heap.size, 1 + r2, none⟩ = some (.int .u64 (un (h.x r2))) := (hE.h (1 + r2) (by omega)).trans (congrArg some (hartCell_x h r2 hr2))
  go_upto_region 13 with (go_at_call 46; refine (hF.out _).mono ?_; rintro e wk ⟨rfl, rfl⟩; skip)
  clear x2 rh c0 c1 c2 c3 c4 c5 c6 c7 c8
  refine wp_region_held_drew (S := fun W => RK w h ⟨op, d, r1, r2, imm, aq, rl, pred, succ⟩ W) (by kernel_rfl) hE.drew (fun hHeld => ?_)
  refine wpAnyH_take (i := 0) (v := .pointer (some ⟨(w.heap.size + 1), 0, none⟩)) rfl (by kernel_rfl) (by kernel_rfl) (by kernel_rfl) (fun _ _ _ h => h) (Or.inl ⟨by rfl, fun W _ => by kernel_rfl⟩) hHeld ?_
  try simp only [Act.put, List.getElem_toArray, List.getElem_cons_zero, List.setIfInBounds_toArray, List.set_cons_zero, List.set_cons_succ]
  refine wpAnyH_take (i := 1) (v := .int .i64 op) rfl (by kernel_rfl) (by kernel_rfl) (by kernel_rfl) (fun _ _ _ h => h) (Or.inl ⟨by rfl, fun W hS => by (have k : W.cell? ⟨(w.heap.size + 1), 0, none⟩ = some (.int .i64 op) := (hS.c 0 (by decide))); go_simp⟩) hHeld ?_
  try simp only [Act.put, List.getElem_toArray, List.getElem_cons_succ, List.getElem_cons_zero, List.setIfInBounds_toArray, List.set_cons_zero, List.set_cons_succ]
  refine wpAnyH_take (i := 2) (v := .pointer (some ⟨(w.heap.size + 1), 2, none⟩)) rfl (by kernel_rfl) (by kernel_rfl) (by kernel_rfl) (fun _ _ _ h => h) (Or.inl ⟨by rfl, fun W _ => by kernel_rfl⟩) hHeld ?_
  try simp only [Act.put, List.getElem_toArray, List.getElem_cons_succ, List.getElem_cons_zero, List.setIfInBounds_toArray, List.set_cons_zero, List.set_cons_succ]
  refine wpAnyH_take (i := 3) (v := .int .i64 r1) rfl (by kernel_rfl) (by kernel_rfl) (by kernel_rfl) (fun _ _ _ h => h) (Or.inl ⟨by rfl, fun W hS => by (have k : W.cell? ⟨(w.heap.size + 1), 2, none⟩ = some (.int .i64 r1) := (hS.c 2 (by decide))); go_simp⟩) hHeld ?_
  try simp only [Act.put, List.getElem_toArray, List.getElem_cons_succ, List.getElem_cons_zero, List.setIfInBounds_toArray, List.set_cons_zero, List.set_cons_succ]
  refine wpAnyH_take (i := 4) (v := .pointer (some ⟨w.heap.size, 1, none⟩)) rfl (by kernel_rfl) (by kernel_rfl) (by kernel_rfl) (fun _ _ _ h => h) (Or.inl ⟨by rfl, fun W _ => by kernel_rfl⟩) hHeld ?_
  try simp only [Act.put, List.getElem_toArray, List.getElem_cons_succ, List.getElem_cons_zero, List.setIfInBounds_toArray, List.set_cons_zero, List.set_cons_succ]
  refine wpAnyH_take (i := 5) (v := .pointer (some ⟨w.heap.size, 1 + r1, none⟩)) rfl (by kernel_rfl) (by kernel_rfl) (by kernel_rfl) (fun _ _ _ h => h) (Or.inl ⟨by rfl, fun W _ => by go_simp⟩) hHeld ?_
  try simp only [Act.put, List.getElem_toArray, List.getElem_cons_succ, List.getElem_cons_zero, List.setIfInBounds_toArray, List.set_cons_zero, List.set_cons_succ]
  refine wpAnyH_take (i := 6) (v := .int .u64 (un (h.x r1))) rfl (by kernel_rfl) (by kernel_rfl) (by kernel_rfl) (fun _ _ _ h => h) (Or.inl ⟨by rfl, fun W hS => by (have k : W.cell? ⟨w.heap.size, 1 + r1, none⟩ = some (.int .u64 (un (h.x r1))) := (hS.h (1 + r1) (by omega)).trans (congrArg some (hartCell_x h r1 hr1))); go_simp⟩) hHeld ?_
  try simp only [Act.put, List.getElem_toArray, List.getElem_cons_succ, List.getElem_cons_zero, List.setIfInBounds_toArray, List.set_cons_zero, List.set_cons_succ]
  refine wpAnyH_take (i := 7) (v := .int .u64 (un (bv imm))) rfl (by kernel_rfl) (by kernel_rfl) (by kernel_rfl) (fun _ _ _ h => h) (Or.inl ⟨by rfl, fun W _ => by kernel_rfl⟩) hHeld ?_
  try simp only [Act.put, List.getElem_toArray, List.getElem_cons_succ, List.getElem_cons_zero, List.setIfInBounds_toArray, List.set_cons_zero, List.set_cons_succ]
  refine wpAnyH_ready (rs := [8]) (by kernel_rfl) (by simp) (AllReadyH.cons rfl (fun K hK2 => ?_) AllReadyH.nil)
  rw [if_pos (by rfl)]
  simp only [List.getElem_toArray, List.getElem_cons_succ, List.getElem_cons_zero]
  go_wp2_with (go_at_call 47; refine (hD.out _).mono ?_; rintro e wb ⟨rfl, hbb⟩)
  refine hK2.out _ _ (hHeld.keep hbb) (fun hHeld2 => ?_)
  clear hK2 K hHeld
  have hHeld := hHeld2
  clear hHeld2
  try simp only [Act.put, List.getElem_toArray, List.getElem_cons_succ, List.getElem_cons_zero, List.setIfInBounds_toArray, List.set_cons_zero, List.set_cons_succ]
  clear hbb
  refine wpAnyH_take (i := 9) (v := .tuple #[.int .u64 (un q), .int .i64 qe]) rfl (by kernel_rfl) (by kernel_rfl) (by kernel_rfl) (fun _ _ _ h => h) (Or.inl ⟨by rfl, fun W _ => by kernel_rfl⟩) hHeld ?_
  try simp only [Act.put, List.getElem_toArray, List.getElem_cons_succ, List.getElem_cons_zero, List.setIfInBounds_toArray, List.set_cons_zero, List.set_cons_succ]
  refine wpAnyH_take (i := 10) (v := .int .u64 (un q)) rfl (by kernel_rfl) (by kernel_rfl) (by kernel_rfl) (fun _ _ _ h => h) (Or.inl ⟨by rfl, fun W _ => by kernel_rfl⟩) hHeld ?_
  try simp only [Act.put, List.getElem_toArray, List.getElem_cons_succ, List.getElem_cons_zero, List.setIfInBounds_toArray, List.set_cons_zero, List.set_cons_succ]
  refine wpAnyH_take (i := 11) (v := .int .i64 qe) rfl (by kernel_rfl) (by kernel_rfl) (by kernel_rfl) (fun _ _ _ h => h) (Or.inl ⟨by rfl, fun W _ => by kernel_rfl⟩) hHeld ?_
  try simp only [Act.put, List.getElem_toArray, List.getElem_cons_succ, List.getElem_cons_zero, List.setIfInBounds_toArray, List.set_cons_zero, List.set_cons_succ]
  refine wpAnyH_take (i := 12) (v := .int .u64 (un q)) rfl (by kernel_rfl) (by kernel_rfl) (by kernel_rfl) (fun _ _ _ h => h) (Or.inl ⟨by rfl, fun W _ => by kernel_rfl⟩) hHeld ?_
  try simp only [Act.put, List.getElem_toArray, List.getElem_cons_succ, List.getElem_cons_zero, List.setIfInBounds_toArray, List.set_cons_zero, List.set_cons_succ]
  refine wpAnyH_take (i := 13) (v := .int .i64 qe) rfl (by kernel_rfl) (by kernel_rfl) (by kernel_rfl) (fun _ _ _ h => h) (Or.inl ⟨by rfl, fun W _ => by kernel_rfl⟩) hHeld ?_
  try simp only [Act.put, List.getElem_toArray, List.getElem_cons_succ, List.getElem_cons_zero, List.setIfInBounds_toArray, List.set_cons_zero, List.set_cons_succ]
  refine wpAnyH_done (by kernel_rfl) ?_ _
  have hE := hHeld
  clear hHeld hD
  skip
  obtain ⟨rh, c0, c1, c2, c3, c4, c5, c6, c7, c8⟩ := hE.facts
  have pc0 := hE.h 0 (by decide)
  rw [show hartCell h 0 = .int .u64 (un h.pc) from rfl] at pc0
  go_upto_region 28 with (first | (go_at_call 48; refine (hMem.out _).mono ?_; rintro e wk ⟨rfl, hbk⟩; have hE9 := hE.keep hbk; clear pc0; clear hbk hE rh c0 c1 c2 c3 c4 c5 c6 c7 c8; have hE := hE9; clear hE9; obtain ⟨rh, c0, c1, c2, c3, c4, c5, c6, c7, c8⟩ := hE.facts; have pc0 : wk.cell? ⟨w.heap.size, 0, none⟩ = some (.int .u64 (un h.pc)) := hE.h 0 (by decide)) | (go_at_call 47; refine (hD1.out _).mono ?_; rintro e wk ⟨rfl, hbk⟩; have hE9 := hE.keep hbk; clear pc0; clear hbk hE rh c0 c1 c2 c3 c4 c5 c6 c7 c8; have hE := hE9; clear hE9; obtain ⟨rh, c0, c1, c2, c3, c4, c5, c6, c7, c8⟩ := hE.facts; have pc0 : wk.cell? ⟨w.heap.size, 0, none⟩ = some (.int .u64 (un h.pc)) := hE.h 0 (by decide)))
  have z0 : wk.frozen? ⟨w.heap.size, 0, none⟩ = false := hE.hf 0 (by decide)
  go_upto_region 29 with (first | (refine wpList_load_mid rfl 47 _ rfl w.heap.size 0 rfl (hartL h) _ rh hu rfl (size_hart _) ?_) | (go_at_call 49; refine (hT.out _).mono ?_; rintro e wk ⟨rfl, hbk⟩; have hE9 := hE.keep hbk; clear pc0 z0; clear hbk hE rh c0 c1 c2 c3 c4 c5 c6 c7 c8; have hE := hE9; clear hE9; obtain ⟨rh, c0, c1, c2, c3, c4, c5, c6, c7, c8⟩ := hE.facts; have pc0 : wk.cell? ⟨w.heap.size, 0, none⟩ = some (.int .u64 (un h.pc)) := hE.h 0 (by decide); have z0 : wk.frozen? ⟨w.heap.size, 0, none⟩ = false := hE.hf 0 (by decide)))
  have hE9 := hE.put 0 (.int .u64 (un tn)) (hE.h.goes tn)
  clear hE pc0 z0 rh c0 c1 c2 c3 c4 c5 c6 c7 c8
  have hE := hE9
  clear hE9
  generalize World.setCell _ _ _ = u1 at hE ⊢
  obtain ⟨rh, c0, c1, c2, c3, c4, c5, c6, c7, c8⟩ := hE.facts
  go_upto_region 30 with (go_at_call 50; refine (hWr.out _).mono ?_; rintro e wk ⟨rfl, hbk⟩; have hE9 := hE.keep hbk; clear hbk hE rh c0 c1 c2 c3 c4 c5 c6 c7 c8; have hE := hE9; clear hE9; obtain ⟨rh, c0, c1, c2, c3, c4, c5, c6, c7, c8⟩ := hE.facts)
  by_cases hz : d = 0
  · have tz : decide (0 < (d : Int)) = false := by rw [decide_eq_false_iff_not]; omega
    have tz2 : decide (0 < d) = false := by rw [decide_eq_false_iff_not]; omega
    have hres : rgoneV h ⟨op, d, r1, r2, imm, aq, rl, pred, succ⟩ tn v = h.goes tn := if_pos (show (d : Int) = 0 by omega)
    replace hres := Lib.hid hres
    clear hz
    go_wp2_with (first | (refine wpList_load_mid rfl 47 _ rfl w.heap.size 0 rfl (hartL (h.goes tn)) _ rh hu rfl (size_hart _) ?_) | (refine wpList_store_mid rfl 47 _ _ rfl (w.heap.size + 2) 0 (hartL (h.goes tn)).toArray rfl rfl (there_hart hE.z _) (size_hartA _) (hartL_one _) ?_))
    have hr := World.rangeAt_setCells_same wk (w.heap.size + 2) 0 (hartL (h.goes tn)) (by rw [hartL_len]; exact hE.z)
    have hbl : Below w.heap.size w (World.setCells wk (w.heap.size + 2) 0 (hartL (h.goes tn))) := below_setCells (Nat.le_add_right _ _) (hartL (h.goes tn)) 0 wk hE.bl
    generalize World.setCells wk (w.heap.size + 2) 0 (hartL (h.goes tn)) = W5 at hr hbl ⊢
    have hlv := result_hart W5 (w.heap.size + 2) (h.goes tn) hr
    exact bodyPost_ret (v := .tuple #[.agg (hartL (h.goes tn)).toArray, .int .i64 0]) (by simp [results, Tryz.results19, asAddr, hlv]) rfl ⟨by rw [hres.out]; rfl, hbl⟩
  · have tz : decide (0 < (d : Int)) = true := by rw [decide_eq_true_iff]; omega
    have tz2 : decide (0 < d) = true := by rw [decide_eq_true_iff]; omega
    have hres : rgoneV h ⟨op, d, r1, r2, imm, aq, rl, pred, succ⟩ tn v = (h.goes tn).set d v := if_neg (show ¬ (d : Int) = 0 by omega)
    replace hres := Lib.hid hres
    clear hz
    have xd : wk.cell? ⟨w.heap.size, 1 + d, none⟩ = some (.int .u64 (un (h.x d))) := (hE.h (1 + d) (by omega)).trans (congrArg some (hartCell_x (h.goes tn) d hd))
    have zd : wk.frozen? ⟨w.heap.size, 1 + d, none⟩ = false := hE.hf (1 + d) (by omega)
    go_upto_region 32 with fail
    have hE9 := hE.put (h' := (h.goes tn).set d v) (1 + d) (.int .u64 0) (by have h9 := hE.h.setX d hd v; rw [hun.out] at h9; exact h9)
    clear hE xd zd rh c0 c1 c2 c3 c4 c5 c6 c7 c8
    have hE := hE9
    clear hE9
    generalize World.setCell _ _ _ = u2 at hE ⊢
    have rh := hE.h.range
    go_wp2_with (first | (refine wpList_load_mid rfl 47 _ rfl w.heap.size 0 rfl (hartL ((h.goes tn).set d v)) _ rh hu rfl (size_hart _) ?_) | (refine wpList_store_mid rfl 47 _ _ rfl (w.heap.size + 2) 0 (hartL ((h.goes tn).set d v)).toArray rfl rfl (there_hart hE.z _) (size_hartA _) (hartL_one _) ?_))
    have hr := World.rangeAt_setCells_same u2 (w.heap.size + 2) 0 (hartL ((h.goes tn).set d v)) (by rw [hartL_len]; exact hE.z)
    have hbl : Below w.heap.size w (World.setCells u2 (w.heap.size + 2) 0 (hartL ((h.goes tn).set d v))) := below_setCells (Nat.le_add_right _ _) (hartL ((h.goes tn).set d v)) 0 u2 hE.bl
    generalize World.setCells u2 (w.heap.size + 2) 0 (hartL ((h.goes tn).set d v)) = W5 at hr hbl ⊢
    have hlv := result_hart W5 (w.heap.size + 2) ((h.goes tn).set d v) hr
    exact bodyPost_ret (v := .tuple #[.agg (hartL ((h.goes tn).set d v)).toArray, .int .i64 0]) (by simp [results, Tryz.results19, asAddr, hlv]) rfl ⟨by rw [hres.out]; rfl, hbl⟩
end
end Go.Proofs.YtcgflnkgekkidaaGreatDoor
