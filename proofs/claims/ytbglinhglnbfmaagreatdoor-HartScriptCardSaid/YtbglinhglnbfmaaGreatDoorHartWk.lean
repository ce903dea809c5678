/- The walks of a hart at work: place, next. The walk of a hart's next. The walk of insn.Memory. The walk of a hart's address. The frame of a hart's ask. Conditions: as each theorem says. -/
import Derived.Test.YtbglinhglnbfmaaGreatDoorHartTry
import Derived.Test.YtbglinhglnbfmaaGreatDoorHartDefs
import Derived.Test.YtbglinhglnbfmaaGreatDoorAluTakes
import Derived.BigQuiet
import Derived.Deep.QuietTactic
import Derived.StillTailTactics
import Derived.WalkLawsBesides
import Derived.Test.YtbglinhglnbfmaaGreatDoorInsnKn
import Derived.Deep.RegionHeld3
set_option linter.unusedVariables false
namespace Go.Proofs.YtbglinhglnbfmaaGreatDoor
open Go.RowKit
attribute [local go_sem] wrap_u64_bv bv_un bv_sn bv_add bv_mul bv_neg bv_sub mul_bvpow shr_min shl_min sshr_min bv_lit bv_0 bv_1 un_shr sn_shr wrap_i64_un bits_u64_and bits_u64_or bits_u64_xor bits_u64_andNot bv_max u64_unsigned
/-- A hart at work: its state and its instruction, one behind the other in block b. -/
structure WK (b : Nat) (h : HartV) (i : InsnV) (w : World) : Prop where
  lt : b < w.heap.size
  c : ∀ j, j < 35 → w.cell? ⟨b, j, none⟩ = some (hartCell h j)
  i : ∀ j, j < 9 → w.cell? ⟨b, 35 + j, none⟩ = some (insnCell i j)
  f : ∀ j, j < 35 → w.frozen? ⟨b, j, none⟩ = false
theorem WK.keep {b : Nat} {h : HartV} {i : InsnV} {w w' : World} (hW : WK b h i w) (hb : Below w.heap.size w w') : WK b h i w' :=
  ⟨Nat.lt_of_lt_of_le hW.lt hb.size, fun j hj => by rw [hb.cell (p := ⟨b, j, none⟩) hW.lt]; exact hW.c j hj, fun j hj => by rw [hb.cell (p := ⟨b, 35 + j, none⟩) hW.lt]; exact hW.i j hj, fun j hj => by rw [hb.frozen (p := ⟨b, j, none⟩) hW.lt]; exact hW.f j hj⟩
/-- What place, next and address hand back, or how they are left. -/
def outE (k : Int) : Option (BitVec 64) → Ending
  | some v => .returned (.int .u64 (un v))
  | none => .panicked (thrown k)
theorem un_tmod4 (v : BitVec 64) : (un v).tmod 4 = un v % 4 := Int.tmod_eq_emod_of_nonneg (un_lt v).1
theorem place_any (v : BitVec 64) (w : World) : Calls Tryz.prog 40 #[.int .u64 (un v)] w fun e w' => e = outE 6 (placeR v) ∧ w = w' := by
  by_cases h : un v % 4 = 0
  · have hp : Hid (placeR v = some v) := Lib.hid (by unfold placeR; rw [if_pos h])
    rw [hp.out]
    have t : ((un v).tmod 4 != 0) = false := by rw [un_tmod4, h]; rfl
    go_enter Tryz.func40, Tryz.ntmps40
    go_wp2
    go_ret
    exact ⟨rfl, rfl⟩
  · have hp : Hid (placeR v = none) := Lib.hid (by unfold placeR; rw [if_neg h])
    rw [hp.out]
    have t : ((un v).tmod 4 != 0) = true := by rw [un_tmod4]; simpa using h
    go_enter Tryz.func40, Tryz.ntmps40
    go_wp2
    exact ⟨rfl, rfl, rfl⟩
end Go.Proofs.YtbglinhglnbfmaaGreatDoor
namespace Go.Proofs.YtbglinhglnbfmaaGreatDoor
open Go.RowKit
attribute [local go_sem] wrap_u64_bv bv_un bv_sn bv_add bv_mul bv_neg bv_sub mul_bvpow shr_min shl_min sshr_min bv_lit bv_0 bv_1 un_shr sn_shr wrap_i64_un bits_u64_and bits_u64_or bits_u64_xor bits_u64_andNot bv_max u64_unsigned
theorem copy_cells {w w2 : World} {cs : Array Value} {t : TypeId} (hb2 : Below (w.alloc (.cells cs t)).heap.size (w.alloc (.cells cs t)) w2) (j : Nat) : w2.cell? ⟨w.heap.size, j, none⟩ = cs[j]? := by
  rw [hb2.cell (p := ⟨w.heap.size, j, none⟩) (by simp)]
  exact World.cell?_alloc_new ..
section
attribute [local irreducible] un sn
set_option maxRecDepth 100000 in
set_option maxHeartbeats 4000000 in
theorem next_J (b : Nat) (h : HartV) (op rd : Int) (r1 r2 : Nat) (imm : Int) (aq rl : Bool) (pred succ : Int) (w : World) (hW : WK b h ⟨op, rd, r1, r2, imm, aq, rl, pred, succ⟩ w) (ht : Tabs w) (hop : op ≤ 9223372036854775807) (hr1 : r1 < 32) (hr2 : r2 < 32) (hf : (opOf op).form = 2) :
    Calls Tryz.prog 25 #[.pointer (some ⟨b, 0, none⟩)] w fun e w' => e = outE 6 (nextR h ⟨op, rd, r1, r2, imm, aq, rl, pred, succ⟩) ∧ Below w.heap.size w w' := by
  have hFm := Lib.hid (fun W (hW : Tabs W) => Form_any op hop W hW)
  have hN : Hid (nextR h ⟨op, rd, r1, r2, imm, aq, rl, pred, succ⟩ = placeR (h.pc + bv imm)) := Lib.hid (by unfold nextR; rw [if_pos hf])
  rw [hf] at hFm
  clear hf
  have i0 : w.cell? ⟨b, 35, none⟩ = some (Value.int .i64 op) := hW.i 0 (by decide)
  have i1 : w.cell? ⟨b, 36, none⟩ = some (Value.int .i64 rd) := hW.i 1 (by decide)
  have i2 : w.cell? ⟨b, 37, none⟩ = some (Value.int .i64 r1) := hW.i 2 (by decide)
  have i3 : w.cell? ⟨b, 38, none⟩ = some (Value.int .i64 r2) := hW.i 3 (by decide)
  have i4 : w.cell? ⟨b, 39, none⟩ = some (Value.int .i64 imm) := hW.i 4 (by decide)
  have i5 : w.cell? ⟨b, 40, none⟩ = some (Value.bool aq) := hW.i 5 (by decide)
  have i6 : w.cell? ⟨b, 41, none⟩ = some (Value.bool rl) := hW.i 6 (by decide)
  have i7 : w.cell? ⟨b, 42, none⟩ = some (Value.int .i64 pred) := hW.i 7 (by decide)
  have i8 : w.cell? ⟨b, 43, none⟩ = some (Value.int .i64 succ) := hW.i 8 (by decide)
  have hK : Hid (∀ w2, Below (w.alloc (.cells #[.int .i64 op, .int .i64 rd, .int .i64 r1, .int .i64 r2, .int .i64 imm, .bool aq, .bool rl, .int .i64 pred, .int .i64 succ] 27)).heap.size (w.alloc (.cells #[.int .i64 op, .int .i64 rd, .int .i64 r1, .int .i64 r2, .int .i64 imm, .bool aq, .bool rl, .int .i64 pred, .int .i64 succ] 27)) w2 → w2.cell? ⟨b, 0, none⟩ = some (.int .u64 (un h.pc)) ∧ w2.cell? ⟨b, 1 + r1, none⟩ = some (.int .u64 (un (h.x r1))) ∧ w2.cell? ⟨b, 1 + r2, none⟩ = some (.int .u64 (un (h.x r2))) ∧ w2.cell? ⟨w.heap.size, 0, none⟩ = some (.int .i64 op) ∧ w2.cell? ⟨w.heap.size, 2, none⟩ = some (.int .i64 r1) ∧ w2.cell? ⟨w.heap.size, 3, none⟩ = some (.int .i64 r2) ∧ w2.cell? ⟨w.heap.size, 4, none⟩ = some (.int .i64 imm) ∧ Below w.heap.size w w2) := Lib.hid fun w2 hb2 => by
    have hbw : Below w.heap.size w w2 := ((Below.refl _ _).alloc (Nat.le_refl _) _).trans (hb2.mono (by simp))
    have hW2 := hW.keep hbw
    refine ⟨hW2.c 0 (by decide), ?_, ?_, copy_cells hb2 0, copy_cells hb2 2, copy_cells hb2 3, copy_cells hb2 4, hbw⟩
    · rw [hW2.c (1 + r1) (by omega), hartCell_x h r1 hr1]
    · rw [hW2.c (1 + r2) (by omega), hartCell_x h r2 hr2]
  clear hW hop
  have hlt : 0 ≤ (r1 : Int) ∧ (r1 : Int) < 32 := by omega
  have hlt2 : 0 ≤ (r2 : Int) ∧ (r2 : Int) < 32 := by omega
  go_enter Tryz.func25, Tryz.ntmps25
  go_wp2_with (go_at_call 38; refine (hFm.out _ (ht.later ((Below.refl _ _).alloc (Nat.le_refl _) _) (Nat.le_refl _))).mono ?_; rintro e w2 ⟨rfl, hb2⟩; obtain ⟨p0, x1, x2, c0, c2, c3, c4, hbw⟩ := hK.out _ hb2)
  cases hv : placeR (h.pc + bv imm) with
  | some v =>
    have hP : Hid (∀ w, Calls Tryz.prog 40 #[.int .u64 (un (h.pc + bv imm))] w fun e w' => e = .returned (.int .u64 (un v)) ∧ w = w') := Lib.hid fun w => by have := place_any (h.pc + bv imm) w; rw [hv] at this; exact this
    rw [hv] at hN
    clear hv
    go_still_tail 9, (by kernel_rfl)
    change wpList _ _ _ _ _ w2.drew
    go_wp2_with (go_at_call 40; refine (hP.out _).mono ?_; rintro e w' ⟨rfl, rfl⟩)
    go_ret
    exact ⟨by rw [hN.out] <;> rfl, hbw.drew⟩
  | none =>
    have hP : Hid (∀ w, Calls Tryz.prog 40 #[.int .u64 (un (h.pc + bv imm))] w fun e w' => e = .panicked (thrown 6) ∧ w = w') := Lib.hid fun w => by have := place_any (h.pc + bv imm) w; rw [hv] at this; exact this
    rw [hv] at hN
    clear hv
    go_still_tail 9, (by kernel_rfl)
    change wpList _ _ _ _ _ w2.drew
    go_wp2_with (go_at_call 40; refine (hP.out _).mono ?_; rintro e w' ⟨rfl, rfl⟩)
    exact ⟨rfl, by rw [hN.out] <;> rfl, hbw.drew⟩
set_option maxRecDepth 100000 in
set_option maxHeartbeats 4000000 in
theorem next_B (b : Nat) (h : HartV) (op rd : Int) (r1 r2 : Nat) (imm : Int) (aq rl : Bool) (pred succ : Int) (w : World) (hW : WK b h ⟨op, rd, r1, r2, imm, aq, rl, pred, succ⟩ w) (ht : Tabs w) (hop : op ≤ 9223372036854775807) (hr1 : r1 < 32) (hr2 : r2 < 32) (hf : (opOf op).form = 6) (ht2 : takesB op (h.x r1) (h.x r2) = true) :
    Calls Tryz.prog 25 #[.pointer (some ⟨b, 0, none⟩)] w fun e w' => e = outE 6 (nextR h ⟨op, rd, r1, r2, imm, aq, rl, pred, succ⟩) ∧ Below w.heap.size w w' := by
  have hFm := Lib.hid (fun W (hW : Tabs W) => Form_any op hop W hW)
  have hN : Hid (nextR h ⟨op, rd, r1, r2, imm, aq, rl, pred, succ⟩ = placeR (h.pc + bv imm)) := Lib.hid (by unfold nextR; rw [if_neg (by rw [hf]; decide), if_pos ⟨hf, ht2⟩])
  have hT := Lib.hid (fun w => Takes_any op (h.x r1) (h.x r2) w)
  rw [show takesF op (h.x r1) (h.x r2) = true from ht2] at hT
  rw [hf] at hFm
  clear hf ht2
  have i0 : w.cell? ⟨b, 35, none⟩ = some (Value.int .i64 op) := hW.i 0 (by decide)
  have i1 : w.cell? ⟨b, 36, none⟩ = some (Value.int .i64 rd) := hW.i 1 (by decide)
  have i2 : w.cell? ⟨b, 37, none⟩ = some (Value.int .i64 r1) := hW.i 2 (by decide)
  have i3 : w.cell? ⟨b, 38, none⟩ = some (Value.int .i64 r2) := hW.i 3 (by decide)
  have i4 : w.cell? ⟨b, 39, none⟩ = some (Value.int .i64 imm) := hW.i 4 (by decide)
  have i5 : w.cell? ⟨b, 40, none⟩ = some (Value.bool aq) := hW.i 5 (by decide)
  have i6 : w.cell? ⟨b, 41, none⟩ = some (Value.bool rl) := hW.i 6 (by decide)
  have i7 : w.cell? ⟨b, 42, none⟩ = some (Value.int .i64 pred) := hW.i 7 (by decide)
  have i8 : w.cell? ⟨b, 43, none⟩ = some (Value.int .i64 succ) := hW.i 8 (by decide)
  have hK : Hid (∀ w2, Below (w.alloc (.cells #[.int .i64 op, .int .i64 rd, .int .i64 r1, .int .i64 r2, .int .i64 imm, .bool aq, .bool rl, .int .i64 pred, .int .i64 succ] 27)).heap.size (w.alloc (.cells #[.int .i64 op, .int .i64 rd, .int .i64 r1, .int .i64 r2, .int .i64 imm, .bool aq, .bool rl, .int .i64 pred, .int .i64 succ] 27)) w2 → w2.cell? ⟨b, 0, none⟩ = some (.int .u64 (un h.pc)) ∧ w2.cell? ⟨b, 1 + r1, none⟩ = some (.int .u64 (un (h.x r1))) ∧ w2.cell? ⟨b, 1 + r2, none⟩ = some (.int .u64 (un (h.x r2))) ∧ w2.cell? ⟨w.heap.size, 0, none⟩ = some (.int .i64 op) ∧ w2.cell? ⟨w.heap.size, 2, none⟩ = some (.int .i64 r1) ∧ w2.cell? ⟨w.heap.size, 3, none⟩ = some (.int .i64 r2) ∧ w2.cell? ⟨w.heap.size, 4, none⟩ = some (.int .i64 imm) ∧ Below w.heap.size w w2) := Lib.hid fun w2 hb2 => by
    have hbw : Below w.heap.size w w2 := ((Below.refl _ _).alloc (Nat.le_refl _) _).trans (hb2.mono (by simp))
    have hW2 := hW.keep hbw
    refine ⟨hW2.c 0 (by decide), ?_, ?_, copy_cells hb2 0, copy_cells hb2 2, copy_cells hb2 3, copy_cells hb2 4, hbw⟩
    · rw [hW2.c (1 + r1) (by omega), hartCell_x h r1 hr1]
    · rw [hW2.c (1 + r2) (by omega), hartCell_x h r2 hr2]
  clear hW hop
  have hlt : 0 ≤ (r1 : Int) ∧ (r1 : Int) < 32 := by omega
  have hlt2 : 0 ≤ (r2 : Int) ∧ (r2 : Int) < 32 := by omega
  go_enter Tryz.func25, Tryz.ntmps25
  go_wp2_with (go_at_call 38; refine (hFm.out _ (ht.later ((Below.refl _ _).alloc (Nat.le_refl _) _) (Nat.le_refl _))).mono ?_; rintro e w2 ⟨rfl, hb2⟩; obtain ⟨p0, x1, x2, c0, c2, c3, c4, hbw⟩ := hK.out _ hb2)
  go_quiet ((go_at_call 41; exact quiet_same (hT.out _)))
  generalize hw3 : w2.drewN nq = w3
  have q0 : w3.cell? ⟨b, 0, none⟩ = some (.int .u64 (un h.pc)) := by rw [← hw3]; exact p0
  have q1 : w3.cell? ⟨w.heap.size, 0, none⟩ = some (.int .i64 op) := by rw [← hw3]; exact c0
  have q4 : w3.cell? ⟨w.heap.size, 4, none⟩ = some (.int .i64 imm) := by rw [← hw3]; exact c4
  have hbw : Below w.heap.size w w3 := by rw [← hw3]; exact hbw.trans ⟨rfl, rfl, rfl, Nat.le_refl _, fun _ _ => rfl⟩
  clear hw3
  go_wp2
  cases hv : placeR (h.pc + bv imm) with
  | some v =>
    have hP : Hid (∀ w, Calls Tryz.prog 40 #[.int .u64 (un (h.pc + bv imm))] w fun e w' => e = .returned (.int .u64 (un v)) ∧ w = w') := Lib.hid fun w => by have := place_any (h.pc + bv imm) w; rw [hv] at this; exact this
    rw [hv] at hN
    clear hv
    go_still_tail 9, (by kernel_rfl)
    change wpList _ _ _ _ _ w3.drew
    go_wp2_with (go_at_call 40; refine (hP.out _).mono ?_; rintro e w' ⟨rfl, rfl⟩)
    go_ret
    exact ⟨by rw [hN.out] <;> rfl, hbw.drew⟩
  | none =>
    have hP : Hid (∀ w, Calls Tryz.prog 40 #[.int .u64 (un (h.pc + bv imm))] w fun e w' => e = .panicked (thrown 6) ∧ w = w') := Lib.hid fun w => by have := place_any (h.pc + bv imm) w; rw [hv] at this; exact this
    rw [hv] at hN
    clear hv
    go_still_tail 9, (by kernel_rfl)
    change wpList _ _ _ _ _ w3.drew
    go_wp2_with (go_at_call 40; refine (hP.out _).mono ?_; rintro e w' ⟨rfl, rfl⟩)
    exact ⟨rfl, by rw [hN.out] <;> rfl, hbw.drew⟩
set_option maxRecDepth 100000 in
set_option maxHeartbeats 4000000 in
theorem next_B0 (b : Nat) (h : HartV) (op rd : Int) (r1 r2 : Nat) (imm : Int) (aq rl : Bool) (pred succ : Int) (w : World) (hW : WK b h ⟨op, rd, r1, r2, imm, aq, rl, pred, succ⟩ w) (ht : Tabs w) (hop : op ≤ 9223372036854775807) (hr1 : r1 < 32) (hr2 : r2 < 32) (hf : (opOf op).form = 6) (ht2 : takesB op (h.x r1) (h.x r2) = false) (h4 : op ≠ 4) :
    Calls Tryz.prog 25 #[.pointer (some ⟨b, 0, none⟩)] w fun e w' => e = outE 6 (nextR h ⟨op, rd, r1, r2, imm, aq, rl, pred, succ⟩) ∧ Below w.heap.size w w' := by
  have hFm := Lib.hid (fun W (hW : Tabs W) => Form_any op hop W hW)
  have hN : Hid (nextR h ⟨op, rd, r1, r2, imm, aq, rl, pred, succ⟩ = some (h.pc + 4#64)) := Lib.hid (by unfold nextR; rw [if_neg (by rw [hf]; decide), if_neg (fun hh => absurd (hh.2.symm.trans ht2) (by decide)), if_neg h4])
  have hT := Lib.hid (fun w => Takes_any op (h.x r1) (h.x r2) w)
  rw [show takesF op (h.x r1) (h.x r2) = false from ht2] at hT
  rw [hf] at hFm
  have t4 : (op == 4) = false := by rw [beq_eq_false_iff_ne]; exact h4
  clear hf ht2 h4
  have i0 : w.cell? ⟨b, 35, none⟩ = some (Value.int .i64 op) := hW.i 0 (by decide)
  have i1 : w.cell? ⟨b, 36, none⟩ = some (Value.int .i64 rd) := hW.i 1 (by decide)
  have i2 : w.cell? ⟨b, 37, none⟩ = some (Value.int .i64 r1) := hW.i 2 (by decide)
  have i3 : w.cell? ⟨b, 38, none⟩ = some (Value.int .i64 r2) := hW.i 3 (by decide)
  have i4 : w.cell? ⟨b, 39, none⟩ = some (Value.int .i64 imm) := hW.i 4 (by decide)
  have i5 : w.cell? ⟨b, 40, none⟩ = some (Value.bool aq) := hW.i 5 (by decide)
  have i6 : w.cell? ⟨b, 41, none⟩ = some (Value.bool rl) := hW.i 6 (by decide)
  have i7 : w.cell? ⟨b, 42, none⟩ = some (Value.int .i64 pred) := hW.i 7 (by decide)
  have i8 : w.cell? ⟨b, 43, none⟩ = some (Value.int .i64 succ) := hW.i 8 (by decide)
  have hK : Hid (∀ w2, Below (w.alloc (.cells #[.int .i64 op, .int .i64 rd, .int .i64 r1, .int .i64 r2, .int .i64 imm, .bool aq, .bool rl, .int .i64 pred, .int .i64 succ] 27)).heap.size (w.alloc (.cells #[.int .i64 op, .int .i64 rd, .int .i64 r1, .int .i64 r2, .int .i64 imm, .bool aq, .bool rl, .int .i64 pred, .int .i64 succ] 27)) w2 → w2.cell? ⟨b, 0, none⟩ = some (.int .u64 (un h.pc)) ∧ w2.cell? ⟨b, 1 + r1, none⟩ = some (.int .u64 (un (h.x r1))) ∧ w2.cell? ⟨b, 1 + r2, none⟩ = some (.int .u64 (un (h.x r2))) ∧ w2.cell? ⟨w.heap.size, 0, none⟩ = some (.int .i64 op) ∧ w2.cell? ⟨w.heap.size, 2, none⟩ = some (.int .i64 r1) ∧ w2.cell? ⟨w.heap.size, 3, none⟩ = some (.int .i64 r2) ∧ w2.cell? ⟨w.heap.size, 4, none⟩ = some (.int .i64 imm) ∧ Below w.heap.size w w2) := Lib.hid fun w2 hb2 => by
    have hbw : Below w.heap.size w w2 := ((Below.refl _ _).alloc (Nat.le_refl _) _).trans (hb2.mono (by simp))
    have hW2 := hW.keep hbw
    refine ⟨hW2.c 0 (by decide), ?_, ?_, copy_cells hb2 0, copy_cells hb2 2, copy_cells hb2 3, copy_cells hb2 4, hbw⟩
    · rw [hW2.c (1 + r1) (by omega), hartCell_x h r1 hr1]
    · rw [hW2.c (1 + r2) (by omega), hartCell_x h r2 hr2]
  clear hW hop
  have hlt : 0 ≤ (r1 : Int) ∧ (r1 : Int) < 32 := by omega
  have hlt2 : 0 ≤ (r2 : Int) ∧ (r2 : Int) < 32 := by omega
  go_enter Tryz.func25, Tryz.ntmps25
  go_wp2_with (go_at_call 38; refine (hFm.out _ (ht.later ((Below.refl _ _).alloc (Nat.le_refl _) _) (Nat.le_refl _))).mono ?_; rintro e w2 ⟨rfl, hb2⟩; obtain ⟨p0, x1, x2, c0, c2, c3, c4, hbw⟩ := hK.out _ hb2)
  go_quiet ((go_at_call 41; exact quiet_same (hT.out _)))
  generalize hw3 : w2.drewN nq = w3
  have q0 : w3.cell? ⟨b, 0, none⟩ = some (.int .u64 (un h.pc)) := by rw [← hw3]; exact p0
  have q1 : w3.cell? ⟨w.heap.size, 0, none⟩ = some (.int .i64 op) := by rw [← hw3]; exact c0
  have q4 : w3.cell? ⟨w.heap.size, 4, none⟩ = some (.int .i64 imm) := by rw [← hw3]; exact c4
  have hbw : Below w.heap.size w w3 := by rw [← hw3]; exact hbw.trans ⟨rfl, rfl, rfl, Nat.le_refl _, fun _ _ => rfl⟩
  clear hw3
  go_wp2
  go_ret
  exact ⟨by rw [hN.out] <;> rfl, hbw⟩
set_option maxRecDepth 100000 in
set_option maxHeartbeats 4000000 in
theorem next_R (b : Nat) (h : HartV) (op rd : Int) (r1 r2 : Nat) (imm : Int) (aq rl : Bool) (pred succ : Int) (w : World) (hW : WK b h ⟨op, rd, r1, r2, imm, aq, rl, pred, succ⟩ w) (ht : Tabs w) (hop : op ≤ 9223372036854775807) (hr1 : r1 < 32) (hr2 : r2 < 32) (h4 : op = 4) :
    Calls Tryz.prog 25 #[.pointer (some ⟨b, 0, none⟩)] w fun e w' => e = outE 6 (nextR h ⟨op, rd, r1, r2, imm, aq, rl, pred, succ⟩) ∧ Below w.heap.size w w' := by
  have hFm := Lib.hid (fun W (hW : Tabs W) => Form_any op hop W hW)
  have hf : (opOf op).form = 3 := by rw [h4]; decide +kernel
  have hN : Hid (nextR h ⟨op, rd, r1, r2, imm, aq, rl, pred, succ⟩ = placeR ((h.x r1 + bv imm) &&& ~~~ 1#64)) := Lib.hid (by unfold nextR; rw [if_neg (by rw [hf]; decide), if_neg (fun hh => absurd (hf.symm.trans hh.1) (by decide)), if_pos h4]; rfl)
  rw [hf] at hFm
  have t4 : (op == 4) = true := by rw [h4]; rfl
  clear hf h4
  have i0 : w.cell? ⟨b, 35, none⟩ = some (Value.int .i64 op) := hW.i 0 (by decide)
  have i1 : w.cell? ⟨b, 36, none⟩ = some (Value.int .i64 rd) := hW.i 1 (by decide)
  have i2 : w.cell? ⟨b, 37, none⟩ = some (Value.int .i64 r1) := hW.i 2 (by decide)
  have i3 : w.cell? ⟨b, 38, none⟩ = some (Value.int .i64 r2) := hW.i 3 (by decide)
  have i4 : w.cell? ⟨b, 39, none⟩ = some (Value.int .i64 imm) := hW.i 4 (by decide)
  have i5 : w.cell? ⟨b, 40, none⟩ = some (Value.bool aq) := hW.i 5 (by decide)
  have i6 : w.cell? ⟨b, 41, none⟩ = some (Value.bool rl) := hW.i 6 (by decide)
  have i7 : w.cell? ⟨b, 42, none⟩ = some (Value.int .i64 pred) := hW.i 7 (by decide)
  have i8 : w.cell? ⟨b, 43, none⟩ = some (Value.int .i64 succ) := hW.i 8 (by decide)
  have hK : Hid (∀ w2, Below (w.alloc (.cells #[.int .i64 op, .int .i64 rd, .int .i64 r1, .int .i64 r2, .int .i64 imm, .bool aq, .bool rl, .int .i64 pred, .int .i64 succ] 27)).heap.size (w.alloc (.cells #[.int .i64 op, .int .i64 rd, .int .i64 r1, .int .i64 r2, .int .i64 imm, .bool aq, .bool rl, .int .i64 pred, .int .i64 succ] 27)) w2 → w2.cell? ⟨b, 0, none⟩ = some (.int .u64 (un h.pc)) ∧ w2.cell? ⟨b, 1 + r1, none⟩ = some (.int .u64 (un (h.x r1))) ∧ w2.cell? ⟨b, 1 + r2, none⟩ = some (.int .u64 (un (h.x r2))) ∧ w2.cell? ⟨w.heap.size, 0, none⟩ = some (.int .i64 op) ∧ w2.cell? ⟨w.heap.size, 2, none⟩ = some (.int .i64 r1) ∧ w2.cell? ⟨w.heap.size, 3, none⟩ = some (.int .i64 r2) ∧ w2.cell? ⟨w.heap.size, 4, none⟩ = some (.int .i64 imm) ∧ Below w.heap.size w w2) := Lib.hid fun w2 hb2 => by
    have hbw : Below w.heap.size w w2 := ((Below.refl _ _).alloc (Nat.le_refl _) _).trans (hb2.mono (by simp))
    have hW2 := hW.keep hbw
    refine ⟨hW2.c 0 (by decide), ?_, ?_, copy_cells hb2 0, copy_cells hb2 2, copy_cells hb2 3, copy_cells hb2 4, hbw⟩
    · rw [hW2.c (1 + r1) (by omega), hartCell_x h r1 hr1]
    · rw [hW2.c (1 + r2) (by omega), hartCell_x h r2 hr2]
  clear hW hop
  have hlt : 0 ≤ (r1 : Int) ∧ (r1 : Int) < 32 := by omega
  have hlt2 : 0 ≤ (r2 : Int) ∧ (r2 : Int) < 32 := by omega
  go_enter Tryz.func25, Tryz.ntmps25
  go_wp2_with (go_at_call 38; refine (hFm.out _ (ht.later ((Below.refl _ _).alloc (Nat.le_refl _) _) (Nat.le_refl _))).mono ?_; rintro e w2 ⟨rfl, hb2⟩; obtain ⟨p0, x1, x2, c0, c2, c3, c4, hbw⟩ := hK.out _ hb2)
  cases hv : placeR ((h.x r1 + bv imm) &&& ~~~ 1#64) with
  | some v =>
    have hP : Hid (∀ w, Calls Tryz.prog 40 #[.int .u64 (un ((h.x r1 + bv imm) &&& ~~~ 1#64))] w fun e w' => e = .returned (.int .u64 (un v)) ∧ w = w') := Lib.hid fun w => by have := place_any ((h.x r1 + bv imm) &&& ~~~ 1#64) w; rw [hv] at this; exact this
    rw [hv] at hN
    clear hv
    go_still_tail 13, (by kernel_rfl)
    change wpList _ _ _ _ _ w2.drew
    go_wp2_with (go_at_call 40; refine (hP.out _).mono ?_; rintro e w' ⟨rfl, rfl⟩)
    go_ret
    exact ⟨by rw [hN.out] <;> rfl, hbw.drew⟩
  | none =>
    have hP : Hid (∀ w, Calls Tryz.prog 40 #[.int .u64 (un ((h.x r1 + bv imm) &&& ~~~ 1#64))] w fun e w' => e = .panicked (thrown 6) ∧ w = w') := Lib.hid fun w => by have := place_any ((h.x r1 + bv imm) &&& ~~~ 1#64) w; rw [hv] at this; exact this
    rw [hv] at hN
    clear hv
    go_still_tail 13, (by kernel_rfl)
    change wpList _ _ _ _ _ w2.drew
    go_wp2_with (go_at_call 40; refine (hP.out _).mono ?_; rintro e w' ⟨rfl, rfl⟩)
    exact ⟨rfl, by rw [hN.out] <;> rfl, hbw.drew⟩
set_option maxRecDepth 100000 in
set_option maxHeartbeats 4000000 in
theorem next_N (b : Nat) (h : HartV) (op rd : Int) (r1 r2 : Nat) (imm : Int) (aq rl : Bool) (pred succ : Int) (w : World) (hW : WK b h ⟨op, rd, r1, r2, imm, aq, rl, pred, succ⟩ w) (ht : Tabs w) (hop : op ≤ 9223372036854775807) (hr1 : r1 < 32) (hr2 : r2 < 32) (h2 : (opOf op).form ≠ 2) (h6 : (opOf op).form ≠ 6) (h4 : op ≠ 4) :
    Calls Tryz.prog 25 #[.pointer (some ⟨b, 0, none⟩)] w fun e w' => e = outE 6 (nextR h ⟨op, rd, r1, r2, imm, aq, rl, pred, succ⟩) ∧ Below w.heap.size w w' := by
  have hFm := Lib.hid (fun W (hW : Tabs W) => Form_any op hop W hW)
  have hN : Hid (nextR h ⟨op, rd, r1, r2, imm, aq, rl, pred, succ⟩ = some (h.pc + 4#64)) := Lib.hid (by unfold nextR; rw [if_neg h2, if_neg (fun hh => h6 hh.1), if_neg h4])
  have t4 : (op == 4) = false := by rw [beq_eq_false_iff_ne]; exact h4
  have t2 : ((opOf op).form == 2) = false := by rw [beq_eq_false_iff_ne]; exact h2
  have t6 : ((opOf op).form == 6) = false := by rw [beq_eq_false_iff_ne]; exact h6
  clear h4 h2 h6
  have i0 : w.cell? ⟨b, 35, none⟩ = some (Value.int .i64 op) := hW.i 0 (by decide)
  have i1 : w.cell? ⟨b, 36, none⟩ = some (Value.int .i64 rd) := hW.i 1 (by decide)
  have i2 : w.cell? ⟨b, 37, none⟩ = some (Value.int .i64 r1) := hW.i 2 (by decide)
  have i3 : w.cell? ⟨b, 38, none⟩ = some (Value.int .i64 r2) := hW.i 3 (by decide)
  have i4 : w.cell? ⟨b, 39, none⟩ = some (Value.int .i64 imm) := hW.i 4 (by decide)
  have i5 : w.cell? ⟨b, 40, none⟩ = some (Value.bool aq) := hW.i 5 (by decide)
  have i6 : w.cell? ⟨b, 41, none⟩ = some (Value.bool rl) := hW.i 6 (by decide)
  have i7 : w.cell? ⟨b, 42, none⟩ = some (Value.int .i64 pred) := hW.i 7 (by decide)
  have i8 : w.cell? ⟨b, 43, none⟩ = some (Value.int .i64 succ) := hW.i 8 (by decide)
  have hK : Hid (∀ w2, Below (w.alloc (.cells #[.int .i64 op, .int .i64 rd, .int .i64 r1, .int .i64 r2, .int .i64 imm, .bool aq, .bool rl, .int .i64 pred, .int .i64 succ] 27)).heap.size (w.alloc (.cells #[.int .i64 op, .int .i64 rd, .int .i64 r1, .int .i64 r2, .int .i64 imm, .bool aq, .bool rl, .int .i64 pred, .int .i64 succ] 27)) w2 → w2.cell? ⟨b, 0, none⟩ = some (.int .u64 (un h.pc)) ∧ w2.cell? ⟨b, 1 + r1, none⟩ = some (.int .u64 (un (h.x r1))) ∧ w2.cell? ⟨b, 1 + r2, none⟩ = some (.int .u64 (un (h.x r2))) ∧ w2.cell? ⟨w.heap.size, 0, none⟩ = some (.int .i64 op) ∧ w2.cell? ⟨w.heap.size, 2, none⟩ = some (.int .i64 r1) ∧ w2.cell? ⟨w.heap.size, 3, none⟩ = some (.int .i64 r2) ∧ w2.cell? ⟨w.heap.size, 4, none⟩ = some (.int .i64 imm) ∧ Below w.heap.size w w2) := Lib.hid fun w2 hb2 => by
    have hbw : Below w.heap.size w w2 := ((Below.refl _ _).alloc (Nat.le_refl _) _).trans (hb2.mono (by simp))
    have hW2 := hW.keep hbw
    refine ⟨hW2.c 0 (by decide), ?_, ?_, copy_cells hb2 0, copy_cells hb2 2, copy_cells hb2 3, copy_cells hb2 4, hbw⟩
    · rw [hW2.c (1 + r1) (by omega), hartCell_x h r1 hr1]
    · rw [hW2.c (1 + r2) (by omega), hartCell_x h r2 hr2]
  clear hW hop
  have hlt : 0 ≤ (r1 : Int) ∧ (r1 : Int) < 32 := by omega
  have hlt2 : 0 ≤ (r2 : Int) ∧ (r2 : Int) < 32 := by omega
  go_enter Tryz.func25, Tryz.ntmps25
  go_wp2_with (go_at_call 38; refine (hFm.out _ (ht.later ((Below.refl _ _).alloc (Nat.le_refl _) _) (Nat.le_refl _))).mono ?_; rintro e w2 ⟨rfl, hb2⟩; obtain ⟨p0, x1, x2, c0, c2, c3, c4, hbw⟩ := hK.out _ hb2)
  go_ret
  exact ⟨by rw [hN.out] <;> rfl, hbw⟩
end
theorem next_any (b : Nat) (h : HartV) (op rd : Int) (r1 r2 : Nat) (imm : Int) (aq rl : Bool) (pred succ : Int) (w : World) (hW : WK b h ⟨op, rd, r1, r2, imm, aq, rl, pred, succ⟩ w) (ht : Tabs w) (hop : op ≤ 9223372036854775807) (hr1 : r1 < 32) (hr2 : r2 < 32) :
    Calls Tryz.prog 25 #[.pointer (some ⟨b, 0, none⟩)] w fun e w' => e = outE 6 (nextR h ⟨op, rd, r1, r2, imm, aq, rl, pred, succ⟩) ∧ Below w.heap.size w w' := by
  by_cases h4 : op = 4
  · exact next_R b h op rd r1 r2 imm aq rl pred succ w hW ht hop hr1 hr2 h4
  · by_cases h2 : (opOf op).form = 2
    · exact next_J b h op rd r1 r2 imm aq rl pred succ w hW ht hop hr1 hr2 h2
    · by_cases h6 : (opOf op).form = 6
      · cases hb : takesB op (h.x r1) (h.x r2) with
        | true => exact next_B b h op rd r1 r2 imm aq rl pred succ w hW ht hop hr1 hr2 h6 hb
        | false => exact next_B0 b h op rd r1 r2 imm aq rl pred succ w hW ht hop hr1 hr2 h6 hb h4
      · exact next_N b h op rd r1 r2 imm aq rl pred succ w hW ht hop hr1 hr2 h2 h6 h4
end Go.Proofs.YtbglinhglnbfmaaGreatDoor
namespace Go.Proofs.YtbglinhglnbfmaaGreatDoor
open Go.RowKit
set_option maxRecDepth 100000 in
theorem Memory_any (op : Int) (hop : op ≤ 9223372036854775807) (w : World) (ht : Tabs w) :
    Calls Tryz.prog 63 #[.int .i64 op] w fun e w' => e = .returned (.tuple #[.bool (opOf op).loads, .bool (opOf op).stores, .int .i64 (opOf op).size]) ∧ Below w.heap.size w w' := by
  have hof := Lib.hid (fun W (hW : Tabs W) => of_any op hop W hW)
  obtain ⟨O, hO⟩ : ∃ O, opOf op = O := ⟨_, rfl⟩
  rw [hO] at hof ⊢
  obtain ⟨nm, f, l, s, z⟩ := O
  clear hO
  go_enter Tryz.func63, Tryz.ntmps63
  go_wp2_with (go_at_call 50; refine (hof.out _ ht).mono ?_; rintro e w2 ⟨rfl, hb⟩)
  go_quiet (fail)
  go_wp2
  exact bodyPost_ret (v := .tuple #[.bool l, .bool s, .int .i64 z]) (by simp [results, Tryz.results63, go_sem]) rfl ⟨rfl, (hb.alloc hb.size _).trans ⟨rfl, rfl, rfl, Nat.le_refl _, fun _ _ => rfl⟩⟩
end Go.Proofs.YtbglinhglnbfmaaGreatDoor
namespace Go.Proofs.YtbglinhglnbfmaaGreatDoor
open Go.RowKit
attribute [local go_sem] wrap_u64_bv bv_un bv_sn bv_add bv_mul bv_neg bv_sub mul_bvpow shr_min shl_min sshr_min bv_lit bv_0 bv_1 un_shr sn_shr wrap_i64_un bits_u64_and bits_u64_or bits_u64_xor bits_u64_andNot bv_max u64_unsigned
theorem un_tmod8 (v : BitVec 64) : (un v).tmod 8 = un v % 8 := Int.tmod_eq_emod_of_nonneg (un_lt v).1
section
attribute [local irreducible] un sn
set_option maxRecDepth 100000 in
set_option maxHeartbeats 4000000 in
theorem address_size (b : Nat) (h : HartV) (op rd : Int) (r1 r2 : Nat) (imm : Int) (aq rl : Bool) (pred succ : Int) (w : World) (hW : WK b h ⟨op, rd, r1, r2, imm, aq, rl, pred, succ⟩ w) (ht : Tabs w) (hop : op ≤ 9223372036854775807) (hr1 : r1 < 32) (h8 : (opOf op).size ≠ 8) :
    Calls Tryz.prog 39 #[.pointer (some ⟨b, 0, none⟩)] w fun e w' => e = .panicked (thrown 5) ∧ Below w.heap.size w w' := by
  have hM := Lib.hid (fun W (hW : Tabs W) => Memory_any op hop W hW)
  have t : ((opOf op).size != 8) = true := by simpa using h8
  clear h8
  have hlt : 0 ≤ (r1 : Int) ∧ (r1 : Int) < 32 := by omega
  have i0 : w.cell? ⟨b, 35, none⟩ = some (.int .i64 op) := hW.i 0 (by decide)
  have hK : Hid (∀ w2, Below w.heap.size w w2 → w2.cell? ⟨b, 37, none⟩ = some (.int .i64 r1) ∧ w2.cell? ⟨b, 39, none⟩ = some (.int .i64 imm) ∧ w2.cell? ⟨b, 1 + r1, none⟩ = some (.int .u64 (un (h.x r1)))) := Lib.hid fun w2 hb2 => by
    have hW2 := hW.keep hb2
    refine ⟨hW2.i 2 (by decide), hW2.i 4 (by decide), ?_⟩
    rw [hW2.c (1 + r1) (by omega), hartCell_x h r1 hr1]
  clear hW hop
  go_enter Tryz.func39, Tryz.ntmps39
  go_wp2_with (go_at_call 63; refine (hM.out _ ht).mono ?_; rintro e w2 ⟨rfl, hb2⟩; obtain ⟨c2, c4, x1⟩ := hK.out _ hb2)
  go_quiet (fail)
  go_wp2
  exact ⟨rfl, rfl, hb2.trans ⟨rfl, rfl, rfl, Nat.le_refl _, fun _ _ => rfl⟩⟩
set_option maxRecDepth 100000 in
set_option maxHeartbeats 4000000 in
theorem address_align (b : Nat) (h : HartV) (op rd : Int) (r1 r2 : Nat) (imm : Int) (aq rl : Bool) (pred succ : Int) (w : World) (hW : WK b h ⟨op, rd, r1, r2, imm, aq, rl, pred, succ⟩ w) (ht : Tabs w) (hop : op ≤ 9223372036854775807) (hr1 : r1 < 32) (h8 : (opOf op).size = 8) (ha : un (h.x r1 + bv imm) % 8 ≠ 0) :
    Calls Tryz.prog 39 #[.pointer (some ⟨b, 0, none⟩)] w fun e w' => e = .panicked (thrown 4) ∧ Below w.heap.size w w' := by
  have hM := Lib.hid (fun W (hW : Tabs W) => Memory_any op hop W hW)
  rw [h8] at hM
  have t : ((un (h.x r1 + bv imm)).tmod 8 != 0) = true := by rw [un_tmod8]; simpa using ha
  clear h8 ha
  have hlt : 0 ≤ (r1 : Int) ∧ (r1 : Int) < 32 := by omega
  have i0 : w.cell? ⟨b, 35, none⟩ = some (.int .i64 op) := hW.i 0 (by decide)
  have hK : Hid (∀ w2, Below w.heap.size w w2 → w2.cell? ⟨b, 37, none⟩ = some (.int .i64 r1) ∧ w2.cell? ⟨b, 39, none⟩ = some (.int .i64 imm) ∧ w2.cell? ⟨b, 1 + r1, none⟩ = some (.int .u64 (un (h.x r1)))) := Lib.hid fun w2 hb2 => by
    have hW2 := hW.keep hb2
    refine ⟨hW2.i 2 (by decide), hW2.i 4 (by decide), ?_⟩
    rw [hW2.c (1 + r1) (by omega), hartCell_x h r1 hr1]
  clear hW hop
  go_enter Tryz.func39, Tryz.ntmps39
  go_wp2_with (go_at_call 63; refine (hM.out _ ht).mono ?_; rintro e w2 ⟨rfl, hb2⟩; obtain ⟨c2, c4, x1⟩ := hK.out _ hb2)
  go_quiet (fail)
  go_wp2
  exact ⟨rfl, rfl, hb2.trans ⟨rfl, rfl, rfl, Nat.le_refl _, fun _ _ => rfl⟩⟩
set_option maxRecDepth 100000 in
set_option maxHeartbeats 4000000 in
theorem address_ok (b : Nat) (h : HartV) (op rd : Int) (r1 r2 : Nat) (imm : Int) (aq rl : Bool) (pred succ : Int) (w : World) (hW : WK b h ⟨op, rd, r1, r2, imm, aq, rl, pred, succ⟩ w) (ht : Tabs w) (hop : op ≤ 9223372036854775807) (hr1 : r1 < 32) (h8 : (opOf op).size = 8) (ha : un (h.x r1 + bv imm) % 8 = 0) :
    Calls Tryz.prog 39 #[.pointer (some ⟨b, 0, none⟩)] w fun e w' => e = .returned (.int .u64 (un (h.x r1 + bv imm))) ∧ Below w.heap.size w w' := by
  have hM := Lib.hid (fun W (hW : Tabs W) => Memory_any op hop W hW)
  rw [h8] at hM
  have t : ((un (h.x r1 + bv imm)).tmod 8 != 0) = false := by rw [un_tmod8, ha]; rfl
  clear h8 ha
  have hlt : 0 ≤ (r1 : Int) ∧ (r1 : Int) < 32 := by omega
  have i0 : w.cell? ⟨b, 35, none⟩ = some (.int .i64 op) := hW.i 0 (by decide)
  have hK : Hid (∀ w2, Below w.heap.size w w2 → w2.cell? ⟨b, 37, none⟩ = some (.int .i64 r1) ∧ w2.cell? ⟨b, 39, none⟩ = some (.int .i64 imm) ∧ w2.cell? ⟨b, 1 + r1, none⟩ = some (.int .u64 (un (h.x r1)))) := Lib.hid fun w2 hb2 => by
    have hW2 := hW.keep hb2
    refine ⟨hW2.i 2 (by decide), hW2.i 4 (by decide), ?_⟩
    rw [hW2.c (1 + r1) (by omega), hartCell_x h r1 hr1]
  clear hW hop
  go_enter Tryz.func39, Tryz.ntmps39
  go_wp2_with (go_at_call 63; refine (hM.out _ ht).mono ?_; rintro e w2 ⟨rfl, hb2⟩; obtain ⟨c2, c4, x1⟩ := hK.out _ hb2)
  go_quiet (fail)
  go_wp2
  go_ret
  exact ⟨rfl, hb2.trans ⟨rfl, rfl, rfl, Nat.le_refl _, fun _ _ => rfl⟩⟩
end
theorem address_any (b : Nat) (h : HartV) (op rd : Int) (r1 r2 : Nat) (imm : Int) (aq rl : Bool) (pred succ : Int) (w : World) (hW : WK b h ⟨op, rd, r1, r2, imm, aq, rl, pred, succ⟩ w) (ht : Tabs w) (hop : op ≤ 9223372036854775807) (hr1 : r1 < 32) :
    Calls Tryz.prog 39 #[.pointer (some ⟨b, 0, none⟩)] w fun e w' => e = (if addrE h ⟨op, rd, r1, r2, imm, aq, rl, pred, succ⟩ = 0 then .returned (.int .u64 (un (h.x r1 + bv imm))) else .panicked (thrown (addrE h ⟨op, rd, r1, r2, imm, aq, rl, pred, succ⟩))) ∧ Below w.heap.size w w' := by
  by_cases h8 : (opOf op).size = 8
  · by_cases ha : un (h.x r1 + bv imm) % 8 = 0
    · have e : addrE h ⟨op, rd, r1, r2, imm, aq, rl, pred, succ⟩ = 0 := by unfold addrE; rw [if_neg (fun hh => hh h8), if_neg (fun hh => hh ha)]
      rw [if_pos e]
      exact address_ok b h op rd r1 r2 imm aq rl pred succ w hW ht hop hr1 h8 ha
    · have e : addrE h ⟨op, rd, r1, r2, imm, aq, rl, pred, succ⟩ = 4 := by unfold addrE; rw [if_neg (fun hh => hh h8)]; exact if_pos ha
      rw [e, if_neg (by decide)]
      exact address_align b h op rd r1 r2 imm aq rl pred succ w hW ht hop hr1 h8 ha
  · have e : addrE h ⟨op, rd, r1, r2, imm, aq, rl, pred, succ⟩ = 5 := by unfold addrE; rw [if_pos h8]
    rw [e, if_neg (by decide)]
    exact address_size b h op rd r1 r2 imm aq rl pred succ w hW ht hop hr1 h8
end Go.Proofs.YtbglinhglnbfmaaGreatDoor
namespace Go.Proofs.YtbglinhglnbfmaaGreatDoor
open Go.RowKit
/-- What ask's frame holds, begun in world w: the result behind it, a copy of the instruction, the work. -/
structure AK (w : World) (b : Nat) (h : HartV) (i : InsnV) (W : World) : Prop where
  wk : WK b h i W
  z : ∀ j, j < 8 → W.cell? ⟨w.heap.size, j, none⟩ = #[.int .i64 0, .int .u64 0, .int .u64 0, .int .i64 0, .bool false, .bool false, .int .i64 0, .int .i64 0][j]?
  zf : ∀ j, j < 8 → W.frozen? ⟨w.heap.size, j, none⟩ = false
  c : ∀ j, j < 9 → W.cell? ⟨w.heap.size + 1, j, none⟩ = some (insnCell i j)
  bl : Below w.heap.size w W
  sz : w.heap.size + 2 ≤ W.heap.size
theorem AK.keep {w W W' : World} {b : Nat} {h : HartV} {i : InsnV} (hA : AK w b h i W) (hb : Below W.heap.size W W') : AK w b h i W' := by
  have sz := hA.sz
  have lt := hA.wk.lt
  exact ⟨hA.wk.keep hb, fun j hj => by rw [hb.cell (p := ⟨w.heap.size, j, none⟩) (by show w.heap.size < _; omega)]; exact hA.z j hj, fun j hj => by rw [hb.frozen (p := ⟨w.heap.size, j, none⟩) (by show w.heap.size < _; omega)]; exact hA.zf j hj,
    fun j hj => by rw [hb.cell (p := ⟨w.heap.size + 1, j, none⟩) (by show w.heap.size + 1 < _; omega)]; exact hA.c j hj, hA.bl.trans (hb.mono (by omega)), Nat.le_trans sz hb.size⟩
theorem AK.drew {w W : World} {b : Nat} {h : HartV} {i : InsnV} (hA : AK w b h i W) : AK w b h i W.drew := hA.keep ((Below.refl _ _).drew)
theorem AK.drewN {w W : World} {b : Nat} {h : HartV} {i : InsnV} (hA : AK w b h i W) (n : Nat) : AK w b h i (W.drewN n) := hA.keep ⟨rfl, rfl, rfl, Nat.le_refl _, fun _ _ => rfl⟩
theorem AK.start {w : World} {b : Nat} {h : HartV} {op rd : Int} {r1 r2 : Nat} {imm : Int} {aq rl : Bool} {pred succ : Int} (hW : WK b h ⟨op, rd, r1, r2, imm, aq, rl, pred, succ⟩ w) (t t' : TypeId) :
    AK w b h ⟨op, rd, r1, r2, imm, aq, rl, pred, succ⟩ ((w.alloc (.cells #[.int .i64 0, .int .u64 0, .int .u64 0, .int .i64 0, .bool false, .bool false, .int .i64 0, .int .i64 0] t)).alloc (.cells #[.int .i64 op, .int .i64 rd, .int .i64 r1, .int .i64 r2, .int .i64 imm, .bool aq, .bool rl, .int .i64 pred, .int .i64 succ] t')) := by
  have hb : Below w.heap.size w ((w.alloc (.cells #[.int .i64 0, .int .u64 0, .int .u64 0, .int .i64 0, .bool false, .bool false, .int .i64 0, .int .i64 0] t)).alloc (.cells #[.int .i64 op, .int .i64 rd, .int .i64 r1, .int .i64 r2, .int .i64 imm, .bool aq, .bool rl, .int .i64 pred, .int .i64 succ] t')) := ((Below.refl _ _).alloc (Nat.le_refl _) _).alloc (by simp) _
  have s1 : (w.alloc (.cells #[.int .i64 0, .int .u64 0, .int .u64 0, .int .i64 0, .bool false, .bool false, .int .i64 0, .int .i64 0] t)).heap.size = w.heap.size + 1 := by simp
  refine ⟨hW.keep hb, fun j hj => ?_, fun j hj => ?_, fun j hj => ?_, hb, by simp⟩
  · rw [((Below.refl _ _).alloc (Nat.le_refl _) _ : Below _ (w.alloc (.cells #[.int .i64 0, .int .u64 0, .int .u64 0, .int .i64 0, .bool false, .bool false, .int .i64 0, .int .i64 0] t)) _).cell (p := ⟨w.heap.size, j, none⟩) (by rw [s1]; show w.heap.size < _; omega)]
    exact World.cell?_alloc_new ..
  · rw [frozen?_alloc_cells, frozen?_alloc_cells]; unfold World.frozen?; rw [Array.getElem?_eq_none (Nat.le_refl _)]
  · rw [← s1]
    rw [World.cell?_alloc_new]
    rcases (show j = 0 ∨ j = 1 ∨ j = 2 ∨ j = 3 ∨ j = 4 ∨ j = 5 ∨ j = 6 ∨ j = 7 ∨ j = 8 by omega) with rfl | rfl | rfl | rfl | rfl | rfl | rfl | rfl | rfl <;> rfl
theorem AK.facts {w W : World} {b : Nat} {h : HartV} {op rd : Int} {r1 r2 : Nat} {imm : Int} {aq rl : Bool} {pred succ : Int} (hA : AK w b h ⟨op, rd, r1, r2, imm, aq, rl, pred, succ⟩ W) (hr1 : r1 < 32) (hr2 : r2 < 32) :
    W.cell? ⟨b, 1 + r1, none⟩ = some (.int .u64 (un (h.x r1))) ∧ W.cell? ⟨b, 1 + r2, none⟩ = some (.int .u64 (un (h.x r2))) ∧ W.cell? ⟨b, 18, none⟩ = some (.int .u64 (un (h.x 17))) ∧ W.cell? ⟨b, 11, none⟩ = some (.int .u64 (un (h.x 10))) ∧ W.cell? ⟨w.heap.size + 1, 0, none⟩ = some (Value.int .i64 op) ∧ W.cell? ⟨w.heap.size + 1, 1, none⟩ = some (Value.int .i64 rd) ∧ W.cell? ⟨w.heap.size + 1, 2, none⟩ = some (Value.int .i64 r1) ∧ W.cell? ⟨w.heap.size + 1, 3, none⟩ = some (Value.int .i64 r2) ∧ W.cell? ⟨w.heap.size + 1, 4, none⟩ = some (Value.int .i64 imm) ∧ W.cell? ⟨w.heap.size + 1, 5, none⟩ = some (Value.bool aq) ∧ W.cell? ⟨w.heap.size + 1, 6, none⟩ = some (Value.bool rl) ∧ W.cell? ⟨w.heap.size + 1, 7, none⟩ = some (Value.int .i64 pred) ∧ W.cell? ⟨w.heap.size + 1, 8, none⟩ = some (Value.int .i64 succ) ∧ W.cell? ⟨w.heap.size, 0, none⟩ = some (Value.int .i64 0) ∧ W.cell? ⟨w.heap.size, 1, none⟩ = some (Value.int .u64 0) ∧ W.cell? ⟨w.heap.size, 2, none⟩ = some (Value.int .u64 0) ∧ W.cell? ⟨w.heap.size, 3, none⟩ = some (Value.int .i64 0) ∧ W.cell? ⟨w.heap.size, 4, none⟩ = some (Value.bool false) ∧ W.cell? ⟨w.heap.size, 5, none⟩ = some (Value.bool false) ∧ W.cell? ⟨w.heap.size, 6, none⟩ = some (Value.int .i64 0) ∧ W.cell? ⟨w.heap.size, 7, none⟩ = some (Value.int .i64 0) ∧ W.frozen? ⟨w.heap.size, 0, none⟩ = false ∧ W.frozen? ⟨w.heap.size, 1, none⟩ = false ∧ W.frozen? ⟨w.heap.size, 2, none⟩ = false ∧ W.frozen? ⟨w.heap.size, 3, none⟩ = false ∧ W.frozen? ⟨w.heap.size, 4, none⟩ = false ∧ W.frozen? ⟨w.heap.size, 5, none⟩ = false ∧ W.frozen? ⟨w.heap.size, 6, none⟩ = false ∧ W.frozen? ⟨w.heap.size, 7, none⟩ = false := by
  refine ⟨?_, ?_, hA.wk.c 18 (by decide), hA.wk.c 11 (by decide), hA.c 0 (by decide), hA.c 1 (by decide), hA.c 2 (by decide), hA.c 3 (by decide), hA.c 4 (by decide), hA.c 5 (by decide), hA.c 6 (by decide), hA.c 7 (by decide), hA.c 8 (by decide), hA.z 0 (by decide), hA.z 1 (by decide), hA.z 2 (by decide), hA.z 3 (by decide), hA.z 4 (by decide), hA.z 5 (by decide), hA.z 6 (by decide), hA.z 7 (by decide), hA.zf 0 (by decide), hA.zf 1 (by decide), hA.zf 2 (by decide), hA.zf 3 (by decide), hA.zf 4 (by decide), hA.zf 5 (by decide), hA.zf 6 (by decide), hA.zf 7 (by decide)⟩
  · rw [hA.wk.c (1 + r1) (by omega), hartCell_x h r1 hr1]
  · rw [hA.wk.c (1 + r2) (by omega), hartCell_x h r2 hr2]
theorem AK.some {w W : World} {b : Nat} {h : HartV} {i : InsnV} (hA : AK w b h i W) (j : Nat) (hj : j < 8) : (W.cell? ⟨w.heap.size, 0 + j, none⟩).isSome = true := by
  rw [Nat.zero_add, hA.z j hj]
  rcases (show j = 0 ∨ j = 1 ∨ j = 2 ∨ j = 3 ∨ j = 4 ∨ j = 5 ∨ j = 6 ∨ j = 7 by omega) with rfl | rfl | rfl | rfl | rfl | rfl | rfl | rfl <;> rfl
theorem below_setCells {B a : Nat} {w : World} (ha : B ≤ a) : ∀ (vs : List Value) (o : Nat) (W : World), Below B w W → Below B w (W.setCells a o vs)
  | [], _, _, h => h
  | v :: vs, o, _, h => below_setCells ha vs (o + 1) _ (h.setCell ha v)
end Go.Proofs.YtbglinhglnbfmaaGreatDoor
