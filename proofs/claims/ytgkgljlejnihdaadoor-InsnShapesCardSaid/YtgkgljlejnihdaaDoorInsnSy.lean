/- The walk of InsnShapes. Conditions: the library's tables lie as their initialisers lay them. -/
import Derived.Test.YtgkgljlejnihdaaDoorInsnSh
import Derived.Test.YtgkgljlejnihdaaDoorShapePl
import Derived.Deep.QuietTactic
import Derived.BigQuiet
set_option linter.unusedSimpArgs false
set_option linter.unusedVariables false
namespace Go.Proofs.YtgkgljlejnihdaaDoor
open Go.RowKit
set_option maxRecDepth 100000 in
set_option maxHeartbeats 8000000 in
theorem Shapes_1 (op rd r1 r2 imm pred succ : Int) (hop : op ≤ 9223372036854775807) (him : -9223372036854775808 ≤ imm ∧ imm ≤ 9223372036854775807) (hc : checkE ⟨op, rd, r1, r2, imm, false, false, pred, succ⟩ = 0) (hf : (opOf op).form = 1) (w : World) (ht : Tabs w) (hp : P10 w) :
    Calls Tryd.prog 3 #[.agg (InsnV.cells ⟨op, rd, r1, r2, imm, false, false, pred, succ⟩)] w fun e w' => e = .returned (.bool true) ∧ Below w.heap.size w w' := by
  have htt : textT ⟨op, rd, r1, r2, imm, false, false, pred, succ⟩ = bodyT ⟨op, rd, r1, r2, imm, false, false, pred, succ⟩ := if_pos hc
  have hB := XB.start w (InsnV.cells ⟨op, rd, r1, r2, imm, false, false, pred, succ⟩).toList 23
  rw [Array.toArray_toList] at hB
  have hu := Tryd.underlying23
  have hi : (Tryd.prog.info? 23).map (·.size) = some (InsnV.cells ⟨op, rd, r1, r2, imm, false, false, pred, succ⟩).toList.length := by kernel_rfl
  have ht1 := ht.later ((Below.refl _ w).alloc (Nat.le_refl _) (.cells (InsnV.cells ⟨op, rd, r1, r2, imm, false, false, pred, succ⟩) 23)) (Nat.le_refl _)
  have hp1 := hp.later ((Below.refl _ w).alloc (Nat.le_refl _) (.cells (InsnV.cells ⟨op, rd, r1, r2, imm, false, false, pred, succ⟩) 23)) (Nat.le_refl _)
  have hL := Lib.hid (fun W h1 h2 => Lives2_any W h1 h2)
  have hT := Lib.hid (fun W h1 h2 => LText_any ⟨op, rd, r1, r2, imm, false, false, pred, succ⟩ hop him W h1 h2)
  have hK := Lib.hid (fun W hW => Check_any ⟨op, rd, r1, r2, imm, false, false, pred, succ⟩ hop W hW)
  have hN := Lib.hid (fun W hW => IName_any op hop W hW)
  have hF := Lib.hid (fun W hW => Form_any op hop W hW)
  rw [htt] at hT
  rw [hc] at hK
  rw [hf] at hF
  obtain ⟨hl, k44, k40, k41, hsh⟩ := body_shape ⟨op, rd, r1, r2, imm, false, false, pred, succ⟩ hc
  have hj4 : op ≠ 4 := fun e => by rw [e, form_4] at hf; exact absurd hf (by decide)
  replace k44 := k44.trans (show _ = 1 by simp [commasV, hf, hj4])
  replace k40 := k40.trans (show _ = 0 by simp [opensV, hf, hj4])
  replace k41 := k41.trans (show _ = 0 by simp [opensV, hf, hj4])
  obtain ⟨u, hbe⟩ : ∃ u, bodyT ⟨op, rd, r1, r2, imm, false, false, pred, succ⟩ = (opOf op).name ++ 32 :: u := by
    rcases hsh with h | h
    · exact absurd (hf.symm.trans h.1) (by decide)
    · exact h.2
  clear hsh htt
  generalize bodyT ⟨op, rd, r1, r2, imm, false, false, pred, succ⟩ = t at hT hl hbe k44 k40 k41
  generalize (opOf op).name = nm at hN hbe
  have hA : Hid (∀ W, Calls Tryd.prog 15 #[.string ⟨t.toArray⟩, .int .u8 44] W fun e w' => e = .returned (.int .i64 1) ∧ W = w') := Lib.hid fun W => by have := Count_any t 44 (by omega) W; rw [k44] at this; exact this
  have hA2 : Hid (∀ W, Calls Tryd.prog 15 #[.string ⟨t.toArray⟩, .int .u8 40] W fun e w' => e = .returned (.int .i64 0) ∧ W = w') := Lib.hid fun W => by have := Count_any t 40 (by omega) W; rw [k40] at this; exact this
  have hA3 : Hid (∀ W, Calls Tryd.prog 15 #[.string ⟨t.toArray⟩, .int .u8 41] W fun e w' => e = .returned (.int .i64 0) ∧ W = w') := Lib.hid fun W => by have := Count_any t 41 (by omega) W; rw [k41] at this; exact this
  clear k44 k40 k41
  replace hbe := Lib.hid hbe
  have q1 : decide ((t.length : Int) < (nm.length : Int)) = false := by rw [hbe.out]; simp; omega
  have q2 : nm.length ≤ t.length := by rw [hbe.out]; simp
  have q3 : nm.length < t.length := by rw [hbe.out]; simp
  have q4 : decide ((60 : Int) < (t.length : Int)) = false := by simp; omega
  have q5 : (⟨t.toArray⟩ : ByteArray).extract 0 nm.length = ⟨nm.toArray⟩ := by
    rw [hbe.out]; apply ByteArray.ext; simp [ByteArray.data_extract]
  have hsz : nm.length < (⟨t.toArray⟩ : ByteArray).size := by show _ < t.toArray.size; rw [List.size_toArray]; exact q3
  have q6 : (⟨t.toArray⟩ : ByteArray)[nm.length]'hsz = 32 := by
    have hat : (⟨t.toArray⟩ : ByteArray)[nm.length]'hsz = t[nm.length] := by show t.toArray[nm.length] = _; simp
    rw [hat]; have := hbe.out; subst this; simp
  have tj : (op == 4) = false := by simpa using hj4
  clear hj4
  clear hop him ht hp hc hf
  go_enter Tryd.func3, Tryd.ntmps3
  go_upto_region 5 with (first | (refine wpList_load_mid rfl 23 _ rfl w.heap.size 0 rfl (InsnV.cells ⟨op, rd, r1, r2, imm, false, false, pred, succ⟩).toList _ hB.c hu rfl hi ?_) | (go_at_call 10; refine (hL.out _ ht1 hp1).mono ?_; rintro e w1 ⟨rfl, hb1⟩; replace hB := hB.keep hb1; replace ht1 := ht1.later hb1 (Nat.le_refl _); replace hp1 := hp1.later hb1 (Nat.le_refl _); clear hb1) | (go_at_call 11; refine (hK.out _ ht1).mono ?_; rintro e w1 ⟨rfl, hb1⟩; replace hB := hB.keep hb1; replace ht1 := ht1.later hb1 (Nat.le_refl _); replace hp1 := hp1.later hb1 (Nat.le_refl _); clear hb1))
  refine wp_region_held_drew (S := fun W => XB w (InsnV.cells ⟨op, rd, r1, r2, imm, false, false, pred, succ⟩).toList W ∧ Tabs W ∧ P10 W) (by kernel_rfl) ⟨hB.keep (Below.refl _ _).drew, ht1.later (Below.refl _ _).drew (Nat.le_refl _), hp1.later (Below.refl _ _).drew (Nat.le_refl _)⟩ (fun hHeld => ?_)
  refine wpAnyH_take (i := 0) rfl (by kernel_rfl) (by kernel_rfl) (by kernel_rfl) (fun _ _ _ h => h) (yieldsIf_load_mid (by rfl) 23 _ rfl w.heap.size 0 rfl (InsnV.cells ⟨op, rd, r1, r2, imm, false, false, pred, succ⟩).toList _ (fun W hS => hS.1.c) hu rfl hi) hHeld ?_
  try simp only [Act.put, List.getElem_toArray, List.getElem_cons_zero, List.setIfInBounds_toArray, List.set_cons_zero, List.set_cons_succ]
  refine wpAnyH_take (i := 2) (v := .pointer (some ⟨w.heap.size, 0, none⟩)) rfl (by kernel_rfl) (by kernel_rfl) (by kernel_rfl) (fun _ _ _ h => h) (Or.inl ⟨by rfl, fun W _ => by kernel_rfl⟩) hHeld ?_
  try simp only [Act.put, List.getElem_toArray, List.getElem_cons_succ, List.getElem_cons_zero, List.setIfInBounds_toArray, List.set_cons_zero, List.set_cons_succ]
  refine wpAnyH_take (i := 3) (v := .int .i64 op) rfl (by kernel_rfl) (by kernel_rfl) (by kernel_rfl) (fun _ _ _ h => h) (Or.inl ⟨by rfl, fun W hS => by (have k : W.cell? ⟨w.heap.size, 0, none⟩ = some (.int .i64 op) := hS.1.at 0 _ rfl); go_simp⟩) hHeld ?_
  try simp only [Act.put, List.getElem_toArray, List.getElem_cons_succ, List.getElem_cons_zero, List.setIfInBounds_toArray, List.set_cons_zero, List.set_cons_succ]
  refine wpAnyH_ready (rs := [1]) (by kernel_rfl) (by simp) (AllReadyH.cons rfl (fun K hK2 => ?_) AllReadyH.nil)
  rw [if_pos (by rfl)]
  simp only [List.getElem_toArray, List.getElem_cons_succ, List.getElem_cons_zero]
  go_wp2_with (go_at_call 12; refine (hT.out _ hHeld.2.1 hHeld.2.2).mono ?_; rintro e w3 ⟨rfl, hb3⟩)
  refine hK2.out _ _ (⟨hHeld.1.keep hb3, hHeld.2.1.later hb3 (Nat.le_refl _), hHeld.2.2.later hb3 (Nat.le_refl _)⟩) (fun hHeld2 => ?_)
  clear hK2 K hHeld
  have hHeld := hHeld2
  clear hHeld2
  try simp only [Act.put, List.getElem_toArray, List.getElem_cons_succ, List.getElem_cons_zero, List.setIfInBounds_toArray, List.set_cons_zero, List.set_cons_succ]
  refine wpAnyH_ready (rs := [4]) (by kernel_rfl) (by simp) (AllReadyH.cons rfl (fun K hK2 => ?_) AllReadyH.nil)
  rw [if_pos (by rfl)]
  simp only [List.getElem_toArray, List.getElem_cons_succ, List.getElem_cons_zero]
  go_wp2_with (go_at_call 13; refine (hN.out _ hHeld.2.1).mono ?_; rintro e w3 ⟨rfl, hb3⟩)
  refine hK2.out _ _ (⟨hHeld.1.keep hb3, hHeld.2.1.later hb3 (Nat.le_refl _), hHeld.2.2.later hb3 (Nat.le_refl _)⟩) (fun hHeld2 => ?_)
  clear hK2 K hHeld
  have hHeld := hHeld2
  clear hHeld2
  try simp only [Act.put, List.getElem_toArray, List.getElem_cons_succ, List.getElem_cons_zero, List.setIfInBounds_toArray, List.set_cons_zero, List.set_cons_succ]
  refine wpAnyH_take (i := 5) (v := .string ⟨t.toArray⟩) rfl (by kernel_rfl) (by kernel_rfl) (by kernel_rfl) (fun _ _ _ h => h) (Or.inl ⟨by rfl, fun W _ => by kernel_rfl⟩) hHeld ?_
  try simp only [Act.put, List.getElem_toArray, List.getElem_cons_succ, List.getElem_cons_zero, List.setIfInBounds_toArray, List.set_cons_zero, List.set_cons_succ]
  refine wpAnyH_take (i := 6) (v := .string ⟨nm.toArray⟩) rfl (by kernel_rfl) (by kernel_rfl) (by kernel_rfl) (fun _ _ _ h => h) (Or.inl ⟨by rfl, fun W _ => by kernel_rfl⟩) hHeld ?_
  try simp only [Act.put, List.getElem_toArray, List.getElem_cons_succ, List.getElem_cons_zero, List.setIfInBounds_toArray, List.set_cons_zero, List.set_cons_succ]
  refine wpAnyH_done (by kernel_rfl) ?_ _
  replace hB := hHeld.1
  replace ht1 := hHeld.2.1
  replace hp1 := hHeld.2.2
  clear hHeld
  have c0 : _ = some (Value.int .i64 op) := hB.at 0 _ rfl; have c5 : _ = some (Value.bool false) := hB.at 5 _ rfl; have c6 : _ = some (Value.bool false) := hB.at 6 _ rfl
  go_upto_region 18 with (go_at_call 14; refine (hF.out _ ht1).mono ?_; rintro e w5 ⟨rfl, hb5⟩; replace hB := hB.keep hb5; clear c0 c5 c6; have c0 : _ = some (Value.int .i64 op) := hB.at 0 _ rfl; have c5 : _ = some (Value.bool false) := hB.at 5 _ rfl; have c6 : _ = some (Value.bool false) := hB.at 6 _ rfl)
  have q7 : ((t.length : Int) == (nm.length : Int)) = false := by rw [beq_eq_false_iff_ne]; omega
  have q8 : ¬ t.length < nm.length := by omega
  go_upto_region 20 with fail
  go_wp2_with (first | (go_at_call 15; (with_reducible refine (hA.out _).mono ?_); rintro e w6 ⟨rfl, rfl⟩) | (go_at_call 15; (with_reducible refine (hA2.out _).mono ?_); rintro e w6 ⟨rfl, rfl⟩) | (go_at_call 15; (with_reducible refine (hA3.out _).mono ?_); rintro e w6 ⟨rfl, rfl⟩))
  go_ret
  exact ⟨rfl, hB.bl⟩
set_option maxRecDepth 100000 in
set_option maxHeartbeats 8000000 in
theorem Shapes_2 (op rd r1 r2 imm pred succ : Int) (hop : op ≤ 9223372036854775807) (him : -9223372036854775808 ≤ imm ∧ imm ≤ 9223372036854775807) (hc : checkE ⟨op, rd, r1, r2, imm, false, false, pred, succ⟩ = 0) (hf : (opOf op).form = 2) (w : World) (ht : Tabs w) (hp : P10 w) :
    Calls Tryd.prog 3 #[.agg (InsnV.cells ⟨op, rd, r1, r2, imm, false, false, pred, succ⟩)] w fun e w' => e = .returned (.bool true) ∧ Below w.heap.size w w' := by
  have htt : textT ⟨op, rd, r1, r2, imm, false, false, pred, succ⟩ = bodyT ⟨op, rd, r1, r2, imm, false, false, pred, succ⟩ := if_pos hc
  have hB := XB.start w (InsnV.cells ⟨op, rd, r1, r2, imm, false, false, pred, succ⟩).toList 23
  rw [Array.toArray_toList] at hB
  have hu := Tryd.underlying23
  have hi : (Tryd.prog.info? 23).map (·.size) = some (InsnV.cells ⟨op, rd, r1, r2, imm, false, false, pred, succ⟩).toList.length := by kernel_rfl
  have ht1 := ht.later ((Below.refl _ w).alloc (Nat.le_refl _) (.cells (InsnV.cells ⟨op, rd, r1, r2, imm, false, false, pred, succ⟩) 23)) (Nat.le_refl _)
  have hp1 := hp.later ((Below.refl _ w).alloc (Nat.le_refl _) (.cells (InsnV.cells ⟨op, rd, r1, r2, imm, false, false, pred, succ⟩) 23)) (Nat.le_refl _)
  have hL := Lib.hid (fun W h1 h2 => Lives2_any W h1 h2)
  have hT := Lib.hid (fun W h1 h2 => LText_any ⟨op, rd, r1, r2, imm, false, false, pred, succ⟩ hop him W h1 h2)
  have hK := Lib.hid (fun W hW => Check_any ⟨op, rd, r1, r2, imm, false, false, pred, succ⟩ hop W hW)
  have hN := Lib.hid (fun W hW => IName_any op hop W hW)
  have hF := Lib.hid (fun W hW => Form_any op hop W hW)
  rw [htt] at hT
  rw [hc] at hK
  rw [hf] at hF
  obtain ⟨hl, k44, k40, k41, hsh⟩ := body_shape ⟨op, rd, r1, r2, imm, false, false, pred, succ⟩ hc
  have hj4 : op ≠ 4 := fun e => by rw [e, form_4] at hf; exact absurd hf (by decide)
  replace k44 := k44.trans (show _ = 1 by simp [commasV, hf, hj4])
  replace k40 := k40.trans (show _ = 0 by simp [opensV, hf, hj4])
  replace k41 := k41.trans (show _ = 0 by simp [opensV, hf, hj4])
  obtain ⟨u, hbe⟩ : ∃ u, bodyT ⟨op, rd, r1, r2, imm, false, false, pred, succ⟩ = (opOf op).name ++ 32 :: u := by
    rcases hsh with h | h
    · exact absurd (hf.symm.trans h.1) (by decide)
    · exact h.2
  clear hsh htt
  generalize bodyT ⟨op, rd, r1, r2, imm, false, false, pred, succ⟩ = t at hT hl hbe k44 k40 k41
  generalize (opOf op).name = nm at hN hbe
  have hA : Hid (∀ W, Calls Tryd.prog 15 #[.string ⟨t.toArray⟩, .int .u8 44] W fun e w' => e = .returned (.int .i64 1) ∧ W = w') := Lib.hid fun W => by have := Count_any t 44 (by omega) W; rw [k44] at this; exact this
  have hA2 : Hid (∀ W, Calls Tryd.prog 15 #[.string ⟨t.toArray⟩, .int .u8 40] W fun e w' => e = .returned (.int .i64 0) ∧ W = w') := Lib.hid fun W => by have := Count_any t 40 (by omega) W; rw [k40] at this; exact this
  have hA3 : Hid (∀ W, Calls Tryd.prog 15 #[.string ⟨t.toArray⟩, .int .u8 41] W fun e w' => e = .returned (.int .i64 0) ∧ W = w') := Lib.hid fun W => by have := Count_any t 41 (by omega) W; rw [k41] at this; exact this
  clear k44 k40 k41
  replace hbe := Lib.hid hbe
  have q1 : decide ((t.length : Int) < (nm.length : Int)) = false := by rw [hbe.out]; simp; omega
  have q2 : nm.length ≤ t.length := by rw [hbe.out]; simp
  have q3 : nm.length < t.length := by rw [hbe.out]; simp
  have q4 : decide ((60 : Int) < (t.length : Int)) = false := by simp; omega
  have q5 : (⟨t.toArray⟩ : ByteArray).extract 0 nm.length = ⟨nm.toArray⟩ := by
    rw [hbe.out]; apply ByteArray.ext; simp [ByteArray.data_extract]
  have hsz : nm.length < (⟨t.toArray⟩ : ByteArray).size := by show _ < t.toArray.size; rw [List.size_toArray]; exact q3
  have q6 : (⟨t.toArray⟩ : ByteArray)[nm.length]'hsz = 32 := by
    have hat : (⟨t.toArray⟩ : ByteArray)[nm.length]'hsz = t[nm.length] := by show t.toArray[nm.length] = _; simp
    rw [hat]; have := hbe.out; subst this; simp
  have tj : (op == 4) = false := by simpa using hj4
  clear hj4
  clear hop him ht hp hc hf
  go_enter Tryd.func3, Tryd.ntmps3
  go_upto_region 5 with (first | (refine wpList_load_mid rfl 23 _ rfl w.heap.size 0 rfl (InsnV.cells ⟨op, rd, r1, r2, imm, false, false, pred, succ⟩).toList _ hB.c hu rfl hi ?_) | (go_at_call 10; refine (hL.out _ ht1 hp1).mono ?_; rintro e w1 ⟨rfl, hb1⟩; replace hB := hB.keep hb1; replace ht1 := ht1.later hb1 (Nat.le_refl _); replace hp1 := hp1.later hb1 (Nat.le_refl _); clear hb1) | (go_at_call 11; refine (hK.out _ ht1).mono ?_; rintro e w1 ⟨rfl, hb1⟩; replace hB := hB.keep hb1; replace ht1 := ht1.later hb1 (Nat.le_refl _); replace hp1 := hp1.later hb1 (Nat.le_refl _); clear hb1))
  refine wp_region_held_drew (S := fun W => XB w (InsnV.cells ⟨op, rd, r1, r2, imm, false, false, pred, succ⟩).toList W ∧ Tabs W ∧ P10 W) (by kernel_rfl) ⟨hB.keep (Below.refl _ _).drew, ht1.later (Below.refl _ _).drew (Nat.le_refl _), hp1.later (Below.refl _ _).drew (Nat.le_refl _)⟩ (fun hHeld => ?_)
  refine wpAnyH_take (i := 0) rfl (by kernel_rfl) (by kernel_rfl) (by kernel_rfl) (fun _ _ _ h => h) (yieldsIf_load_mid (by rfl) 23 _ rfl w.heap.size 0 rfl (InsnV.cells ⟨op, rd, r1, r2, imm, false, false, pred, succ⟩).toList _ (fun W hS => hS.1.c) hu rfl hi) hHeld ?_
  try simp only [Act.put, List.getElem_toArray, List.getElem_cons_zero, List.setIfInBounds_toArray, List.set_cons_zero, List.set_cons_succ]
  refine wpAnyH_take (i := 2) (v := .pointer (some ⟨w.heap.size, 0, none⟩)) rfl (by kernel_rfl) (by kernel_rfl) (by kernel_rfl) (fun _ _ _ h => h) (Or.inl ⟨by rfl, fun W _ => by kernel_rfl⟩) hHeld ?_
  try simp only [Act.put, List.getElem_toArray, List.getElem_cons_succ, List.getElem_cons_zero, List.setIfInBounds_toArray, List.set_cons_zero, List.set_cons_succ]
  refine wpAnyH_take (i := 3) (v := .int .i64 op) rfl (by kernel_rfl) (by kernel_rfl) (by kernel_rfl) (fun _ _ _ h => h) (Or.inl ⟨by rfl, fun W hS => by (have k : W.cell? ⟨w.heap.size, 0, none⟩ = some (.int .i64 op) := hS.1.at 0 _ rfl); go_simp⟩) hHeld ?_
  try simp only [Act.put, List.getElem_toArray, List.getElem_cons_succ, List.getElem_cons_zero, List.setIfInBounds_toArray, List.set_cons_zero, List.set_cons_succ]
  refine wpAnyH_ready (rs := [1]) (by kernel_rfl) (by simp) (AllReadyH.cons rfl (fun K hK2 => ?_) AllReadyH.nil)
  rw [if_pos (by rfl)]
  simp only [List.getElem_toArray, List.getElem_cons_succ, List.getElem_cons_zero]
  go_wp2_with (go_at_call 12; refine (hT.out _ hHeld.2.1 hHeld.2.2).mono ?_; rintro e w3 ⟨rfl, hb3⟩)
  refine hK2.out _ _ (⟨hHeld.1.keep hb3, hHeld.2.1.later hb3 (Nat.le_refl _), hHeld.2.2.later hb3 (Nat.le_refl _)⟩) (fun hHeld2 => ?_)
  clear hK2 K hHeld
  have hHeld := hHeld2
  clear hHeld2
  try simp only [Act.put, List.getElem_toArray, List.getElem_cons_succ, List.getElem_cons_zero, List.setIfInBounds_toArray, List.set_cons_zero, List.set_cons_succ]
  refine wpAnyH_ready (rs := [4]) (by kernel_rfl) (by simp) (AllReadyH.cons rfl (fun K hK2 => ?_) AllReadyH.nil)
  rw [if_pos (by rfl)]
  simp only [List.getElem_toArray, List.getElem_cons_succ, List.getElem_cons_zero]
  go_wp2_with (go_at_call 13; refine (hN.out _ hHeld.2.1).mono ?_; rintro e w3 ⟨rfl, hb3⟩)
  refine hK2.out _ _ (⟨hHeld.1.keep hb3, hHeld.2.1.later hb3 (Nat.le_refl _), hHeld.2.2.later hb3 (Nat.le_refl _)⟩) (fun hHeld2 => ?_)
  clear hK2 K hHeld
  have hHeld := hHeld2
  clear hHeld2
  try simp only [Act.put, List.getElem_toArray, List.getElem_cons_succ, List.getElem_cons_zero, List.setIfInBounds_toArray, List.set_cons_zero, List.set_cons_succ]
  refine wpAnyH_take (i := 5) (v := .string ⟨t.toArray⟩) rfl (by kernel_rfl) (by kernel_rfl) (by kernel_rfl) (fun _ _ _ h => h) (Or.inl ⟨by rfl, fun W _ => by kernel_rfl⟩) hHeld ?_
  try simp only [Act.put, List.getElem_toArray, List.getElem_cons_succ, List.getElem_cons_zero, List.setIfInBounds_toArray, List.set_cons_zero, List.set_cons_succ]
  refine wpAnyH_take (i := 6) (v := .string ⟨nm.toArray⟩) rfl (by kernel_rfl) (by kernel_rfl) (by kernel_rfl) (fun _ _ _ h => h) (Or.inl ⟨by rfl, fun W _ => by kernel_rfl⟩) hHeld ?_
  try simp only [Act.put, List.getElem_toArray, List.getElem_cons_succ, List.getElem_cons_zero, List.setIfInBounds_toArray, List.set_cons_zero, List.set_cons_succ]
  refine wpAnyH_done (by kernel_rfl) ?_ _
  replace hB := hHeld.1
  replace ht1 := hHeld.2.1
  replace hp1 := hHeld.2.2
  clear hHeld
  have c0 : _ = some (Value.int .i64 op) := hB.at 0 _ rfl; have c5 : _ = some (Value.bool false) := hB.at 5 _ rfl; have c6 : _ = some (Value.bool false) := hB.at 6 _ rfl
  go_upto_region 18 with (go_at_call 14; refine (hF.out _ ht1).mono ?_; rintro e w5 ⟨rfl, hb5⟩; replace hB := hB.keep hb5; clear c0 c5 c6; have c0 : _ = some (Value.int .i64 op) := hB.at 0 _ rfl; have c5 : _ = some (Value.bool false) := hB.at 5 _ rfl; have c6 : _ = some (Value.bool false) := hB.at 6 _ rfl)
  have q7 : ((t.length : Int) == (nm.length : Int)) = false := by rw [beq_eq_false_iff_ne]; omega
  have q8 : ¬ t.length < nm.length := by omega
  go_upto_region 20 with fail
  go_wp2_with (first | (go_at_call 15; (with_reducible refine (hA.out _).mono ?_); rintro e w6 ⟨rfl, rfl⟩) | (go_at_call 15; (with_reducible refine (hA2.out _).mono ?_); rintro e w6 ⟨rfl, rfl⟩) | (go_at_call 15; (with_reducible refine (hA3.out _).mono ?_); rintro e w6 ⟨rfl, rfl⟩))
  go_ret
  exact ⟨rfl, hB.bl⟩
set_option maxRecDepth 100000 in
set_option maxHeartbeats 8000000 in
theorem Shapes_3 (op rd r1 r2 imm pred succ : Int) (hop : op ≤ 9223372036854775807) (him : -9223372036854775808 ≤ imm ∧ imm ≤ 9223372036854775807) (hc : checkE ⟨op, rd, r1, r2, imm, false, false, pred, succ⟩ = 0) (hf : (opOf op).form = 3) (hj4 : op ≠ 4) (w : World) (ht : Tabs w) (hp : P10 w) :
    Calls Tryd.prog 3 #[.agg (InsnV.cells ⟨op, rd, r1, r2, imm, false, false, pred, succ⟩)] w fun e w' => e = .returned (.bool true) ∧ Below w.heap.size w w' := by
  have htt : textT ⟨op, rd, r1, r2, imm, false, false, pred, succ⟩ = bodyT ⟨op, rd, r1, r2, imm, false, false, pred, succ⟩ := if_pos hc
  have hB := XB.start w (InsnV.cells ⟨op, rd, r1, r2, imm, false, false, pred, succ⟩).toList 23
  rw [Array.toArray_toList] at hB
  have hu := Tryd.underlying23
  have hi : (Tryd.prog.info? 23).map (·.size) = some (InsnV.cells ⟨op, rd, r1, r2, imm, false, false, pred, succ⟩).toList.length := by kernel_rfl
  have ht1 := ht.later ((Below.refl _ w).alloc (Nat.le_refl _) (.cells (InsnV.cells ⟨op, rd, r1, r2, imm, false, false, pred, succ⟩) 23)) (Nat.le_refl _)
  have hp1 := hp.later ((Below.refl _ w).alloc (Nat.le_refl _) (.cells (InsnV.cells ⟨op, rd, r1, r2, imm, false, false, pred, succ⟩) 23)) (Nat.le_refl _)
  have hL := Lib.hid (fun W h1 h2 => Lives2_any W h1 h2)
  have hT := Lib.hid (fun W h1 h2 => LText_any ⟨op, rd, r1, r2, imm, false, false, pred, succ⟩ hop him W h1 h2)
  have hK := Lib.hid (fun W hW => Check_any ⟨op, rd, r1, r2, imm, false, false, pred, succ⟩ hop W hW)
  have hN := Lib.hid (fun W hW => IName_any op hop W hW)
  have hF := Lib.hid (fun W hW => Form_any op hop W hW)
  rw [htt] at hT
  rw [hc] at hK
  rw [hf] at hF
  obtain ⟨hl, k44, k40, k41, hsh⟩ := body_shape ⟨op, rd, r1, r2, imm, false, false, pred, succ⟩ hc
  replace k44 := k44.trans (show _ = 2 by simp [commasV, hf, hj4])
  replace k40 := k40.trans (show _ = 0 by simp [opensV, hf, hj4])
  replace k41 := k41.trans (show _ = 0 by simp [opensV, hf, hj4])
  obtain ⟨u, hbe⟩ : ∃ u, bodyT ⟨op, rd, r1, r2, imm, false, false, pred, succ⟩ = (opOf op).name ++ 32 :: u := by
    rcases hsh with h | h
    · exact absurd (hf.symm.trans h.1) (by decide)
    · exact h.2
  clear hsh htt
  generalize bodyT ⟨op, rd, r1, r2, imm, false, false, pred, succ⟩ = t at hT hl hbe k44 k40 k41
  generalize (opOf op).name = nm at hN hbe
  have hA : Hid (∀ W, Calls Tryd.prog 15 #[.string ⟨t.toArray⟩, .int .u8 44] W fun e w' => e = .returned (.int .i64 2) ∧ W = w') := Lib.hid fun W => by have := Count_any t 44 (by omega) W; rw [k44] at this; exact this
  have hA2 : Hid (∀ W, Calls Tryd.prog 15 #[.string ⟨t.toArray⟩, .int .u8 40] W fun e w' => e = .returned (.int .i64 0) ∧ W = w') := Lib.hid fun W => by have := Count_any t 40 (by omega) W; rw [k40] at this; exact this
  have hA3 : Hid (∀ W, Calls Tryd.prog 15 #[.string ⟨t.toArray⟩, .int .u8 41] W fun e w' => e = .returned (.int .i64 0) ∧ W = w') := Lib.hid fun W => by have := Count_any t 41 (by omega) W; rw [k41] at this; exact this
  clear k44 k40 k41
  replace hbe := Lib.hid hbe
  have q1 : decide ((t.length : Int) < (nm.length : Int)) = false := by rw [hbe.out]; simp; omega
  have q2 : nm.length ≤ t.length := by rw [hbe.out]; simp
  have q3 : nm.length < t.length := by rw [hbe.out]; simp
  have q4 : decide ((60 : Int) < (t.length : Int)) = false := by simp; omega
  have q5 : (⟨t.toArray⟩ : ByteArray).extract 0 nm.length = ⟨nm.toArray⟩ := by
    rw [hbe.out]; apply ByteArray.ext; simp [ByteArray.data_extract]
  have hsz : nm.length < (⟨t.toArray⟩ : ByteArray).size := by show _ < t.toArray.size; rw [List.size_toArray]; exact q3
  have q6 : (⟨t.toArray⟩ : ByteArray)[nm.length]'hsz = 32 := by
    have hat : (⟨t.toArray⟩ : ByteArray)[nm.length]'hsz = t[nm.length] := by show t.toArray[nm.length] = _; simp
    rw [hat]; have := hbe.out; subst this; simp
  have tj : (op == 4) = false := by simpa using hj4
  clear hj4
  clear hop him ht hp hc hf
  go_enter Tryd.func3, Tryd.ntmps3
  go_upto_region 5 with (first | (refine wpList_load_mid rfl 23 _ rfl w.heap.size 0 rfl (InsnV.cells ⟨op, rd, r1, r2, imm, false, false, pred, succ⟩).toList _ hB.c hu rfl hi ?_) | (go_at_call 10; refine (hL.out _ ht1 hp1).mono ?_; rintro e w1 ⟨rfl, hb1⟩; replace hB := hB.keep hb1; replace ht1 := ht1.later hb1 (Nat.le_refl _); replace hp1 := hp1.later hb1 (Nat.le_refl _); clear hb1) | (go_at_call 11; refine (hK.out _ ht1).mono ?_; rintro e w1 ⟨rfl, hb1⟩; replace hB := hB.keep hb1; replace ht1 := ht1.later hb1 (Nat.le_refl _); replace hp1 := hp1.later hb1 (Nat.le_refl _); clear hb1))
  refine wp_region_held_drew (S := fun W => XB w (InsnV.cells ⟨op, rd, r1, r2, imm, false, false, pred, succ⟩).toList W ∧ Tabs W ∧ P10 W) (by kernel_rfl) ⟨hB.keep (Below.refl _ _).drew, ht1.later (Below.refl _ _).drew (Nat.le_refl _), hp1.later (Below.refl _ _).drew (Nat.le_refl _)⟩ (fun hHeld => ?_)
  refine wpAnyH_take (i := 0) rfl (by kernel_rfl) (by kernel_rfl) (by kernel_rfl) (fun _ _ _ h => h) (yieldsIf_load_mid (by rfl) 23 _ rfl w.heap.size 0 rfl (InsnV.cells ⟨op, rd, r1, r2, imm, false, false, pred, succ⟩).toList _ (fun W hS => hS.1.c) hu rfl hi) hHeld ?_
  try simp only [Act.put, List.getElem_toArray, List.getElem_cons_zero, List.setIfInBounds_toArray, List.set_cons_zero, List.set_cons_succ]
  refine wpAnyH_take (i := 2) (v := .pointer (some ⟨w.heap.size, 0, none⟩)) rfl (by kernel_rfl) (by kernel_rfl) (by kernel_rfl) (fun _ _ _ h => h) (Or.inl ⟨by rfl, fun W _ => by kernel_rfl⟩) hHeld ?_
  try simp only [Act.put, List.getElem_toArray, List.getElem_cons_succ, List.getElem_cons_zero, List.setIfInBounds_toArray, List.set_cons_zero, List.set_cons_succ]
  refine wpAnyH_take (i := 3) (v := .int .i64 op) rfl (by kernel_rfl) (by kernel_rfl) (by kernel_rfl) (fun _ _ _ h => h) (Or.inl ⟨by rfl, fun W hS => by (have k : W.cell? ⟨w.heap.size, 0, none⟩ = some (.int .i64 op) := hS.1.at 0 _ rfl); go_simp⟩) hHeld ?_
  try simp only [Act.put, List.getElem_toArray, List.getElem_cons_succ, List.getElem_cons_zero, List.setIfInBounds_toArray, List.set_cons_zero, List.set_cons_succ]
  refine wpAnyH_ready (rs := [1]) (by kernel_rfl) (by simp) (AllReadyH.cons rfl (fun K hK2 => ?_) AllReadyH.nil)
  rw [if_pos (by rfl)]
  simp only [List.getElem_toArray, List.getElem_cons_succ, List.getElem_cons_zero]
  go_wp2_with (go_at_call 12; refine (hT.out _ hHeld.2.1 hHeld.2.2).mono ?_; rintro e w3 ⟨rfl, hb3⟩)
  refine hK2.out _ _ (⟨hHeld.1.keep hb3, hHeld.2.1.later hb3 (Nat.le_refl _), hHeld.2.2.later hb3 (Nat.le_refl _)⟩) (fun hHeld2 => ?_)
  clear hK2 K hHeld
  have hHeld := hHeld2
  clear hHeld2
  try simp only [Act.put, List.getElem_toArray, List.getElem_cons_succ, List.getElem_cons_zero, List.setIfInBounds_toArray, List.set_cons_zero, List.set_cons_succ]
  refine wpAnyH_ready (rs := [4]) (by kernel_rfl) (by simp) (AllReadyH.cons rfl (fun K hK2 => ?_) AllReadyH.nil)
  rw [if_pos (by rfl)]
  simp only [List.getElem_toArray, List.getElem_cons_succ, List.getElem_cons_zero]
  go_wp2_with (go_at_call 13; refine (hN.out _ hHeld.2.1).mono ?_; rintro e w3 ⟨rfl, hb3⟩)
  refine hK2.out _ _ (⟨hHeld.1.keep hb3, hHeld.2.1.later hb3 (Nat.le_refl _), hHeld.2.2.later hb3 (Nat.le_refl _)⟩) (fun hHeld2 => ?_)
  clear hK2 K hHeld
  have hHeld := hHeld2
  clear hHeld2
  try simp only [Act.put, List.getElem_toArray, List.getElem_cons_succ, List.getElem_cons_zero, List.setIfInBounds_toArray, List.set_cons_zero, List.set_cons_succ]
  refine wpAnyH_take (i := 5) (v := .string ⟨t.toArray⟩) rfl (by kernel_rfl) (by kernel_rfl) (by kernel_rfl) (fun _ _ _ h => h) (Or.inl ⟨by rfl, fun W _ => by kernel_rfl⟩) hHeld ?_
  try simp only [Act.put, List.getElem_toArray, List.getElem_cons_succ, List.getElem_cons_zero, List.setIfInBounds_toArray, List.set_cons_zero, List.set_cons_succ]
  refine wpAnyH_take (i := 6) (v := .string ⟨nm.toArray⟩) rfl (by kernel_rfl) (by kernel_rfl) (by kernel_rfl) (fun _ _ _ h => h) (Or.inl ⟨by rfl, fun W _ => by kernel_rfl⟩) hHeld ?_
  try simp only [Act.put, List.getElem_toArray, List.getElem_cons_succ, List.getElem_cons_zero, List.setIfInBounds_toArray, List.set_cons_zero, List.set_cons_succ]
  refine wpAnyH_done (by kernel_rfl) ?_ _
  replace hB := hHeld.1
  replace ht1 := hHeld.2.1
  replace hp1 := hHeld.2.2
  clear hHeld
  have c0 : _ = some (Value.int .i64 op) := hB.at 0 _ rfl; have c5 : _ = some (Value.bool false) := hB.at 5 _ rfl; have c6 : _ = some (Value.bool false) := hB.at 6 _ rfl
  go_upto_region 18 with (go_at_call 14; refine (hF.out _ ht1).mono ?_; rintro e w5 ⟨rfl, hb5⟩; replace hB := hB.keep hb5; clear c0 c5 c6; have c0 : _ = some (Value.int .i64 op) := hB.at 0 _ rfl; have c5 : _ = some (Value.bool false) := hB.at 5 _ rfl; have c6 : _ = some (Value.bool false) := hB.at 6 _ rfl)
  have q7 : ((t.length : Int) == (nm.length : Int)) = false := by rw [beq_eq_false_iff_ne]; omega
  have q8 : ¬ t.length < nm.length := by omega
  go_upto_region 20 with fail
  go_wp2_with (first | (go_at_call 15; (with_reducible refine (hA.out _).mono ?_); rintro e w6 ⟨rfl, rfl⟩) | (go_at_call 15; (with_reducible refine (hA2.out _).mono ?_); rintro e w6 ⟨rfl, rfl⟩) | (go_at_call 15; (with_reducible refine (hA3.out _).mono ?_); rintro e w6 ⟨rfl, rfl⟩))
  go_ret
  exact ⟨rfl, hB.bl⟩
set_option maxRecDepth 100000 in
set_option maxHeartbeats 8000000 in
theorem Shapes_3j (rd r1 r2 imm pred succ : Int) (him : -9223372036854775808 ≤ imm ∧ imm ≤ 9223372036854775807) (hc : checkE ⟨4, rd, r1, r2, imm, false, false, pred, succ⟩ = 0) (w : World) (ht : Tabs w) (hp : P10 w) :
    Calls Tryd.prog 3 #[.agg (InsnV.cells ⟨4, rd, r1, r2, imm, false, false, pred, succ⟩)] w fun e w' => e = .returned (.bool true) ∧ Below w.heap.size w w' := by
  have hop : (4 : Int) ≤ 9223372036854775807 := by decide
  have hf := form_4
  have htt : textT ⟨4, rd, r1, r2, imm, false, false, pred, succ⟩ = bodyT ⟨4, rd, r1, r2, imm, false, false, pred, succ⟩ := if_pos hc
  have hB := XB.start w (InsnV.cells ⟨4, rd, r1, r2, imm, false, false, pred, succ⟩).toList 23
  rw [Array.toArray_toList] at hB
  have hu := Tryd.underlying23
  have hi : (Tryd.prog.info? 23).map (·.size) = some (InsnV.cells ⟨4, rd, r1, r2, imm, false, false, pred, succ⟩).toList.length := by kernel_rfl
  have ht1 := ht.later ((Below.refl _ w).alloc (Nat.le_refl _) (.cells (InsnV.cells ⟨4, rd, r1, r2, imm, false, false, pred, succ⟩) 23)) (Nat.le_refl _)
  have hp1 := hp.later ((Below.refl _ w).alloc (Nat.le_refl _) (.cells (InsnV.cells ⟨4, rd, r1, r2, imm, false, false, pred, succ⟩) 23)) (Nat.le_refl _)
  have hL := Lib.hid (fun W h1 h2 => Lives2_any W h1 h2)
  have hT := Lib.hid (fun W h1 h2 => LText_any ⟨4, rd, r1, r2, imm, false, false, pred, succ⟩ hop him W h1 h2)
  have hK := Lib.hid (fun W hW => Check_any ⟨4, rd, r1, r2, imm, false, false, pred, succ⟩ hop W hW)
  have hN := Lib.hid (fun W hW => IName_any 4 hop W hW)
  have hF := Lib.hid (fun W hW => Form_any 4 hop W hW)
  rw [htt] at hT
  rw [hc] at hK
  rw [hf] at hF
  obtain ⟨hl, k44, k40, k41, hsh⟩ := body_shape ⟨4, rd, r1, r2, imm, false, false, pred, succ⟩ hc
  replace k44 := k44.trans (show _ = 1 by simp [commasV, hf])
  replace k40 := k40.trans (show _ = 1 by simp [opensV, hf])
  replace k41 := k41.trans (show _ = 1 by simp [opensV, hf])
  obtain ⟨u, hbe⟩ : ∃ u, bodyT ⟨4, rd, r1, r2, imm, false, false, pred, succ⟩ = (opOf 4).name ++ 32 :: u := by
    rcases hsh with h | h
    · exact absurd (hf.symm.trans h.1) (by decide)
    · exact h.2
  clear hsh htt
  generalize bodyT ⟨4, rd, r1, r2, imm, false, false, pred, succ⟩ = t at hT hl hbe k44 k40 k41
  generalize (opOf 4).name = nm at hN hbe
  have hA : Hid (∀ W, Calls Tryd.prog 15 #[.string ⟨t.toArray⟩, .int .u8 44] W fun e w' => e = .returned (.int .i64 1) ∧ W = w') := Lib.hid fun W => by have := Count_any t 44 (by omega) W; rw [k44] at this; exact this
  have hA2 : Hid (∀ W, Calls Tryd.prog 15 #[.string ⟨t.toArray⟩, .int .u8 40] W fun e w' => e = .returned (.int .i64 1) ∧ W = w') := Lib.hid fun W => by have := Count_any t 40 (by omega) W; rw [k40] at this; exact this
  have hA3 : Hid (∀ W, Calls Tryd.prog 15 #[.string ⟨t.toArray⟩, .int .u8 41] W fun e w' => e = .returned (.int .i64 1) ∧ W = w') := Lib.hid fun W => by have := Count_any t 41 (by omega) W; rw [k41] at this; exact this
  clear k44 k40 k41
  replace hbe := Lib.hid hbe
  have q1 : decide ((t.length : Int) < (nm.length : Int)) = false := by rw [hbe.out]; simp; omega
  have q2 : nm.length ≤ t.length := by rw [hbe.out]; simp
  have q3 : nm.length < t.length := by rw [hbe.out]; simp
  have q4 : decide ((60 : Int) < (t.length : Int)) = false := by simp; omega
  have q5 : (⟨t.toArray⟩ : ByteArray).extract 0 nm.length = ⟨nm.toArray⟩ := by
    rw [hbe.out]; apply ByteArray.ext; simp [ByteArray.data_extract]
  have hsz : nm.length < (⟨t.toArray⟩ : ByteArray).size := by show _ < t.toArray.size; rw [List.size_toArray]; exact q3
  have q6 : (⟨t.toArray⟩ : ByteArray)[nm.length]'hsz = 32 := by
    have hat : (⟨t.toArray⟩ : ByteArray)[nm.length]'hsz = t[nm.length] := by show t.toArray[nm.length] = _; simp
    rw [hat]; have := hbe.out; subst this; simp
  clear hop him ht hp hc hf
  go_enter Tryd.func3, Tryd.ntmps3
  go_upto_region 5 with (first | (refine wpList_load_mid rfl 23 _ rfl w.heap.size 0 rfl (InsnV.cells ⟨4, rd, r1, r2, imm, false, false, pred, succ⟩).toList _ hB.c hu rfl hi ?_) | (go_at_call 10; refine (hL.out _ ht1 hp1).mono ?_; rintro e w1 ⟨rfl, hb1⟩; replace hB := hB.keep hb1; replace ht1 := ht1.later hb1 (Nat.le_refl _); replace hp1 := hp1.later hb1 (Nat.le_refl _); clear hb1) | (go_at_call 11; refine (hK.out _ ht1).mono ?_; rintro e w1 ⟨rfl, hb1⟩; replace hB := hB.keep hb1; replace ht1 := ht1.later hb1 (Nat.le_refl _); replace hp1 := hp1.later hb1 (Nat.le_refl _); clear hb1))
  refine wp_region_held_drew (S := fun W => XB w (InsnV.cells ⟨4, rd, r1, r2, imm, false, false, pred, succ⟩).toList W ∧ Tabs W ∧ P10 W) (by kernel_rfl) ⟨hB.keep (Below.refl _ _).drew, ht1.later (Below.refl _ _).drew (Nat.le_refl _), hp1.later (Below.refl _ _).drew (Nat.le_refl _)⟩ (fun hHeld => ?_)
  refine wpAnyH_take (i := 0) rfl (by kernel_rfl) (by kernel_rfl) (by kernel_rfl) (fun _ _ _ h => h) (yieldsIf_load_mid (by rfl) 23 _ rfl w.heap.size 0 rfl (InsnV.cells ⟨4, rd, r1, r2, imm, false, false, pred, succ⟩).toList _ (fun W hS => hS.1.c) hu rfl hi) hHeld ?_
  try simp only [Act.put, List.getElem_toArray, List.getElem_cons_zero, List.setIfInBounds_toArray, List.set_cons_zero, List.set_cons_succ]
  refine wpAnyH_take (i := 2) (v := .pointer (some ⟨w.heap.size, 0, none⟩)) rfl (by kernel_rfl) (by kernel_rfl) (by kernel_rfl) (fun _ _ _ h => h) (Or.inl ⟨by rfl, fun W _ => by kernel_rfl⟩) hHeld ?_
  try simp only [Act.put, List.getElem_toArray, List.getElem_cons_succ, List.getElem_cons_zero, List.setIfInBounds_toArray, List.set_cons_zero, List.set_cons_succ]
  refine wpAnyH_take (i := 3) (v := .int .i64 4) rfl (by kernel_rfl) (by kernel_rfl) (by kernel_rfl) (fun _ _ _ h => h) (Or.inl ⟨by rfl, fun W hS => by (have k : W.cell? ⟨w.heap.size, 0, none⟩ = some (.int .i64 4) := hS.1.at 0 _ rfl); go_simp⟩) hHeld ?_
  try simp only [Act.put, List.getElem_toArray, List.getElem_cons_succ, List.getElem_cons_zero, List.setIfInBounds_toArray, List.set_cons_zero, List.set_cons_succ]
  refine wpAnyH_ready (rs := [1]) (by kernel_rfl) (by simp) (AllReadyH.cons rfl (fun K hK2 => ?_) AllReadyH.nil)
  rw [if_pos (by rfl)]
  simp only [List.getElem_toArray, List.getElem_cons_succ, List.getElem_cons_zero]
  go_wp2_with (go_at_call 12; refine (hT.out _ hHeld.2.1 hHeld.2.2).mono ?_; rintro e w3 ⟨rfl, hb3⟩)
  refine hK2.out _ _ (⟨hHeld.1.keep hb3, hHeld.2.1.later hb3 (Nat.le_refl _), hHeld.2.2.later hb3 (Nat.le_refl _)⟩) (fun hHeld2 => ?_)
  clear hK2 K hHeld
  have hHeld := hHeld2
  clear hHeld2
  try simp only [Act.put, List.getElem_toArray, List.getElem_cons_succ, List.getElem_cons_zero, List.setIfInBounds_toArray, List.set_cons_zero, List.set_cons_succ]
  refine wpAnyH_ready (rs := [4]) (by kernel_rfl) (by simp) (AllReadyH.cons rfl (fun K hK2 => ?_) AllReadyH.nil)
  rw [if_pos (by rfl)]
  simp only [List.getElem_toArray, List.getElem_cons_succ, List.getElem_cons_zero]
  go_wp2_with (go_at_call 13; refine (hN.out _ hHeld.2.1).mono ?_; rintro e w3 ⟨rfl, hb3⟩)
  refine hK2.out _ _ (⟨hHeld.1.keep hb3, hHeld.2.1.later hb3 (Nat.le_refl _), hHeld.2.2.later hb3 (Nat.le_refl _)⟩) (fun hHeld2 => ?_)
  clear hK2 K hHeld
  have hHeld := hHeld2
  clear hHeld2
  try simp only [Act.put, List.getElem_toArray, List.getElem_cons_succ, List.getElem_cons_zero, List.setIfInBounds_toArray, List.set_cons_zero, List.set_cons_succ]
  refine wpAnyH_take (i := 5) (v := .string ⟨t.toArray⟩) rfl (by kernel_rfl) (by kernel_rfl) (by kernel_rfl) (fun _ _ _ h => h) (Or.inl ⟨by rfl, fun W _ => by kernel_rfl⟩) hHeld ?_
  try simp only [Act.put, List.getElem_toArray, List.getElem_cons_succ, List.getElem_cons_zero, List.setIfInBounds_toArray, List.set_cons_zero, List.set_cons_succ]
  refine wpAnyH_take (i := 6) (v := .string ⟨nm.toArray⟩) rfl (by kernel_rfl) (by kernel_rfl) (by kernel_rfl) (fun _ _ _ h => h) (Or.inl ⟨by rfl, fun W _ => by kernel_rfl⟩) hHeld ?_
  try simp only [Act.put, List.getElem_toArray, List.getElem_cons_succ, List.getElem_cons_zero, List.setIfInBounds_toArray, List.set_cons_zero, List.set_cons_succ]
  refine wpAnyH_done (by kernel_rfl) ?_ _
  replace hB := hHeld.1
  replace ht1 := hHeld.2.1
  replace hp1 := hHeld.2.2
  clear hHeld
  have c0 : _ = some (Value.int .i64 4) := hB.at 0 _ rfl; have c5 : _ = some (Value.bool false) := hB.at 5 _ rfl; have c6 : _ = some (Value.bool false) := hB.at 6 _ rfl
  go_upto_region 18 with (go_at_call 14; refine (hF.out _ ht1).mono ?_; rintro e w5 ⟨rfl, hb5⟩; replace hB := hB.keep hb5; clear c0 c5 c6; have c0 : _ = some (Value.int .i64 4) := hB.at 0 _ rfl; have c5 : _ = some (Value.bool false) := hB.at 5 _ rfl; have c6 : _ = some (Value.bool false) := hB.at 6 _ rfl)
  have q7 : ((t.length : Int) == (nm.length : Int)) = false := by rw [beq_eq_false_iff_ne]; omega
  have q8 : ¬ t.length < nm.length := by omega
  go_upto_region 20 with fail
  go_wp2_with (first | (go_at_call 15; (with_reducible refine (hA.out _).mono ?_); rintro e w6 ⟨rfl, rfl⟩) | (go_at_call 15; (with_reducible refine (hA2.out _).mono ?_); rintro e w6 ⟨rfl, rfl⟩) | (go_at_call 15; (with_reducible refine (hA3.out _).mono ?_); rintro e w6 ⟨rfl, rfl⟩))
  go_ret
  exact ⟨rfl, hB.bl⟩
set_option maxRecDepth 100000 in
set_option maxHeartbeats 8000000 in
theorem Shapes_4 (op rd r1 r2 imm pred succ : Int) (hop : op ≤ 9223372036854775807) (him : -9223372036854775808 ≤ imm ∧ imm ≤ 9223372036854775807) (hc : checkE ⟨op, rd, r1, r2, imm, false, false, pred, succ⟩ = 0) (hf : (opOf op).form = 4) (w : World) (ht : Tabs w) (hp : P10 w) :
    Calls Tryd.prog 3 #[.agg (InsnV.cells ⟨op, rd, r1, r2, imm, false, false, pred, succ⟩)] w fun e w' => e = .returned (.bool true) ∧ Below w.heap.size w w' := by
  have htt : textT ⟨op, rd, r1, r2, imm, false, false, pred, succ⟩ = bodyT ⟨op, rd, r1, r2, imm, false, false, pred, succ⟩ := if_pos hc
  have hB := XB.start w (InsnV.cells ⟨op, rd, r1, r2, imm, false, false, pred, succ⟩).toList 23
  rw [Array.toArray_toList] at hB
  have hu := Tryd.underlying23
  have hi : (Tryd.prog.info? 23).map (·.size) = some (InsnV.cells ⟨op, rd, r1, r2, imm, false, false, pred, succ⟩).toList.length := by kernel_rfl
  have ht1 := ht.later ((Below.refl _ w).alloc (Nat.le_refl _) (.cells (InsnV.cells ⟨op, rd, r1, r2, imm, false, false, pred, succ⟩) 23)) (Nat.le_refl _)
  have hp1 := hp.later ((Below.refl _ w).alloc (Nat.le_refl _) (.cells (InsnV.cells ⟨op, rd, r1, r2, imm, false, false, pred, succ⟩) 23)) (Nat.le_refl _)
  have hL := Lib.hid (fun W h1 h2 => Lives2_any W h1 h2)
  have hT := Lib.hid (fun W h1 h2 => LText_any ⟨op, rd, r1, r2, imm, false, false, pred, succ⟩ hop him W h1 h2)
  have hK := Lib.hid (fun W hW => Check_any ⟨op, rd, r1, r2, imm, false, false, pred, succ⟩ hop W hW)
  have hN := Lib.hid (fun W hW => IName_any op hop W hW)
  have hF := Lib.hid (fun W hW => Form_any op hop W hW)
  rw [htt] at hT
  rw [hc] at hK
  rw [hf] at hF
  obtain ⟨hl, k44, k40, k41, hsh⟩ := body_shape ⟨op, rd, r1, r2, imm, false, false, pred, succ⟩ hc
  have hj4 : op ≠ 4 := fun e => by rw [e, form_4] at hf; exact absurd hf (by decide)
  replace k44 := k44.trans (show _ = 1 by simp [commasV, hf, hj4])
  replace k40 := k40.trans (show _ = 1 by simp [opensV, hf, hj4])
  replace k41 := k41.trans (show _ = 1 by simp [opensV, hf, hj4])
  obtain ⟨u, hbe⟩ : ∃ u, bodyT ⟨op, rd, r1, r2, imm, false, false, pred, succ⟩ = (opOf op).name ++ 32 :: u := by
    rcases hsh with h | h
    · exact absurd (hf.symm.trans h.1) (by decide)
    · exact h.2
  clear hsh htt
  generalize bodyT ⟨op, rd, r1, r2, imm, false, false, pred, succ⟩ = t at hT hl hbe k44 k40 k41
  generalize (opOf op).name = nm at hN hbe
  have hA : Hid (∀ W, Calls Tryd.prog 15 #[.string ⟨t.toArray⟩, .int .u8 44] W fun e w' => e = .returned (.int .i64 1) ∧ W = w') := Lib.hid fun W => by have := Count_any t 44 (by omega) W; rw [k44] at this; exact this
  have hA2 : Hid (∀ W, Calls Tryd.prog 15 #[.string ⟨t.toArray⟩, .int .u8 40] W fun e w' => e = .returned (.int .i64 1) ∧ W = w') := Lib.hid fun W => by have := Count_any t 40 (by omega) W; rw [k40] at this; exact this
  have hA3 : Hid (∀ W, Calls Tryd.prog 15 #[.string ⟨t.toArray⟩, .int .u8 41] W fun e w' => e = .returned (.int .i64 1) ∧ W = w') := Lib.hid fun W => by have := Count_any t 41 (by omega) W; rw [k41] at this; exact this
  clear k44 k40 k41
  replace hbe := Lib.hid hbe
  have q1 : decide ((t.length : Int) < (nm.length : Int)) = false := by rw [hbe.out]; simp; omega
  have q2 : nm.length ≤ t.length := by rw [hbe.out]; simp
  have q3 : nm.length < t.length := by rw [hbe.out]; simp
  have q4 : decide ((60 : Int) < (t.length : Int)) = false := by simp; omega
  have q5 : (⟨t.toArray⟩ : ByteArray).extract 0 nm.length = ⟨nm.toArray⟩ := by
    rw [hbe.out]; apply ByteArray.ext; simp [ByteArray.data_extract]
  have hsz : nm.length < (⟨t.toArray⟩ : ByteArray).size := by show _ < t.toArray.size; rw [List.size_toArray]; exact q3
  have q6 : (⟨t.toArray⟩ : ByteArray)[nm.length]'hsz = 32 := by
    have hat : (⟨t.toArray⟩ : ByteArray)[nm.length]'hsz = t[nm.length] := by show t.toArray[nm.length] = _; simp
    rw [hat]; have := hbe.out; subst this; simp
  have tj : (op == 4) = false := by simpa using hj4
  clear hj4
  clear hop him ht hp hc hf
  go_enter Tryd.func3, Tryd.ntmps3
  go_upto_region 5 with (first | (refine wpList_load_mid rfl 23 _ rfl w.heap.size 0 rfl (InsnV.cells ⟨op, rd, r1, r2, imm, false, false, pred, succ⟩).toList _ hB.c hu rfl hi ?_) | (go_at_call 10; refine (hL.out _ ht1 hp1).mono ?_; rintro e w1 ⟨rfl, hb1⟩; replace hB := hB.keep hb1; replace ht1 := ht1.later hb1 (Nat.le_refl _); replace hp1 := hp1.later hb1 (Nat.le_refl _); clear hb1) | (go_at_call 11; refine (hK.out _ ht1).mono ?_; rintro e w1 ⟨rfl, hb1⟩; replace hB := hB.keep hb1; replace ht1 := ht1.later hb1 (Nat.le_refl _); replace hp1 := hp1.later hb1 (Nat.le_refl _); clear hb1))
  refine wp_region_held_drew (S := fun W => XB w (InsnV.cells ⟨op, rd, r1, r2, imm, false, false, pred, succ⟩).toList W ∧ Tabs W ∧ P10 W) (by kernel_rfl) ⟨hB.keep (Below.refl _ _).drew, ht1.later (Below.refl _ _).drew (Nat.le_refl _), hp1.later (Below.refl _ _).drew (Nat.le_refl _)⟩ (fun hHeld => ?_)
  refine wpAnyH_take (i := 0) rfl (by kernel_rfl) (by kernel_rfl) (by kernel_rfl) (fun _ _ _ h => h) (yieldsIf_load_mid (by rfl) 23 _ rfl w.heap.size 0 rfl (InsnV.cells ⟨op, rd, r1, r2, imm, false, false, pred, succ⟩).toList _ (fun W hS => hS.1.c) hu rfl hi) hHeld ?_
  try simp only [Act.put, List.getElem_toArray, List.getElem_cons_zero, List.setIfInBounds_toArray, List.set_cons_zero, List.set_cons_succ]
  refine wpAnyH_take (i := 2) (v := .pointer (some ⟨w.heap.size, 0, none⟩)) rfl (by kernel_rfl) (by kernel_rfl) (by kernel_rfl) (fun _ _ _ h => h) (Or.inl ⟨by rfl, fun W _ => by kernel_rfl⟩) hHeld ?_
  try simp only [Act.put, List.getElem_toArray, List.getElem_cons_succ, List.getElem_cons_zero, List.setIfInBounds_toArray, List.set_cons_zero, List.set_cons_succ]
  refine wpAnyH_take (i := 3) (v := .int .i64 op) rfl (by kernel_rfl) (by kernel_rfl) (by kernel_rfl) (fun _ _ _ h => h) (Or.inl ⟨by rfl, fun W hS => by (have k : W.cell? ⟨w.heap.size, 0, none⟩ = some (.int .i64 op) := hS.1.at 0 _ rfl); go_simp⟩) hHeld ?_
  try simp only [Act.put, List.getElem_toArray, List.getElem_cons_succ, List.getElem_cons_zero, List.setIfInBounds_toArray, List.set_cons_zero, List.set_cons_succ]
  refine wpAnyH_ready (rs := [1]) (by kernel_rfl) (by simp) (AllReadyH.cons rfl (fun K hK2 => ?_) AllReadyH.nil)
  rw [if_pos (by rfl)]
  simp only [List.getElem_toArray, List.getElem_cons_succ, List.getElem_cons_zero]
  go_wp2_with (go_at_call 12; refine (hT.out _ hHeld.2.1 hHeld.2.2).mono ?_; rintro e w3 ⟨rfl, hb3⟩)
  refine hK2.out _ _ (⟨hHeld.1.keep hb3, hHeld.2.1.later hb3 (Nat.le_refl _), hHeld.2.2.later hb3 (Nat.le_refl _)⟩) (fun hHeld2 => ?_)
  clear hK2 K hHeld
  have hHeld := hHeld2
  clear hHeld2
  try simp only [Act.put, List.getElem_toArray, List.getElem_cons_succ, List.getElem_cons_zero, List.setIfInBounds_toArray, List.set_cons_zero, List.set_cons_succ]
  refine wpAnyH_ready (rs := [4]) (by kernel_rfl) (by simp) (AllReadyH.cons rfl (fun K hK2 => ?_) AllReadyH.nil)
  rw [if_pos (by rfl)]
  simp only [List.getElem_toArray, List.getElem_cons_succ, List.getElem_cons_zero]
  go_wp2_with (go_at_call 13; refine (hN.out _ hHeld.2.1).mono ?_; rintro e w3 ⟨rfl, hb3⟩)
  refine hK2.out _ _ (⟨hHeld.1.keep hb3, hHeld.2.1.later hb3 (Nat.le_refl _), hHeld.2.2.later hb3 (Nat.le_refl _)⟩) (fun hHeld2 => ?_)
  clear hK2 K hHeld
  have hHeld := hHeld2
  clear hHeld2
  try simp only [Act.put, List.getElem_toArray, List.getElem_cons_succ, List.getElem_cons_zero, List.setIfInBounds_toArray, List.set_cons_zero, List.set_cons_succ]
  refine wpAnyH_take (i := 5) (v := .string ⟨t.toArray⟩) rfl (by kernel_rfl) (by kernel_rfl) (by kernel_rfl) (fun _ _ _ h => h) (Or.inl ⟨by rfl, fun W _ => by kernel_rfl⟩) hHeld ?_
  try simp only [Act.put, List.getElem_toArray, List.getElem_cons_succ, List.getElem_cons_zero, List.setIfInBounds_toArray, List.set_cons_zero, List.set_cons_succ]
  refine wpAnyH_take (i := 6) (v := .string ⟨nm.toArray⟩) rfl (by kernel_rfl) (by kernel_rfl) (by kernel_rfl) (fun _ _ _ h => h) (Or.inl ⟨by rfl, fun W _ => by kernel_rfl⟩) hHeld ?_
  try simp only [Act.put, List.getElem_toArray, List.getElem_cons_succ, List.getElem_cons_zero, List.setIfInBounds_toArray, List.set_cons_zero, List.set_cons_succ]
  refine wpAnyH_done (by kernel_rfl) ?_ _
  replace hB := hHeld.1
  replace ht1 := hHeld.2.1
  replace hp1 := hHeld.2.2
  clear hHeld
  have c0 : _ = some (Value.int .i64 op) := hB.at 0 _ rfl; have c5 : _ = some (Value.bool false) := hB.at 5 _ rfl; have c6 : _ = some (Value.bool false) := hB.at 6 _ rfl
  go_upto_region 18 with (go_at_call 14; refine (hF.out _ ht1).mono ?_; rintro e w5 ⟨rfl, hb5⟩; replace hB := hB.keep hb5; clear c0 c5 c6; have c0 : _ = some (Value.int .i64 op) := hB.at 0 _ rfl; have c5 : _ = some (Value.bool false) := hB.at 5 _ rfl; have c6 : _ = some (Value.bool false) := hB.at 6 _ rfl)
  have q7 : ((t.length : Int) == (nm.length : Int)) = false := by rw [beq_eq_false_iff_ne]; omega
  have q8 : ¬ t.length < nm.length := by omega
  go_upto_region 20 with fail
  go_wp2_with (first | (go_at_call 15; (with_reducible refine (hA.out _).mono ?_); rintro e w6 ⟨rfl, rfl⟩) | (go_at_call 15; (with_reducible refine (hA2.out _).mono ?_); rintro e w6 ⟨rfl, rfl⟩) | (go_at_call 15; (with_reducible refine (hA3.out _).mono ?_); rintro e w6 ⟨rfl, rfl⟩))
  go_ret
  exact ⟨rfl, hB.bl⟩
set_option maxRecDepth 100000 in
set_option maxHeartbeats 8000000 in
theorem Shapes_5 (op rd r1 r2 imm pred succ : Int) (hop : op ≤ 9223372036854775807) (him : -9223372036854775808 ≤ imm ∧ imm ≤ 9223372036854775807) (hc : checkE ⟨op, rd, r1, r2, imm, false, false, pred, succ⟩ = 0) (hf : (opOf op).form = 5) (w : World) (ht : Tabs w) (hp : P10 w) :
    Calls Tryd.prog 3 #[.agg (InsnV.cells ⟨op, rd, r1, r2, imm, false, false, pred, succ⟩)] w fun e w' => e = .returned (.bool true) ∧ Below w.heap.size w w' := by
  have htt : textT ⟨op, rd, r1, r2, imm, false, false, pred, succ⟩ = bodyT ⟨op, rd, r1, r2, imm, false, false, pred, succ⟩ := if_pos hc
  have hB := XB.start w (InsnV.cells ⟨op, rd, r1, r2, imm, false, false, pred, succ⟩).toList 23
  rw [Array.toArray_toList] at hB
  have hu := Tryd.underlying23
  have hi : (Tryd.prog.info? 23).map (·.size) = some (InsnV.cells ⟨op, rd, r1, r2, imm, false, false, pred, succ⟩).toList.length := by kernel_rfl
  have ht1 := ht.later ((Below.refl _ w).alloc (Nat.le_refl _) (.cells (InsnV.cells ⟨op, rd, r1, r2, imm, false, false, pred, succ⟩) 23)) (Nat.le_refl _)
  have hp1 := hp.later ((Below.refl _ w).alloc (Nat.le_refl _) (.cells (InsnV.cells ⟨op, rd, r1, r2, imm, false, false, pred, succ⟩) 23)) (Nat.le_refl _)
  have hL := Lib.hid (fun W h1 h2 => Lives2_any W h1 h2)
  have hT := Lib.hid (fun W h1 h2 => LText_any ⟨op, rd, r1, r2, imm, false, false, pred, succ⟩ hop him W h1 h2)
  have hK := Lib.hid (fun W hW => Check_any ⟨op, rd, r1, r2, imm, false, false, pred, succ⟩ hop W hW)
  have hN := Lib.hid (fun W hW => IName_any op hop W hW)
  have hF := Lib.hid (fun W hW => Form_any op hop W hW)
  rw [htt] at hT
  rw [hc] at hK
  rw [hf] at hF
  obtain ⟨hl, k44, k40, k41, hsh⟩ := body_shape ⟨op, rd, r1, r2, imm, false, false, pred, succ⟩ hc
  have hj4 : op ≠ 4 := fun e => by rw [e, form_4] at hf; exact absurd hf (by decide)
  replace k44 := k44.trans (show _ = 1 by simp [commasV, hf, hj4])
  replace k40 := k40.trans (show _ = 1 by simp [opensV, hf, hj4])
  replace k41 := k41.trans (show _ = 1 by simp [opensV, hf, hj4])
  obtain ⟨u, hbe⟩ : ∃ u, bodyT ⟨op, rd, r1, r2, imm, false, false, pred, succ⟩ = (opOf op).name ++ 32 :: u := by
    rcases hsh with h | h
    · exact absurd (hf.symm.trans h.1) (by decide)
    · exact h.2
  clear hsh htt
  generalize bodyT ⟨op, rd, r1, r2, imm, false, false, pred, succ⟩ = t at hT hl hbe k44 k40 k41
  generalize (opOf op).name = nm at hN hbe
  have hA : Hid (∀ W, Calls Tryd.prog 15 #[.string ⟨t.toArray⟩, .int .u8 44] W fun e w' => e = .returned (.int .i64 1) ∧ W = w') := Lib.hid fun W => by have := Count_any t 44 (by omega) W; rw [k44] at this; exact this
  have hA2 : Hid (∀ W, Calls Tryd.prog 15 #[.string ⟨t.toArray⟩, .int .u8 40] W fun e w' => e = .returned (.int .i64 1) ∧ W = w') := Lib.hid fun W => by have := Count_any t 40 (by omega) W; rw [k40] at this; exact this
  have hA3 : Hid (∀ W, Calls Tryd.prog 15 #[.string ⟨t.toArray⟩, .int .u8 41] W fun e w' => e = .returned (.int .i64 1) ∧ W = w') := Lib.hid fun W => by have := Count_any t 41 (by omega) W; rw [k41] at this; exact this
  clear k44 k40 k41
  replace hbe := Lib.hid hbe
  have q1 : decide ((t.length : Int) < (nm.length : Int)) = false := by rw [hbe.out]; simp; omega
  have q2 : nm.length ≤ t.length := by rw [hbe.out]; simp
  have q3 : nm.length < t.length := by rw [hbe.out]; simp
  have q4 : decide ((60 : Int) < (t.length : Int)) = false := by simp; omega
  have q5 : (⟨t.toArray⟩ : ByteArray).extract 0 nm.length = ⟨nm.toArray⟩ := by
    rw [hbe.out]; apply ByteArray.ext; simp [ByteArray.data_extract]
  have hsz : nm.length < (⟨t.toArray⟩ : ByteArray).size := by show _ < t.toArray.size; rw [List.size_toArray]; exact q3
  have q6 : (⟨t.toArray⟩ : ByteArray)[nm.length]'hsz = 32 := by
    have hat : (⟨t.toArray⟩ : ByteArray)[nm.length]'hsz = t[nm.length] := by show t.toArray[nm.length] = _; simp
    rw [hat]; have := hbe.out; subst this; simp
  have tj : (op == 4) = false := by simpa using hj4
  clear hj4
  clear hop him ht hp hc hf
  go_enter Tryd.func3, Tryd.ntmps3
  go_upto_region 5 with (first | (refine wpList_load_mid rfl 23 _ rfl w.heap.size 0 rfl (InsnV.cells ⟨op, rd, r1, r2, imm, false, false, pred, succ⟩).toList _ hB.c hu rfl hi ?_) | (go_at_call 10; refine (hL.out _ ht1 hp1).mono ?_; rintro e w1 ⟨rfl, hb1⟩; replace hB := hB.keep hb1; replace ht1 := ht1.later hb1 (Nat.le_refl _); replace hp1 := hp1.later hb1 (Nat.le_refl _); clear hb1) | (go_at_call 11; refine (hK.out _ ht1).mono ?_; rintro e w1 ⟨rfl, hb1⟩; replace hB := hB.keep hb1; replace ht1 := ht1.later hb1 (Nat.le_refl _); replace hp1 := hp1.later hb1 (Nat.le_refl _); clear hb1))
  refine wp_region_held_drew (S := fun W => XB w (InsnV.cells ⟨op, rd, r1, r2, imm, false, false, pred, succ⟩).toList W ∧ Tabs W ∧ P10 W) (by kernel_rfl) ⟨hB.keep (Below.refl _ _).drew, ht1.later (Below.refl _ _).drew (Nat.le_refl _), hp1.later (Below.refl _ _).drew (Nat.le_refl _)⟩ (fun hHeld => ?_)
  refine wpAnyH_take (i := 0) rfl (by kernel_rfl) (by kernel_rfl) (by kernel_rfl) (fun _ _ _ h => h) (yieldsIf_load_mid (by rfl) 23 _ rfl w.heap.size 0 rfl (InsnV.cells ⟨op, rd, r1, r2, imm, false, false, pred, succ⟩).toList _ (fun W hS => hS.1.c) hu rfl hi) hHeld ?_
  try simp only [Act.put, List.getElem_toArray, List.getElem_cons_zero, List.setIfInBounds_toArray, List.set_cons_zero, List.set_cons_succ]
  refine wpAnyH_take (i := 2) (v := .pointer (some ⟨w.heap.size, 0, none⟩)) rfl (by kernel_rfl) (by kernel_rfl) (by kernel_rfl) (fun _ _ _ h => h) (Or.inl ⟨by rfl, fun W _ => by kernel_rfl⟩) hHeld ?_
  try simp only [Act.put, List.getElem_toArray, List.getElem_cons_succ, List.getElem_cons_zero, List.setIfInBounds_toArray, List.set_cons_zero, List.set_cons_succ]
  refine wpAnyH_take (i := 3) (v := .int .i64 op) rfl (by kernel_rfl) (by kernel_rfl) (by kernel_rfl) (fun _ _ _ h => h) (Or.inl ⟨by rfl, fun W hS => by (have k : W.cell? ⟨w.heap.size, 0, none⟩ = some (.int .i64 op) := hS.1.at 0 _ rfl); go_simp⟩) hHeld ?_
  try simp only [Act.put, List.getElem_toArray, List.getElem_cons_succ, List.getElem_cons_zero, List.setIfInBounds_toArray, List.set_cons_zero, List.set_cons_succ]
  refine wpAnyH_ready (rs := [1]) (by kernel_rfl) (by simp) (AllReadyH.cons rfl (fun K hK2 => ?_) AllReadyH.nil)
  rw [if_pos (by rfl)]
  simp only [List.getElem_toArray, List.getElem_cons_succ, List.getElem_cons_zero]
  go_wp2_with (go_at_call 12; refine (hT.out _ hHeld.2.1 hHeld.2.2).mono ?_; rintro e w3 ⟨rfl, hb3⟩)
  refine hK2.out _ _ (⟨hHeld.1.keep hb3, hHeld.2.1.later hb3 (Nat.le_refl _), hHeld.2.2.later hb3 (Nat.le_refl _)⟩) (fun hHeld2 => ?_)
  clear hK2 K hHeld
  have hHeld := hHeld2
  clear hHeld2
  try simp only [Act.put, List.getElem_toArray, List.getElem_cons_succ, List.getElem_cons_zero, List.setIfInBounds_toArray, List.set_cons_zero, List.set_cons_succ]
  refine wpAnyH_ready (rs := [4]) (by kernel_rfl) (by simp) (AllReadyH.cons rfl (fun K hK2 => ?_) AllReadyH.nil)
  rw [if_pos (by rfl)]
  simp only [List.getElem_toArray, List.getElem_cons_succ, List.getElem_cons_zero]
  go_wp2_with (go_at_call 13; refine (hN.out _ hHeld.2.1).mono ?_; rintro e w3 ⟨rfl, hb3⟩)
  refine hK2.out _ _ (⟨hHeld.1.keep hb3, hHeld.2.1.later hb3 (Nat.le_refl _), hHeld.2.2.later hb3 (Nat.le_refl _)⟩) (fun hHeld2 => ?_)
  clear hK2 K hHeld
  have hHeld := hHeld2
  clear hHeld2
  try simp only [Act.put, List.getElem_toArray, List.getElem_cons_succ, List.getElem_cons_zero, List.setIfInBounds_toArray, List.set_cons_zero, List.set_cons_succ]
  refine wpAnyH_take (i := 5) (v := .string ⟨t.toArray⟩) rfl (by kernel_rfl) (by kernel_rfl) (by kernel_rfl) (fun _ _ _ h => h) (Or.inl ⟨by rfl, fun W _ => by kernel_rfl⟩) hHeld ?_
  try simp only [Act.put, List.getElem_toArray, List.getElem_cons_succ, List.getElem_cons_zero, List.setIfInBounds_toArray, List.set_cons_zero, List.set_cons_succ]
  refine wpAnyH_take (i := 6) (v := .string ⟨nm.toArray⟩) rfl (by kernel_rfl) (by kernel_rfl) (by kernel_rfl) (fun _ _ _ h => h) (Or.inl ⟨by rfl, fun W _ => by kernel_rfl⟩) hHeld ?_
  try simp only [Act.put, List.getElem_toArray, List.getElem_cons_succ, List.getElem_cons_zero, List.setIfInBounds_toArray, List.set_cons_zero, List.set_cons_succ]
  refine wpAnyH_done (by kernel_rfl) ?_ _
  replace hB := hHeld.1
  replace ht1 := hHeld.2.1
  replace hp1 := hHeld.2.2
  clear hHeld
  have c0 : _ = some (Value.int .i64 op) := hB.at 0 _ rfl; have c5 : _ = some (Value.bool false) := hB.at 5 _ rfl; have c6 : _ = some (Value.bool false) := hB.at 6 _ rfl
  go_upto_region 18 with (go_at_call 14; refine (hF.out _ ht1).mono ?_; rintro e w5 ⟨rfl, hb5⟩; replace hB := hB.keep hb5; clear c0 c5 c6; have c0 : _ = some (Value.int .i64 op) := hB.at 0 _ rfl; have c5 : _ = some (Value.bool false) := hB.at 5 _ rfl; have c6 : _ = some (Value.bool false) := hB.at 6 _ rfl)
  have q7 : ((t.length : Int) == (nm.length : Int)) = false := by rw [beq_eq_false_iff_ne]; omega
  have q8 : ¬ t.length < nm.length := by omega
  go_upto_region 20 with fail
  go_wp2_with (first | (go_at_call 15; (with_reducible refine (hA.out _).mono ?_); rintro e w6 ⟨rfl, rfl⟩) | (go_at_call 15; (with_reducible refine (hA2.out _).mono ?_); rintro e w6 ⟨rfl, rfl⟩) | (go_at_call 15; (with_reducible refine (hA3.out _).mono ?_); rintro e w6 ⟨rfl, rfl⟩))
  go_ret
  exact ⟨rfl, hB.bl⟩
set_option maxRecDepth 100000 in
set_option maxHeartbeats 8000000 in
theorem Shapes_6 (op rd r1 r2 imm pred succ : Int) (hop : op ≤ 9223372036854775807) (him : -9223372036854775808 ≤ imm ∧ imm ≤ 9223372036854775807) (hc : checkE ⟨op, rd, r1, r2, imm, false, false, pred, succ⟩ = 0) (hf : (opOf op).form = 6) (w : World) (ht : Tabs w) (hp : P10 w) :
    Calls Tryd.prog 3 #[.agg (InsnV.cells ⟨op, rd, r1, r2, imm, false, false, pred, succ⟩)] w fun e w' => e = .returned (.bool true) ∧ Below w.heap.size w w' := by
  have htt : textT ⟨op, rd, r1, r2, imm, false, false, pred, succ⟩ = bodyT ⟨op, rd, r1, r2, imm, false, false, pred, succ⟩ := if_pos hc
  have hB := XB.start w (InsnV.cells ⟨op, rd, r1, r2, imm, false, false, pred, succ⟩).toList 23
  rw [Array.toArray_toList] at hB
  have hu := Tryd.underlying23
  have hi : (Tryd.prog.info? 23).map (·.size) = some (InsnV.cells ⟨op, rd, r1, r2, imm, false, false, pred, succ⟩).toList.length := by kernel_rfl
  have ht1 := ht.later ((Below.refl _ w).alloc (Nat.le_refl _) (.cells (InsnV.cells ⟨op, rd, r1, r2, imm, false, false, pred, succ⟩) 23)) (Nat.le_refl _)
  have hp1 := hp.later ((Below.refl _ w).alloc (Nat.le_refl _) (.cells (InsnV.cells ⟨op, rd, r1, r2, imm, false, false, pred, succ⟩) 23)) (Nat.le_refl _)
  have hL := Lib.hid (fun W h1 h2 => Lives2_any W h1 h2)
  have hT := Lib.hid (fun W h1 h2 => LText_any ⟨op, rd, r1, r2, imm, false, false, pred, succ⟩ hop him W h1 h2)
  have hK := Lib.hid (fun W hW => Check_any ⟨op, rd, r1, r2, imm, false, false, pred, succ⟩ hop W hW)
  have hN := Lib.hid (fun W hW => IName_any op hop W hW)
  have hF := Lib.hid (fun W hW => Form_any op hop W hW)
  rw [htt] at hT
  rw [hc] at hK
  rw [hf] at hF
  obtain ⟨hl, k44, k40, k41, hsh⟩ := body_shape ⟨op, rd, r1, r2, imm, false, false, pred, succ⟩ hc
  have hj4 : op ≠ 4 := fun e => by rw [e, form_4] at hf; exact absurd hf (by decide)
  replace k44 := k44.trans (show _ = 2 by simp [commasV, hf, hj4])
  replace k40 := k40.trans (show _ = 0 by simp [opensV, hf, hj4])
  replace k41 := k41.trans (show _ = 0 by simp [opensV, hf, hj4])
  obtain ⟨u, hbe⟩ : ∃ u, bodyT ⟨op, rd, r1, r2, imm, false, false, pred, succ⟩ = (opOf op).name ++ 32 :: u := by
    rcases hsh with h | h
    · exact absurd (hf.symm.trans h.1) (by decide)
    · exact h.2
  clear hsh htt
  generalize bodyT ⟨op, rd, r1, r2, imm, false, false, pred, succ⟩ = t at hT hl hbe k44 k40 k41
  generalize (opOf op).name = nm at hN hbe
  have hA : Hid (∀ W, Calls Tryd.prog 15 #[.string ⟨t.toArray⟩, .int .u8 44] W fun e w' => e = .returned (.int .i64 2) ∧ W = w') := Lib.hid fun W => by have := Count_any t 44 (by omega) W; rw [k44] at this; exact this
  have hA2 : Hid (∀ W, Calls Tryd.prog 15 #[.string ⟨t.toArray⟩, .int .u8 40] W fun e w' => e = .returned (.int .i64 0) ∧ W = w') := Lib.hid fun W => by have := Count_any t 40 (by omega) W; rw [k40] at this; exact this
  have hA3 : Hid (∀ W, Calls Tryd.prog 15 #[.string ⟨t.toArray⟩, .int .u8 41] W fun e w' => e = .returned (.int .i64 0) ∧ W = w') := Lib.hid fun W => by have := Count_any t 41 (by omega) W; rw [k41] at this; exact this
  clear k44 k40 k41
  replace hbe := Lib.hid hbe
  have q1 : decide ((t.length : Int) < (nm.length : Int)) = false := by rw [hbe.out]; simp; omega
  have q2 : nm.length ≤ t.length := by rw [hbe.out]; simp
  have q3 : nm.length < t.length := by rw [hbe.out]; simp
  have q4 : decide ((60 : Int) < (t.length : Int)) = false := by simp; omega
  have q5 : (⟨t.toArray⟩ : ByteArray).extract 0 nm.length = ⟨nm.toArray⟩ := by
    rw [hbe.out]; apply ByteArray.ext; simp [ByteArray.data_extract]
  have hsz : nm.length < (⟨t.toArray⟩ : ByteArray).size := by show _ < t.toArray.size; rw [List.size_toArray]; exact q3
  have q6 : (⟨t.toArray⟩ : ByteArray)[nm.length]'hsz = 32 := by
    have hat : (⟨t.toArray⟩ : ByteArray)[nm.length]'hsz = t[nm.length] := by show t.toArray[nm.length] = _; simp
    rw [hat]; have := hbe.out; subst this; simp
  have tj : (op == 4) = false := by simpa using hj4
  clear hj4
  clear hop him ht hp hc hf
  go_enter Tryd.func3, Tryd.ntmps3
  go_upto_region 5 with (first | (refine wpList_load_mid rfl 23 _ rfl w.heap.size 0 rfl (InsnV.cells ⟨op, rd, r1, r2, imm, false, false, pred, succ⟩).toList _ hB.c hu rfl hi ?_) | (go_at_call 10; refine (hL.out _ ht1 hp1).mono ?_; rintro e w1 ⟨rfl, hb1⟩; replace hB := hB.keep hb1; replace ht1 := ht1.later hb1 (Nat.le_refl _); replace hp1 := hp1.later hb1 (Nat.le_refl _); clear hb1) | (go_at_call 11; refine (hK.out _ ht1).mono ?_; rintro e w1 ⟨rfl, hb1⟩; replace hB := hB.keep hb1; replace ht1 := ht1.later hb1 (Nat.le_refl _); replace hp1 := hp1.later hb1 (Nat.le_refl _); clear hb1))
  refine wp_region_held_drew (S := fun W => XB w (InsnV.cells ⟨op, rd, r1, r2, imm, false, false, pred, succ⟩).toList W ∧ Tabs W ∧ P10 W) (by kernel_rfl) ⟨hB.keep (Below.refl _ _).drew, ht1.later (Below.refl _ _).drew (Nat.le_refl _), hp1.later (Below.refl _ _).drew (Nat.le_refl _)⟩ (fun hHeld => ?_)
  refine wpAnyH_take (i := 0) rfl (by kernel_rfl) (by kernel_rfl) (by kernel_rfl) (fun _ _ _ h => h) (yieldsIf_load_mid (by rfl) 23 _ rfl w.heap.size 0 rfl (InsnV.cells ⟨op, rd, r1, r2, imm, false, false, pred, succ⟩).toList _ (fun W hS => hS.1.c) hu rfl hi) hHeld ?_
  try simp only [Act.put, List.getElem_toArray, List.getElem_cons_zero, List.setIfInBounds_toArray, List.set_cons_zero, List.set_cons_succ]
  refine wpAnyH_take (i := 2) (v := .pointer (some ⟨w.heap.size, 0, none⟩)) rfl (by kernel_rfl) (by kernel_rfl) (by kernel_rfl) (fun _ _ _ h => h) (Or.inl ⟨by rfl, fun W _ => by kernel_rfl⟩) hHeld ?_
  try simp only [Act.put, List.getElem_toArray, List.getElem_cons_succ, List.getElem_cons_zero, List.setIfInBounds_toArray, List.set_cons_zero, List.set_cons_succ]
  refine wpAnyH_take (i := 3) (v := .int .i64 op) rfl (by kernel_rfl) (by kernel_rfl) (by kernel_rfl) (fun _ _ _ h => h) (Or.inl ⟨by rfl, fun W hS => by (have k : W.cell? ⟨w.heap.size, 0, none⟩ = some (.int .i64 op) := hS.1.at 0 _ rfl); go_simp⟩) hHeld ?_
  try simp only [Act.put, List.getElem_toArray, List.getElem_cons_succ, List.getElem_cons_zero, List.setIfInBounds_toArray, List.set_cons_zero, List.set_cons_succ]
  refine wpAnyH_ready (rs := [1]) (by kernel_rfl) (by simp) (AllReadyH.cons rfl (fun K hK2 => ?_) AllReadyH.nil)
  rw [if_pos (by rfl)]
  simp only [List.getElem_toArray, List.getElem_cons_succ, List.getElem_cons_zero]
  go_wp2_with (go_at_call 12; refine (hT.out _ hHeld.2.1 hHeld.2.2).mono ?_; rintro e w3 ⟨rfl, hb3⟩)
  refine hK2.out _ _ (⟨hHeld.1.keep hb3, hHeld.2.1.later hb3 (Nat.le_refl _), hHeld.2.2.later hb3 (Nat.le_refl _)⟩) (fun hHeld2 => ?_)
  clear hK2 K hHeld
  have hHeld := hHeld2
  clear hHeld2
  try simp only [Act.put, List.getElem_toArray, List.getElem_cons_succ, List.getElem_cons_zero, List.setIfInBounds_toArray, List.set_cons_zero, List.set_cons_succ]
  refine wpAnyH_ready (rs := [4]) (by kernel_rfl) (by simp) (AllReadyH.cons rfl (fun K hK2 => ?_) AllReadyH.nil)
  rw [if_pos (by rfl)]
  simp only [List.getElem_toArray, List.getElem_cons_succ, List.getElem_cons_zero]
  go_wp2_with (go_at_call 13; refine (hN.out _ hHeld.2.1).mono ?_; rintro e w3 ⟨rfl, hb3⟩)
  refine hK2.out _ _ (⟨hHeld.1.keep hb3, hHeld.2.1.later hb3 (Nat.le_refl _), hHeld.2.2.later hb3 (Nat.le_refl _)⟩) (fun hHeld2 => ?_)
  clear hK2 K hHeld
  have hHeld := hHeld2
  clear hHeld2
  try simp only [Act.put, List.getElem_toArray, List.getElem_cons_succ, List.getElem_cons_zero, List.setIfInBounds_toArray, List.set_cons_zero, List.set_cons_succ]
  refine wpAnyH_take (i := 5) (v := .string ⟨t.toArray⟩) rfl (by kernel_rfl) (by kernel_rfl) (by kernel_rfl) (fun _ _ _ h => h) (Or.inl ⟨by rfl, fun W _ => by kernel_rfl⟩) hHeld ?_
  try simp only [Act.put, List.getElem_toArray, List.getElem_cons_succ, List.getElem_cons_zero, List.setIfInBounds_toArray, List.set_cons_zero, List.set_cons_succ]
  refine wpAnyH_take (i := 6) (v := .string ⟨nm.toArray⟩) rfl (by kernel_rfl) (by kernel_rfl) (by kernel_rfl) (fun _ _ _ h => h) (Or.inl ⟨by rfl, fun W _ => by kernel_rfl⟩) hHeld ?_
  try simp only [Act.put, List.getElem_toArray, List.getElem_cons_succ, List.getElem_cons_zero, List.setIfInBounds_toArray, List.set_cons_zero, List.set_cons_succ]
  refine wpAnyH_done (by kernel_rfl) ?_ _
  replace hB := hHeld.1
  replace ht1 := hHeld.2.1
  replace hp1 := hHeld.2.2
  clear hHeld
  have c0 : _ = some (Value.int .i64 op) := hB.at 0 _ rfl; have c5 : _ = some (Value.bool false) := hB.at 5 _ rfl; have c6 : _ = some (Value.bool false) := hB.at 6 _ rfl
  go_upto_region 18 with (go_at_call 14; refine (hF.out _ ht1).mono ?_; rintro e w5 ⟨rfl, hb5⟩; replace hB := hB.keep hb5; clear c0 c5 c6; have c0 : _ = some (Value.int .i64 op) := hB.at 0 _ rfl; have c5 : _ = some (Value.bool false) := hB.at 5 _ rfl; have c6 : _ = some (Value.bool false) := hB.at 6 _ rfl)
  have q7 : ((t.length : Int) == (nm.length : Int)) = false := by rw [beq_eq_false_iff_ne]; omega
  have q8 : ¬ t.length < nm.length := by omega
  go_upto_region 20 with fail
  go_wp2_with (first | (go_at_call 15; (with_reducible refine (hA.out _).mono ?_); rintro e w6 ⟨rfl, rfl⟩) | (go_at_call 15; (with_reducible refine (hA2.out _).mono ?_); rintro e w6 ⟨rfl, rfl⟩) | (go_at_call 15; (with_reducible refine (hA3.out _).mono ?_); rintro e w6 ⟨rfl, rfl⟩))
  go_ret
  exact ⟨rfl, hB.bl⟩
set_option maxRecDepth 100000 in
set_option maxHeartbeats 8000000 in
theorem Shapes_7 (op rd r1 r2 imm pred succ : Int) (hop : op ≤ 9223372036854775807) (him : -9223372036854775808 ≤ imm ∧ imm ≤ 9223372036854775807) (hc : checkE ⟨op, rd, r1, r2, imm, false, false, pred, succ⟩ = 0) (hf : (opOf op).form = 7) (w : World) (ht : Tabs w) (hp : P10 w) :
    Calls Tryd.prog 3 #[.agg (InsnV.cells ⟨op, rd, r1, r2, imm, false, false, pred, succ⟩)] w fun e w' => e = .returned (.bool true) ∧ Below w.heap.size w w' := by
  have htt : textT ⟨op, rd, r1, r2, imm, false, false, pred, succ⟩ = bodyT ⟨op, rd, r1, r2, imm, false, false, pred, succ⟩ := if_pos hc
  have hB := XB.start w (InsnV.cells ⟨op, rd, r1, r2, imm, false, false, pred, succ⟩).toList 23
  rw [Array.toArray_toList] at hB
  have hu := Tryd.underlying23
  have hi : (Tryd.prog.info? 23).map (·.size) = some (InsnV.cells ⟨op, rd, r1, r2, imm, false, false, pred, succ⟩).toList.length := by kernel_rfl
  have ht1 := ht.later ((Below.refl _ w).alloc (Nat.le_refl _) (.cells (InsnV.cells ⟨op, rd, r1, r2, imm, false, false, pred, succ⟩) 23)) (Nat.le_refl _)
  have hp1 := hp.later ((Below.refl _ w).alloc (Nat.le_refl _) (.cells (InsnV.cells ⟨op, rd, r1, r2, imm, false, false, pred, succ⟩) 23)) (Nat.le_refl _)
  have hL := Lib.hid (fun W h1 h2 => Lives2_any W h1 h2)
  have hT := Lib.hid (fun W h1 h2 => LText_any ⟨op, rd, r1, r2, imm, false, false, pred, succ⟩ hop him W h1 h2)
  have hK := Lib.hid (fun W hW => Check_any ⟨op, rd, r1, r2, imm, false, false, pred, succ⟩ hop W hW)
  have hN := Lib.hid (fun W hW => IName_any op hop W hW)
  have hF := Lib.hid (fun W hW => Form_any op hop W hW)
  rw [htt] at hT
  rw [hc] at hK
  rw [hf] at hF
  obtain ⟨hl, k44, k40, k41, hsh⟩ := body_shape ⟨op, rd, r1, r2, imm, false, false, pred, succ⟩ hc
  have hj4 : op ≠ 4 := fun e => by rw [e, form_4] at hf; exact absurd hf (by decide)
  replace k44 := k44.trans (show _ = 2 by simp [commasV, hf, hj4])
  replace k40 := k40.trans (show _ = 0 by simp [opensV, hf, hj4])
  replace k41 := k41.trans (show _ = 0 by simp [opensV, hf, hj4])
  obtain ⟨u, hbe⟩ : ∃ u, bodyT ⟨op, rd, r1, r2, imm, false, false, pred, succ⟩ = (opOf op).name ++ 32 :: u := by
    rcases hsh with h | h
    · exact absurd (hf.symm.trans h.1) (by decide)
    · exact h.2
  clear hsh htt
  generalize bodyT ⟨op, rd, r1, r2, imm, false, false, pred, succ⟩ = t at hT hl hbe k44 k40 k41
  generalize (opOf op).name = nm at hN hbe
  have hA : Hid (∀ W, Calls Tryd.prog 15 #[.string ⟨t.toArray⟩, .int .u8 44] W fun e w' => e = .returned (.int .i64 2) ∧ W = w') := Lib.hid fun W => by have := Count_any t 44 (by omega) W; rw [k44] at this; exact this
  have hA2 : Hid (∀ W, Calls Tryd.prog 15 #[.string ⟨t.toArray⟩, .int .u8 40] W fun e w' => e = .returned (.int .i64 0) ∧ W = w') := Lib.hid fun W => by have := Count_any t 40 (by omega) W; rw [k40] at this; exact this
  have hA3 : Hid (∀ W, Calls Tryd.prog 15 #[.string ⟨t.toArray⟩, .int .u8 41] W fun e w' => e = .returned (.int .i64 0) ∧ W = w') := Lib.hid fun W => by have := Count_any t 41 (by omega) W; rw [k41] at this; exact this
  clear k44 k40 k41
  replace hbe := Lib.hid hbe
  have q1 : decide ((t.length : Int) < (nm.length : Int)) = false := by rw [hbe.out]; simp; omega
  have q2 : nm.length ≤ t.length := by rw [hbe.out]; simp
  have q3 : nm.length < t.length := by rw [hbe.out]; simp
  have q4 : decide ((60 : Int) < (t.length : Int)) = false := by simp; omega
  have q5 : (⟨t.toArray⟩ : ByteArray).extract 0 nm.length = ⟨nm.toArray⟩ := by
    rw [hbe.out]; apply ByteArray.ext; simp [ByteArray.data_extract]
  have hsz : nm.length < (⟨t.toArray⟩ : ByteArray).size := by show _ < t.toArray.size; rw [List.size_toArray]; exact q3
  have q6 : (⟨t.toArray⟩ : ByteArray)[nm.length]'hsz = 32 := by
    have hat : (⟨t.toArray⟩ : ByteArray)[nm.length]'hsz = t[nm.length] := by show t.toArray[nm.length] = _; simp
    rw [hat]; have := hbe.out; subst this; simp
  have tj : (op == 4) = false := by simpa using hj4
  clear hj4
  clear hop him ht hp hc hf
  go_enter Tryd.func3, Tryd.ntmps3
  go_upto_region 5 with (first | (refine wpList_load_mid rfl 23 _ rfl w.heap.size 0 rfl (InsnV.cells ⟨op, rd, r1, r2, imm, false, false, pred, succ⟩).toList _ hB.c hu rfl hi ?_) | (go_at_call 10; refine (hL.out _ ht1 hp1).mono ?_; rintro e w1 ⟨rfl, hb1⟩; replace hB := hB.keep hb1; replace ht1 := ht1.later hb1 (Nat.le_refl _); replace hp1 := hp1.later hb1 (Nat.le_refl _); clear hb1) | (go_at_call 11; refine (hK.out _ ht1).mono ?_; rintro e w1 ⟨rfl, hb1⟩; replace hB := hB.keep hb1; replace ht1 := ht1.later hb1 (Nat.le_refl _); replace hp1 := hp1.later hb1 (Nat.le_refl _); clear hb1))
  refine wp_region_held_drew (S := fun W => XB w (InsnV.cells ⟨op, rd, r1, r2, imm, false, false, pred, succ⟩).toList W ∧ Tabs W ∧ P10 W) (by kernel_rfl) ⟨hB.keep (Below.refl _ _).drew, ht1.later (Below.refl _ _).drew (Nat.le_refl _), hp1.later (Below.refl _ _).drew (Nat.le_refl _)⟩ (fun hHeld => ?_)
  refine wpAnyH_take (i := 0) rfl (by kernel_rfl) (by kernel_rfl) (by kernel_rfl) (fun _ _ _ h => h) (yieldsIf_load_mid (by rfl) 23 _ rfl w.heap.size 0 rfl (InsnV.cells ⟨op, rd, r1, r2, imm, false, false, pred, succ⟩).toList _ (fun W hS => hS.1.c) hu rfl hi) hHeld ?_
  try simp only [Act.put, List.getElem_toArray, List.getElem_cons_zero, List.setIfInBounds_toArray, List.set_cons_zero, List.set_cons_succ]
  refine wpAnyH_take (i := 2) (v := .pointer (some ⟨w.heap.size, 0, none⟩)) rfl (by kernel_rfl) (by kernel_rfl) (by kernel_rfl) (fun _ _ _ h => h) (Or.inl ⟨by rfl, fun W _ => by kernel_rfl⟩) hHeld ?_
  try simp only [Act.put, List.getElem_toArray, List.getElem_cons_succ, List.getElem_cons_zero, List.setIfInBounds_toArray, List.set_cons_zero, List.set_cons_succ]
  refine wpAnyH_take (i := 3) (v := .int .i64 op) rfl (by kernel_rfl) (by kernel_rfl) (by kernel_rfl) (fun _ _ _ h => h) (Or.inl ⟨by rfl, fun W hS => by (have k : W.cell? ⟨w.heap.size, 0, none⟩ = some (.int .i64 op) := hS.1.at 0 _ rfl); go_simp⟩) hHeld ?_
  try simp only [Act.put, List.getElem_toArray, List.getElem_cons_succ, List.getElem_cons_zero, List.setIfInBounds_toArray, List.set_cons_zero, List.set_cons_succ]
  refine wpAnyH_ready (rs := [1]) (by kernel_rfl) (by simp) (AllReadyH.cons rfl (fun K hK2 => ?_) AllReadyH.nil)
  rw [if_pos (by rfl)]
  simp only [List.getElem_toArray, List.getElem_cons_succ, List.getElem_cons_zero]
  go_wp2_with (go_at_call 12; refine (hT.out _ hHeld.2.1 hHeld.2.2).mono ?_; rintro e w3 ⟨rfl, hb3⟩)
  refine hK2.out _ _ (⟨hHeld.1.keep hb3, hHeld.2.1.later hb3 (Nat.le_refl _), hHeld.2.2.later hb3 (Nat.le_refl _)⟩) (fun hHeld2 => ?_)
  clear hK2 K hHeld
  have hHeld := hHeld2
  clear hHeld2
  try simp only [Act.put, List.getElem_toArray, List.getElem_cons_succ, List.getElem_cons_zero, List.setIfInBounds_toArray, List.set_cons_zero, List.set_cons_succ]
  refine wpAnyH_ready (rs := [4]) (by kernel_rfl) (by simp) (AllReadyH.cons rfl (fun K hK2 => ?_) AllReadyH.nil)
  rw [if_pos (by rfl)]
  simp only [List.getElem_toArray, List.getElem_cons_succ, List.getElem_cons_zero]
  go_wp2_with (go_at_call 13; refine (hN.out _ hHeld.2.1).mono ?_; rintro e w3 ⟨rfl, hb3⟩)
  refine hK2.out _ _ (⟨hHeld.1.keep hb3, hHeld.2.1.later hb3 (Nat.le_refl _), hHeld.2.2.later hb3 (Nat.le_refl _)⟩) (fun hHeld2 => ?_)
  clear hK2 K hHeld
  have hHeld := hHeld2
  clear hHeld2
  try simp only [Act.put, List.getElem_toArray, List.getElem_cons_succ, List.getElem_cons_zero, List.setIfInBounds_toArray, List.set_cons_zero, List.set_cons_succ]
  refine wpAnyH_take (i := 5) (v := .string ⟨t.toArray⟩) rfl (by kernel_rfl) (by kernel_rfl) (by kernel_rfl) (fun _ _ _ h => h) (Or.inl ⟨by rfl, fun W _ => by kernel_rfl⟩) hHeld ?_
  try simp only [Act.put, List.getElem_toArray, List.getElem_cons_succ, List.getElem_cons_zero, List.setIfInBounds_toArray, List.set_cons_zero, List.set_cons_succ]
  refine wpAnyH_take (i := 6) (v := .string ⟨nm.toArray⟩) rfl (by kernel_rfl) (by kernel_rfl) (by kernel_rfl) (fun _ _ _ h => h) (Or.inl ⟨by rfl, fun W _ => by kernel_rfl⟩) hHeld ?_
  try simp only [Act.put, List.getElem_toArray, List.getElem_cons_succ, List.getElem_cons_zero, List.setIfInBounds_toArray, List.set_cons_zero, List.set_cons_succ]
  refine wpAnyH_done (by kernel_rfl) ?_ _
  replace hB := hHeld.1
  replace ht1 := hHeld.2.1
  replace hp1 := hHeld.2.2
  clear hHeld
  have c0 : _ = some (Value.int .i64 op) := hB.at 0 _ rfl; have c5 : _ = some (Value.bool false) := hB.at 5 _ rfl; have c6 : _ = some (Value.bool false) := hB.at 6 _ rfl
  go_upto_region 18 with (go_at_call 14; refine (hF.out _ ht1).mono ?_; rintro e w5 ⟨rfl, hb5⟩; replace hB := hB.keep hb5; clear c0 c5 c6; have c0 : _ = some (Value.int .i64 op) := hB.at 0 _ rfl; have c5 : _ = some (Value.bool false) := hB.at 5 _ rfl; have c6 : _ = some (Value.bool false) := hB.at 6 _ rfl)
  have q7 : ((t.length : Int) == (nm.length : Int)) = false := by rw [beq_eq_false_iff_ne]; omega
  have q8 : ¬ t.length < nm.length := by omega
  go_upto_region 20 with fail
  go_wp2_with (first | (go_at_call 15; (with_reducible refine (hA.out _).mono ?_); rintro e w6 ⟨rfl, rfl⟩) | (go_at_call 15; (with_reducible refine (hA2.out _).mono ?_); rintro e w6 ⟨rfl, rfl⟩) | (go_at_call 15; (with_reducible refine (hA3.out _).mono ?_); rintro e w6 ⟨rfl, rfl⟩))
  go_ret
  exact ⟨rfl, hB.bl⟩
set_option maxRecDepth 100000 in
set_option maxHeartbeats 8000000 in
theorem Shapes_8 (op rd r1 r2 imm pred succ : Int) (hop : op ≤ 9223372036854775807) (him : -9223372036854775808 ≤ imm ∧ imm ≤ 9223372036854775807) (hc : checkE ⟨op, rd, r1, r2, imm, false, false, pred, succ⟩ = 0) (hf : (opOf op).form = 8) (w : World) (ht : Tabs w) (hp : P10 w) :
    Calls Tryd.prog 3 #[.agg (InsnV.cells ⟨op, rd, r1, r2, imm, false, false, pred, succ⟩)] w fun e w' => e = .returned (.bool true) ∧ Below w.heap.size w w' := by
  have htt : textT ⟨op, rd, r1, r2, imm, false, false, pred, succ⟩ = bodyT ⟨op, rd, r1, r2, imm, false, false, pred, succ⟩ := if_pos hc
  have hB := XB.start w (InsnV.cells ⟨op, rd, r1, r2, imm, false, false, pred, succ⟩).toList 23
  rw [Array.toArray_toList] at hB
  have hu := Tryd.underlying23
  have hi : (Tryd.prog.info? 23).map (·.size) = some (InsnV.cells ⟨op, rd, r1, r2, imm, false, false, pred, succ⟩).toList.length := by kernel_rfl
  have ht1 := ht.later ((Below.refl _ w).alloc (Nat.le_refl _) (.cells (InsnV.cells ⟨op, rd, r1, r2, imm, false, false, pred, succ⟩) 23)) (Nat.le_refl _)
  have hp1 := hp.later ((Below.refl _ w).alloc (Nat.le_refl _) (.cells (InsnV.cells ⟨op, rd, r1, r2, imm, false, false, pred, succ⟩) 23)) (Nat.le_refl _)
  have hL := Lib.hid (fun W h1 h2 => Lives2_any W h1 h2)
  have hT := Lib.hid (fun W h1 h2 => LText_any ⟨op, rd, r1, r2, imm, false, false, pred, succ⟩ hop him W h1 h2)
  have hK := Lib.hid (fun W hW => Check_any ⟨op, rd, r1, r2, imm, false, false, pred, succ⟩ hop W hW)
  have hN := Lib.hid (fun W hW => IName_any op hop W hW)
  have hF := Lib.hid (fun W hW => Form_any op hop W hW)
  rw [htt] at hT
  rw [hc] at hK
  rw [hf] at hF
  obtain ⟨hl, k44, k40, k41, hsh⟩ := body_shape ⟨op, rd, r1, r2, imm, false, false, pred, succ⟩ hc
  have hj4 : op ≠ 4 := fun e => by rw [e, form_4] at hf; exact absurd hf (by decide)
  replace k44 := k44.trans (show _ = 2 by simp [commasV, hf, hj4])
  replace k40 := k40.trans (show _ = 0 by simp [opensV, hf, hj4])
  replace k41 := k41.trans (show _ = 0 by simp [opensV, hf, hj4])
  obtain ⟨u, hbe⟩ : ∃ u, bodyT ⟨op, rd, r1, r2, imm, false, false, pred, succ⟩ = (opOf op).name ++ 32 :: u := by
    rcases hsh with h | h
    · exact absurd (hf.symm.trans h.1) (by decide)
    · exact h.2
  clear hsh htt
  generalize bodyT ⟨op, rd, r1, r2, imm, false, false, pred, succ⟩ = t at hT hl hbe k44 k40 k41
  generalize (opOf op).name = nm at hN hbe
  have hA : Hid (∀ W, Calls Tryd.prog 15 #[.string ⟨t.toArray⟩, .int .u8 44] W fun e w' => e = .returned (.int .i64 2) ∧ W = w') := Lib.hid fun W => by have := Count_any t 44 (by omega) W; rw [k44] at this; exact this
  have hA2 : Hid (∀ W, Calls Tryd.prog 15 #[.string ⟨t.toArray⟩, .int .u8 40] W fun e w' => e = .returned (.int .i64 0) ∧ W = w') := Lib.hid fun W => by have := Count_any t 40 (by omega) W; rw [k40] at this; exact this
  have hA3 : Hid (∀ W, Calls Tryd.prog 15 #[.string ⟨t.toArray⟩, .int .u8 41] W fun e w' => e = .returned (.int .i64 0) ∧ W = w') := Lib.hid fun W => by have := Count_any t 41 (by omega) W; rw [k41] at this; exact this
  clear k44 k40 k41
  replace hbe := Lib.hid hbe
  have q1 : decide ((t.length : Int) < (nm.length : Int)) = false := by rw [hbe.out]; simp; omega
  have q2 : nm.length ≤ t.length := by rw [hbe.out]; simp
  have q3 : nm.length < t.length := by rw [hbe.out]; simp
  have q4 : decide ((60 : Int) < (t.length : Int)) = false := by simp; omega
  have q5 : (⟨t.toArray⟩ : ByteArray).extract 0 nm.length = ⟨nm.toArray⟩ := by
    rw [hbe.out]; apply ByteArray.ext; simp [ByteArray.data_extract]
  have hsz : nm.length < (⟨t.toArray⟩ : ByteArray).size := by show _ < t.toArray.size; rw [List.size_toArray]; exact q3
  have q6 : (⟨t.toArray⟩ : ByteArray)[nm.length]'hsz = 32 := by
    have hat : (⟨t.toArray⟩ : ByteArray)[nm.length]'hsz = t[nm.length] := by show t.toArray[nm.length] = _; simp
    rw [hat]; have := hbe.out; subst this; simp
  have tj : (op == 4) = false := by simpa using hj4
  clear hj4
  clear hop him ht hp hc hf
  go_enter Tryd.func3, Tryd.ntmps3
  go_upto_region 5 with (first | (refine wpList_load_mid rfl 23 _ rfl w.heap.size 0 rfl (InsnV.cells ⟨op, rd, r1, r2, imm, false, false, pred, succ⟩).toList _ hB.c hu rfl hi ?_) | (go_at_call 10; refine (hL.out _ ht1 hp1).mono ?_; rintro e w1 ⟨rfl, hb1⟩; replace hB := hB.keep hb1; replace ht1 := ht1.later hb1 (Nat.le_refl _); replace hp1 := hp1.later hb1 (Nat.le_refl _); clear hb1) | (go_at_call 11; refine (hK.out _ ht1).mono ?_; rintro e w1 ⟨rfl, hb1⟩; replace hB := hB.keep hb1; replace ht1 := ht1.later hb1 (Nat.le_refl _); replace hp1 := hp1.later hb1 (Nat.le_refl _); clear hb1))
  refine wp_region_held_drew (S := fun W => XB w (InsnV.cells ⟨op, rd, r1, r2, imm, false, false, pred, succ⟩).toList W ∧ Tabs W ∧ P10 W) (by kernel_rfl) ⟨hB.keep (Below.refl _ _).drew, ht1.later (Below.refl _ _).drew (Nat.le_refl _), hp1.later (Below.refl _ _).drew (Nat.le_refl _)⟩ (fun hHeld => ?_)
  refine wpAnyH_take (i := 0) rfl (by kernel_rfl) (by kernel_rfl) (by kernel_rfl) (fun _ _ _ h => h) (yieldsIf_load_mid (by rfl) 23 _ rfl w.heap.size 0 rfl (InsnV.cells ⟨op, rd, r1, r2, imm, false, false, pred, succ⟩).toList _ (fun W hS => hS.1.c) hu rfl hi) hHeld ?_
  try simp only [Act.put, List.getElem_toArray, List.getElem_cons_zero, List.setIfInBounds_toArray, List.set_cons_zero, List.set_cons_succ]
  refine wpAnyH_take (i := 2) (v := .pointer (some ⟨w.heap.size, 0, none⟩)) rfl (by kernel_rfl) (by kernel_rfl) (by kernel_rfl) (fun _ _ _ h => h) (Or.inl ⟨by rfl, fun W _ => by kernel_rfl⟩) hHeld ?_
  try simp only [Act.put, List.getElem_toArray, List.getElem_cons_succ, List.getElem_cons_zero, List.setIfInBounds_toArray, List.set_cons_zero, List.set_cons_succ]
  refine wpAnyH_take (i := 3) (v := .int .i64 op) rfl (by kernel_rfl) (by kernel_rfl) (by kernel_rfl) (fun _ _ _ h => h) (Or.inl ⟨by rfl, fun W hS => by (have k : W.cell? ⟨w.heap.size, 0, none⟩ = some (.int .i64 op) := hS.1.at 0 _ rfl); go_simp⟩) hHeld ?_
  try simp only [Act.put, List.getElem_toArray, List.getElem_cons_succ, List.getElem_cons_zero, List.setIfInBounds_toArray, List.set_cons_zero, List.set_cons_succ]
  refine wpAnyH_ready (rs := [1]) (by kernel_rfl) (by simp) (AllReadyH.cons rfl (fun K hK2 => ?_) AllReadyH.nil)
  rw [if_pos (by rfl)]
  simp only [List.getElem_toArray, List.getElem_cons_succ, List.getElem_cons_zero]
  go_wp2_with (go_at_call 12; refine (hT.out _ hHeld.2.1 hHeld.2.2).mono ?_; rintro e w3 ⟨rfl, hb3⟩)
  refine hK2.out _ _ (⟨hHeld.1.keep hb3, hHeld.2.1.later hb3 (Nat.le_refl _), hHeld.2.2.later hb3 (Nat.le_refl _)⟩) (fun hHeld2 => ?_)
  clear hK2 K hHeld
  have hHeld := hHeld2
  clear hHeld2
  try simp only [Act.put, List.getElem_toArray, List.getElem_cons_succ, List.getElem_cons_zero, List.setIfInBounds_toArray, List.set_cons_zero, List.set_cons_succ]
  refine wpAnyH_ready (rs := [4]) (by kernel_rfl) (by simp) (AllReadyH.cons rfl (fun K hK2 => ?_) AllReadyH.nil)
  rw [if_pos (by rfl)]
  simp only [List.getElem_toArray, List.getElem_cons_succ, List.getElem_cons_zero]
  go_wp2_with (go_at_call 13; refine (hN.out _ hHeld.2.1).mono ?_; rintro e w3 ⟨rfl, hb3⟩)
  refine hK2.out _ _ (⟨hHeld.1.keep hb3, hHeld.2.1.later hb3 (Nat.le_refl _), hHeld.2.2.later hb3 (Nat.le_refl _)⟩) (fun hHeld2 => ?_)
  clear hK2 K hHeld
  have hHeld := hHeld2
  clear hHeld2
  try simp only [Act.put, List.getElem_toArray, List.getElem_cons_succ, List.getElem_cons_zero, List.setIfInBounds_toArray, List.set_cons_zero, List.set_cons_succ]
  refine wpAnyH_take (i := 5) (v := .string ⟨t.toArray⟩) rfl (by kernel_rfl) (by kernel_rfl) (by kernel_rfl) (fun _ _ _ h => h) (Or.inl ⟨by rfl, fun W _ => by kernel_rfl⟩) hHeld ?_
  try simp only [Act.put, List.getElem_toArray, List.getElem_cons_succ, List.getElem_cons_zero, List.setIfInBounds_toArray, List.set_cons_zero, List.set_cons_succ]
  refine wpAnyH_take (i := 6) (v := .string ⟨nm.toArray⟩) rfl (by kernel_rfl) (by kernel_rfl) (by kernel_rfl) (fun _ _ _ h => h) (Or.inl ⟨by rfl, fun W _ => by kernel_rfl⟩) hHeld ?_
  try simp only [Act.put, List.getElem_toArray, List.getElem_cons_succ, List.getElem_cons_zero, List.setIfInBounds_toArray, List.set_cons_zero, List.set_cons_succ]
  refine wpAnyH_done (by kernel_rfl) ?_ _
  replace hB := hHeld.1
  replace ht1 := hHeld.2.1
  replace hp1 := hHeld.2.2
  clear hHeld
  have c0 : _ = some (Value.int .i64 op) := hB.at 0 _ rfl; have c5 : _ = some (Value.bool false) := hB.at 5 _ rfl; have c6 : _ = some (Value.bool false) := hB.at 6 _ rfl
  go_upto_region 18 with (go_at_call 14; refine (hF.out _ ht1).mono ?_; rintro e w5 ⟨rfl, hb5⟩; replace hB := hB.keep hb5; clear c0 c5 c6; have c0 : _ = some (Value.int .i64 op) := hB.at 0 _ rfl; have c5 : _ = some (Value.bool false) := hB.at 5 _ rfl; have c6 : _ = some (Value.bool false) := hB.at 6 _ rfl)
  have q7 : ((t.length : Int) == (nm.length : Int)) = false := by rw [beq_eq_false_iff_ne]; omega
  have q8 : ¬ t.length < nm.length := by omega
  go_upto_region 20 with fail
  go_wp2_with (first | (go_at_call 15; (with_reducible refine (hA.out _).mono ?_); rintro e w6 ⟨rfl, rfl⟩) | (go_at_call 15; (with_reducible refine (hA2.out _).mono ?_); rintro e w6 ⟨rfl, rfl⟩) | (go_at_call 15; (with_reducible refine (hA3.out _).mono ?_); rintro e w6 ⟨rfl, rfl⟩))
  go_ret
  exact ⟨rfl, hB.bl⟩
set_option maxRecDepth 100000 in
set_option maxHeartbeats 8000000 in
theorem Shapes_9 (op rd r1 r2 imm pred succ : Int) (hop : op ≤ 9223372036854775807) (him : -9223372036854775808 ≤ imm ∧ imm ≤ 9223372036854775807) (hc : checkE ⟨op, rd, r1, r2, imm, false, false, pred, succ⟩ = 0) (hf : (opOf op).form = 9) (w : World) (ht : Tabs w) (hp : P10 w) :
    Calls Tryd.prog 3 #[.agg (InsnV.cells ⟨op, rd, r1, r2, imm, false, false, pred, succ⟩)] w fun e w' => e = .returned (.bool true) ∧ Below w.heap.size w w' := by
  have htt : textT ⟨op, rd, r1, r2, imm, false, false, pred, succ⟩ = bodyT ⟨op, rd, r1, r2, imm, false, false, pred, succ⟩ := if_pos hc
  have hB := XB.start w (InsnV.cells ⟨op, rd, r1, r2, imm, false, false, pred, succ⟩).toList 23
  rw [Array.toArray_toList] at hB
  have hu := Tryd.underlying23
  have hi : (Tryd.prog.info? 23).map (·.size) = some (InsnV.cells ⟨op, rd, r1, r2, imm, false, false, pred, succ⟩).toList.length := by kernel_rfl
  have ht1 := ht.later ((Below.refl _ w).alloc (Nat.le_refl _) (.cells (InsnV.cells ⟨op, rd, r1, r2, imm, false, false, pred, succ⟩) 23)) (Nat.le_refl _)
  have hp1 := hp.later ((Below.refl _ w).alloc (Nat.le_refl _) (.cells (InsnV.cells ⟨op, rd, r1, r2, imm, false, false, pred, succ⟩) 23)) (Nat.le_refl _)
  have hL := Lib.hid (fun W h1 h2 => Lives2_any W h1 h2)
  have hT := Lib.hid (fun W h1 h2 => LText_any ⟨op, rd, r1, r2, imm, false, false, pred, succ⟩ hop him W h1 h2)
  have hK := Lib.hid (fun W hW => Check_any ⟨op, rd, r1, r2, imm, false, false, pred, succ⟩ hop W hW)
  have hN := Lib.hid (fun W hW => IName_any op hop W hW)
  have hF := Lib.hid (fun W hW => Form_any op hop W hW)
  rw [htt] at hT
  rw [hc] at hK
  rw [hf] at hF
  obtain ⟨hl, k44, k40, k41, hsh⟩ := body_shape ⟨op, rd, r1, r2, imm, false, false, pred, succ⟩ hc
  have hj4 : op ≠ 4 := fun e => by rw [e, form_4] at hf; exact absurd hf (by decide)
  replace k44 := k44.trans (show _ = 1 by simp [commasV, hf, hj4])
  replace k40 := k40.trans (show _ = 0 by simp [opensV, hf, hj4])
  replace k41 := k41.trans (show _ = 0 by simp [opensV, hf, hj4])
  obtain ⟨u, hbe⟩ : ∃ u, bodyT ⟨op, rd, r1, r2, imm, false, false, pred, succ⟩ = (opOf op).name ++ 32 :: u := by
    rcases hsh with h | h
    · exact absurd (hf.symm.trans h.1) (by decide)
    · exact h.2
  clear hsh htt
  generalize bodyT ⟨op, rd, r1, r2, imm, false, false, pred, succ⟩ = t at hT hl hbe k44 k40 k41
  generalize (opOf op).name = nm at hN hbe
  have hA : Hid (∀ W, Calls Tryd.prog 15 #[.string ⟨t.toArray⟩, .int .u8 44] W fun e w' => e = .returned (.int .i64 1) ∧ W = w') := Lib.hid fun W => by have := Count_any t 44 (by omega) W; rw [k44] at this; exact this
  have hA2 : Hid (∀ W, Calls Tryd.prog 15 #[.string ⟨t.toArray⟩, .int .u8 40] W fun e w' => e = .returned (.int .i64 0) ∧ W = w') := Lib.hid fun W => by have := Count_any t 40 (by omega) W; rw [k40] at this; exact this
  have hA3 : Hid (∀ W, Calls Tryd.prog 15 #[.string ⟨t.toArray⟩, .int .u8 41] W fun e w' => e = .returned (.int .i64 0) ∧ W = w') := Lib.hid fun W => by have := Count_any t 41 (by omega) W; rw [k41] at this; exact this
  clear k44 k40 k41
  replace hbe := Lib.hid hbe
  have q1 : decide ((t.length : Int) < (nm.length : Int)) = false := by rw [hbe.out]; simp; omega
  have q2 : nm.length ≤ t.length := by rw [hbe.out]; simp
  have q3 : nm.length < t.length := by rw [hbe.out]; simp
  have q4 : decide ((60 : Int) < (t.length : Int)) = false := by simp; omega
  have q5 : (⟨t.toArray⟩ : ByteArray).extract 0 nm.length = ⟨nm.toArray⟩ := by
    rw [hbe.out]; apply ByteArray.ext; simp [ByteArray.data_extract]
  have hsz : nm.length < (⟨t.toArray⟩ : ByteArray).size := by show _ < t.toArray.size; rw [List.size_toArray]; exact q3
  have q6 : (⟨t.toArray⟩ : ByteArray)[nm.length]'hsz = 32 := by
    have hat : (⟨t.toArray⟩ : ByteArray)[nm.length]'hsz = t[nm.length] := by show t.toArray[nm.length] = _; simp
    rw [hat]; have := hbe.out; subst this; simp
  have tj : (op == 4) = false := by simpa using hj4
  clear hj4
  clear hop him ht hp hc hf
  go_enter Tryd.func3, Tryd.ntmps3
  go_upto_region 5 with (first | (refine wpList_load_mid rfl 23 _ rfl w.heap.size 0 rfl (InsnV.cells ⟨op, rd, r1, r2, imm, false, false, pred, succ⟩).toList _ hB.c hu rfl hi ?_) | (go_at_call 10; refine (hL.out _ ht1 hp1).mono ?_; rintro e w1 ⟨rfl, hb1⟩; replace hB := hB.keep hb1; replace ht1 := ht1.later hb1 (Nat.le_refl _); replace hp1 := hp1.later hb1 (Nat.le_refl _); clear hb1) | (go_at_call 11; refine (hK.out _ ht1).mono ?_; rintro e w1 ⟨rfl, hb1⟩; replace hB := hB.keep hb1; replace ht1 := ht1.later hb1 (Nat.le_refl _); replace hp1 := hp1.later hb1 (Nat.le_refl _); clear hb1))
  refine wp_region_held_drew (S := fun W => XB w (InsnV.cells ⟨op, rd, r1, r2, imm, false, false, pred, succ⟩).toList W ∧ Tabs W ∧ P10 W) (by kernel_rfl) ⟨hB.keep (Below.refl _ _).drew, ht1.later (Below.refl _ _).drew (Nat.le_refl _), hp1.later (Below.refl _ _).drew (Nat.le_refl _)⟩ (fun hHeld => ?_)
  refine wpAnyH_take (i := 0) rfl (by kernel_rfl) (by kernel_rfl) (by kernel_rfl) (fun _ _ _ h => h) (yieldsIf_load_mid (by rfl) 23 _ rfl w.heap.size 0 rfl (InsnV.cells ⟨op, rd, r1, r2, imm, false, false, pred, succ⟩).toList _ (fun W hS => hS.1.c) hu rfl hi) hHeld ?_
  try simp only [Act.put, List.getElem_toArray, List.getElem_cons_zero, List.setIfInBounds_toArray, List.set_cons_zero, List.set_cons_succ]
  refine wpAnyH_take (i := 2) (v := .pointer (some ⟨w.heap.size, 0, none⟩)) rfl (by kernel_rfl) (by kernel_rfl) (by kernel_rfl) (fun _ _ _ h => h) (Or.inl ⟨by rfl, fun W _ => by kernel_rfl⟩) hHeld ?_
  try simp only [Act.put, List.getElem_toArray, List.getElem_cons_succ, List.getElem_cons_zero, List.setIfInBounds_toArray, List.set_cons_zero, List.set_cons_succ]
  refine wpAnyH_take (i := 3) (v := .int .i64 op) rfl (by kernel_rfl) (by kernel_rfl) (by kernel_rfl) (fun _ _ _ h => h) (Or.inl ⟨by rfl, fun W hS => by (have k : W.cell? ⟨w.heap.size, 0, none⟩ = some (.int .i64 op) := hS.1.at 0 _ rfl); go_simp⟩) hHeld ?_
  try simp only [Act.put, List.getElem_toArray, List.getElem_cons_succ, List.getElem_cons_zero, List.setIfInBounds_toArray, List.set_cons_zero, List.set_cons_succ]
  refine wpAnyH_ready (rs := [1]) (by kernel_rfl) (by simp) (AllReadyH.cons rfl (fun K hK2 => ?_) AllReadyH.nil)
  rw [if_pos (by rfl)]
  simp only [List.getElem_toArray, List.getElem_cons_succ, List.getElem_cons_zero]
  go_wp2_with (go_at_call 12; refine (hT.out _ hHeld.2.1 hHeld.2.2).mono ?_; rintro e w3 ⟨rfl, hb3⟩)
  refine hK2.out _ _ (⟨hHeld.1.keep hb3, hHeld.2.1.later hb3 (Nat.le_refl _), hHeld.2.2.later hb3 (Nat.le_refl _)⟩) (fun hHeld2 => ?_)
  clear hK2 K hHeld
  have hHeld := hHeld2
  clear hHeld2
  try simp only [Act.put, List.getElem_toArray, List.getElem_cons_succ, List.getElem_cons_zero, List.setIfInBounds_toArray, List.set_cons_zero, List.set_cons_succ]
  refine wpAnyH_ready (rs := [4]) (by kernel_rfl) (by simp) (AllReadyH.cons rfl (fun K hK2 => ?_) AllReadyH.nil)
  rw [if_pos (by rfl)]
  simp only [List.getElem_toArray, List.getElem_cons_succ, List.getElem_cons_zero]
  go_wp2_with (go_at_call 13; refine (hN.out _ hHeld.2.1).mono ?_; rintro e w3 ⟨rfl, hb3⟩)
  refine hK2.out _ _ (⟨hHeld.1.keep hb3, hHeld.2.1.later hb3 (Nat.le_refl _), hHeld.2.2.later hb3 (Nat.le_refl _)⟩) (fun hHeld2 => ?_)
  clear hK2 K hHeld
  have hHeld := hHeld2
  clear hHeld2
  try simp only [Act.put, List.getElem_toArray, List.getElem_cons_succ, List.getElem_cons_zero, List.setIfInBounds_toArray, List.set_cons_zero, List.set_cons_succ]
  refine wpAnyH_take (i := 5) (v := .string ⟨t.toArray⟩) rfl (by kernel_rfl) (by kernel_rfl) (by kernel_rfl) (fun _ _ _ h => h) (Or.inl ⟨by rfl, fun W _ => by kernel_rfl⟩) hHeld ?_
  try simp only [Act.put, List.getElem_toArray, List.getElem_cons_succ, List.getElem_cons_zero, List.setIfInBounds_toArray, List.set_cons_zero, List.set_cons_succ]
  refine wpAnyH_take (i := 6) (v := .string ⟨nm.toArray⟩) rfl (by kernel_rfl) (by kernel_rfl) (by kernel_rfl) (fun _ _ _ h => h) (Or.inl ⟨by rfl, fun W _ => by kernel_rfl⟩) hHeld ?_
  try simp only [Act.put, List.getElem_toArray, List.getElem_cons_succ, List.getElem_cons_zero, List.setIfInBounds_toArray, List.set_cons_zero, List.set_cons_succ]
  refine wpAnyH_done (by kernel_rfl) ?_ _
  replace hB := hHeld.1
  replace ht1 := hHeld.2.1
  replace hp1 := hHeld.2.2
  clear hHeld
  have c0 : _ = some (Value.int .i64 op) := hB.at 0 _ rfl; have c5 : _ = some (Value.bool false) := hB.at 5 _ rfl; have c6 : _ = some (Value.bool false) := hB.at 6 _ rfl
  go_upto_region 18 with (go_at_call 14; refine (hF.out _ ht1).mono ?_; rintro e w5 ⟨rfl, hb5⟩; replace hB := hB.keep hb5; clear c0 c5 c6; have c0 : _ = some (Value.int .i64 op) := hB.at 0 _ rfl; have c5 : _ = some (Value.bool false) := hB.at 5 _ rfl; have c6 : _ = some (Value.bool false) := hB.at 6 _ rfl)
  have q7 : ((t.length : Int) == (nm.length : Int)) = false := by rw [beq_eq_false_iff_ne]; omega
  have q8 : ¬ t.length < nm.length := by omega
  go_upto_region 20 with fail
  go_wp2_with (first | (go_at_call 15; (with_reducible refine (hA.out _).mono ?_); rintro e w6 ⟨rfl, rfl⟩) | (go_at_call 15; (with_reducible refine (hA2.out _).mono ?_); rintro e w6 ⟨rfl, rfl⟩) | (go_at_call 15; (with_reducible refine (hA3.out _).mono ?_); rintro e w6 ⟨rfl, rfl⟩))
  go_ret
  exact ⟨rfl, hB.bl⟩
set_option maxRecDepth 100000 in
set_option maxHeartbeats 8000000 in
theorem Shapes_10 (op rd r1 r2 imm pred succ : Int) (hop : op ≤ 9223372036854775807) (him : -9223372036854775808 ≤ imm ∧ imm ≤ 9223372036854775807) (hc : checkE ⟨op, rd, r1, r2, imm, false, false, pred, succ⟩ = 0) (hf : (opOf op).form = 10) (w : World) (ht : Tabs w) (hp : P10 w) :
    Calls Tryd.prog 3 #[.agg (InsnV.cells ⟨op, rd, r1, r2, imm, false, false, pred, succ⟩)] w fun e w' => e = .returned (.bool true) ∧ Below w.heap.size w w' := by
  have htt : textT ⟨op, rd, r1, r2, imm, false, false, pred, succ⟩ = bodyT ⟨op, rd, r1, r2, imm, false, false, pred, succ⟩ := if_pos hc
  have hB := XB.start w (InsnV.cells ⟨op, rd, r1, r2, imm, false, false, pred, succ⟩).toList 23
  rw [Array.toArray_toList] at hB
  have hu := Tryd.underlying23
  have hi : (Tryd.prog.info? 23).map (·.size) = some (InsnV.cells ⟨op, rd, r1, r2, imm, false, false, pred, succ⟩).toList.length := by kernel_rfl
  have ht1 := ht.later ((Below.refl _ w).alloc (Nat.le_refl _) (.cells (InsnV.cells ⟨op, rd, r1, r2, imm, false, false, pred, succ⟩) 23)) (Nat.le_refl _)
  have hp1 := hp.later ((Below.refl _ w).alloc (Nat.le_refl _) (.cells (InsnV.cells ⟨op, rd, r1, r2, imm, false, false, pred, succ⟩) 23)) (Nat.le_refl _)
  have hL := Lib.hid (fun W h1 h2 => Lives2_any W h1 h2)
  have hT := Lib.hid (fun W h1 h2 => LText_any ⟨op, rd, r1, r2, imm, false, false, pred, succ⟩ hop him W h1 h2)
  have hK := Lib.hid (fun W hW => Check_any ⟨op, rd, r1, r2, imm, false, false, pred, succ⟩ hop W hW)
  have hN := Lib.hid (fun W hW => IName_any op hop W hW)
  have hF := Lib.hid (fun W hW => Form_any op hop W hW)
  rw [htt] at hT
  rw [hc] at hK
  rw [hf] at hF
  obtain ⟨hl, k44, k40, k41, hsh⟩ := body_shape ⟨op, rd, r1, r2, imm, false, false, pred, succ⟩ hc
  have hj4 : op ≠ 4 := fun e => by rw [e, form_4] at hf; exact absurd hf (by decide)
  replace k44 := k44.trans (show _ = 0 by simp [commasV, hf, hj4])
  replace k40 := k40.trans (show _ = 0 by simp [opensV, hf, hj4])
  replace k41 := k41.trans (show _ = 0 by simp [opensV, hf, hj4])
  have hbe : bodyT ⟨op, rd, r1, r2, imm, false, false, pred, succ⟩ = (opOf op).name := by
    rcases hsh with h | h
    · exact h.2
    · exact absurd hf h.1
  rw [hbe] at hT hl k44 k40 k41
  clear hbe hsh htt
  generalize (opOf op).name = t at hN hT hl k44 k40 k41
  have hA : Hid (∀ W, Calls Tryd.prog 15 #[.string ⟨t.toArray⟩, .int .u8 44] W fun e w' => e = .returned (.int .i64 0) ∧ W = w') := Lib.hid fun W => by have := Count_any t 44 (by omega) W; rw [k44] at this; exact this
  have hA2 : Hid (∀ W, Calls Tryd.prog 15 #[.string ⟨t.toArray⟩, .int .u8 40] W fun e w' => e = .returned (.int .i64 0) ∧ W = w') := Lib.hid fun W => by have := Count_any t 40 (by omega) W; rw [k40] at this; exact this
  have hA3 : Hid (∀ W, Calls Tryd.prog 15 #[.string ⟨t.toArray⟩, .int .u8 41] W fun e w' => e = .returned (.int .i64 0) ∧ W = w') := Lib.hid fun W => by have := Count_any t 41 (by omega) W; rw [k41] at this; exact this
  clear k44 k40 k41
  have q4 : decide ((60 : Int) < (t.length : Int)) = false := by simp; omega
  have q5 : (⟨t.toArray⟩ : ByteArray).extract 0 t.length = ⟨t.toArray⟩ := by apply ByteArray.ext; simp [ByteArray.data_extract]
  have tj : (op == 4) = false := by simpa using hj4
  clear hj4
  clear hop him ht hp hc hf
  go_enter Tryd.func3, Tryd.ntmps3
  go_upto_region 5 with (first | (refine wpList_load_mid rfl 23 _ rfl w.heap.size 0 rfl (InsnV.cells ⟨op, rd, r1, r2, imm, false, false, pred, succ⟩).toList _ hB.c hu rfl hi ?_) | (go_at_call 10; refine (hL.out _ ht1 hp1).mono ?_; rintro e w1 ⟨rfl, hb1⟩; replace hB := hB.keep hb1; replace ht1 := ht1.later hb1 (Nat.le_refl _); replace hp1 := hp1.later hb1 (Nat.le_refl _); clear hb1) | (go_at_call 11; refine (hK.out _ ht1).mono ?_; rintro e w1 ⟨rfl, hb1⟩; replace hB := hB.keep hb1; replace ht1 := ht1.later hb1 (Nat.le_refl _); replace hp1 := hp1.later hb1 (Nat.le_refl _); clear hb1))
  refine wp_region_held_drew (S := fun W => XB w (InsnV.cells ⟨op, rd, r1, r2, imm, false, false, pred, succ⟩).toList W ∧ Tabs W ∧ P10 W) (by kernel_rfl) ⟨hB.keep (Below.refl _ _).drew, ht1.later (Below.refl _ _).drew (Nat.le_refl _), hp1.later (Below.refl _ _).drew (Nat.le_refl _)⟩ (fun hHeld => ?_)
  refine wpAnyH_take (i := 0) rfl (by kernel_rfl) (by kernel_rfl) (by kernel_rfl) (fun _ _ _ h => h) (yieldsIf_load_mid (by rfl) 23 _ rfl w.heap.size 0 rfl (InsnV.cells ⟨op, rd, r1, r2, imm, false, false, pred, succ⟩).toList _ (fun W hS => hS.1.c) hu rfl hi) hHeld ?_
  try simp only [Act.put, List.getElem_toArray, List.getElem_cons_zero, List.setIfInBounds_toArray, List.set_cons_zero, List.set_cons_succ]
  refine wpAnyH_take (i := 2) (v := .pointer (some ⟨w.heap.size, 0, none⟩)) rfl (by kernel_rfl) (by kernel_rfl) (by kernel_rfl) (fun _ _ _ h => h) (Or.inl ⟨by rfl, fun W _ => by kernel_rfl⟩) hHeld ?_
  try simp only [Act.put, List.getElem_toArray, List.getElem_cons_succ, List.getElem_cons_zero, List.setIfInBounds_toArray, List.set_cons_zero, List.set_cons_succ]
  refine wpAnyH_take (i := 3) (v := .int .i64 op) rfl (by kernel_rfl) (by kernel_rfl) (by kernel_rfl) (fun _ _ _ h => h) (Or.inl ⟨by rfl, fun W hS => by (have k : W.cell? ⟨w.heap.size, 0, none⟩ = some (.int .i64 op) := hS.1.at 0 _ rfl); go_simp⟩) hHeld ?_
  try simp only [Act.put, List.getElem_toArray, List.getElem_cons_succ, List.getElem_cons_zero, List.setIfInBounds_toArray, List.set_cons_zero, List.set_cons_succ]
  refine wpAnyH_ready (rs := [1]) (by kernel_rfl) (by simp) (AllReadyH.cons rfl (fun K hK2 => ?_) AllReadyH.nil)
  rw [if_pos (by rfl)]
  simp only [List.getElem_toArray, List.getElem_cons_succ, List.getElem_cons_zero]
  go_wp2_with (go_at_call 12; refine (hT.out _ hHeld.2.1 hHeld.2.2).mono ?_; rintro e w3 ⟨rfl, hb3⟩)
  refine hK2.out _ _ (⟨hHeld.1.keep hb3, hHeld.2.1.later hb3 (Nat.le_refl _), hHeld.2.2.later hb3 (Nat.le_refl _)⟩) (fun hHeld2 => ?_)
  clear hK2 K hHeld
  have hHeld := hHeld2
  clear hHeld2
  try simp only [Act.put, List.getElem_toArray, List.getElem_cons_succ, List.getElem_cons_zero, List.setIfInBounds_toArray, List.set_cons_zero, List.set_cons_succ]
  refine wpAnyH_ready (rs := [4]) (by kernel_rfl) (by simp) (AllReadyH.cons rfl (fun K hK2 => ?_) AllReadyH.nil)
  rw [if_pos (by rfl)]
  simp only [List.getElem_toArray, List.getElem_cons_succ, List.getElem_cons_zero]
  go_wp2_with (go_at_call 13; refine (hN.out _ hHeld.2.1).mono ?_; rintro e w3 ⟨rfl, hb3⟩)
  refine hK2.out _ _ (⟨hHeld.1.keep hb3, hHeld.2.1.later hb3 (Nat.le_refl _), hHeld.2.2.later hb3 (Nat.le_refl _)⟩) (fun hHeld2 => ?_)
  clear hK2 K hHeld
  have hHeld := hHeld2
  clear hHeld2
  try simp only [Act.put, List.getElem_toArray, List.getElem_cons_succ, List.getElem_cons_zero, List.setIfInBounds_toArray, List.set_cons_zero, List.set_cons_succ]
  refine wpAnyH_take (i := 5) (v := .string ⟨t.toArray⟩) rfl (by kernel_rfl) (by kernel_rfl) (by kernel_rfl) (fun _ _ _ h => h) (Or.inl ⟨by rfl, fun W _ => by kernel_rfl⟩) hHeld ?_
  try simp only [Act.put, List.getElem_toArray, List.getElem_cons_succ, List.getElem_cons_zero, List.setIfInBounds_toArray, List.set_cons_zero, List.set_cons_succ]
  refine wpAnyH_take (i := 6) (v := .string ⟨t.toArray⟩) rfl (by kernel_rfl) (by kernel_rfl) (by kernel_rfl) (fun _ _ _ h => h) (Or.inl ⟨by rfl, fun W _ => by kernel_rfl⟩) hHeld ?_
  try simp only [Act.put, List.getElem_toArray, List.getElem_cons_succ, List.getElem_cons_zero, List.setIfInBounds_toArray, List.set_cons_zero, List.set_cons_succ]
  refine wpAnyH_done (by kernel_rfl) ?_ _
  replace hB := hHeld.1
  replace ht1 := hHeld.2.1
  replace hp1 := hHeld.2.2
  clear hHeld
  have c0 : _ = some (Value.int .i64 op) := hB.at 0 _ rfl; have c5 : _ = some (Value.bool false) := hB.at 5 _ rfl; have c6 : _ = some (Value.bool false) := hB.at 6 _ rfl
  go_upto_region 18 with (go_at_call 14; refine (hF.out _ ht1).mono ?_; rintro e w5 ⟨rfl, hb5⟩; replace hB := hB.keep hb5; clear c0 c5 c6; have c0 : _ = some (Value.int .i64 op) := hB.at 0 _ rfl; have c5 : _ = some (Value.bool false) := hB.at 5 _ rfl; have c6 : _ = some (Value.bool false) := hB.at 6 _ rfl)
  go_upto_region 20 with fail
  go_wp2_with (first | (go_at_call 15; (with_reducible refine (hA.out _).mono ?_); rintro e w6 ⟨rfl, rfl⟩) | (go_at_call 15; (with_reducible refine (hA2.out _).mono ?_); rintro e w6 ⟨rfl, rfl⟩) | (go_at_call 15; (with_reducible refine (hA3.out _).mono ?_); rintro e w6 ⟨rfl, rfl⟩))
  go_ret
  exact ⟨rfl, hB.bl⟩
set_option maxRecDepth 100000 in
set_option maxHeartbeats 8000000 in
theorem Shapes_11ff (op rd r1 r2 imm pred succ : Int) (hop : op ≤ 9223372036854775807) (him : -9223372036854775808 ≤ imm ∧ imm ≤ 9223372036854775807) (hc : checkE ⟨op, rd, r1, r2, imm, false, false, pred, succ⟩ = 0) (hf : (opOf op).form = 11) (w : World) (ht : Tabs w) (hp : P10 w) :
    Calls Tryd.prog 3 #[.agg (InsnV.cells ⟨op, rd, r1, r2, imm, false, false, pred, succ⟩)] w fun e w' => e = .returned (.bool true) ∧ Below w.heap.size w w' := by
  have htt : textT ⟨op, rd, r1, r2, imm, false, false, pred, succ⟩ = bodyT ⟨op, rd, r1, r2, imm, false, false, pred, succ⟩ := if_pos hc
  have hB := XB.start w (InsnV.cells ⟨op, rd, r1, r2, imm, false, false, pred, succ⟩).toList 23
  rw [Array.toArray_toList] at hB
  have hu := Tryd.underlying23
  have hi : (Tryd.prog.info? 23).map (·.size) = some (InsnV.cells ⟨op, rd, r1, r2, imm, false, false, pred, succ⟩).toList.length := by kernel_rfl
  have ht1 := ht.later ((Below.refl _ w).alloc (Nat.le_refl _) (.cells (InsnV.cells ⟨op, rd, r1, r2, imm, false, false, pred, succ⟩) 23)) (Nat.le_refl _)
  have hp1 := hp.later ((Below.refl _ w).alloc (Nat.le_refl _) (.cells (InsnV.cells ⟨op, rd, r1, r2, imm, false, false, pred, succ⟩) 23)) (Nat.le_refl _)
  have hL := Lib.hid (fun W h1 h2 => Lives2_any W h1 h2)
  have hT := Lib.hid (fun W h1 h2 => LText_any ⟨op, rd, r1, r2, imm, false, false, pred, succ⟩ hop him W h1 h2)
  have hK := Lib.hid (fun W hW => Check_any ⟨op, rd, r1, r2, imm, false, false, pred, succ⟩ hop W hW)
  have hN := Lib.hid (fun W hW => IName_any op hop W hW)
  have hF := Lib.hid (fun W hW => Form_any op hop W hW)
  rw [htt] at hT
  rw [hc] at hK
  rw [hf] at hF
  obtain ⟨hl, k44, k40, k41, hsh⟩ := body_shape ⟨op, rd, r1, r2, imm, false, false, pred, succ⟩ hc
  have hj4 : op ≠ 4 := fun e => by rw [e, form_4] at hf; exact absurd hf (by decide)
  replace k44 := k44.trans (show _ = 1 by simp [commasV, hf, hj4])
  replace k40 := k40.trans (show _ = 1 by simp [opensV, hf, hj4])
  replace k41 := k41.trans (show _ = 1 by simp [opensV, hf, hj4])
  obtain ⟨u, hbe⟩ : ∃ u, bodyT ⟨op, rd, r1, r2, imm, false, false, pred, succ⟩ = (opOf op).name ++ 32 :: u := by
    rcases hsh with h | h
    · exact absurd (hf.symm.trans h.1) (by decide)
    · exact h.2
  clear hsh htt
  generalize bodyT ⟨op, rd, r1, r2, imm, false, false, pred, succ⟩ = t at hT hl hbe k44 k40 k41
  generalize (opOf op).name = nm at hN hbe
  have hA : Hid (∀ W, Calls Tryd.prog 15 #[.string ⟨t.toArray⟩, .int .u8 44] W fun e w' => e = .returned (.int .i64 1) ∧ W = w') := Lib.hid fun W => by have := Count_any t 44 (by omega) W; rw [k44] at this; exact this
  have hA2 : Hid (∀ W, Calls Tryd.prog 15 #[.string ⟨t.toArray⟩, .int .u8 40] W fun e w' => e = .returned (.int .i64 1) ∧ W = w') := Lib.hid fun W => by have := Count_any t 40 (by omega) W; rw [k40] at this; exact this
  have hA3 : Hid (∀ W, Calls Tryd.prog 15 #[.string ⟨t.toArray⟩, .int .u8 41] W fun e w' => e = .returned (.int .i64 1) ∧ W = w') := Lib.hid fun W => by have := Count_any t 41 (by omega) W; rw [k41] at this; exact this
  clear k44 k40 k41
  replace hbe := Lib.hid hbe
  have q1 : decide ((t.length : Int) < (nm.length : Int)) = false := by rw [hbe.out]; simp; omega
  have q2 : nm.length ≤ t.length := by rw [hbe.out]; simp
  have q3 : nm.length < t.length := by rw [hbe.out]; simp
  have q4 : decide ((60 : Int) < (t.length : Int)) = false := by simp; omega
  have q5 : (⟨t.toArray⟩ : ByteArray).extract 0 nm.length = ⟨nm.toArray⟩ := by
    rw [hbe.out]; apply ByteArray.ext; simp [ByteArray.data_extract]
  have hsz : nm.length < (⟨t.toArray⟩ : ByteArray).size := by show _ < t.toArray.size; rw [List.size_toArray]; exact q3
  have q6 : (⟨t.toArray⟩ : ByteArray)[nm.length]'hsz = 32 := by
    have hat : (⟨t.toArray⟩ : ByteArray)[nm.length]'hsz = t[nm.length] := by show t.toArray[nm.length] = _; simp
    rw [hat]; have := hbe.out; subst this; simp
  have tj : (op == 4) = false := by simpa using hj4
  clear hj4
  clear hop him ht hp hc hf
  go_enter Tryd.func3, Tryd.ntmps3
  go_upto_region 5 with (first | (refine wpList_load_mid rfl 23 _ rfl w.heap.size 0 rfl (InsnV.cells ⟨op, rd, r1, r2, imm, false, false, pred, succ⟩).toList _ hB.c hu rfl hi ?_) | (go_at_call 10; refine (hL.out _ ht1 hp1).mono ?_; rintro e w1 ⟨rfl, hb1⟩; replace hB := hB.keep hb1; replace ht1 := ht1.later hb1 (Nat.le_refl _); replace hp1 := hp1.later hb1 (Nat.le_refl _); clear hb1) | (go_at_call 11; refine (hK.out _ ht1).mono ?_; rintro e w1 ⟨rfl, hb1⟩; replace hB := hB.keep hb1; replace ht1 := ht1.later hb1 (Nat.le_refl _); replace hp1 := hp1.later hb1 (Nat.le_refl _); clear hb1))
  refine wp_region_held_drew (S := fun W => XB w (InsnV.cells ⟨op, rd, r1, r2, imm, false, false, pred, succ⟩).toList W ∧ Tabs W ∧ P10 W) (by kernel_rfl) ⟨hB.keep (Below.refl _ _).drew, ht1.later (Below.refl _ _).drew (Nat.le_refl _), hp1.later (Below.refl _ _).drew (Nat.le_refl _)⟩ (fun hHeld => ?_)
  refine wpAnyH_take (i := 0) rfl (by kernel_rfl) (by kernel_rfl) (by kernel_rfl) (fun _ _ _ h => h) (yieldsIf_load_mid (by rfl) 23 _ rfl w.heap.size 0 rfl (InsnV.cells ⟨op, rd, r1, r2, imm, false, false, pred, succ⟩).toList _ (fun W hS => hS.1.c) hu rfl hi) hHeld ?_
  try simp only [Act.put, List.getElem_toArray, List.getElem_cons_zero, List.setIfInBounds_toArray, List.set_cons_zero, List.set_cons_succ]
  refine wpAnyH_take (i := 2) (v := .pointer (some ⟨w.heap.size, 0, none⟩)) rfl (by kernel_rfl) (by kernel_rfl) (by kernel_rfl) (fun _ _ _ h => h) (Or.inl ⟨by rfl, fun W _ => by kernel_rfl⟩) hHeld ?_
  try simp only [Act.put, List.getElem_toArray, List.getElem_cons_succ, List.getElem_cons_zero, List.setIfInBounds_toArray, List.set_cons_zero, List.set_cons_succ]
  refine wpAnyH_take (i := 3) (v := .int .i64 op) rfl (by kernel_rfl) (by kernel_rfl) (by kernel_rfl) (fun _ _ _ h => h) (Or.inl ⟨by rfl, fun W hS => by (have k : W.cell? ⟨w.heap.size, 0, none⟩ = some (.int .i64 op) := hS.1.at 0 _ rfl); go_simp⟩) hHeld ?_
  try simp only [Act.put, List.getElem_toArray, List.getElem_cons_succ, List.getElem_cons_zero, List.setIfInBounds_toArray, List.set_cons_zero, List.set_cons_succ]
  refine wpAnyH_ready (rs := [1]) (by kernel_rfl) (by simp) (AllReadyH.cons rfl (fun K hK2 => ?_) AllReadyH.nil)
  rw [if_pos (by rfl)]
  simp only [List.getElem_toArray, List.getElem_cons_succ, List.getElem_cons_zero]
  go_wp2_with (go_at_call 12; refine (hT.out _ hHeld.2.1 hHeld.2.2).mono ?_; rintro e w3 ⟨rfl, hb3⟩)
  refine hK2.out _ _ (⟨hHeld.1.keep hb3, hHeld.2.1.later hb3 (Nat.le_refl _), hHeld.2.2.later hb3 (Nat.le_refl _)⟩) (fun hHeld2 => ?_)
  clear hK2 K hHeld
  have hHeld := hHeld2
  clear hHeld2
  try simp only [Act.put, List.getElem_toArray, List.getElem_cons_succ, List.getElem_cons_zero, List.setIfInBounds_toArray, List.set_cons_zero, List.set_cons_succ]
  refine wpAnyH_ready (rs := [4]) (by kernel_rfl) (by simp) (AllReadyH.cons rfl (fun K hK2 => ?_) AllReadyH.nil)
  rw [if_pos (by rfl)]
  simp only [List.getElem_toArray, List.getElem_cons_succ, List.getElem_cons_zero]
  go_wp2_with (go_at_call 13; refine (hN.out _ hHeld.2.1).mono ?_; rintro e w3 ⟨rfl, hb3⟩)
  refine hK2.out _ _ (⟨hHeld.1.keep hb3, hHeld.2.1.later hb3 (Nat.le_refl _), hHeld.2.2.later hb3 (Nat.le_refl _)⟩) (fun hHeld2 => ?_)
  clear hK2 K hHeld
  have hHeld := hHeld2
  clear hHeld2
  try simp only [Act.put, List.getElem_toArray, List.getElem_cons_succ, List.getElem_cons_zero, List.setIfInBounds_toArray, List.set_cons_zero, List.set_cons_succ]
  refine wpAnyH_take (i := 5) (v := .string ⟨t.toArray⟩) rfl (by kernel_rfl) (by kernel_rfl) (by kernel_rfl) (fun _ _ _ h => h) (Or.inl ⟨by rfl, fun W _ => by kernel_rfl⟩) hHeld ?_
  try simp only [Act.put, List.getElem_toArray, List.getElem_cons_succ, List.getElem_cons_zero, List.setIfInBounds_toArray, List.set_cons_zero, List.set_cons_succ]
  refine wpAnyH_take (i := 6) (v := .string ⟨nm.toArray⟩) rfl (by kernel_rfl) (by kernel_rfl) (by kernel_rfl) (fun _ _ _ h => h) (Or.inl ⟨by rfl, fun W _ => by kernel_rfl⟩) hHeld ?_
  try simp only [Act.put, List.getElem_toArray, List.getElem_cons_succ, List.getElem_cons_zero, List.setIfInBounds_toArray, List.set_cons_zero, List.set_cons_succ]
  refine wpAnyH_done (by kernel_rfl) ?_ _
  replace hB := hHeld.1
  replace ht1 := hHeld.2.1
  replace hp1 := hHeld.2.2
  clear hHeld
  have c0 : _ = some (Value.int .i64 op) := hB.at 0 _ rfl; have c5 : _ = some (Value.bool false) := hB.at 5 _ rfl; have c6 : _ = some (Value.bool false) := hB.at 6 _ rfl
  go_upto_region 18 with (go_at_call 14; refine (hF.out _ ht1).mono ?_; rintro e w5 ⟨rfl, hb5⟩; replace hB := hB.keep hb5; clear c0 c5 c6; have c0 : _ = some (Value.int .i64 op) := hB.at 0 _ rfl; have c5 : _ = some (Value.bool false) := hB.at 5 _ rfl; have c6 : _ = some (Value.bool false) := hB.at 6 _ rfl)
  have q7 : ((t.length : Int) == (nm.length : Int)) = false := by rw [beq_eq_false_iff_ne]; omega
  have q8 : ¬ t.length < nm.length := by omega
  go_upto_region 20 with fail
  go_wp2_with (first | (go_at_call 15; (with_reducible refine (hA.out _).mono ?_); rintro e w6 ⟨rfl, rfl⟩) | (go_at_call 15; (with_reducible refine (hA2.out _).mono ?_); rintro e w6 ⟨rfl, rfl⟩) | (go_at_call 15; (with_reducible refine (hA3.out _).mono ?_); rintro e w6 ⟨rfl, rfl⟩))
  go_ret
  exact ⟨rfl, hB.bl⟩
set_option maxRecDepth 100000 in
set_option maxHeartbeats 8000000 in
theorem Shapes_11ft (op rd r1 r2 imm pred succ : Int) (hop : op ≤ 9223372036854775807) (him : -9223372036854775808 ≤ imm ∧ imm ≤ 9223372036854775807) (hc : checkE ⟨op, rd, r1, r2, imm, false, true, pred, succ⟩ = 0) (hf : (opOf op).form = 11) (w : World) (ht : Tabs w) (hp : P10 w) :
    Calls Tryd.prog 3 #[.agg (InsnV.cells ⟨op, rd, r1, r2, imm, false, true, pred, succ⟩)] w fun e w' => e = .returned (.bool true) ∧ Below w.heap.size w w' := by
  have htt : textT ⟨op, rd, r1, r2, imm, false, true, pred, succ⟩ = bodyT ⟨op, rd, r1, r2, imm, false, true, pred, succ⟩ := if_pos hc
  have hB := XB.start w (InsnV.cells ⟨op, rd, r1, r2, imm, false, true, pred, succ⟩).toList 23
  rw [Array.toArray_toList] at hB
  have hu := Tryd.underlying23
  have hi : (Tryd.prog.info? 23).map (·.size) = some (InsnV.cells ⟨op, rd, r1, r2, imm, false, true, pred, succ⟩).toList.length := by kernel_rfl
  have ht1 := ht.later ((Below.refl _ w).alloc (Nat.le_refl _) (.cells (InsnV.cells ⟨op, rd, r1, r2, imm, false, true, pred, succ⟩) 23)) (Nat.le_refl _)
  have hp1 := hp.later ((Below.refl _ w).alloc (Nat.le_refl _) (.cells (InsnV.cells ⟨op, rd, r1, r2, imm, false, true, pred, succ⟩) 23)) (Nat.le_refl _)
  have hL := Lib.hid (fun W h1 h2 => Lives2_any W h1 h2)
  have hT := Lib.hid (fun W h1 h2 => LText_any ⟨op, rd, r1, r2, imm, false, true, pred, succ⟩ hop him W h1 h2)
  have hK := Lib.hid (fun W hW => Check_any ⟨op, rd, r1, r2, imm, false, true, pred, succ⟩ hop W hW)
  have hN := Lib.hid (fun W hW => IName_any op hop W hW)
  have hF := Lib.hid (fun W hW => Form_any op hop W hW)
  rw [htt] at hT
  rw [hc] at hK
  rw [hf] at hF
  obtain ⟨hl, k44, k40, k41, hsh⟩ := body_shape ⟨op, rd, r1, r2, imm, false, true, pred, succ⟩ hc
  have hj4 : op ≠ 4 := fun e => by rw [e, form_4] at hf; exact absurd hf (by decide)
  replace k44 := k44.trans (show _ = 1 by simp [commasV, hf, hj4])
  replace k40 := k40.trans (show _ = 1 by simp [opensV, hf, hj4])
  replace k41 := k41.trans (show _ = 1 by simp [opensV, hf, hj4])
  obtain ⟨u, hbe⟩ : ∃ u, bodyT ⟨op, rd, r1, r2, imm, false, true, pred, succ⟩ = (opOf op).name ++ 46 :: u := by
    rcases hsh with h | h
    · exact absurd (hf.symm.trans h.1) (by decide)
    · exact h.2
  clear hsh htt
  generalize bodyT ⟨op, rd, r1, r2, imm, false, true, pred, succ⟩ = t at hT hl hbe k44 k40 k41
  generalize (opOf op).name = nm at hN hbe
  have hA : Hid (∀ W, Calls Tryd.prog 15 #[.string ⟨t.toArray⟩, .int .u8 44] W fun e w' => e = .returned (.int .i64 1) ∧ W = w') := Lib.hid fun W => by have := Count_any t 44 (by omega) W; rw [k44] at this; exact this
  have hA2 : Hid (∀ W, Calls Tryd.prog 15 #[.string ⟨t.toArray⟩, .int .u8 40] W fun e w' => e = .returned (.int .i64 1) ∧ W = w') := Lib.hid fun W => by have := Count_any t 40 (by omega) W; rw [k40] at this; exact this
  have hA3 : Hid (∀ W, Calls Tryd.prog 15 #[.string ⟨t.toArray⟩, .int .u8 41] W fun e w' => e = .returned (.int .i64 1) ∧ W = w') := Lib.hid fun W => by have := Count_any t 41 (by omega) W; rw [k41] at this; exact this
  clear k44 k40 k41
  replace hbe := Lib.hid hbe
  have q1 : decide ((t.length : Int) < (nm.length : Int)) = false := by rw [hbe.out]; simp; omega
  have q2 : nm.length ≤ t.length := by rw [hbe.out]; simp
  have q3 : nm.length < t.length := by rw [hbe.out]; simp
  have q4 : decide ((60 : Int) < (t.length : Int)) = false := by simp; omega
  have q5 : (⟨t.toArray⟩ : ByteArray).extract 0 nm.length = ⟨nm.toArray⟩ := by
    rw [hbe.out]; apply ByteArray.ext; simp [ByteArray.data_extract]
  have hsz : nm.length < (⟨t.toArray⟩ : ByteArray).size := by show _ < t.toArray.size; rw [List.size_toArray]; exact q3
  have q6 : (⟨t.toArray⟩ : ByteArray)[nm.length]'hsz = 46 := by
    have hat : (⟨t.toArray⟩ : ByteArray)[nm.length]'hsz = t[nm.length] := by show t.toArray[nm.length] = _; simp
    rw [hat]; have := hbe.out; subst this; simp
  have tj : (op == 4) = false := by simpa using hj4
  clear hj4
  clear hop him ht hp hc hf
  go_enter Tryd.func3, Tryd.ntmps3
  go_upto_region 5 with (first | (refine wpList_load_mid rfl 23 _ rfl w.heap.size 0 rfl (InsnV.cells ⟨op, rd, r1, r2, imm, false, true, pred, succ⟩).toList _ hB.c hu rfl hi ?_) | (go_at_call 10; refine (hL.out _ ht1 hp1).mono ?_; rintro e w1 ⟨rfl, hb1⟩; replace hB := hB.keep hb1; replace ht1 := ht1.later hb1 (Nat.le_refl _); replace hp1 := hp1.later hb1 (Nat.le_refl _); clear hb1) | (go_at_call 11; refine (hK.out _ ht1).mono ?_; rintro e w1 ⟨rfl, hb1⟩; replace hB := hB.keep hb1; replace ht1 := ht1.later hb1 (Nat.le_refl _); replace hp1 := hp1.later hb1 (Nat.le_refl _); clear hb1))
  refine wp_region_held_drew (S := fun W => XB w (InsnV.cells ⟨op, rd, r1, r2, imm, false, true, pred, succ⟩).toList W ∧ Tabs W ∧ P10 W) (by kernel_rfl) ⟨hB.keep (Below.refl _ _).drew, ht1.later (Below.refl _ _).drew (Nat.le_refl _), hp1.later (Below.refl _ _).drew (Nat.le_refl _)⟩ (fun hHeld => ?_)
  refine wpAnyH_take (i := 0) rfl (by kernel_rfl) (by kernel_rfl) (by kernel_rfl) (fun _ _ _ h => h) (yieldsIf_load_mid (by rfl) 23 _ rfl w.heap.size 0 rfl (InsnV.cells ⟨op, rd, r1, r2, imm, false, true, pred, succ⟩).toList _ (fun W hS => hS.1.c) hu rfl hi) hHeld ?_
  try simp only [Act.put, List.getElem_toArray, List.getElem_cons_zero, List.setIfInBounds_toArray, List.set_cons_zero, List.set_cons_succ]
  refine wpAnyH_take (i := 2) (v := .pointer (some ⟨w.heap.size, 0, none⟩)) rfl (by kernel_rfl) (by kernel_rfl) (by kernel_rfl) (fun _ _ _ h => h) (Or.inl ⟨by rfl, fun W _ => by kernel_rfl⟩) hHeld ?_
  try simp only [Act.put, List.getElem_toArray, List.getElem_cons_succ, List.getElem_cons_zero, List.setIfInBounds_toArray, List.set_cons_zero, List.set_cons_succ]
  refine wpAnyH_take (i := 3) (v := .int .i64 op) rfl (by kernel_rfl) (by kernel_rfl) (by kernel_rfl) (fun _ _ _ h => h) (Or.inl ⟨by rfl, fun W hS => by (have k : W.cell? ⟨w.heap.size, 0, none⟩ = some (.int .i64 op) := hS.1.at 0 _ rfl); go_simp⟩) hHeld ?_
  try simp only [Act.put, List.getElem_toArray, List.getElem_cons_succ, List.getElem_cons_zero, List.setIfInBounds_toArray, List.set_cons_zero, List.set_cons_succ]
  refine wpAnyH_ready (rs := [1]) (by kernel_rfl) (by simp) (AllReadyH.cons rfl (fun K hK2 => ?_) AllReadyH.nil)
  rw [if_pos (by rfl)]
  simp only [List.getElem_toArray, List.getElem_cons_succ, List.getElem_cons_zero]
  go_wp2_with (go_at_call 12; refine (hT.out _ hHeld.2.1 hHeld.2.2).mono ?_; rintro e w3 ⟨rfl, hb3⟩)
  refine hK2.out _ _ (⟨hHeld.1.keep hb3, hHeld.2.1.later hb3 (Nat.le_refl _), hHeld.2.2.later hb3 (Nat.le_refl _)⟩) (fun hHeld2 => ?_)
  clear hK2 K hHeld
  have hHeld := hHeld2
  clear hHeld2
  try simp only [Act.put, List.getElem_toArray, List.getElem_cons_succ, List.getElem_cons_zero, List.setIfInBounds_toArray, List.set_cons_zero, List.set_cons_succ]
  refine wpAnyH_ready (rs := [4]) (by kernel_rfl) (by simp) (AllReadyH.cons rfl (fun K hK2 => ?_) AllReadyH.nil)
  rw [if_pos (by rfl)]
  simp only [List.getElem_toArray, List.getElem_cons_succ, List.getElem_cons_zero]
  go_wp2_with (go_at_call 13; refine (hN.out _ hHeld.2.1).mono ?_; rintro e w3 ⟨rfl, hb3⟩)
  refine hK2.out _ _ (⟨hHeld.1.keep hb3, hHeld.2.1.later hb3 (Nat.le_refl _), hHeld.2.2.later hb3 (Nat.le_refl _)⟩) (fun hHeld2 => ?_)
  clear hK2 K hHeld
  have hHeld := hHeld2
  clear hHeld2
  try simp only [Act.put, List.getElem_toArray, List.getElem_cons_succ, List.getElem_cons_zero, List.setIfInBounds_toArray, List.set_cons_zero, List.set_cons_succ]
  refine wpAnyH_take (i := 5) (v := .string ⟨t.toArray⟩) rfl (by kernel_rfl) (by kernel_rfl) (by kernel_rfl) (fun _ _ _ h => h) (Or.inl ⟨by rfl, fun W _ => by kernel_rfl⟩) hHeld ?_
  try simp only [Act.put, List.getElem_toArray, List.getElem_cons_succ, List.getElem_cons_zero, List.setIfInBounds_toArray, List.set_cons_zero, List.set_cons_succ]
  refine wpAnyH_take (i := 6) (v := .string ⟨nm.toArray⟩) rfl (by kernel_rfl) (by kernel_rfl) (by kernel_rfl) (fun _ _ _ h => h) (Or.inl ⟨by rfl, fun W _ => by kernel_rfl⟩) hHeld ?_
  try simp only [Act.put, List.getElem_toArray, List.getElem_cons_succ, List.getElem_cons_zero, List.setIfInBounds_toArray, List.set_cons_zero, List.set_cons_succ]
  refine wpAnyH_done (by kernel_rfl) ?_ _
  replace hB := hHeld.1
  replace ht1 := hHeld.2.1
  replace hp1 := hHeld.2.2
  clear hHeld
  have c0 : _ = some (Value.int .i64 op) := hB.at 0 _ rfl; have c5 : _ = some (Value.bool false) := hB.at 5 _ rfl; have c6 : _ = some (Value.bool true) := hB.at 6 _ rfl
  go_upto_region 18 with (go_at_call 14; refine (hF.out _ ht1).mono ?_; rintro e w5 ⟨rfl, hb5⟩; replace hB := hB.keep hb5; clear c0 c5 c6; have c0 : _ = some (Value.int .i64 op) := hB.at 0 _ rfl; have c5 : _ = some (Value.bool false) := hB.at 5 _ rfl; have c6 : _ = some (Value.bool true) := hB.at 6 _ rfl)
  have q7 : ((t.length : Int) == (nm.length : Int)) = false := by rw [beq_eq_false_iff_ne]; omega
  have q8 : ¬ t.length < nm.length := by omega
  go_upto_region 20 with fail
  go_wp2_with (first | (go_at_call 15; (with_reducible refine (hA.out _).mono ?_); rintro e w6 ⟨rfl, rfl⟩) | (go_at_call 15; (with_reducible refine (hA2.out _).mono ?_); rintro e w6 ⟨rfl, rfl⟩) | (go_at_call 15; (with_reducible refine (hA3.out _).mono ?_); rintro e w6 ⟨rfl, rfl⟩))
  go_ret
  exact ⟨rfl, hB.bl⟩
set_option maxRecDepth 100000 in
set_option maxHeartbeats 8000000 in
theorem Shapes_11tf (op rd r1 r2 imm pred succ : Int) (hop : op ≤ 9223372036854775807) (him : -9223372036854775808 ≤ imm ∧ imm ≤ 9223372036854775807) (hc : checkE ⟨op, rd, r1, r2, imm, true, false, pred, succ⟩ = 0) (hf : (opOf op).form = 11) (w : World) (ht : Tabs w) (hp : P10 w) :
    Calls Tryd.prog 3 #[.agg (InsnV.cells ⟨op, rd, r1, r2, imm, true, false, pred, succ⟩)] w fun e w' => e = .returned (.bool true) ∧ Below w.heap.size w w' := by
  have htt : textT ⟨op, rd, r1, r2, imm, true, false, pred, succ⟩ = bodyT ⟨op, rd, r1, r2, imm, true, false, pred, succ⟩ := if_pos hc
  have hB := XB.start w (InsnV.cells ⟨op, rd, r1, r2, imm, true, false, pred, succ⟩).toList 23
  rw [Array.toArray_toList] at hB
  have hu := Tryd.underlying23
  have hi : (Tryd.prog.info? 23).map (·.size) = some (InsnV.cells ⟨op, rd, r1, r2, imm, true, false, pred, succ⟩).toList.length := by kernel_rfl
  have ht1 := ht.later ((Below.refl _ w).alloc (Nat.le_refl _) (.cells (InsnV.cells ⟨op, rd, r1, r2, imm, true, false, pred, succ⟩) 23)) (Nat.le_refl _)
  have hp1 := hp.later ((Below.refl _ w).alloc (Nat.le_refl _) (.cells (InsnV.cells ⟨op, rd, r1, r2, imm, true, false, pred, succ⟩) 23)) (Nat.le_refl _)
  have hL := Lib.hid (fun W h1 h2 => Lives2_any W h1 h2)
  have hT := Lib.hid (fun W h1 h2 => LText_any ⟨op, rd, r1, r2, imm, true, false, pred, succ⟩ hop him W h1 h2)
  have hK := Lib.hid (fun W hW => Check_any ⟨op, rd, r1, r2, imm, true, false, pred, succ⟩ hop W hW)
  have hN := Lib.hid (fun W hW => IName_any op hop W hW)
  have hF := Lib.hid (fun W hW => Form_any op hop W hW)
  rw [htt] at hT
  rw [hc] at hK
  rw [hf] at hF
  obtain ⟨hl, k44, k40, k41, hsh⟩ := body_shape ⟨op, rd, r1, r2, imm, true, false, pred, succ⟩ hc
  have hj4 : op ≠ 4 := fun e => by rw [e, form_4] at hf; exact absurd hf (by decide)
  replace k44 := k44.trans (show _ = 1 by simp [commasV, hf, hj4])
  replace k40 := k40.trans (show _ = 1 by simp [opensV, hf, hj4])
  replace k41 := k41.trans (show _ = 1 by simp [opensV, hf, hj4])
  obtain ⟨u, hbe⟩ : ∃ u, bodyT ⟨op, rd, r1, r2, imm, true, false, pred, succ⟩ = (opOf op).name ++ 46 :: u := by
    rcases hsh with h | h
    · exact absurd (hf.symm.trans h.1) (by decide)
    · exact h.2
  clear hsh htt
  generalize bodyT ⟨op, rd, r1, r2, imm, true, false, pred, succ⟩ = t at hT hl hbe k44 k40 k41
  generalize (opOf op).name = nm at hN hbe
  have hA : Hid (∀ W, Calls Tryd.prog 15 #[.string ⟨t.toArray⟩, .int .u8 44] W fun e w' => e = .returned (.int .i64 1) ∧ W = w') := Lib.hid fun W => by have := Count_any t 44 (by omega) W; rw [k44] at this; exact this
  have hA2 : Hid (∀ W, Calls Tryd.prog 15 #[.string ⟨t.toArray⟩, .int .u8 40] W fun e w' => e = .returned (.int .i64 1) ∧ W = w') := Lib.hid fun W => by have := Count_any t 40 (by omega) W; rw [k40] at this; exact this
  have hA3 : Hid (∀ W, Calls Tryd.prog 15 #[.string ⟨t.toArray⟩, .int .u8 41] W fun e w' => e = .returned (.int .i64 1) ∧ W = w') := Lib.hid fun W => by have := Count_any t 41 (by omega) W; rw [k41] at this; exact this
  clear k44 k40 k41
  replace hbe := Lib.hid hbe
  have q1 : decide ((t.length : Int) < (nm.length : Int)) = false := by rw [hbe.out]; simp; omega
  have q2 : nm.length ≤ t.length := by rw [hbe.out]; simp
  have q3 : nm.length < t.length := by rw [hbe.out]; simp
  have q4 : decide ((60 : Int) < (t.length : Int)) = false := by simp; omega
  have q5 : (⟨t.toArray⟩ : ByteArray).extract 0 nm.length = ⟨nm.toArray⟩ := by
    rw [hbe.out]; apply ByteArray.ext; simp [ByteArray.data_extract]
  have hsz : nm.length < (⟨t.toArray⟩ : ByteArray).size := by show _ < t.toArray.size; rw [List.size_toArray]; exact q3
  have q6 : (⟨t.toArray⟩ : ByteArray)[nm.length]'hsz = 46 := by
    have hat : (⟨t.toArray⟩ : ByteArray)[nm.length]'hsz = t[nm.length] := by show t.toArray[nm.length] = _; simp
    rw [hat]; have := hbe.out; subst this; simp
  have tj : (op == 4) = false := by simpa using hj4
  clear hj4
  clear hop him ht hp hc hf
  go_enter Tryd.func3, Tryd.ntmps3
  go_upto_region 5 with (first | (refine wpList_load_mid rfl 23 _ rfl w.heap.size 0 rfl (InsnV.cells ⟨op, rd, r1, r2, imm, true, false, pred, succ⟩).toList _ hB.c hu rfl hi ?_) | (go_at_call 10; refine (hL.out _ ht1 hp1).mono ?_; rintro e w1 ⟨rfl, hb1⟩; replace hB := hB.keep hb1; replace ht1 := ht1.later hb1 (Nat.le_refl _); replace hp1 := hp1.later hb1 (Nat.le_refl _); clear hb1) | (go_at_call 11; refine (hK.out _ ht1).mono ?_; rintro e w1 ⟨rfl, hb1⟩; replace hB := hB.keep hb1; replace ht1 := ht1.later hb1 (Nat.le_refl _); replace hp1 := hp1.later hb1 (Nat.le_refl _); clear hb1))
  refine wp_region_held_drew (S := fun W => XB w (InsnV.cells ⟨op, rd, r1, r2, imm, true, false, pred, succ⟩).toList W ∧ Tabs W ∧ P10 W) (by kernel_rfl) ⟨hB.keep (Below.refl _ _).drew, ht1.later (Below.refl _ _).drew (Nat.le_refl _), hp1.later (Below.refl _ _).drew (Nat.le_refl _)⟩ (fun hHeld => ?_)
  refine wpAnyH_take (i := 0) rfl (by kernel_rfl) (by kernel_rfl) (by kernel_rfl) (fun _ _ _ h => h) (yieldsIf_load_mid (by rfl) 23 _ rfl w.heap.size 0 rfl (InsnV.cells ⟨op, rd, r1, r2, imm, true, false, pred, succ⟩).toList _ (fun W hS => hS.1.c) hu rfl hi) hHeld ?_
  try simp only [Act.put, List.getElem_toArray, List.getElem_cons_zero, List.setIfInBounds_toArray, List.set_cons_zero, List.set_cons_succ]
  refine wpAnyH_take (i := 2) (v := .pointer (some ⟨w.heap.size, 0, none⟩)) rfl (by kernel_rfl) (by kernel_rfl) (by kernel_rfl) (fun _ _ _ h => h) (Or.inl ⟨by rfl, fun W _ => by kernel_rfl⟩) hHeld ?_
  try simp only [Act.put, List.getElem_toArray, List.getElem_cons_succ, List.getElem_cons_zero, List.setIfInBounds_toArray, List.set_cons_zero, List.set_cons_succ]
  refine wpAnyH_take (i := 3) (v := .int .i64 op) rfl (by kernel_rfl) (by kernel_rfl) (by kernel_rfl) (fun _ _ _ h => h) (Or.inl ⟨by rfl, fun W hS => by (have k : W.cell? ⟨w.heap.size, 0, none⟩ = some (.int .i64 op) := hS.1.at 0 _ rfl); go_simp⟩) hHeld ?_
  try simp only [Act.put, List.getElem_toArray, List.getElem_cons_succ, List.getElem_cons_zero, List.setIfInBounds_toArray, List.set_cons_zero, List.set_cons_succ]
  refine wpAnyH_ready (rs := [1]) (by kernel_rfl) (by simp) (AllReadyH.cons rfl (fun K hK2 => ?_) AllReadyH.nil)
  rw [if_pos (by rfl)]
  simp only [List.getElem_toArray, List.getElem_cons_succ, List.getElem_cons_zero]
  go_wp2_with (go_at_call 12; refine (hT.out _ hHeld.2.1 hHeld.2.2).mono ?_; rintro e w3 ⟨rfl, hb3⟩)
  refine hK2.out _ _ (⟨hHeld.1.keep hb3, hHeld.2.1.later hb3 (Nat.le_refl _), hHeld.2.2.later hb3 (Nat.le_refl _)⟩) (fun hHeld2 => ?_)
  clear hK2 K hHeld
  have hHeld := hHeld2
  clear hHeld2
  try simp only [Act.put, List.getElem_toArray, List.getElem_cons_succ, List.getElem_cons_zero, List.setIfInBounds_toArray, List.set_cons_zero, List.set_cons_succ]
  refine wpAnyH_ready (rs := [4]) (by kernel_rfl) (by simp) (AllReadyH.cons rfl (fun K hK2 => ?_) AllReadyH.nil)
  rw [if_pos (by rfl)]
  simp only [List.getElem_toArray, List.getElem_cons_succ, List.getElem_cons_zero]
  go_wp2_with (go_at_call 13; refine (hN.out _ hHeld.2.1).mono ?_; rintro e w3 ⟨rfl, hb3⟩)
  refine hK2.out _ _ (⟨hHeld.1.keep hb3, hHeld.2.1.later hb3 (Nat.le_refl _), hHeld.2.2.later hb3 (Nat.le_refl _)⟩) (fun hHeld2 => ?_)
  clear hK2 K hHeld
  have hHeld := hHeld2
  clear hHeld2
  try simp only [Act.put, List.getElem_toArray, List.getElem_cons_succ, List.getElem_cons_zero, List.setIfInBounds_toArray, List.set_cons_zero, List.set_cons_succ]
  refine wpAnyH_take (i := 5) (v := .string ⟨t.toArray⟩) rfl (by kernel_rfl) (by kernel_rfl) (by kernel_rfl) (fun _ _ _ h => h) (Or.inl ⟨by rfl, fun W _ => by kernel_rfl⟩) hHeld ?_
  try simp only [Act.put, List.getElem_toArray, List.getElem_cons_succ, List.getElem_cons_zero, List.setIfInBounds_toArray, List.set_cons_zero, List.set_cons_succ]
  refine wpAnyH_take (i := 6) (v := .string ⟨nm.toArray⟩) rfl (by kernel_rfl) (by kernel_rfl) (by kernel_rfl) (fun _ _ _ h => h) (Or.inl ⟨by rfl, fun W _ => by kernel_rfl⟩) hHeld ?_
  try simp only [Act.put, List.getElem_toArray, List.getElem_cons_succ, List.getElem_cons_zero, List.setIfInBounds_toArray, List.set_cons_zero, List.set_cons_succ]
  refine wpAnyH_done (by kernel_rfl) ?_ _
  replace hB := hHeld.1
  replace ht1 := hHeld.2.1
  replace hp1 := hHeld.2.2
  clear hHeld
  have c0 : _ = some (Value.int .i64 op) := hB.at 0 _ rfl; have c5 : _ = some (Value.bool true) := hB.at 5 _ rfl; have c6 : _ = some (Value.bool false) := hB.at 6 _ rfl
  go_upto_region 18 with (go_at_call 14; refine (hF.out _ ht1).mono ?_; rintro e w5 ⟨rfl, hb5⟩; replace hB := hB.keep hb5; clear c0 c5 c6; have c0 : _ = some (Value.int .i64 op) := hB.at 0 _ rfl; have c5 : _ = some (Value.bool true) := hB.at 5 _ rfl; have c6 : _ = some (Value.bool false) := hB.at 6 _ rfl)
  have q7 : ((t.length : Int) == (nm.length : Int)) = false := by rw [beq_eq_false_iff_ne]; omega
  have q8 : ¬ t.length < nm.length := by omega
  go_upto_region 20 with fail
  go_wp2_with (first | (go_at_call 15; (with_reducible refine (hA.out _).mono ?_); rintro e w6 ⟨rfl, rfl⟩) | (go_at_call 15; (with_reducible refine (hA2.out _).mono ?_); rintro e w6 ⟨rfl, rfl⟩) | (go_at_call 15; (with_reducible refine (hA3.out _).mono ?_); rintro e w6 ⟨rfl, rfl⟩))
  go_ret
  exact ⟨rfl, hB.bl⟩
set_option maxRecDepth 100000 in
set_option maxHeartbeats 8000000 in
theorem Shapes_11tt (op rd r1 r2 imm pred succ : Int) (hop : op ≤ 9223372036854775807) (him : -9223372036854775808 ≤ imm ∧ imm ≤ 9223372036854775807) (hc : checkE ⟨op, rd, r1, r2, imm, true, true, pred, succ⟩ = 0) (hf : (opOf op).form = 11) (w : World) (ht : Tabs w) (hp : P10 w) :
    Calls Tryd.prog 3 #[.agg (InsnV.cells ⟨op, rd, r1, r2, imm, true, true, pred, succ⟩)] w fun e w' => e = .returned (.bool true) ∧ Below w.heap.size w w' := by
  have htt : textT ⟨op, rd, r1, r2, imm, true, true, pred, succ⟩ = bodyT ⟨op, rd, r1, r2, imm, true, true, pred, succ⟩ := if_pos hc
  have hB := XB.start w (InsnV.cells ⟨op, rd, r1, r2, imm, true, true, pred, succ⟩).toList 23
  rw [Array.toArray_toList] at hB
  have hu := Tryd.underlying23
  have hi : (Tryd.prog.info? 23).map (·.size) = some (InsnV.cells ⟨op, rd, r1, r2, imm, true, true, pred, succ⟩).toList.length := by kernel_rfl
  have ht1 := ht.later ((Below.refl _ w).alloc (Nat.le_refl _) (.cells (InsnV.cells ⟨op, rd, r1, r2, imm, true, true, pred, succ⟩) 23)) (Nat.le_refl _)
  have hp1 := hp.later ((Below.refl _ w).alloc (Nat.le_refl _) (.cells (InsnV.cells ⟨op, rd, r1, r2, imm, true, true, pred, succ⟩) 23)) (Nat.le_refl _)
  have hL := Lib.hid (fun W h1 h2 => Lives2_any W h1 h2)
  have hT := Lib.hid (fun W h1 h2 => LText_any ⟨op, rd, r1, r2, imm, true, true, pred, succ⟩ hop him W h1 h2)
  have hK := Lib.hid (fun W hW => Check_any ⟨op, rd, r1, r2, imm, true, true, pred, succ⟩ hop W hW)
  have hN := Lib.hid (fun W hW => IName_any op hop W hW)
  have hF := Lib.hid (fun W hW => Form_any op hop W hW)
  rw [htt] at hT
  rw [hc] at hK
  rw [hf] at hF
  obtain ⟨hl, k44, k40, k41, hsh⟩ := body_shape ⟨op, rd, r1, r2, imm, true, true, pred, succ⟩ hc
  have hj4 : op ≠ 4 := fun e => by rw [e, form_4] at hf; exact absurd hf (by decide)
  replace k44 := k44.trans (show _ = 1 by simp [commasV, hf, hj4])
  replace k40 := k40.trans (show _ = 1 by simp [opensV, hf, hj4])
  replace k41 := k41.trans (show _ = 1 by simp [opensV, hf, hj4])
  obtain ⟨u, hbe⟩ : ∃ u, bodyT ⟨op, rd, r1, r2, imm, true, true, pred, succ⟩ = (opOf op).name ++ 46 :: u := by
    rcases hsh with h | h
    · exact absurd (hf.symm.trans h.1) (by decide)
    · exact h.2
  clear hsh htt
  generalize bodyT ⟨op, rd, r1, r2, imm, true, true, pred, succ⟩ = t at hT hl hbe k44 k40 k41
  generalize (opOf op).name = nm at hN hbe
  have hA : Hid (∀ W, Calls Tryd.prog 15 #[.string ⟨t.toArray⟩, .int .u8 44] W fun e w' => e = .returned (.int .i64 1) ∧ W = w') := Lib.hid fun W => by have := Count_any t 44 (by omega) W; rw [k44] at this; exact this
  have hA2 : Hid (∀ W, Calls Tryd.prog 15 #[.string ⟨t.toArray⟩, .int .u8 40] W fun e w' => e = .returned (.int .i64 1) ∧ W = w') := Lib.hid fun W => by have := Count_any t 40 (by omega) W; rw [k40] at this; exact this
  have hA3 : Hid (∀ W, Calls Tryd.prog 15 #[.string ⟨t.toArray⟩, .int .u8 41] W fun e w' => e = .returned (.int .i64 1) ∧ W = w') := Lib.hid fun W => by have := Count_any t 41 (by omega) W; rw [k41] at this; exact this
  clear k44 k40 k41
  replace hbe := Lib.hid hbe
  have q1 : decide ((t.length : Int) < (nm.length : Int)) = false := by rw [hbe.out]; simp; omega
  have q2 : nm.length ≤ t.length := by rw [hbe.out]; simp
  have q3 : nm.length < t.length := by rw [hbe.out]; simp
  have q4 : decide ((60 : Int) < (t.length : Int)) = false := by simp; omega
  have q5 : (⟨t.toArray⟩ : ByteArray).extract 0 nm.length = ⟨nm.toArray⟩ := by
    rw [hbe.out]; apply ByteArray.ext; simp [ByteArray.data_extract]
  have hsz : nm.length < (⟨t.toArray⟩ : ByteArray).size := by show _ < t.toArray.size; rw [List.size_toArray]; exact q3
  have q6 : (⟨t.toArray⟩ : ByteArray)[nm.length]'hsz = 46 := by
    have hat : (⟨t.toArray⟩ : ByteArray)[nm.length]'hsz = t[nm.length] := by show t.toArray[nm.length] = _; simp
    rw [hat]; have := hbe.out; subst this; simp
  have tj : (op == 4) = false := by simpa using hj4
  clear hj4
  clear hop him ht hp hc hf
  go_enter Tryd.func3, Tryd.ntmps3
  go_upto_region 5 with (first | (refine wpList_load_mid rfl 23 _ rfl w.heap.size 0 rfl (InsnV.cells ⟨op, rd, r1, r2, imm, true, true, pred, succ⟩).toList _ hB.c hu rfl hi ?_) | (go_at_call 10; refine (hL.out _ ht1 hp1).mono ?_; rintro e w1 ⟨rfl, hb1⟩; replace hB := hB.keep hb1; replace ht1 := ht1.later hb1 (Nat.le_refl _); replace hp1 := hp1.later hb1 (Nat.le_refl _); clear hb1) | (go_at_call 11; refine (hK.out _ ht1).mono ?_; rintro e w1 ⟨rfl, hb1⟩; replace hB := hB.keep hb1; replace ht1 := ht1.later hb1 (Nat.le_refl _); replace hp1 := hp1.later hb1 (Nat.le_refl _); clear hb1))
  refine wp_region_held_drew (S := fun W => XB w (InsnV.cells ⟨op, rd, r1, r2, imm, true, true, pred, succ⟩).toList W ∧ Tabs W ∧ P10 W) (by kernel_rfl) ⟨hB.keep (Below.refl _ _).drew, ht1.later (Below.refl _ _).drew (Nat.le_refl _), hp1.later (Below.refl _ _).drew (Nat.le_refl _)⟩ (fun hHeld => ?_)
  refine wpAnyH_take (i := 0) rfl (by kernel_rfl) (by kernel_rfl) (by kernel_rfl) (fun _ _ _ h => h) (yieldsIf_load_mid (by rfl) 23 _ rfl w.heap.size 0 rfl (InsnV.cells ⟨op, rd, r1, r2, imm, true, true, pred, succ⟩).toList _ (fun W hS => hS.1.c) hu rfl hi) hHeld ?_
  try simp only [Act.put, List.getElem_toArray, List.getElem_cons_zero, List.setIfInBounds_toArray, List.set_cons_zero, List.set_cons_succ]
  refine wpAnyH_take (i := 2) (v := .pointer (some ⟨w.heap.size, 0, none⟩)) rfl (by kernel_rfl) (by kernel_rfl) (by kernel_rfl) (fun _ _ _ h => h) (Or.inl ⟨by rfl, fun W _ => by kernel_rfl⟩) hHeld ?_
  try simp only [Act.put, List.getElem_toArray, List.getElem_cons_succ, List.getElem_cons_zero, List.setIfInBounds_toArray, List.set_cons_zero, List.set_cons_succ]
  refine wpAnyH_take (i := 3) (v := .int .i64 op) rfl (by kernel_rfl) (by kernel_rfl) (by kernel_rfl) (fun _ _ _ h => h) (Or.inl ⟨by rfl, fun W hS => by (have k : W.cell? ⟨w.heap.size, 0, none⟩ = some (.int .i64 op) := hS.1.at 0 _ rfl); go_simp⟩) hHeld ?_
  try simp only [Act.put, List.getElem_toArray, List.getElem_cons_succ, List.getElem_cons_zero, List.setIfInBounds_toArray, List.set_cons_zero, List.set_cons_succ]
  refine wpAnyH_ready (rs := [1]) (by kernel_rfl) (by simp) (AllReadyH.cons rfl (fun K hK2 => ?_) AllReadyH.nil)
  rw [if_pos (by rfl)]
  simp only [List.getElem_toArray, List.getElem_cons_succ, List.getElem_cons_zero]
  go_wp2_with (go_at_call 12; refine (hT.out _ hHeld.2.1 hHeld.2.2).mono ?_; rintro e w3 ⟨rfl, hb3⟩)
  refine hK2.out _ _ (⟨hHeld.1.keep hb3, hHeld.2.1.later hb3 (Nat.le_refl _), hHeld.2.2.later hb3 (Nat.le_refl _)⟩) (fun hHeld2 => ?_)
  clear hK2 K hHeld
  have hHeld := hHeld2
  clear hHeld2
  try simp only [Act.put, List.getElem_toArray, List.getElem_cons_succ, List.getElem_cons_zero, List.setIfInBounds_toArray, List.set_cons_zero, List.set_cons_succ]
  refine wpAnyH_ready (rs := [4]) (by kernel_rfl) (by simp) (AllReadyH.cons rfl (fun K hK2 => ?_) AllReadyH.nil)
  rw [if_pos (by rfl)]
  simp only [List.getElem_toArray, List.getElem_cons_succ, List.getElem_cons_zero]
  go_wp2_with (go_at_call 13; refine (hN.out _ hHeld.2.1).mono ?_; rintro e w3 ⟨rfl, hb3⟩)
  refine hK2.out _ _ (⟨hHeld.1.keep hb3, hHeld.2.1.later hb3 (Nat.le_refl _), hHeld.2.2.later hb3 (Nat.le_refl _)⟩) (fun hHeld2 => ?_)
  clear hK2 K hHeld
  have hHeld := hHeld2
  clear hHeld2
  try simp only [Act.put, List.getElem_toArray, List.getElem_cons_succ, List.getElem_cons_zero, List.setIfInBounds_toArray, List.set_cons_zero, List.set_cons_succ]
  refine wpAnyH_take (i := 5) (v := .string ⟨t.toArray⟩) rfl (by kernel_rfl) (by kernel_rfl) (by kernel_rfl) (fun _ _ _ h => h) (Or.inl ⟨by rfl, fun W _ => by kernel_rfl⟩) hHeld ?_
  try simp only [Act.put, List.getElem_toArray, List.getElem_cons_succ, List.getElem_cons_zero, List.setIfInBounds_toArray, List.set_cons_zero, List.set_cons_succ]
  refine wpAnyH_take (i := 6) (v := .string ⟨nm.toArray⟩) rfl (by kernel_rfl) (by kernel_rfl) (by kernel_rfl) (fun _ _ _ h => h) (Or.inl ⟨by rfl, fun W _ => by kernel_rfl⟩) hHeld ?_
  try simp only [Act.put, List.getElem_toArray, List.getElem_cons_succ, List.getElem_cons_zero, List.setIfInBounds_toArray, List.set_cons_zero, List.set_cons_succ]
  refine wpAnyH_done (by kernel_rfl) ?_ _
  replace hB := hHeld.1
  replace ht1 := hHeld.2.1
  replace hp1 := hHeld.2.2
  clear hHeld
  have c0 : _ = some (Value.int .i64 op) := hB.at 0 _ rfl; have c5 : _ = some (Value.bool true) := hB.at 5 _ rfl; have c6 : _ = some (Value.bool true) := hB.at 6 _ rfl
  go_upto_region 18 with (go_at_call 14; refine (hF.out _ ht1).mono ?_; rintro e w5 ⟨rfl, hb5⟩; replace hB := hB.keep hb5; clear c0 c5 c6; have c0 : _ = some (Value.int .i64 op) := hB.at 0 _ rfl; have c5 : _ = some (Value.bool true) := hB.at 5 _ rfl; have c6 : _ = some (Value.bool true) := hB.at 6 _ rfl)
  have q7 : ((t.length : Int) == (nm.length : Int)) = false := by rw [beq_eq_false_iff_ne]; omega
  have q8 : ¬ t.length < nm.length := by omega
  go_upto_region 20 with fail
  go_wp2_with (first | (go_at_call 15; (with_reducible refine (hA.out _).mono ?_); rintro e w6 ⟨rfl, rfl⟩) | (go_at_call 15; (with_reducible refine (hA2.out _).mono ?_); rintro e w6 ⟨rfl, rfl⟩) | (go_at_call 15; (with_reducible refine (hA3.out _).mono ?_); rintro e w6 ⟨rfl, rfl⟩))
  go_ret
  exact ⟨rfl, hB.bl⟩
set_option maxRecDepth 100000 in
set_option maxHeartbeats 8000000 in
theorem Shapes_12ff (op rd r1 r2 imm pred succ : Int) (hop : op ≤ 9223372036854775807) (him : -9223372036854775808 ≤ imm ∧ imm ≤ 9223372036854775807) (hc : checkE ⟨op, rd, r1, r2, imm, false, false, pred, succ⟩ = 0) (hf : (opOf op).form = 12) (w : World) (ht : Tabs w) (hp : P10 w) :
    Calls Tryd.prog 3 #[.agg (InsnV.cells ⟨op, rd, r1, r2, imm, false, false, pred, succ⟩)] w fun e w' => e = .returned (.bool true) ∧ Below w.heap.size w w' := by
  have htt : textT ⟨op, rd, r1, r2, imm, false, false, pred, succ⟩ = bodyT ⟨op, rd, r1, r2, imm, false, false, pred, succ⟩ := if_pos hc
  have hB := XB.start w (InsnV.cells ⟨op, rd, r1, r2, imm, false, false, pred, succ⟩).toList 23
  rw [Array.toArray_toList] at hB
  have hu := Tryd.underlying23
  have hi : (Tryd.prog.info? 23).map (·.size) = some (InsnV.cells ⟨op, rd, r1, r2, imm, false, false, pred, succ⟩).toList.length := by kernel_rfl
  have ht1 := ht.later ((Below.refl _ w).alloc (Nat.le_refl _) (.cells (InsnV.cells ⟨op, rd, r1, r2, imm, false, false, pred, succ⟩) 23)) (Nat.le_refl _)
  have hp1 := hp.later ((Below.refl _ w).alloc (Nat.le_refl _) (.cells (InsnV.cells ⟨op, rd, r1, r2, imm, false, false, pred, succ⟩) 23)) (Nat.le_refl _)
  have hL := Lib.hid (fun W h1 h2 => Lives2_any W h1 h2)
  have hT := Lib.hid (fun W h1 h2 => LText_any ⟨op, rd, r1, r2, imm, false, false, pred, succ⟩ hop him W h1 h2)
  have hK := Lib.hid (fun W hW => Check_any ⟨op, rd, r1, r2, imm, false, false, pred, succ⟩ hop W hW)
  have hN := Lib.hid (fun W hW => IName_any op hop W hW)
  have hF := Lib.hid (fun W hW => Form_any op hop W hW)
  rw [htt] at hT
  rw [hc] at hK
  rw [hf] at hF
  obtain ⟨hl, k44, k40, k41, hsh⟩ := body_shape ⟨op, rd, r1, r2, imm, false, false, pred, succ⟩ hc
  have hj4 : op ≠ 4 := fun e => by rw [e, form_4] at hf; exact absurd hf (by decide)
  replace k44 := k44.trans (show _ = 2 by simp [commasV, hf, hj4])
  replace k40 := k40.trans (show _ = 1 by simp [opensV, hf, hj4])
  replace k41 := k41.trans (show _ = 1 by simp [opensV, hf, hj4])
  obtain ⟨u, hbe⟩ : ∃ u, bodyT ⟨op, rd, r1, r2, imm, false, false, pred, succ⟩ = (opOf op).name ++ 32 :: u := by
    rcases hsh with h | h
    · exact absurd (hf.symm.trans h.1) (by decide)
    · exact h.2
  clear hsh htt
  generalize bodyT ⟨op, rd, r1, r2, imm, false, false, pred, succ⟩ = t at hT hl hbe k44 k40 k41
  generalize (opOf op).name = nm at hN hbe
  have hA : Hid (∀ W, Calls Tryd.prog 15 #[.string ⟨t.toArray⟩, .int .u8 44] W fun e w' => e = .returned (.int .i64 2) ∧ W = w') := Lib.hid fun W => by have := Count_any t 44 (by omega) W; rw [k44] at this; exact this
  have hA2 : Hid (∀ W, Calls Tryd.prog 15 #[.string ⟨t.toArray⟩, .int .u8 40] W fun e w' => e = .returned (.int .i64 1) ∧ W = w') := Lib.hid fun W => by have := Count_any t 40 (by omega) W; rw [k40] at this; exact this
  have hA3 : Hid (∀ W, Calls Tryd.prog 15 #[.string ⟨t.toArray⟩, .int .u8 41] W fun e w' => e = .returned (.int .i64 1) ∧ W = w') := Lib.hid fun W => by have := Count_any t 41 (by omega) W; rw [k41] at this; exact this
  clear k44 k40 k41
  replace hbe := Lib.hid hbe
  have q1 : decide ((t.length : Int) < (nm.length : Int)) = false := by rw [hbe.out]; simp; omega
  have q2 : nm.length ≤ t.length := by rw [hbe.out]; simp
  have q3 : nm.length < t.length := by rw [hbe.out]; simp
  have q4 : decide ((60 : Int) < (t.length : Int)) = false := by simp; omega
  have q5 : (⟨t.toArray⟩ : ByteArray).extract 0 nm.length = ⟨nm.toArray⟩ := by
    rw [hbe.out]; apply ByteArray.ext; simp [ByteArray.data_extract]
  have hsz : nm.length < (⟨t.toArray⟩ : ByteArray).size := by show _ < t.toArray.size; rw [List.size_toArray]; exact q3
  have q6 : (⟨t.toArray⟩ : ByteArray)[nm.length]'hsz = 32 := by
    have hat : (⟨t.toArray⟩ : ByteArray)[nm.length]'hsz = t[nm.length] := by show t.toArray[nm.length] = _; simp
    rw [hat]; have := hbe.out; subst this; simp
  have tj : (op == 4) = false := by simpa using hj4
  clear hj4
  clear hop him ht hp hc hf
  go_enter Tryd.func3, Tryd.ntmps3
  go_upto_region 5 with (first | (refine wpList_load_mid rfl 23 _ rfl w.heap.size 0 rfl (InsnV.cells ⟨op, rd, r1, r2, imm, false, false, pred, succ⟩).toList _ hB.c hu rfl hi ?_) | (go_at_call 10; refine (hL.out _ ht1 hp1).mono ?_; rintro e w1 ⟨rfl, hb1⟩; replace hB := hB.keep hb1; replace ht1 := ht1.later hb1 (Nat.le_refl _); replace hp1 := hp1.later hb1 (Nat.le_refl _); clear hb1) | (go_at_call 11; refine (hK.out _ ht1).mono ?_; rintro e w1 ⟨rfl, hb1⟩; replace hB := hB.keep hb1; replace ht1 := ht1.later hb1 (Nat.le_refl _); replace hp1 := hp1.later hb1 (Nat.le_refl _); clear hb1))
  refine wp_region_held_drew (S := fun W => XB w (InsnV.cells ⟨op, rd, r1, r2, imm, false, false, pred, succ⟩).toList W ∧ Tabs W ∧ P10 W) (by kernel_rfl) ⟨hB.keep (Below.refl _ _).drew, ht1.later (Below.refl _ _).drew (Nat.le_refl _), hp1.later (Below.refl _ _).drew (Nat.le_refl _)⟩ (fun hHeld => ?_)
  refine wpAnyH_take (i := 0) rfl (by kernel_rfl) (by kernel_rfl) (by kernel_rfl) (fun _ _ _ h => h) (yieldsIf_load_mid (by rfl) 23 _ rfl w.heap.size 0 rfl (InsnV.cells ⟨op, rd, r1, r2, imm, false, false, pred, succ⟩).toList _ (fun W hS => hS.1.c) hu rfl hi) hHeld ?_
  try simp only [Act.put, List.getElem_toArray, List.getElem_cons_zero, List.setIfInBounds_toArray, List.set_cons_zero, List.set_cons_succ]
  refine wpAnyH_take (i := 2) (v := .pointer (some ⟨w.heap.size, 0, none⟩)) rfl (by kernel_rfl) (by kernel_rfl) (by kernel_rfl) (fun _ _ _ h => h) (Or.inl ⟨by rfl, fun W _ => by kernel_rfl⟩) hHeld ?_
  try simp only [Act.put, List.getElem_toArray, List.getElem_cons_succ, List.getElem_cons_zero, List.setIfInBounds_toArray, List.set_cons_zero, List.set_cons_succ]
  refine wpAnyH_take (i := 3) (v := .int .i64 op) rfl (by kernel_rfl) (by kernel_rfl) (by kernel_rfl) (fun _ _ _ h => h) (Or.inl ⟨by rfl, fun W hS => by (have k : W.cell? ⟨w.heap.size, 0, none⟩ = some (.int .i64 op) := hS.1.at 0 _ rfl); go_simp⟩) hHeld ?_
  try simp only [Act.put, List.getElem_toArray, List.getElem_cons_succ, List.getElem_cons_zero, List.setIfInBounds_toArray, List.set_cons_zero, List.set_cons_succ]
  refine wpAnyH_ready (rs := [1]) (by kernel_rfl) (by simp) (AllReadyH.cons rfl (fun K hK2 => ?_) AllReadyH.nil)
  rw [if_pos (by rfl)]
  simp only [List.getElem_toArray, List.getElem_cons_succ, List.getElem_cons_zero]
  go_wp2_with (go_at_call 12; refine (hT.out _ hHeld.2.1 hHeld.2.2).mono ?_; rintro e w3 ⟨rfl, hb3⟩)
  refine hK2.out _ _ (⟨hHeld.1.keep hb3, hHeld.2.1.later hb3 (Nat.le_refl _), hHeld.2.2.later hb3 (Nat.le_refl _)⟩) (fun hHeld2 => ?_)
  clear hK2 K hHeld
  have hHeld := hHeld2
  clear hHeld2
  try simp only [Act.put, List.getElem_toArray, List.getElem_cons_succ, List.getElem_cons_zero, List.setIfInBounds_toArray, List.set_cons_zero, List.set_cons_succ]
  refine wpAnyH_ready (rs := [4]) (by kernel_rfl) (by simp) (AllReadyH.cons rfl (fun K hK2 => ?_) AllReadyH.nil)
  rw [if_pos (by rfl)]
  simp only [List.getElem_toArray, List.getElem_cons_succ, List.getElem_cons_zero]
  go_wp2_with (go_at_call 13; refine (hN.out _ hHeld.2.1).mono ?_; rintro e w3 ⟨rfl, hb3⟩)
  refine hK2.out _ _ (⟨hHeld.1.keep hb3, hHeld.2.1.later hb3 (Nat.le_refl _), hHeld.2.2.later hb3 (Nat.le_refl _)⟩) (fun hHeld2 => ?_)
  clear hK2 K hHeld
  have hHeld := hHeld2
  clear hHeld2
  try simp only [Act.put, List.getElem_toArray, List.getElem_cons_succ, List.getElem_cons_zero, List.setIfInBounds_toArray, List.set_cons_zero, List.set_cons_succ]
  refine wpAnyH_take (i := 5) (v := .string ⟨t.toArray⟩) rfl (by kernel_rfl) (by kernel_rfl) (by kernel_rfl) (fun _ _ _ h => h) (Or.inl ⟨by rfl, fun W _ => by kernel_rfl⟩) hHeld ?_
  try simp only [Act.put, List.getElem_toArray, List.getElem_cons_succ, List.getElem_cons_zero, List.setIfInBounds_toArray, List.set_cons_zero, List.set_cons_succ]
  refine wpAnyH_take (i := 6) (v := .string ⟨nm.toArray⟩) rfl (by kernel_rfl) (by kernel_rfl) (by kernel_rfl) (fun _ _ _ h => h) (Or.inl ⟨by rfl, fun W _ => by kernel_rfl⟩) hHeld ?_
  try simp only [Act.put, List.getElem_toArray, List.getElem_cons_succ, List.getElem_cons_zero, List.setIfInBounds_toArray, List.set_cons_zero, List.set_cons_succ]
  refine wpAnyH_done (by kernel_rfl) ?_ _
  replace hB := hHeld.1
  replace ht1 := hHeld.2.1
  replace hp1 := hHeld.2.2
  clear hHeld
  have c0 : _ = some (Value.int .i64 op) := hB.at 0 _ rfl; have c5 : _ = some (Value.bool false) := hB.at 5 _ rfl; have c6 : _ = some (Value.bool false) := hB.at 6 _ rfl
  go_upto_region 18 with (go_at_call 14; refine (hF.out _ ht1).mono ?_; rintro e w5 ⟨rfl, hb5⟩; replace hB := hB.keep hb5; clear c0 c5 c6; have c0 : _ = some (Value.int .i64 op) := hB.at 0 _ rfl; have c5 : _ = some (Value.bool false) := hB.at 5 _ rfl; have c6 : _ = some (Value.bool false) := hB.at 6 _ rfl)
  have q7 : ((t.length : Int) == (nm.length : Int)) = false := by rw [beq_eq_false_iff_ne]; omega
  have q8 : ¬ t.length < nm.length := by omega
  go_upto_region 20 with fail
  go_wp2_with (first | (go_at_call 15; (with_reducible refine (hA.out _).mono ?_); rintro e w6 ⟨rfl, rfl⟩) | (go_at_call 15; (with_reducible refine (hA2.out _).mono ?_); rintro e w6 ⟨rfl, rfl⟩) | (go_at_call 15; (with_reducible refine (hA3.out _).mono ?_); rintro e w6 ⟨rfl, rfl⟩))
  go_ret
  exact ⟨rfl, hB.bl⟩
set_option maxRecDepth 100000 in
set_option maxHeartbeats 8000000 in
theorem Shapes_12ft (op rd r1 r2 imm pred succ : Int) (hop : op ≤ 9223372036854775807) (him : -9223372036854775808 ≤ imm ∧ imm ≤ 9223372036854775807) (hc : checkE ⟨op, rd, r1, r2, imm, false, true, pred, succ⟩ = 0) (hf : (opOf op).form = 12) (w : World) (ht : Tabs w) (hp : P10 w) :
    Calls Tryd.prog 3 #[.agg (InsnV.cells ⟨op, rd, r1, r2, imm, false, true, pred, succ⟩)] w fun e w' => e = .returned (.bool true) ∧ Below w.heap.size w w' := by
  have htt : textT ⟨op, rd, r1, r2, imm, false, true, pred, succ⟩ = bodyT ⟨op, rd, r1, r2, imm, false, true, pred, succ⟩ := if_pos hc
  have hB := XB.start w (InsnV.cells ⟨op, rd, r1, r2, imm, false, true, pred, succ⟩).toList 23
  rw [Array.toArray_toList] at hB
  have hu := Tryd.underlying23
  have hi : (Tryd.prog.info? 23).map (·.size) = some (InsnV.cells ⟨op, rd, r1, r2, imm, false, true, pred, succ⟩).toList.length := by kernel_rfl
  have ht1 := ht.later ((Below.refl _ w).alloc (Nat.le_refl _) (.cells (InsnV.cells ⟨op, rd, r1, r2, imm, false, true, pred, succ⟩) 23)) (Nat.le_refl _)
  have hp1 := hp.later ((Below.refl _ w).alloc (Nat.le_refl _) (.cells (InsnV.cells ⟨op, rd, r1, r2, imm, false, true, pred, succ⟩) 23)) (Nat.le_refl _)
  have hL := Lib.hid (fun W h1 h2 => Lives2_any W h1 h2)
  have hT := Lib.hid (fun W h1 h2 => LText_any ⟨op, rd, r1, r2, imm, false, true, pred, succ⟩ hop him W h1 h2)
  have hK := Lib.hid (fun W hW => Check_any ⟨op, rd, r1, r2, imm, false, true, pred, succ⟩ hop W hW)
  have hN := Lib.hid (fun W hW => IName_any op hop W hW)
  have hF := Lib.hid (fun W hW => Form_any op hop W hW)
  rw [htt] at hT
  rw [hc] at hK
  rw [hf] at hF
  obtain ⟨hl, k44, k40, k41, hsh⟩ := body_shape ⟨op, rd, r1, r2, imm, false, true, pred, succ⟩ hc
  have hj4 : op ≠ 4 := fun e => by rw [e, form_4] at hf; exact absurd hf (by decide)
  replace k44 := k44.trans (show _ = 2 by simp [commasV, hf, hj4])
  replace k40 := k40.trans (show _ = 1 by simp [opensV, hf, hj4])
  replace k41 := k41.trans (show _ = 1 by simp [opensV, hf, hj4])
  obtain ⟨u, hbe⟩ : ∃ u, bodyT ⟨op, rd, r1, r2, imm, false, true, pred, succ⟩ = (opOf op).name ++ 46 :: u := by
    rcases hsh with h | h
    · exact absurd (hf.symm.trans h.1) (by decide)
    · exact h.2
  clear hsh htt
  generalize bodyT ⟨op, rd, r1, r2, imm, false, true, pred, succ⟩ = t at hT hl hbe k44 k40 k41
  generalize (opOf op).name = nm at hN hbe
  have hA : Hid (∀ W, Calls Tryd.prog 15 #[.string ⟨t.toArray⟩, .int .u8 44] W fun e w' => e = .returned (.int .i64 2) ∧ W = w') := Lib.hid fun W => by have := Count_any t 44 (by omega) W; rw [k44] at this; exact this
  have hA2 : Hid (∀ W, Calls Tryd.prog 15 #[.string ⟨t.toArray⟩, .int .u8 40] W fun e w' => e = .returned (.int .i64 1) ∧ W = w') := Lib.hid fun W => by have := Count_any t 40 (by omega) W; rw [k40] at this; exact this
  have hA3 : Hid (∀ W, Calls Tryd.prog 15 #[.string ⟨t.toArray⟩, .int .u8 41] W fun e w' => e = .returned (.int .i64 1) ∧ W = w') := Lib.hid fun W => by have := Count_any t 41 (by omega) W; rw [k41] at this; exact this
  clear k44 k40 k41
  replace hbe := Lib.hid hbe
  have q1 : decide ((t.length : Int) < (nm.length : Int)) = false := by rw [hbe.out]; simp; omega
  have q2 : nm.length ≤ t.length := by rw [hbe.out]; simp
  have q3 : nm.length < t.length := by rw [hbe.out]; simp
  have q4 : decide ((60 : Int) < (t.length : Int)) = false := by simp; omega
  have q5 : (⟨t.toArray⟩ : ByteArray).extract 0 nm.length = ⟨nm.toArray⟩ := by
    rw [hbe.out]; apply ByteArray.ext; simp [ByteArray.data_extract]
  have hsz : nm.length < (⟨t.toArray⟩ : ByteArray).size := by show _ < t.toArray.size; rw [List.size_toArray]; exact q3
  have q6 : (⟨t.toArray⟩ : ByteArray)[nm.length]'hsz = 46 := by
    have hat : (⟨t.toArray⟩ : ByteArray)[nm.length]'hsz = t[nm.length] := by show t.toArray[nm.length] = _; simp
    rw [hat]; have := hbe.out; subst this; simp
  have tj : (op == 4) = false := by simpa using hj4
  clear hj4
  clear hop him ht hp hc hf
  go_enter Tryd.func3, Tryd.ntmps3
  go_upto_region 5 with (first | (refine wpList_load_mid rfl 23 _ rfl w.heap.size 0 rfl (InsnV.cells ⟨op, rd, r1, r2, imm, false, true, pred, succ⟩).toList _ hB.c hu rfl hi ?_) | (go_at_call 10; refine (hL.out _ ht1 hp1).mono ?_; rintro e w1 ⟨rfl, hb1⟩; replace hB := hB.keep hb1; replace ht1 := ht1.later hb1 (Nat.le_refl _); replace hp1 := hp1.later hb1 (Nat.le_refl _); clear hb1) | (go_at_call 11; refine (hK.out _ ht1).mono ?_; rintro e w1 ⟨rfl, hb1⟩; replace hB := hB.keep hb1; replace ht1 := ht1.later hb1 (Nat.le_refl _); replace hp1 := hp1.later hb1 (Nat.le_refl _); clear hb1))
  refine wp_region_held_drew (S := fun W => XB w (InsnV.cells ⟨op, rd, r1, r2, imm, false, true, pred, succ⟩).toList W ∧ Tabs W ∧ P10 W) (by kernel_rfl) ⟨hB.keep (Below.refl _ _).drew, ht1.later (Below.refl _ _).drew (Nat.le_refl _), hp1.later (Below.refl _ _).drew (Nat.le_refl _)⟩ (fun hHeld => ?_)
  refine wpAnyH_take (i := 0) rfl (by kernel_rfl) (by kernel_rfl) (by kernel_rfl) (fun _ _ _ h => h) (yieldsIf_load_mid (by rfl) 23 _ rfl w.heap.size 0 rfl (InsnV.cells ⟨op, rd, r1, r2, imm, false, true, pred, succ⟩).toList _ (fun W hS => hS.1.c) hu rfl hi) hHeld ?_
  try simp only [Act.put, List.getElem_toArray, List.getElem_cons_zero, List.setIfInBounds_toArray, List.set_cons_zero, List.set_cons_succ]
  refine wpAnyH_take (i := 2) (v := .pointer (some ⟨w.heap.size, 0, none⟩)) rfl (by kernel_rfl) (by kernel_rfl) (by kernel_rfl) (fun _ _ _ h => h) (Or.inl ⟨by rfl, fun W _ => by kernel_rfl⟩) hHeld ?_
  try simp only [Act.put, List.getElem_toArray, List.getElem_cons_succ, List.getElem_cons_zero, List.setIfInBounds_toArray, List.set_cons_zero, List.set_cons_succ]
  refine wpAnyH_take (i := 3) (v := .int .i64 op) rfl (by kernel_rfl) (by kernel_rfl) (by kernel_rfl) (fun _ _ _ h => h) (Or.inl ⟨by rfl, fun W hS => by (have k : W.cell? ⟨w.heap.size, 0, none⟩ = some (.int .i64 op) := hS.1.at 0 _ rfl); go_simp⟩) hHeld ?_
  try simp only [Act.put, List.getElem_toArray, List.getElem_cons_succ, List.getElem_cons_zero, List.setIfInBounds_toArray, List.set_cons_zero, List.set_cons_succ]
  refine wpAnyH_ready (rs := [1]) (by kernel_rfl) (by simp) (AllReadyH.cons rfl (fun K hK2 => ?_) AllReadyH.nil)
  rw [if_pos (by rfl)]
  simp only [List.getElem_toArray, List.getElem_cons_succ, List.getElem_cons_zero]
  go_wp2_with (go_at_call 12; refine (hT.out _ hHeld.2.1 hHeld.2.2).mono ?_; rintro e w3 ⟨rfl, hb3⟩)
  refine hK2.out _ _ (⟨hHeld.1.keep hb3, hHeld.2.1.later hb3 (Nat.le_refl _), hHeld.2.2.later hb3 (Nat.le_refl _)⟩) (fun hHeld2 => ?_)
  clear hK2 K hHeld
  have hHeld := hHeld2
  clear hHeld2
  try simp only [Act.put, List.getElem_toArray, List.getElem_cons_succ, List.getElem_cons_zero, List.setIfInBounds_toArray, List.set_cons_zero, List.set_cons_succ]
  refine wpAnyH_ready (rs := [4]) (by kernel_rfl) (by simp) (AllReadyH.cons rfl (fun K hK2 => ?_) AllReadyH.nil)
  rw [if_pos (by rfl)]
  simp only [List.getElem_toArray, List.getElem_cons_succ, List.getElem_cons_zero]
  go_wp2_with (go_at_call 13; refine (hN.out _ hHeld.2.1).mono ?_; rintro e w3 ⟨rfl, hb3⟩)
  refine hK2.out _ _ (⟨hHeld.1.keep hb3, hHeld.2.1.later hb3 (Nat.le_refl _), hHeld.2.2.later hb3 (Nat.le_refl _)⟩) (fun hHeld2 => ?_)
  clear hK2 K hHeld
  have hHeld := hHeld2
  clear hHeld2
  try simp only [Act.put, List.getElem_toArray, List.getElem_cons_succ, List.getElem_cons_zero, List.setIfInBounds_toArray, List.set_cons_zero, List.set_cons_succ]
  refine wpAnyH_take (i := 5) (v := .string ⟨t.toArray⟩) rfl (by kernel_rfl) (by kernel_rfl) (by kernel_rfl) (fun _ _ _ h => h) (Or.inl ⟨by rfl, fun W _ => by kernel_rfl⟩) hHeld ?_
  try simp only [Act.put, List.getElem_toArray, List.getElem_cons_succ, List.getElem_cons_zero, List.setIfInBounds_toArray, List.set_cons_zero, List.set_cons_succ]
  refine wpAnyH_take (i := 6) (v := .string ⟨nm.toArray⟩) rfl (by kernel_rfl) (by kernel_rfl) (by kernel_rfl) (fun _ _ _ h => h) (Or.inl ⟨by rfl, fun W _ => by kernel_rfl⟩) hHeld ?_
  try simp only [Act.put, List.getElem_toArray, List.getElem_cons_succ, List.getElem_cons_zero, List.setIfInBounds_toArray, List.set_cons_zero, List.set_cons_succ]
  refine wpAnyH_done (by kernel_rfl) ?_ _
  replace hB := hHeld.1
  replace ht1 := hHeld.2.1
  replace hp1 := hHeld.2.2
  clear hHeld
  have c0 : _ = some (Value.int .i64 op) := hB.at 0 _ rfl; have c5 : _ = some (Value.bool false) := hB.at 5 _ rfl; have c6 : _ = some (Value.bool true) := hB.at 6 _ rfl
  go_upto_region 18 with (go_at_call 14; refine (hF.out _ ht1).mono ?_; rintro e w5 ⟨rfl, hb5⟩; replace hB := hB.keep hb5; clear c0 c5 c6; have c0 : _ = some (Value.int .i64 op) := hB.at 0 _ rfl; have c5 : _ = some (Value.bool false) := hB.at 5 _ rfl; have c6 : _ = some (Value.bool true) := hB.at 6 _ rfl)
  have q7 : ((t.length : Int) == (nm.length : Int)) = false := by rw [beq_eq_false_iff_ne]; omega
  have q8 : ¬ t.length < nm.length := by omega
  go_upto_region 20 with fail
  go_wp2_with (first | (go_at_call 15; (with_reducible refine (hA.out _).mono ?_); rintro e w6 ⟨rfl, rfl⟩) | (go_at_call 15; (with_reducible refine (hA2.out _).mono ?_); rintro e w6 ⟨rfl, rfl⟩) | (go_at_call 15; (with_reducible refine (hA3.out _).mono ?_); rintro e w6 ⟨rfl, rfl⟩))
  go_ret
  exact ⟨rfl, hB.bl⟩
set_option maxRecDepth 100000 in
set_option maxHeartbeats 8000000 in
theorem Shapes_12tf (op rd r1 r2 imm pred succ : Int) (hop : op ≤ 9223372036854775807) (him : -9223372036854775808 ≤ imm ∧ imm ≤ 9223372036854775807) (hc : checkE ⟨op, rd, r1, r2, imm, true, false, pred, succ⟩ = 0) (hf : (opOf op).form = 12) (w : World) (ht : Tabs w) (hp : P10 w) :
    Calls Tryd.prog 3 #[.agg (InsnV.cells ⟨op, rd, r1, r2, imm, true, false, pred, succ⟩)] w fun e w' => e = .returned (.bool true) ∧ Below w.heap.size w w' := by
  have htt : textT ⟨op, rd, r1, r2, imm, true, false, pred, succ⟩ = bodyT ⟨op, rd, r1, r2, imm, true, false, pred, succ⟩ := if_pos hc
  have hB := XB.start w (InsnV.cells ⟨op, rd, r1, r2, imm, true, false, pred, succ⟩).toList 23
  rw [Array.toArray_toList] at hB
  have hu := Tryd.underlying23
  have hi : (Tryd.prog.info? 23).map (·.size) = some (InsnV.cells ⟨op, rd, r1, r2, imm, true, false, pred, succ⟩).toList.length := by kernel_rfl
  have ht1 := ht.later ((Below.refl _ w).alloc (Nat.le_refl _) (.cells (InsnV.cells ⟨op, rd, r1, r2, imm, true, false, pred, succ⟩) 23)) (Nat.le_refl _)
  have hp1 := hp.later ((Below.refl _ w).alloc (Nat.le_refl _) (.cells (InsnV.cells ⟨op, rd, r1, r2, imm, true, false, pred, succ⟩) 23)) (Nat.le_refl _)
  have hL := Lib.hid (fun W h1 h2 => Lives2_any W h1 h2)
  have hT := Lib.hid (fun W h1 h2 => LText_any ⟨op, rd, r1, r2, imm, true, false, pred, succ⟩ hop him W h1 h2)
  have hK := Lib.hid (fun W hW => Check_any ⟨op, rd, r1, r2, imm, true, false, pred, succ⟩ hop W hW)
  have hN := Lib.hid (fun W hW => IName_any op hop W hW)
  have hF := Lib.hid (fun W hW => Form_any op hop W hW)
  rw [htt] at hT
  rw [hc] at hK
  rw [hf] at hF
  obtain ⟨hl, k44, k40, k41, hsh⟩ := body_shape ⟨op, rd, r1, r2, imm, true, false, pred, succ⟩ hc
  have hj4 : op ≠ 4 := fun e => by rw [e, form_4] at hf; exact absurd hf (by decide)
  replace k44 := k44.trans (show _ = 2 by simp [commasV, hf, hj4])
  replace k40 := k40.trans (show _ = 1 by simp [opensV, hf, hj4])
  replace k41 := k41.trans (show _ = 1 by simp [opensV, hf, hj4])
  obtain ⟨u, hbe⟩ : ∃ u, bodyT ⟨op, rd, r1, r2, imm, true, false, pred, succ⟩ = (opOf op).name ++ 46 :: u := by
    rcases hsh with h | h
    · exact absurd (hf.symm.trans h.1) (by decide)
    · exact h.2
  clear hsh htt
  generalize bodyT ⟨op, rd, r1, r2, imm, true, false, pred, succ⟩ = t at hT hl hbe k44 k40 k41
  generalize (opOf op).name = nm at hN hbe
  have hA : Hid (∀ W, Calls Tryd.prog 15 #[.string ⟨t.toArray⟩, .int .u8 44] W fun e w' => e = .returned (.int .i64 2) ∧ W = w') := Lib.hid fun W => by have := Count_any t 44 (by omega) W; rw [k44] at this; exact this
  have hA2 : Hid (∀ W, Calls Tryd.prog 15 #[.string ⟨t.toArray⟩, .int .u8 40] W fun e w' => e = .returned (.int .i64 1) ∧ W = w') := Lib.hid fun W => by have := Count_any t 40 (by omega) W; rw [k40] at this; exact this
  have hA3 : Hid (∀ W, Calls Tryd.prog 15 #[.string ⟨t.toArray⟩, .int .u8 41] W fun e w' => e = .returned (.int .i64 1) ∧ W = w') := Lib.hid fun W => by have := Count_any t 41 (by omega) W; rw [k41] at this; exact this
  clear k44 k40 k41
  replace hbe := Lib.hid hbe
  have q1 : decide ((t.length : Int) < (nm.length : Int)) = false := by rw [hbe.out]; simp; omega
  have q2 : nm.length ≤ t.length := by rw [hbe.out]; simp
  have q3 : nm.length < t.length := by rw [hbe.out]; simp
  have q4 : decide ((60 : Int) < (t.length : Int)) = false := by simp; omega
  have q5 : (⟨t.toArray⟩ : ByteArray).extract 0 nm.length = ⟨nm.toArray⟩ := by
    rw [hbe.out]; apply ByteArray.ext; simp [ByteArray.data_extract]
  have hsz : nm.length < (⟨t.toArray⟩ : ByteArray).size := by show _ < t.toArray.size; rw [List.size_toArray]; exact q3
  have q6 : (⟨t.toArray⟩ : ByteArray)[nm.length]'hsz = 46 := by
    have hat : (⟨t.toArray⟩ : ByteArray)[nm.length]'hsz = t[nm.length] := by show t.toArray[nm.length] = _; simp
    rw [hat]; have := hbe.out; subst this; simp
  have tj : (op == 4) = false := by simpa using hj4
  clear hj4
  clear hop him ht hp hc hf
  go_enter Tryd.func3, Tryd.ntmps3
  go_upto_region 5 with (first | (refine wpList_load_mid rfl 23 _ rfl w.heap.size 0 rfl (InsnV.cells ⟨op, rd, r1, r2, imm, true, false, pred, succ⟩).toList _ hB.c hu rfl hi ?_) | (go_at_call 10; refine (hL.out _ ht1 hp1).mono ?_; rintro e w1 ⟨rfl, hb1⟩; replace hB := hB.keep hb1; replace ht1 := ht1.later hb1 (Nat.le_refl _); replace hp1 := hp1.later hb1 (Nat.le_refl _); clear hb1) | (go_at_call 11; refine (hK.out _ ht1).mono ?_; rintro e w1 ⟨rfl, hb1⟩; replace hB := hB.keep hb1; replace ht1 := ht1.later hb1 (Nat.le_refl _); replace hp1 := hp1.later hb1 (Nat.le_refl _); clear hb1))
  refine wp_region_held_drew (S := fun W => XB w (InsnV.cells ⟨op, rd, r1, r2, imm, true, false, pred, succ⟩).toList W ∧ Tabs W ∧ P10 W) (by kernel_rfl) ⟨hB.keep (Below.refl _ _).drew, ht1.later (Below.refl _ _).drew (Nat.le_refl _), hp1.later (Below.refl _ _).drew (Nat.le_refl _)⟩ (fun hHeld => ?_)
  refine wpAnyH_take (i := 0) rfl (by kernel_rfl) (by kernel_rfl) (by kernel_rfl) (fun _ _ _ h => h) (yieldsIf_load_mid (by rfl) 23 _ rfl w.heap.size 0 rfl (InsnV.cells ⟨op, rd, r1, r2, imm, true, false, pred, succ⟩).toList _ (fun W hS => hS.1.c) hu rfl hi) hHeld ?_
  try simp only [Act.put, List.getElem_toArray, List.getElem_cons_zero, List.setIfInBounds_toArray, List.set_cons_zero, List.set_cons_succ]
  refine wpAnyH_take (i := 2) (v := .pointer (some ⟨w.heap.size, 0, none⟩)) rfl (by kernel_rfl) (by kernel_rfl) (by kernel_rfl) (fun _ _ _ h => h) (Or.inl ⟨by rfl, fun W _ => by kernel_rfl⟩) hHeld ?_
  try simp only [Act.put, List.getElem_toArray, List.getElem_cons_succ, List.getElem_cons_zero, List.setIfInBounds_toArray, List.set_cons_zero, List.set_cons_succ]
  refine wpAnyH_take (i := 3) (v := .int .i64 op) rfl (by kernel_rfl) (by kernel_rfl) (by kernel_rfl) (fun _ _ _ h => h) (Or.inl ⟨by rfl, fun W hS => by (have k : W.cell? ⟨w.heap.size, 0, none⟩ = some (.int .i64 op) := hS.1.at 0 _ rfl); go_simp⟩) hHeld ?_
  try simp only [Act.put, List.getElem_toArray, List.getElem_cons_succ, List.getElem_cons_zero, List.setIfInBounds_toArray, List.set_cons_zero, List.set_cons_succ]
  refine wpAnyH_ready (rs := [1]) (by kernel_rfl) (by simp) (AllReadyH.cons rfl (fun K hK2 => ?_) AllReadyH.nil)
  rw [if_pos (by rfl)]
  simp only [List.getElem_toArray, List.getElem_cons_succ, List.getElem_cons_zero]
  go_wp2_with (go_at_call 12; refine (hT.out _ hHeld.2.1 hHeld.2.2).mono ?_; rintro e w3 ⟨rfl, hb3⟩)
  refine hK2.out _ _ (⟨hHeld.1.keep hb3, hHeld.2.1.later hb3 (Nat.le_refl _), hHeld.2.2.later hb3 (Nat.le_refl _)⟩) (fun hHeld2 => ?_)
  clear hK2 K hHeld
  have hHeld := hHeld2
  clear hHeld2
  try simp only [Act.put, List.getElem_toArray, List.getElem_cons_succ, List.getElem_cons_zero, List.setIfInBounds_toArray, List.set_cons_zero, List.set_cons_succ]
  refine wpAnyH_ready (rs := [4]) (by kernel_rfl) (by simp) (AllReadyH.cons rfl (fun K hK2 => ?_) AllReadyH.nil)
  rw [if_pos (by rfl)]
  simp only [List.getElem_toArray, List.getElem_cons_succ, List.getElem_cons_zero]
  go_wp2_with (go_at_call 13; refine (hN.out _ hHeld.2.1).mono ?_; rintro e w3 ⟨rfl, hb3⟩)
  refine hK2.out _ _ (⟨hHeld.1.keep hb3, hHeld.2.1.later hb3 (Nat.le_refl _), hHeld.2.2.later hb3 (Nat.le_refl _)⟩) (fun hHeld2 => ?_)
  clear hK2 K hHeld
  have hHeld := hHeld2
  clear hHeld2
  try simp only [Act.put, List.getElem_toArray, List.getElem_cons_succ, List.getElem_cons_zero, List.setIfInBounds_toArray, List.set_cons_zero, List.set_cons_succ]
  refine wpAnyH_take (i := 5) (v := .string ⟨t.toArray⟩) rfl (by kernel_rfl) (by kernel_rfl) (by kernel_rfl) (fun _ _ _ h => h) (Or.inl ⟨by rfl, fun W _ => by kernel_rfl⟩) hHeld ?_
  try simp only [Act.put, List.getElem_toArray, List.getElem_cons_succ, List.getElem_cons_zero, List.setIfInBounds_toArray, List.set_cons_zero, List.set_cons_succ]
  refine wpAnyH_take (i := 6) (v := .string ⟨nm.toArray⟩) rfl (by kernel_rfl) (by kernel_rfl) (by kernel_rfl) (fun _ _ _ h => h) (Or.inl ⟨by rfl, fun W _ => by kernel_rfl⟩) hHeld ?_
  try simp only [Act.put, List.getElem_toArray, List.getElem_cons_succ, List.getElem_cons_zero, List.setIfInBounds_toArray, List.set_cons_zero, List.set_cons_succ]
  refine wpAnyH_done (by kernel_rfl) ?_ _
  replace hB := hHeld.1
  replace ht1 := hHeld.2.1
  replace hp1 := hHeld.2.2
  clear hHeld
  have c0 : _ = some (Value.int .i64 op) := hB.at 0 _ rfl; have c5 : _ = some (Value.bool true) := hB.at 5 _ rfl; have c6 : _ = some (Value.bool false) := hB.at 6 _ rfl
  go_upto_region 18 with (go_at_call 14; refine (hF.out _ ht1).mono ?_; rintro e w5 ⟨rfl, hb5⟩; replace hB := hB.keep hb5; clear c0 c5 c6; have c0 : _ = some (Value.int .i64 op) := hB.at 0 _ rfl; have c5 : _ = some (Value.bool true) := hB.at 5 _ rfl; have c6 : _ = some (Value.bool false) := hB.at 6 _ rfl)
  have q7 : ((t.length : Int) == (nm.length : Int)) = false := by rw [beq_eq_false_iff_ne]; omega
  have q8 : ¬ t.length < nm.length := by omega
  go_upto_region 20 with fail
  go_wp2_with (first | (go_at_call 15; (with_reducible refine (hA.out _).mono ?_); rintro e w6 ⟨rfl, rfl⟩) | (go_at_call 15; (with_reducible refine (hA2.out _).mono ?_); rintro e w6 ⟨rfl, rfl⟩) | (go_at_call 15; (with_reducible refine (hA3.out _).mono ?_); rintro e w6 ⟨rfl, rfl⟩))
  go_ret
  exact ⟨rfl, hB.bl⟩
set_option maxRecDepth 100000 in
set_option maxHeartbeats 8000000 in
theorem Shapes_12tt (op rd r1 r2 imm pred succ : Int) (hop : op ≤ 9223372036854775807) (him : -9223372036854775808 ≤ imm ∧ imm ≤ 9223372036854775807) (hc : checkE ⟨op, rd, r1, r2, imm, true, true, pred, succ⟩ = 0) (hf : (opOf op).form = 12) (w : World) (ht : Tabs w) (hp : P10 w) :
    Calls Tryd.prog 3 #[.agg (InsnV.cells ⟨op, rd, r1, r2, imm, true, true, pred, succ⟩)] w fun e w' => e = .returned (.bool true) ∧ Below w.heap.size w w' := by
  have htt : textT ⟨op, rd, r1, r2, imm, true, true, pred, succ⟩ = bodyT ⟨op, rd, r1, r2, imm, true, true, pred, succ⟩ := if_pos hc
  have hB := XB.start w (InsnV.cells ⟨op, rd, r1, r2, imm, true, true, pred, succ⟩).toList 23
  rw [Array.toArray_toList] at hB
  have hu := Tryd.underlying23
  have hi : (Tryd.prog.info? 23).map (·.size) = some (InsnV.cells ⟨op, rd, r1, r2, imm, true, true, pred, succ⟩).toList.length := by kernel_rfl
  have ht1 := ht.later ((Below.refl _ w).alloc (Nat.le_refl _) (.cells (InsnV.cells ⟨op, rd, r1, r2, imm, true, true, pred, succ⟩) 23)) (Nat.le_refl _)
  have hp1 := hp.later ((Below.refl _ w).alloc (Nat.le_refl _) (.cells (InsnV.cells ⟨op, rd, r1, r2, imm, true, true, pred, succ⟩) 23)) (Nat.le_refl _)
  have hL := Lib.hid (fun W h1 h2 => Lives2_any W h1 h2)
  have hT := Lib.hid (fun W h1 h2 => LText_any ⟨op, rd, r1, r2, imm, true, true, pred, succ⟩ hop him W h1 h2)
  have hK := Lib.hid (fun W hW => Check_any ⟨op, rd, r1, r2, imm, true, true, pred, succ⟩ hop W hW)
  have hN := Lib.hid (fun W hW => IName_any op hop W hW)
  have hF := Lib.hid (fun W hW => Form_any op hop W hW)
  rw [htt] at hT
  rw [hc] at hK
  rw [hf] at hF
  obtain ⟨hl, k44, k40, k41, hsh⟩ := body_shape ⟨op, rd, r1, r2, imm, true, true, pred, succ⟩ hc
  have hj4 : op ≠ 4 := fun e => by rw [e, form_4] at hf; exact absurd hf (by decide)
  replace k44 := k44.trans (show _ = 2 by simp [commasV, hf, hj4])
  replace k40 := k40.trans (show _ = 1 by simp [opensV, hf, hj4])
  replace k41 := k41.trans (show _ = 1 by simp [opensV, hf, hj4])
  obtain ⟨u, hbe⟩ : ∃ u, bodyT ⟨op, rd, r1, r2, imm, true, true, pred, succ⟩ = (opOf op).name ++ 46 :: u := by
    rcases hsh with h | h
    · exact absurd (hf.symm.trans h.1) (by decide)
    · exact h.2
  clear hsh htt
  generalize bodyT ⟨op, rd, r1, r2, imm, true, true, pred, succ⟩ = t at hT hl hbe k44 k40 k41
  generalize (opOf op).name = nm at hN hbe
  have hA : Hid (∀ W, Calls Tryd.prog 15 #[.string ⟨t.toArray⟩, .int .u8 44] W fun e w' => e = .returned (.int .i64 2) ∧ W = w') := Lib.hid fun W => by have := Count_any t 44 (by omega) W; rw [k44] at this; exact this
  have hA2 : Hid (∀ W, Calls Tryd.prog 15 #[.string ⟨t.toArray⟩, .int .u8 40] W fun e w' => e = .returned (.int .i64 1) ∧ W = w') := Lib.hid fun W => by have := Count_any t 40 (by omega) W; rw [k40] at this; exact this
  have hA3 : Hid (∀ W, Calls Tryd.prog 15 #[.string ⟨t.toArray⟩, .int .u8 41] W fun e w' => e = .returned (.int .i64 1) ∧ W = w') := Lib.hid fun W => by have := Count_any t 41 (by omega) W; rw [k41] at this; exact this
  clear k44 k40 k41
  replace hbe := Lib.hid hbe
  have q1 : decide ((t.length : Int) < (nm.length : Int)) = false := by rw [hbe.out]; simp; omega
  have q2 : nm.length ≤ t.length := by rw [hbe.out]; simp
  have q3 : nm.length < t.length := by rw [hbe.out]; simp
  have q4 : decide ((60 : Int) < (t.length : Int)) = false := by simp; omega
  have q5 : (⟨t.toArray⟩ : ByteArray).extract 0 nm.length = ⟨nm.toArray⟩ := by
    rw [hbe.out]; apply ByteArray.ext; simp [ByteArray.data_extract]
  have hsz : nm.length < (⟨t.toArray⟩ : ByteArray).size := by show _ < t.toArray.size; rw [List.size_toArray]; exact q3
  have q6 : (⟨t.toArray⟩ : ByteArray)[nm.length]'hsz = 46 := by
    have hat : (⟨t.toArray⟩ : ByteArray)[nm.length]'hsz = t[nm.length] := by show t.toArray[nm.length] = _; simp
    rw [hat]; have := hbe.out; subst this; simp
  have tj : (op == 4) = false := by simpa using hj4
  clear hj4
  clear hop him ht hp hc hf
  go_enter Tryd.func3, Tryd.ntmps3
  go_upto_region 5 with (first | (refine wpList_load_mid rfl 23 _ rfl w.heap.size 0 rfl (InsnV.cells ⟨op, rd, r1, r2, imm, true, true, pred, succ⟩).toList _ hB.c hu rfl hi ?_) | (go_at_call 10; refine (hL.out _ ht1 hp1).mono ?_; rintro e w1 ⟨rfl, hb1⟩; replace hB := hB.keep hb1; replace ht1 := ht1.later hb1 (Nat.le_refl _); replace hp1 := hp1.later hb1 (Nat.le_refl _); clear hb1) | (go_at_call 11; refine (hK.out _ ht1).mono ?_; rintro e w1 ⟨rfl, hb1⟩; replace hB := hB.keep hb1; replace ht1 := ht1.later hb1 (Nat.le_refl _); replace hp1 := hp1.later hb1 (Nat.le_refl _); clear hb1))
  refine wp_region_held_drew (S := fun W => XB w (InsnV.cells ⟨op, rd, r1, r2, imm, true, true, pred, succ⟩).toList W ∧ Tabs W ∧ P10 W) (by kernel_rfl) ⟨hB.keep (Below.refl _ _).drew, ht1.later (Below.refl _ _).drew (Nat.le_refl _), hp1.later (Below.refl _ _).drew (Nat.le_refl _)⟩ (fun hHeld => ?_)
  refine wpAnyH_take (i := 0) rfl (by kernel_rfl) (by kernel_rfl) (by kernel_rfl) (fun _ _ _ h => h) (yieldsIf_load_mid (by rfl) 23 _ rfl w.heap.size 0 rfl (InsnV.cells ⟨op, rd, r1, r2, imm, true, true, pred, succ⟩).toList _ (fun W hS => hS.1.c) hu rfl hi) hHeld ?_
  try simp only [Act.put, List.getElem_toArray, List.getElem_cons_zero, List.setIfInBounds_toArray, List.set_cons_zero, List.set_cons_succ]
  refine wpAnyH_take (i := 2) (v := .pointer (some ⟨w.heap.size, 0, none⟩)) rfl (by kernel_rfl) (by kernel_rfl) (by kernel_rfl) (fun _ _ _ h => h) (Or.inl ⟨by rfl, fun W _ => by kernel_rfl⟩) hHeld ?_
  try simp only [Act.put, List.getElem_toArray, List.getElem_cons_succ, List.getElem_cons_zero, List.setIfInBounds_toArray, List.set_cons_zero, List.set_cons_succ]
  refine wpAnyH_take (i := 3) (v := .int .i64 op) rfl (by kernel_rfl) (by kernel_rfl) (by kernel_rfl) (fun _ _ _ h => h) (Or.inl ⟨by rfl, fun W hS => by (have k : W.cell? ⟨w.heap.size, 0, none⟩ = some (.int .i64 op) := hS.1.at 0 _ rfl); go_simp⟩) hHeld ?_
  try simp only [Act.put, List.getElem_toArray, List.getElem_cons_succ, List.getElem_cons_zero, List.setIfInBounds_toArray, List.set_cons_zero, List.set_cons_succ]
  refine wpAnyH_ready (rs := [1]) (by kernel_rfl) (by simp) (AllReadyH.cons rfl (fun K hK2 => ?_) AllReadyH.nil)
  rw [if_pos (by rfl)]
  simp only [List.getElem_toArray, List.getElem_cons_succ, List.getElem_cons_zero]
  go_wp2_with (go_at_call 12; refine (hT.out _ hHeld.2.1 hHeld.2.2).mono ?_; rintro e w3 ⟨rfl, hb3⟩)
  refine hK2.out _ _ (⟨hHeld.1.keep hb3, hHeld.2.1.later hb3 (Nat.le_refl _), hHeld.2.2.later hb3 (Nat.le_refl _)⟩) (fun hHeld2 => ?_)
  clear hK2 K hHeld
  have hHeld := hHeld2
  clear hHeld2
  try simp only [Act.put, List.getElem_toArray, List.getElem_cons_succ, List.getElem_cons_zero, List.setIfInBounds_toArray, List.set_cons_zero, List.set_cons_succ]
  refine wpAnyH_ready (rs := [4]) (by kernel_rfl) (by simp) (AllReadyH.cons rfl (fun K hK2 => ?_) AllReadyH.nil)
  rw [if_pos (by rfl)]
  simp only [List.getElem_toArray, List.getElem_cons_succ, List.getElem_cons_zero]
  go_wp2_with (go_at_call 13; refine (hN.out _ hHeld.2.1).mono ?_; rintro e w3 ⟨rfl, hb3⟩)
  refine hK2.out _ _ (⟨hHeld.1.keep hb3, hHeld.2.1.later hb3 (Nat.le_refl _), hHeld.2.2.later hb3 (Nat.le_refl _)⟩) (fun hHeld2 => ?_)
  clear hK2 K hHeld
  have hHeld := hHeld2
  clear hHeld2
  try simp only [Act.put, List.getElem_toArray, List.getElem_cons_succ, List.getElem_cons_zero, List.setIfInBounds_toArray, List.set_cons_zero, List.set_cons_succ]
  refine wpAnyH_take (i := 5) (v := .string ⟨t.toArray⟩) rfl (by kernel_rfl) (by kernel_rfl) (by kernel_rfl) (fun _ _ _ h => h) (Or.inl ⟨by rfl, fun W _ => by kernel_rfl⟩) hHeld ?_
  try simp only [Act.put, List.getElem_toArray, List.getElem_cons_succ, List.getElem_cons_zero, List.setIfInBounds_toArray, List.set_cons_zero, List.set_cons_succ]
  refine wpAnyH_take (i := 6) (v := .string ⟨nm.toArray⟩) rfl (by kernel_rfl) (by kernel_rfl) (by kernel_rfl) (fun _ _ _ h => h) (Or.inl ⟨by rfl, fun W _ => by kernel_rfl⟩) hHeld ?_
  try simp only [Act.put, List.getElem_toArray, List.getElem_cons_succ, List.getElem_cons_zero, List.setIfInBounds_toArray, List.set_cons_zero, List.set_cons_succ]
  refine wpAnyH_done (by kernel_rfl) ?_ _
  replace hB := hHeld.1
  replace ht1 := hHeld.2.1
  replace hp1 := hHeld.2.2
  clear hHeld
  have c0 : _ = some (Value.int .i64 op) := hB.at 0 _ rfl; have c5 : _ = some (Value.bool true) := hB.at 5 _ rfl; have c6 : _ = some (Value.bool true) := hB.at 6 _ rfl
  go_upto_region 18 with (go_at_call 14; refine (hF.out _ ht1).mono ?_; rintro e w5 ⟨rfl, hb5⟩; replace hB := hB.keep hb5; clear c0 c5 c6; have c0 : _ = some (Value.int .i64 op) := hB.at 0 _ rfl; have c5 : _ = some (Value.bool true) := hB.at 5 _ rfl; have c6 : _ = some (Value.bool true) := hB.at 6 _ rfl)
  have q7 : ((t.length : Int) == (nm.length : Int)) = false := by rw [beq_eq_false_iff_ne]; omega
  have q8 : ¬ t.length < nm.length := by omega
  go_upto_region 20 with fail
  go_wp2_with (first | (go_at_call 15; (with_reducible refine (hA.out _).mono ?_); rintro e w6 ⟨rfl, rfl⟩) | (go_at_call 15; (with_reducible refine (hA2.out _).mono ?_); rintro e w6 ⟨rfl, rfl⟩) | (go_at_call 15; (with_reducible refine (hA3.out _).mono ?_); rintro e w6 ⟨rfl, rfl⟩))
  go_ret
  exact ⟨rfl, hB.bl⟩
/-- InsnShapes, whatever the instruction. -/
theorem Shapes_any (i : InsnV) (hop : i.op ≤ 9223372036854775807) (him : -9223372036854775808 ≤ i.imm ∧ i.imm ≤ 9223372036854775807) (w : World) (ht : Tabs w) (hp : P10 w) :
    Calls Tryd.prog 3 #[.agg i.cells] w fun e w' => e = .returned (.bool true) ∧ Below w.heap.size w w' := by
  by_cases hc : checkE i = 0
  · obtain ⟨-, -, -, -, -, hfl, f1, f12⟩ := ok_facts i hc
    obtain ⟨op, rd, r1, r2, imm, aq, rl, pred, succ⟩ := i
    simp only at hop him hfl f1 f12
    rcases (show (opOf op).form = 1 ∨ (opOf op).form = 2 ∨ (opOf op).form = 3 ∨ (opOf op).form = 4 ∨ (opOf op).form = 5 ∨ (opOf op).form = 6 ∨ (opOf op).form = 7 ∨ (opOf op).form = 8 ∨ (opOf op).form = 9 ∨ (opOf op).form = 10 ∨ (opOf op).form = 11 ∨ (opOf op).form = 12 by omega) with hf | hf | hf | hf | hf | hf | hf | hf | hf | hf | hf | hf
    · obtain ⟨rfl, rfl⟩ : aq = false ∧ rl = false := (hfl.resolve_left (by omega)).resolve_left (by omega)
      exact Shapes_1 op rd r1 r2 imm pred succ hop him hc hf w ht hp
    · obtain ⟨rfl, rfl⟩ : aq = false ∧ rl = false := (hfl.resolve_left (by omega)).resolve_left (by omega)
      exact Shapes_2 op rd r1 r2 imm pred succ hop him hc hf w ht hp
    · obtain ⟨rfl, rfl⟩ : aq = false ∧ rl = false := (hfl.resolve_left (by omega)).resolve_left (by omega)
      by_cases h4 : op = 4
      · subst h4; exact Shapes_3j rd r1 r2 imm pred succ him hc w ht hp
      · exact Shapes_3 op rd r1 r2 imm pred succ hop him hc hf h4 w ht hp
    · obtain ⟨rfl, rfl⟩ : aq = false ∧ rl = false := (hfl.resolve_left (by omega)).resolve_left (by omega)
      exact Shapes_4 op rd r1 r2 imm pred succ hop him hc hf w ht hp
    · obtain ⟨rfl, rfl⟩ : aq = false ∧ rl = false := (hfl.resolve_left (by omega)).resolve_left (by omega)
      exact Shapes_5 op rd r1 r2 imm pred succ hop him hc hf w ht hp
    · obtain ⟨rfl, rfl⟩ : aq = false ∧ rl = false := (hfl.resolve_left (by omega)).resolve_left (by omega)
      exact Shapes_6 op rd r1 r2 imm pred succ hop him hc hf w ht hp
    · obtain ⟨rfl, rfl⟩ : aq = false ∧ rl = false := (hfl.resolve_left (by omega)).resolve_left (by omega)
      exact Shapes_7 op rd r1 r2 imm pred succ hop him hc hf w ht hp
    · obtain ⟨rfl, rfl⟩ : aq = false ∧ rl = false := (hfl.resolve_left (by omega)).resolve_left (by omega)
      exact Shapes_8 op rd r1 r2 imm pred succ hop him hc hf w ht hp
    · obtain ⟨rfl, rfl⟩ : aq = false ∧ rl = false := (hfl.resolve_left (by omega)).resolve_left (by omega)
      exact Shapes_9 op rd r1 r2 imm pred succ hop him hc hf w ht hp
    · obtain ⟨rfl, rfl⟩ : aq = false ∧ rl = false := (hfl.resolve_left (by omega)).resolve_left (by omega)
      exact Shapes_10 op rd r1 r2 imm pred succ hop him hc hf w ht hp
    · cases aq <;> cases rl
      · exact Shapes_11ff op rd r1 r2 imm pred succ hop him hc hf w ht hp
      · exact Shapes_11ft op rd r1 r2 imm pred succ hop him hc hf w ht hp
      · exact Shapes_11tf op rd r1 r2 imm pred succ hop him hc hf w ht hp
      · exact Shapes_11tt op rd r1 r2 imm pred succ hop him hc hf w ht hp
    · cases aq <;> cases rl
      · exact Shapes_12ff op rd r1 r2 imm pred succ hop him hc hf w ht hp
      · exact Shapes_12ft op rd r1 r2 imm pred succ hop him hc hf w ht hp
      · exact Shapes_12tf op rd r1 r2 imm pred succ hop him hc hf w ht hp
      · exact Shapes_12tt op rd r1 r2 imm pred succ hop him hc hf w ht hp
  · exact Shapes_no i hop him hc w ht hp
end Go.Proofs.YtgkgljlejnihdaaDoor
