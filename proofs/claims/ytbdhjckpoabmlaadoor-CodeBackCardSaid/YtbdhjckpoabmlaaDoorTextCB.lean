/- The walk of the document's Text, form by form. The walk of the document's Text, form by form. Conditions: as each theorem says. -/
import Derived.Test.YtbdhjckpoabmlaaDoorTextC
set_option linter.unusedSimpArgs false
namespace Go.Proofs.YtbdhjckpoabmlaaDoor
open Go.RowKit
set_option maxRecDepth 100000 in
set_option maxHeartbeats 8000000 in
theorem Text_8 (op rd r1 r2 imm : Int) (aq rl : Bool) (pred succ : Int) (w : World) (hc : checkE ⟨op, rd, r1, r2, imm, aq, rl, pred, succ⟩ = 0) (hf : (opOf op).form = 8) (him : -9223372036854775808 ≤ imm ∧ imm ≤ 9223372036854775807) :
    Calls Tryd.prog 46 #[.agg #[.int .i64 op, .int .i64 rd, .int .i64 r1, .int .i64 r2, .int .i64 imm, .bool aq, .bool rl, .int .i64 pred, .int .i64 succ]] w fun e w' => e = .returned (.tuple #[.string ⟨(bodyT ⟨op, rd, r1, r2, imm, aq, rl, pred, succ⟩).toArray⟩, .int .i64 0]) ∧ Below w.heap.size w w' := by
  obtain ⟨g1, g2, g3, g4, g5, g6, g7, g8⟩ := ok_facts ⟨op, rd, r1, r2, imm, aq, rl, pred, succ⟩ hc
  simp only at g1 g2 g3 g4 g5 g6 g7 g8
  have hX1 := fun W => X_any rd g1.1 (by omega) W
  have hX2 := fun W => X_any r1 g2.1 (by omega) W
  have hX3 := fun W => X_any r2 g3.1 (by omega) W
  have hX4 := fun W => Signed_any imm him.1 him.2 W
  have n1 := regT_len rd
  have n2 := regT_len r1
  have n3 := regT_len r2
  have n4 := signL_len imm
  have n0 := nameT_len op
  have hN0 := fun W => R2Name_any op W
  have hF0 := fun W => R2Form_any op W
  rw [← rform_eq, hf] at hF0
  have hF := Lib.hid hF0
  clear hF0
  obtain ⟨rfl, rfl⟩ : aq = false ∧ rl = false := by
    rw [hf] at g6
    rcases g6 with g6 | g6 | g6
    · exact absurd g6 (by decide)
    · exact absurd g6 (by decide)
    · exact g6
  have hbody : bodyT ⟨op, rd, r1, r2, imm, false, false, pred, succ⟩ = headT ⟨op, rd, r1, r2, imm, false, false, pred, succ⟩ ++ [32] ++ regT rd ++ [44, 32] ++ regT r1 ++ [44, 32] ++ regT r2 := by
    unfold bodyT
    simp only [hf]
    rfl
  have hhd : headT ⟨op, rd, r1, r2, imm, false, false, pred, succ⟩ = (opOf op).name := rfl
  rw [hhd] at hbody
  obtain ⟨r, hr⟩ : ∃ r, bodyT ⟨op, rd, r1, r2, imm, false, false, pred, succ⟩ = r := ⟨_, rfl⟩
  rw [hr] at hbody ⊢
  clear hr
  clear g1 g2 g3 g4 g5 g6 g7 g8 him hf
  have hB := TB.start w (InsnV.cells ⟨op, rd, r1, r2, imm, false, false, pred, succ⟩).toList 23
  rw [Array.toArray_toList] at hB
  have hu := Tryd.underlying23
  have hi : (Tryd.prog.info? 23).map (·.size) = some (InsnV.cells ⟨op, rd, r1, r2, imm, false, false, pred, succ⟩).toList.length := by kernel_rfl
  have hK := Lib.hid (fun W => R2Check_any ⟨op, rd, r1, r2, imm, false, false, pred, succ⟩ W)
  rw [hc] at hK
  clear hc
  have c0 : _ = some (Value.int .i64 op) := hB.at 0 _ rfl
  have c1 : _ = some (Value.int .i64 rd) := hB.at 1 _ rfl
  have c2 : _ = some (Value.int .i64 r1) := hB.at 2 _ rfl
  have c3 : _ = some (Value.int .i64 r2) := hB.at 3 _ rfl
  have c4 : _ = some (Value.int .i64 imm) := hB.at 4 _ rfl
  have c5 : _ = some (Value.bool false) := hB.at 5 _ rfl
  have c6 : _ = some (Value.bool false) := hB.at 6 _ rfl
  have c7 : _ = some (Value.int .i64 pred) := hB.at 7 _ rfl
  have c8 : _ = some (Value.int .i64 succ) := hB.at 8 _ rfl
  obtain ⟨nm, hnm⟩ : ∃ l, (opOf op).name = l := ⟨_, rfl⟩
  rw [hnm] at hN0 hbody n0
  obtain ⟨l1, hl1⟩ : ∃ l, regT rd = l := ⟨_, rfl⟩
  rw [hl1] at hX1 n1
  obtain ⟨l2, hl2⟩ : ∃ l, regT r1 = l := ⟨_, rfl⟩
  rw [hl2] at hX2 n2
  obtain ⟨l3, hl3⟩ : ∃ l, regT r2 = l := ⟨_, rfl⟩
  rw [hl3] at hX3 n3
  obtain ⟨l4, hl4⟩ : ∃ l, signL imm = l := ⟨_, rfl⟩
  rw [hl4] at hX4 n4
  have hN := Lib.hid hN0
  have h1 := Lib.hid hX1
  have h2 := Lib.hid hX2
  have h3 := Lib.hid hX3
  have h4 := Lib.hid hX4
  clear hN0 hX1 hX2 hX3 hX4
  rw [hl1, hl2, hl3] at hbody
  replace hbody := Lib.hid hbody
  clear hnm hl1 hl2 hl3 hl4
  go_enter Tryd.func46, Tryd.ntmps46
  go_upto_region 10 with (first | (refine wpList_load_mid rfl 23 _ rfl w.heap.size 0 rfl (InsnV.cells ⟨op, rd, r1, r2, imm, false, false, pred, succ⟩).toList _ hB.c hu rfl hi ?_) | (go_at_call 11; refine (hK.out _).mono ?_; rintro e w1 ⟨rfl, hb1⟩; replace hB := hB.keep hb1; clear hb1 c0 c1 c2 c3 c4 c5 c6 c7 c8; have c0 : _ = some (Value.int .i64 op) := hB.at 0 _ rfl; have c1 : _ = some (Value.int .i64 rd) := hB.at 1 _ rfl; have c2 : _ = some (Value.int .i64 r1) := hB.at 2 _ rfl; have c3 : _ = some (Value.int .i64 r2) := hB.at 3 _ rfl; have c4 : _ = some (Value.int .i64 imm) := hB.at 4 _ rfl; have c5 : _ = some (Value.bool false) := hB.at 5 _ rfl; have c6 : _ = some (Value.bool false) := hB.at 6 _ rfl; have c7 : _ = some (Value.int .i64 pred) := hB.at 7 _ rfl; have c8 : _ = some (Value.int .i64 succ) := hB.at 8 _ rfl) | (go_at_call 67; refine (hN.out _).mono ?_; rintro e w1 ⟨rfl, hb1⟩; replace hB := hB.keep hb1; clear hb1 c0 c1 c2 c3 c4 c5 c6 c7 c8; have c0 : _ = some (Value.int .i64 op) := hB.at 0 _ rfl; have c1 : _ = some (Value.int .i64 rd) := hB.at 1 _ rfl; have c2 : _ = some (Value.int .i64 r1) := hB.at 2 _ rfl; have c3 : _ = some (Value.int .i64 r2) := hB.at 3 _ rfl; have c4 : _ = some (Value.int .i64 imm) := hB.at 4 _ rfl; have c5 : _ = some (Value.bool false) := hB.at 5 _ rfl; have c6 : _ = some (Value.bool false) := hB.at 6 _ rfl; have c7 : _ = some (Value.int .i64 pred) := hB.at 7 _ rfl; have c8 : _ = some (Value.int .i64 succ) := hB.at 8 _ rfl) | (refine wpList_cat (by rfl) _ _ _ _ rfl _ _ rfl rfl (by simp only [List.length_append, List.length_cons, List.length_nil]; omega) ?_))
  go_quiet ((first | (go_at_call 68; with_reducible exact quiet_same (h1.out _)) | (go_at_call 68; with_reducible exact quiet_same (h2.out _)) | (go_at_call 68; with_reducible exact quiet_same (h3.out _)) | (go_at_call 69; with_reducible exact quiet_same (h4.out _))))
  go_wp2_with (first | (go_at_call 9; refine (hF.out _).mono ?_; rintro e w1 ⟨rfl, rfl⟩) | (go_at_call 67; refine (hN.out _).mono ?_; rintro e w1 ⟨rfl, hb1⟩; replace hB := hB.keep hb1; clear hb1 c0 c1 c2 c3 c4 c5 c6 c7 c8; have c0 : _ = some (Value.int .i64 op) := hB.at 0 _ rfl; have c1 : _ = some (Value.int .i64 rd) := hB.at 1 _ rfl; have c2 : _ = some (Value.int .i64 r1) := hB.at 2 _ rfl; have c3 : _ = some (Value.int .i64 r2) := hB.at 3 _ rfl; have c4 : _ = some (Value.int .i64 imm) := hB.at 4 _ rfl; have c5 : _ = some (Value.bool false) := hB.at 5 _ rfl; have c6 : _ = some (Value.bool false) := hB.at 6 _ rfl; have c7 : _ = some (Value.int .i64 pred) := hB.at 7 _ rfl; have c8 : _ = some (Value.int .i64 succ) := hB.at 8 _ rfl) | (refine wpList_cat (by rfl) _ _ _ _ rfl _ _ rfl rfl (by simp only [List.length_append, List.length_cons, List.length_nil]; omega) ?_))
  go_ret2
  have hb2 := hbody.out
  try simp only [List.append_assoc, List.cons_append, List.nil_append] at hb2
  exact ⟨by rw [hb2]; rfl, (hB.drewN _).bl⟩
set_option maxRecDepth 100000 in
set_option maxHeartbeats 8000000 in
theorem Text_9 (op rd r1 r2 imm : Int) (aq rl : Bool) (pred succ : Int) (w : World) (hc : checkE ⟨op, rd, r1, r2, imm, aq, rl, pred, succ⟩ = 0) (hf : (opOf op).form = 9) (him : -9223372036854775808 ≤ imm ∧ imm ≤ 9223372036854775807) :
    Calls Tryd.prog 46 #[.agg #[.int .i64 op, .int .i64 rd, .int .i64 r1, .int .i64 r2, .int .i64 imm, .bool aq, .bool rl, .int .i64 pred, .int .i64 succ]] w fun e w' => e = .returned (.tuple #[.string ⟨(bodyT ⟨op, rd, r1, r2, imm, aq, rl, pred, succ⟩).toArray⟩, .int .i64 0]) ∧ Below w.heap.size w w' := by
  obtain ⟨g1, g2, g3, g4, g5, g6, g7, g8⟩ := ok_facts ⟨op, rd, r1, r2, imm, aq, rl, pred, succ⟩ hc
  simp only at g1 g2 g3 g4 g5 g6 g7 g8
  have hX1 := fun W => X_any rd g1.1 (by omega) W
  have hX2 := fun W => X_any r1 g2.1 (by omega) W
  have hX3 := fun W => X_any r2 g3.1 (by omega) W
  have hX4 := fun W => Signed_any imm him.1 him.2 W
  have n1 := regT_len rd
  have n2 := regT_len r1
  have n3 := regT_len r2
  have n4 := signL_len imm
  have n0 := nameT_len op
  have hN0 := fun W => R2Name_any op W
  have hF0 := fun W => R2Form_any op W
  rw [← rform_eq, hf] at hF0
  have hF := Lib.hid hF0
  clear hF0
  obtain ⟨a, rfl⟩ := Int.eq_ofNat_of_zero_le g4.1
  obtain ⟨b, rfl⟩ := Int.eq_ofNat_of_zero_le g5.1
  have hP5 := fun W => Parts_any a (by omega) W
  have hP6 := fun W => Parts_any b (by omega) W
  have n5 := partT_len a
  have n6 := partT_len b
  obtain ⟨rfl, rfl⟩ : aq = false ∧ rl = false := by
    rw [hf] at g6
    rcases g6 with g6 | g6 | g6
    · exact absurd g6 (by decide)
    · exact absurd g6 (by decide)
    · exact g6
  have hbody : bodyT ⟨op, rd, r1, r2, imm, false, false, (a : Int), (b : Int)⟩ = headT ⟨op, rd, r1, r2, imm, false, false, (a : Int), (b : Int)⟩ ++ [32] ++ partT a ++ [44, 32] ++ partT b := by
    unfold bodyT
    simp only [hf]
    rfl
  have hhd : headT ⟨op, rd, r1, r2, imm, false, false, (a : Int), (b : Int)⟩ = (opOf op).name := rfl
  rw [hhd] at hbody
  obtain ⟨r, hr⟩ : ∃ r, bodyT ⟨op, rd, r1, r2, imm, false, false, (a : Int), (b : Int)⟩ = r := ⟨_, rfl⟩
  rw [hr] at hbody ⊢
  clear hr
  clear g1 g2 g3 g4 g5 g6 g7 g8 him hf
  have hB := TB.start w (InsnV.cells ⟨op, rd, r1, r2, imm, false, false, (a : Int), (b : Int)⟩).toList 23
  rw [Array.toArray_toList] at hB
  have hu := Tryd.underlying23
  have hi : (Tryd.prog.info? 23).map (·.size) = some (InsnV.cells ⟨op, rd, r1, r2, imm, false, false, (a : Int), (b : Int)⟩).toList.length := by kernel_rfl
  have hK := Lib.hid (fun W => R2Check_any ⟨op, rd, r1, r2, imm, false, false, (a : Int), (b : Int)⟩ W)
  rw [hc] at hK
  clear hc
  have c0 : _ = some (Value.int .i64 op) := hB.at 0 _ rfl
  have c1 : _ = some (Value.int .i64 rd) := hB.at 1 _ rfl
  have c2 : _ = some (Value.int .i64 r1) := hB.at 2 _ rfl
  have c3 : _ = some (Value.int .i64 r2) := hB.at 3 _ rfl
  have c4 : _ = some (Value.int .i64 imm) := hB.at 4 _ rfl
  have c5 : _ = some (Value.bool false) := hB.at 5 _ rfl
  have c6 : _ = some (Value.bool false) := hB.at 6 _ rfl
  have c7 : _ = some (Value.int .i64 (a : Int)) := hB.at 7 _ rfl
  have c8 : _ = some (Value.int .i64 (b : Int)) := hB.at 8 _ rfl
  obtain ⟨nm, hnm⟩ : ∃ l, (opOf op).name = l := ⟨_, rfl⟩
  rw [hnm] at hN0 hbody n0
  obtain ⟨l1, hl1⟩ : ∃ l, regT rd = l := ⟨_, rfl⟩
  rw [hl1] at hX1 n1
  obtain ⟨l2, hl2⟩ : ∃ l, regT r1 = l := ⟨_, rfl⟩
  rw [hl2] at hX2 n2
  obtain ⟨l3, hl3⟩ : ∃ l, regT r2 = l := ⟨_, rfl⟩
  rw [hl3] at hX3 n3
  obtain ⟨l4, hl4⟩ : ∃ l, signL imm = l := ⟨_, rfl⟩
  rw [hl4] at hX4 n4
  obtain ⟨l5, hl5⟩ : ∃ l, partT a = l := ⟨_, rfl⟩
  rw [hl5] at hP5 n5
  obtain ⟨l6, hl6⟩ : ∃ l, partT b = l := ⟨_, rfl⟩
  rw [hl6] at hP6 n6
  have h5 := Lib.hid hP5
  have h6 := Lib.hid hP6
  clear hP5 hP6
  have hN := Lib.hid hN0
  have h1 := Lib.hid hX1
  have h2 := Lib.hid hX2
  have h3 := Lib.hid hX3
  have h4 := Lib.hid hX4
  clear hN0 hX1 hX2 hX3 hX4
  rw [hl5, hl6] at hbody
  replace hbody := Lib.hid hbody
  clear hnm hl1 hl2 hl3 hl4 hl5 hl6
  go_enter Tryd.func46, Tryd.ntmps46
  go_upto_region 10 with (first | (refine wpList_load_mid rfl 23 _ rfl w.heap.size 0 rfl (InsnV.cells ⟨op, rd, r1, r2, imm, false, false, (a : Int), (b : Int)⟩).toList _ hB.c hu rfl hi ?_) | (go_at_call 11; refine (hK.out _).mono ?_; rintro e w1 ⟨rfl, hb1⟩; replace hB := hB.keep hb1; clear hb1 c0 c1 c2 c3 c4 c5 c6 c7 c8; have c0 : _ = some (Value.int .i64 op) := hB.at 0 _ rfl; have c1 : _ = some (Value.int .i64 rd) := hB.at 1 _ rfl; have c2 : _ = some (Value.int .i64 r1) := hB.at 2 _ rfl; have c3 : _ = some (Value.int .i64 r2) := hB.at 3 _ rfl; have c4 : _ = some (Value.int .i64 imm) := hB.at 4 _ rfl; have c5 : _ = some (Value.bool false) := hB.at 5 _ rfl; have c6 : _ = some (Value.bool false) := hB.at 6 _ rfl; have c7 : _ = some (Value.int .i64 (a : Int)) := hB.at 7 _ rfl; have c8 : _ = some (Value.int .i64 (b : Int)) := hB.at 8 _ rfl) | (go_at_call 67; refine (hN.out _).mono ?_; rintro e w1 ⟨rfl, hb1⟩; replace hB := hB.keep hb1; clear hb1 c0 c1 c2 c3 c4 c5 c6 c7 c8; have c0 : _ = some (Value.int .i64 op) := hB.at 0 _ rfl; have c1 : _ = some (Value.int .i64 rd) := hB.at 1 _ rfl; have c2 : _ = some (Value.int .i64 r1) := hB.at 2 _ rfl; have c3 : _ = some (Value.int .i64 r2) := hB.at 3 _ rfl; have c4 : _ = some (Value.int .i64 imm) := hB.at 4 _ rfl; have c5 : _ = some (Value.bool false) := hB.at 5 _ rfl; have c6 : _ = some (Value.bool false) := hB.at 6 _ rfl; have c7 : _ = some (Value.int .i64 (a : Int)) := hB.at 7 _ rfl; have c8 : _ = some (Value.int .i64 (b : Int)) := hB.at 8 _ rfl) | (refine wpList_cat (by rfl) _ _ _ _ rfl _ _ rfl rfl (by simp only [List.length_append, List.length_cons, List.length_nil]; omega) ?_))
  go_quiet ((first | (go_at_call 68; with_reducible exact quiet_same (h1.out _)) | (go_at_call 68; with_reducible exact quiet_same (h2.out _)) | (go_at_call 68; with_reducible exact quiet_same (h3.out _)) | (go_at_call 69; with_reducible exact quiet_same (h4.out _))))
  go_upto_region 29 with (first | (go_at_call 9; refine (hF.out _).mono ?_; rintro e w1 ⟨rfl, rfl⟩))
  refine wp_region_held_drew (S := fun W => TB w (InsnV.cells ⟨op, rd, r1, r2, imm, false, false, (a : Int), (b : Int)⟩).toList W) (by kernel_rfl) ((hB.drewN _).keep (Below.refl _ _).drew) (fun hHeld => ?_)
  refine wpAnyH_take (i := 0) (v := .string ⟨nm.toArray⟩) rfl (by kernel_rfl) (by kernel_rfl) (by kernel_rfl) (fun _ _ _ h => h) (Or.inl ⟨by rfl, fun W _ => by kernel_rfl⟩) hHeld ?_
  try simp only [Act.put, List.getElem_toArray, List.getElem_cons_zero, List.setIfInBounds_toArray, List.set_cons_zero, List.set_cons_succ]
  refine wpAnyH_take (i := 1) rfl (by kernel_rfl) (by kernel_rfl) (by kernel_rfl) (fun _ _ _ h => h) (yieldsIf_cat (by rfl) _ _ _ _ rfl _ _ rfl rfl (by simp only [List.length_append, List.length_cons, List.length_nil]; omega)) hHeld ?_
  try simp only [Act.put, List.getElem_toArray, List.getElem_cons_succ, List.getElem_cons_zero, List.setIfInBounds_toArray, List.set_cons_zero, List.set_cons_succ]
  refine wpAnyH_take (i := 2) (v := .pointer (some ⟨w.heap.size, 7, none⟩)) rfl (by kernel_rfl) (by kernel_rfl) (by kernel_rfl) (fun _ _ _ h => h) (Or.inl ⟨by rfl, fun W _ => by kernel_rfl⟩) hHeld ?_
  try simp only [Act.put, List.getElem_toArray, List.getElem_cons_succ, List.getElem_cons_zero, List.setIfInBounds_toArray, List.set_cons_zero, List.set_cons_succ]
  refine wpAnyH_take (i := 3) (v := .int .i64 a) rfl (by kernel_rfl) (by kernel_rfl) (by kernel_rfl) (fun _ _ _ h => h) (Or.inl ⟨by rfl, fun W hS => by (have k : W.cell? ⟨w.heap.size, 7, none⟩ = some (.int .i64 a) := hS.at 7 _ rfl); go_simp⟩) hHeld ?_
  try simp only [Act.put, List.getElem_toArray, List.getElem_cons_succ, List.getElem_cons_zero, List.setIfInBounds_toArray, List.set_cons_zero, List.set_cons_succ]
  refine wpAnyH_take (i := 7) (v := .pointer (some ⟨w.heap.size, 8, none⟩)) rfl (by kernel_rfl) (by kernel_rfl) (by kernel_rfl) (fun _ _ _ h => h) (Or.inl ⟨by rfl, fun W _ => by kernel_rfl⟩) hHeld ?_
  try simp only [Act.put, List.getElem_toArray, List.getElem_cons_succ, List.getElem_cons_zero, List.setIfInBounds_toArray, List.set_cons_zero, List.set_cons_succ]
  refine wpAnyH_take (i := 8) (v := .int .i64 b) rfl (by kernel_rfl) (by kernel_rfl) (by kernel_rfl) (fun _ _ _ h => h) (Or.inl ⟨by rfl, fun W hS => by (have k : W.cell? ⟨w.heap.size, 8, none⟩ = some (.int .i64 b) := hS.at 8 _ rfl); go_simp⟩) hHeld ?_
  try simp only [Act.put, List.getElem_toArray, List.getElem_cons_succ, List.getElem_cons_zero, List.setIfInBounds_toArray, List.set_cons_zero, List.set_cons_succ]
  refine wpAnyH_ready (rs := [4]) (by kernel_rfl) (by simp) (AllReadyH.cons rfl (fun K hK2 => ?_) AllReadyH.nil)
  rw [if_pos (by rfl)]
  simp only [List.getElem_toArray, List.getElem_cons_succ, List.getElem_cons_zero]
  go_wp2_with (go_at_call 66; refine (h5.out _).mono ?_; rintro e w4 ⟨rfl, rfl⟩)
  refine hK2.out _ _ (hHeld) (fun hHeld2 => ?_)
  clear hK2 K hHeld
  have hHeld := hHeld2
  clear hHeld2
  try simp only [Act.put, List.getElem_toArray, List.getElem_cons_succ, List.getElem_cons_zero, List.setIfInBounds_toArray, List.set_cons_zero, List.set_cons_succ]
  refine wpAnyH_take (i := 5) rfl (by kernel_rfl) (by kernel_rfl) (by kernel_rfl) (fun _ _ _ h => h) (yieldsIf_cat (by rfl) _ _ _ _ rfl _ _ rfl rfl (by simp only [List.length_append, List.length_cons, List.length_nil]; omega)) hHeld ?_
  try simp only [Act.put, List.getElem_toArray, List.getElem_cons_succ, List.getElem_cons_zero, List.setIfInBounds_toArray, List.set_cons_zero, List.set_cons_succ]
  refine wpAnyH_take (i := 6) rfl (by kernel_rfl) (by kernel_rfl) (by kernel_rfl) (fun _ _ _ h => h) (yieldsIf_cat (by rfl) _ _ _ _ rfl _ _ rfl rfl (by simp only [List.length_append, List.length_cons, List.length_nil]; omega)) hHeld ?_
  try simp only [Act.put, List.getElem_toArray, List.getElem_cons_succ, List.getElem_cons_zero, List.setIfInBounds_toArray, List.set_cons_zero, List.set_cons_succ]
  refine wpAnyH_ready (rs := [9]) (by kernel_rfl) (by simp) (AllReadyH.cons rfl (fun K hK2 => ?_) AllReadyH.nil)
  rw [if_pos (by rfl)]
  simp only [List.getElem_toArray, List.getElem_cons_succ, List.getElem_cons_zero]
  go_wp2_with (go_at_call 66; refine (h6.out _).mono ?_; rintro e w4 ⟨rfl, rfl⟩)
  refine hK2.out _ _ (hHeld) (fun hHeld2 => ?_)
  clear hK2 K hHeld
  have hHeld := hHeld2
  clear hHeld2
  try simp only [Act.put, List.getElem_toArray, List.getElem_cons_succ, List.getElem_cons_zero, List.setIfInBounds_toArray, List.set_cons_zero, List.set_cons_succ]
  refine wpAnyH_take (i := 10) rfl (by kernel_rfl) (by kernel_rfl) (by kernel_rfl) (fun _ _ _ h => h) (yieldsIf_cat (by rfl) _ _ _ _ rfl _ _ rfl rfl (by simp only [List.length_append, List.length_cons, List.length_nil]; omega)) hHeld ?_
  try simp only [Act.put, List.getElem_toArray, List.getElem_cons_succ, List.getElem_cons_zero, List.setIfInBounds_toArray, List.set_cons_zero, List.set_cons_succ]
  refine wpAnyH_take (i := 11) (v := .string ⟨(nm ++ 32 :: (l5 ++ [44, 32]) ++ l6).toArray⟩) rfl (by kernel_rfl) (by kernel_rfl) (by kernel_rfl) (fun _ _ _ h => h) (Or.inl ⟨by rfl, fun W _ => by kernel_rfl⟩) hHeld ?_
  try simp only [Act.put, List.getElem_toArray, List.getElem_cons_succ, List.getElem_cons_zero, List.setIfInBounds_toArray, List.set_cons_zero, List.set_cons_succ]
  refine wpAnyH_done (by kernel_rfl) ?_ _
  have hB := hHeld
  go_wp2_with fail
  go_ret2
  have hb2 := hbody.out
  try simp only [List.append_assoc, List.cons_append, List.nil_append] at hb2 ⊢
  exact ⟨by rw [hb2]; first | rfl | simp, hB.bl⟩
set_option maxRecDepth 100000 in
set_option maxHeartbeats 8000000 in
theorem Text_10 (op rd r1 r2 imm : Int) (aq rl : Bool) (pred succ : Int) (w : World) (hc : checkE ⟨op, rd, r1, r2, imm, aq, rl, pred, succ⟩ = 0) (hf : (opOf op).form = 10) (him : -9223372036854775808 ≤ imm ∧ imm ≤ 9223372036854775807) :
    Calls Tryd.prog 46 #[.agg #[.int .i64 op, .int .i64 rd, .int .i64 r1, .int .i64 r2, .int .i64 imm, .bool aq, .bool rl, .int .i64 pred, .int .i64 succ]] w fun e w' => e = .returned (.tuple #[.string ⟨(bodyT ⟨op, rd, r1, r2, imm, aq, rl, pred, succ⟩).toArray⟩, .int .i64 0]) ∧ Below w.heap.size w w' := by
  obtain ⟨g1, g2, g3, g4, g5, g6, g7, g8⟩ := ok_facts ⟨op, rd, r1, r2, imm, aq, rl, pred, succ⟩ hc
  simp only at g1 g2 g3 g4 g5 g6 g7 g8
  have hX1 := fun W => X_any rd g1.1 (by omega) W
  have hX2 := fun W => X_any r1 g2.1 (by omega) W
  have hX3 := fun W => X_any r2 g3.1 (by omega) W
  have hX4 := fun W => Signed_any imm him.1 him.2 W
  have n1 := regT_len rd
  have n2 := regT_len r1
  have n3 := regT_len r2
  have n4 := signL_len imm
  have n0 := nameT_len op
  have hN0 := fun W => R2Name_any op W
  have hF0 := fun W => R2Form_any op W
  rw [← rform_eq, hf] at hF0
  have hF := Lib.hid hF0
  clear hF0
  obtain ⟨rfl, rfl⟩ : aq = false ∧ rl = false := by
    rw [hf] at g6
    rcases g6 with g6 | g6 | g6
    · exact absurd g6 (by decide)
    · exact absurd g6 (by decide)
    · exact g6
  have hbody : bodyT ⟨op, rd, r1, r2, imm, false, false, pred, succ⟩ = headT ⟨op, rd, r1, r2, imm, false, false, pred, succ⟩ := by
    unfold bodyT
    simp only [hf]
    rfl
  have hhd : headT ⟨op, rd, r1, r2, imm, false, false, pred, succ⟩ = (opOf op).name := rfl
  rw [hhd] at hbody
  obtain ⟨r, hr⟩ : ∃ r, bodyT ⟨op, rd, r1, r2, imm, false, false, pred, succ⟩ = r := ⟨_, rfl⟩
  rw [hr] at hbody ⊢
  clear hr
  clear g1 g2 g3 g4 g5 g6 g7 g8 him hf
  have hB := TB.start w (InsnV.cells ⟨op, rd, r1, r2, imm, false, false, pred, succ⟩).toList 23
  rw [Array.toArray_toList] at hB
  have hu := Tryd.underlying23
  have hi : (Tryd.prog.info? 23).map (·.size) = some (InsnV.cells ⟨op, rd, r1, r2, imm, false, false, pred, succ⟩).toList.length := by kernel_rfl
  have hK := Lib.hid (fun W => R2Check_any ⟨op, rd, r1, r2, imm, false, false, pred, succ⟩ W)
  rw [hc] at hK
  clear hc
  have c0 : _ = some (Value.int .i64 op) := hB.at 0 _ rfl
  have c1 : _ = some (Value.int .i64 rd) := hB.at 1 _ rfl
  have c2 : _ = some (Value.int .i64 r1) := hB.at 2 _ rfl
  have c3 : _ = some (Value.int .i64 r2) := hB.at 3 _ rfl
  have c4 : _ = some (Value.int .i64 imm) := hB.at 4 _ rfl
  have c5 : _ = some (Value.bool false) := hB.at 5 _ rfl
  have c6 : _ = some (Value.bool false) := hB.at 6 _ rfl
  have c7 : _ = some (Value.int .i64 pred) := hB.at 7 _ rfl
  have c8 : _ = some (Value.int .i64 succ) := hB.at 8 _ rfl
  obtain ⟨nm, hnm⟩ : ∃ l, (opOf op).name = l := ⟨_, rfl⟩
  rw [hnm] at hN0 hbody n0
  obtain ⟨l1, hl1⟩ : ∃ l, regT rd = l := ⟨_, rfl⟩
  rw [hl1] at hX1 n1
  obtain ⟨l2, hl2⟩ : ∃ l, regT r1 = l := ⟨_, rfl⟩
  rw [hl2] at hX2 n2
  obtain ⟨l3, hl3⟩ : ∃ l, regT r2 = l := ⟨_, rfl⟩
  rw [hl3] at hX3 n3
  obtain ⟨l4, hl4⟩ : ∃ l, signL imm = l := ⟨_, rfl⟩
  rw [hl4] at hX4 n4
  have hN := Lib.hid hN0
  have h1 := Lib.hid hX1
  have h2 := Lib.hid hX2
  have h3 := Lib.hid hX3
  have h4 := Lib.hid hX4
  clear hN0 hX1 hX2 hX3 hX4
  replace hbody := Lib.hid hbody
  clear hnm hl1 hl2 hl3 hl4
  go_enter Tryd.func46, Tryd.ntmps46
  go_upto_region 10 with (first | (refine wpList_load_mid rfl 23 _ rfl w.heap.size 0 rfl (InsnV.cells ⟨op, rd, r1, r2, imm, false, false, pred, succ⟩).toList _ hB.c hu rfl hi ?_) | (go_at_call 11; refine (hK.out _).mono ?_; rintro e w1 ⟨rfl, hb1⟩; replace hB := hB.keep hb1; clear hb1 c0 c1 c2 c3 c4 c5 c6 c7 c8; have c0 : _ = some (Value.int .i64 op) := hB.at 0 _ rfl; have c1 : _ = some (Value.int .i64 rd) := hB.at 1 _ rfl; have c2 : _ = some (Value.int .i64 r1) := hB.at 2 _ rfl; have c3 : _ = some (Value.int .i64 r2) := hB.at 3 _ rfl; have c4 : _ = some (Value.int .i64 imm) := hB.at 4 _ rfl; have c5 : _ = some (Value.bool false) := hB.at 5 _ rfl; have c6 : _ = some (Value.bool false) := hB.at 6 _ rfl; have c7 : _ = some (Value.int .i64 pred) := hB.at 7 _ rfl; have c8 : _ = some (Value.int .i64 succ) := hB.at 8 _ rfl) | (go_at_call 67; refine (hN.out _).mono ?_; rintro e w1 ⟨rfl, hb1⟩; replace hB := hB.keep hb1; clear hb1 c0 c1 c2 c3 c4 c5 c6 c7 c8; have c0 : _ = some (Value.int .i64 op) := hB.at 0 _ rfl; have c1 : _ = some (Value.int .i64 rd) := hB.at 1 _ rfl; have c2 : _ = some (Value.int .i64 r1) := hB.at 2 _ rfl; have c3 : _ = some (Value.int .i64 r2) := hB.at 3 _ rfl; have c4 : _ = some (Value.int .i64 imm) := hB.at 4 _ rfl; have c5 : _ = some (Value.bool false) := hB.at 5 _ rfl; have c6 : _ = some (Value.bool false) := hB.at 6 _ rfl; have c7 : _ = some (Value.int .i64 pred) := hB.at 7 _ rfl; have c8 : _ = some (Value.int .i64 succ) := hB.at 8 _ rfl) | (refine wpList_cat (by rfl) _ _ _ _ rfl _ _ rfl rfl (by simp only [List.length_append, List.length_cons, List.length_nil]; omega) ?_))
  go_quiet ((first | (go_at_call 68; with_reducible exact quiet_same (h1.out _)) | (go_at_call 68; with_reducible exact quiet_same (h2.out _)) | (go_at_call 68; with_reducible exact quiet_same (h3.out _)) | (go_at_call 69; with_reducible exact quiet_same (h4.out _))))
  go_wp2_with (first | (go_at_call 9; refine (hF.out _).mono ?_; rintro e w1 ⟨rfl, rfl⟩) | (go_at_call 67; refine (hN.out _).mono ?_; rintro e w1 ⟨rfl, hb1⟩; replace hB := hB.keep hb1; clear hb1 c0 c1 c2 c3 c4 c5 c6 c7 c8; have c0 : _ = some (Value.int .i64 op) := hB.at 0 _ rfl; have c1 : _ = some (Value.int .i64 rd) := hB.at 1 _ rfl; have c2 : _ = some (Value.int .i64 r1) := hB.at 2 _ rfl; have c3 : _ = some (Value.int .i64 r2) := hB.at 3 _ rfl; have c4 : _ = some (Value.int .i64 imm) := hB.at 4 _ rfl; have c5 : _ = some (Value.bool false) := hB.at 5 _ rfl; have c6 : _ = some (Value.bool false) := hB.at 6 _ rfl; have c7 : _ = some (Value.int .i64 pred) := hB.at 7 _ rfl; have c8 : _ = some (Value.int .i64 succ) := hB.at 8 _ rfl) | (refine wpList_cat (by rfl) _ _ _ _ rfl _ _ rfl rfl (by simp only [List.length_append, List.length_cons, List.length_nil]; omega) ?_))
  go_ret2
  have hb2 := hbody.out
  try simp only [List.append_assoc, List.cons_append, List.nil_append] at hb2
  exact ⟨by rw [hb2]; rfl, (hB.drewN _).bl⟩
set_option maxRecDepth 100000 in
set_option maxHeartbeats 8000000 in
theorem Text_11_tt (op rd r1 r2 imm : Int) (aq rl : Bool) (pred succ : Int) (w : World) (haq : aq = true) (hrl : rl = true) (hc : checkE ⟨op, rd, r1, r2, imm, aq, rl, pred, succ⟩ = 0) (hf : (opOf op).form = 11) (him : -9223372036854775808 ≤ imm ∧ imm ≤ 9223372036854775807) :
    Calls Tryd.prog 46 #[.agg #[.int .i64 op, .int .i64 rd, .int .i64 r1, .int .i64 r2, .int .i64 imm, .bool aq, .bool rl, .int .i64 pred, .int .i64 succ]] w fun e w' => e = .returned (.tuple #[.string ⟨(bodyT ⟨op, rd, r1, r2, imm, aq, rl, pred, succ⟩).toArray⟩, .int .i64 0]) ∧ Below w.heap.size w w' := by
  obtain ⟨g1, g2, g3, g4, g5, g6, g7, g8⟩ := ok_facts ⟨op, rd, r1, r2, imm, aq, rl, pred, succ⟩ hc
  simp only at g1 g2 g3 g4 g5 g6 g7 g8
  have hX1 := fun W => X_any rd g1.1 (by omega) W
  have hX2 := fun W => X_any r1 g2.1 (by omega) W
  have hX3 := fun W => X_any r2 g3.1 (by omega) W
  have hX4 := fun W => Signed_any imm him.1 him.2 W
  have n1 := regT_len rd
  have n2 := regT_len r1
  have n3 := regT_len r2
  have n4 := signL_len imm
  have n0 := nameT_len op
  have hN0 := fun W => R2Name_any op W
  have hF0 := fun W => R2Form_any op W
  rw [← rform_eq, hf] at hF0
  have hF := Lib.hid hF0
  clear hF0
  subst haq hrl
  have hbody : bodyT ⟨op, rd, r1, r2, imm, true, true, pred, succ⟩ = headT ⟨op, rd, r1, r2, imm, true, true, pred, succ⟩ ++ [32] ++ regT rd ++ [44, 32, 40] ++ regT r1 ++ [41] := by
    unfold bodyT
    simp only [hf]
    rfl
  have hhd : headT ⟨op, rd, r1, r2, imm, true, true, pred, succ⟩ = (opOf op).name ++ [46] ++ [97, 113] ++ [114, 108] := rfl
  rw [hhd] at hbody
  obtain ⟨r, hr⟩ : ∃ r, bodyT ⟨op, rd, r1, r2, imm, true, true, pred, succ⟩ = r := ⟨_, rfl⟩
  rw [hr] at hbody ⊢
  clear hr
  clear g1 g2 g3 g4 g5 g6 g7 g8 him hf
  have hB := TB.start w (InsnV.cells ⟨op, rd, r1, r2, imm, true, true, pred, succ⟩).toList 23
  rw [Array.toArray_toList] at hB
  have hu := Tryd.underlying23
  have hi : (Tryd.prog.info? 23).map (·.size) = some (InsnV.cells ⟨op, rd, r1, r2, imm, true, true, pred, succ⟩).toList.length := by kernel_rfl
  have hK := Lib.hid (fun W => R2Check_any ⟨op, rd, r1, r2, imm, true, true, pred, succ⟩ W)
  rw [hc] at hK
  clear hc
  have c0 : _ = some (Value.int .i64 op) := hB.at 0 _ rfl
  have c1 : _ = some (Value.int .i64 rd) := hB.at 1 _ rfl
  have c2 : _ = some (Value.int .i64 r1) := hB.at 2 _ rfl
  have c3 : _ = some (Value.int .i64 r2) := hB.at 3 _ rfl
  have c4 : _ = some (Value.int .i64 imm) := hB.at 4 _ rfl
  have c5 : _ = some (Value.bool true) := hB.at 5 _ rfl
  have c6 : _ = some (Value.bool true) := hB.at 6 _ rfl
  have c7 : _ = some (Value.int .i64 pred) := hB.at 7 _ rfl
  have c8 : _ = some (Value.int .i64 succ) := hB.at 8 _ rfl
  obtain ⟨nm, hnm⟩ : ∃ l, (opOf op).name = l := ⟨_, rfl⟩
  rw [hnm] at hN0 hbody n0
  obtain ⟨l1, hl1⟩ : ∃ l, regT rd = l := ⟨_, rfl⟩
  rw [hl1] at hX1 n1
  obtain ⟨l2, hl2⟩ : ∃ l, regT r1 = l := ⟨_, rfl⟩
  rw [hl2] at hX2 n2
  obtain ⟨l3, hl3⟩ : ∃ l, regT r2 = l := ⟨_, rfl⟩
  rw [hl3] at hX3 n3
  obtain ⟨l4, hl4⟩ : ∃ l, signL imm = l := ⟨_, rfl⟩
  rw [hl4] at hX4 n4
  have hN := Lib.hid hN0
  have h1 := Lib.hid hX1
  have h2 := Lib.hid hX2
  have h3 := Lib.hid hX3
  have h4 := Lib.hid hX4
  clear hN0 hX1 hX2 hX3 hX4
  rw [hl1, hl2] at hbody
  replace hbody := Lib.hid hbody
  clear hnm hl1 hl2 hl3 hl4
  go_enter Tryd.func46, Tryd.ntmps46
  go_upto_region 10 with (first | (refine wpList_load_mid rfl 23 _ rfl w.heap.size 0 rfl (InsnV.cells ⟨op, rd, r1, r2, imm, true, true, pred, succ⟩).toList _ hB.c hu rfl hi ?_) | (go_at_call 11; refine (hK.out _).mono ?_; rintro e w1 ⟨rfl, hb1⟩; replace hB := hB.keep hb1; clear hb1 c0 c1 c2 c3 c4 c5 c6 c7 c8; have c0 : _ = some (Value.int .i64 op) := hB.at 0 _ rfl; have c1 : _ = some (Value.int .i64 rd) := hB.at 1 _ rfl; have c2 : _ = some (Value.int .i64 r1) := hB.at 2 _ rfl; have c3 : _ = some (Value.int .i64 r2) := hB.at 3 _ rfl; have c4 : _ = some (Value.int .i64 imm) := hB.at 4 _ rfl; have c5 : _ = some (Value.bool true) := hB.at 5 _ rfl; have c6 : _ = some (Value.bool true) := hB.at 6 _ rfl; have c7 : _ = some (Value.int .i64 pred) := hB.at 7 _ rfl; have c8 : _ = some (Value.int .i64 succ) := hB.at 8 _ rfl) | (go_at_call 67; refine (hN.out _).mono ?_; rintro e w1 ⟨rfl, hb1⟩; replace hB := hB.keep hb1; clear hb1 c0 c1 c2 c3 c4 c5 c6 c7 c8; have c0 : _ = some (Value.int .i64 op) := hB.at 0 _ rfl; have c1 : _ = some (Value.int .i64 rd) := hB.at 1 _ rfl; have c2 : _ = some (Value.int .i64 r1) := hB.at 2 _ rfl; have c3 : _ = some (Value.int .i64 r2) := hB.at 3 _ rfl; have c4 : _ = some (Value.int .i64 imm) := hB.at 4 _ rfl; have c5 : _ = some (Value.bool true) := hB.at 5 _ rfl; have c6 : _ = some (Value.bool true) := hB.at 6 _ rfl; have c7 : _ = some (Value.int .i64 pred) := hB.at 7 _ rfl; have c8 : _ = some (Value.int .i64 succ) := hB.at 8 _ rfl) | (refine wpList_cat (by rfl) _ _ _ _ rfl _ _ rfl rfl (by simp only [List.length_append, List.length_cons, List.length_nil]; omega) ?_))
  go_quiet ((first | (go_at_call 68; with_reducible exact quiet_same (h1.out _)) | (go_at_call 68; with_reducible exact quiet_same (h2.out _)) | (go_at_call 68; with_reducible exact quiet_same (h3.out _)) | (go_at_call 69; with_reducible exact quiet_same (h4.out _))))
  go_wp2_with (first | (go_at_call 9; refine (hF.out _).mono ?_; rintro e w1 ⟨rfl, rfl⟩) | (go_at_call 67; refine (hN.out _).mono ?_; rintro e w1 ⟨rfl, hb1⟩; replace hB := hB.keep hb1; clear hb1 c0 c1 c2 c3 c4 c5 c6 c7 c8; have c0 : _ = some (Value.int .i64 op) := hB.at 0 _ rfl; have c1 : _ = some (Value.int .i64 rd) := hB.at 1 _ rfl; have c2 : _ = some (Value.int .i64 r1) := hB.at 2 _ rfl; have c3 : _ = some (Value.int .i64 r2) := hB.at 3 _ rfl; have c4 : _ = some (Value.int .i64 imm) := hB.at 4 _ rfl; have c5 : _ = some (Value.bool true) := hB.at 5 _ rfl; have c6 : _ = some (Value.bool true) := hB.at 6 _ rfl; have c7 : _ = some (Value.int .i64 pred) := hB.at 7 _ rfl; have c8 : _ = some (Value.int .i64 succ) := hB.at 8 _ rfl) | (refine wpList_cat (by rfl) _ _ _ _ rfl _ _ rfl rfl (by simp only [List.length_append, List.length_cons, List.length_nil]; omega) ?_))
  go_ret2
  have hb2 := hbody.out
  try simp only [List.append_assoc, List.cons_append, List.nil_append] at hb2
  exact ⟨by rw [hb2]; rfl, (hB.drewN _).bl⟩
set_option maxRecDepth 100000 in
set_option maxHeartbeats 8000000 in
theorem Text_11_tf (op rd r1 r2 imm : Int) (aq rl : Bool) (pred succ : Int) (w : World) (haq : aq = true) (hrl : rl = false) (hc : checkE ⟨op, rd, r1, r2, imm, aq, rl, pred, succ⟩ = 0) (hf : (opOf op).form = 11) (him : -9223372036854775808 ≤ imm ∧ imm ≤ 9223372036854775807) :
    Calls Tryd.prog 46 #[.agg #[.int .i64 op, .int .i64 rd, .int .i64 r1, .int .i64 r2, .int .i64 imm, .bool aq, .bool rl, .int .i64 pred, .int .i64 succ]] w fun e w' => e = .returned (.tuple #[.string ⟨(bodyT ⟨op, rd, r1, r2, imm, aq, rl, pred, succ⟩).toArray⟩, .int .i64 0]) ∧ Below w.heap.size w w' := by
  obtain ⟨g1, g2, g3, g4, g5, g6, g7, g8⟩ := ok_facts ⟨op, rd, r1, r2, imm, aq, rl, pred, succ⟩ hc
  simp only at g1 g2 g3 g4 g5 g6 g7 g8
  have hX1 := fun W => X_any rd g1.1 (by omega) W
  have hX2 := fun W => X_any r1 g2.1 (by omega) W
  have hX3 := fun W => X_any r2 g3.1 (by omega) W
  have hX4 := fun W => Signed_any imm him.1 him.2 W
  have n1 := regT_len rd
  have n2 := regT_len r1
  have n3 := regT_len r2
  have n4 := signL_len imm
  have n0 := nameT_len op
  have hN0 := fun W => R2Name_any op W
  have hF0 := fun W => R2Form_any op W
  rw [← rform_eq, hf] at hF0
  have hF := Lib.hid hF0
  clear hF0
  subst haq hrl
  have hbody : bodyT ⟨op, rd, r1, r2, imm, true, false, pred, succ⟩ = headT ⟨op, rd, r1, r2, imm, true, false, pred, succ⟩ ++ [32] ++ regT rd ++ [44, 32, 40] ++ regT r1 ++ [41] := by
    unfold bodyT
    simp only [hf]
    rfl
  have hhd : headT ⟨op, rd, r1, r2, imm, true, false, pred, succ⟩ = (opOf op).name ++ [46] ++ [97, 113] := rfl
  rw [hhd] at hbody
  obtain ⟨r, hr⟩ : ∃ r, bodyT ⟨op, rd, r1, r2, imm, true, false, pred, succ⟩ = r := ⟨_, rfl⟩
  rw [hr] at hbody ⊢
  clear hr
  clear g1 g2 g3 g4 g5 g6 g7 g8 him hf
  have hB := TB.start w (InsnV.cells ⟨op, rd, r1, r2, imm, true, false, pred, succ⟩).toList 23
  rw [Array.toArray_toList] at hB
  have hu := Tryd.underlying23
  have hi : (Tryd.prog.info? 23).map (·.size) = some (InsnV.cells ⟨op, rd, r1, r2, imm, true, false, pred, succ⟩).toList.length := by kernel_rfl
  have hK := Lib.hid (fun W => R2Check_any ⟨op, rd, r1, r2, imm, true, false, pred, succ⟩ W)
  rw [hc] at hK
  clear hc
  have c0 : _ = some (Value.int .i64 op) := hB.at 0 _ rfl
  have c1 : _ = some (Value.int .i64 rd) := hB.at 1 _ rfl
  have c2 : _ = some (Value.int .i64 r1) := hB.at 2 _ rfl
  have c3 : _ = some (Value.int .i64 r2) := hB.at 3 _ rfl
  have c4 : _ = some (Value.int .i64 imm) := hB.at 4 _ rfl
  have c5 : _ = some (Value.bool true) := hB.at 5 _ rfl
  have c6 : _ = some (Value.bool false) := hB.at 6 _ rfl
  have c7 : _ = some (Value.int .i64 pred) := hB.at 7 _ rfl
  have c8 : _ = some (Value.int .i64 succ) := hB.at 8 _ rfl
  obtain ⟨nm, hnm⟩ : ∃ l, (opOf op).name = l := ⟨_, rfl⟩
  rw [hnm] at hN0 hbody n0
  obtain ⟨l1, hl1⟩ : ∃ l, regT rd = l := ⟨_, rfl⟩
  rw [hl1] at hX1 n1
  obtain ⟨l2, hl2⟩ : ∃ l, regT r1 = l := ⟨_, rfl⟩
  rw [hl2] at hX2 n2
  obtain ⟨l3, hl3⟩ : ∃ l, regT r2 = l := ⟨_, rfl⟩
  rw [hl3] at hX3 n3
  obtain ⟨l4, hl4⟩ : ∃ l, signL imm = l := ⟨_, rfl⟩
  rw [hl4] at hX4 n4
  have hN := Lib.hid hN0
  have h1 := Lib.hid hX1
  have h2 := Lib.hid hX2
  have h3 := Lib.hid hX3
  have h4 := Lib.hid hX4
  clear hN0 hX1 hX2 hX3 hX4
  rw [hl1, hl2] at hbody
  replace hbody := Lib.hid hbody
  clear hnm hl1 hl2 hl3 hl4
  go_enter Tryd.func46, Tryd.ntmps46
  go_upto_region 10 with (first | (refine wpList_load_mid rfl 23 _ rfl w.heap.size 0 rfl (InsnV.cells ⟨op, rd, r1, r2, imm, true, false, pred, succ⟩).toList _ hB.c hu rfl hi ?_) | (go_at_call 11; refine (hK.out _).mono ?_; rintro e w1 ⟨rfl, hb1⟩; replace hB := hB.keep hb1; clear hb1 c0 c1 c2 c3 c4 c5 c6 c7 c8; have c0 : _ = some (Value.int .i64 op) := hB.at 0 _ rfl; have c1 : _ = some (Value.int .i64 rd) := hB.at 1 _ rfl; have c2 : _ = some (Value.int .i64 r1) := hB.at 2 _ rfl; have c3 : _ = some (Value.int .i64 r2) := hB.at 3 _ rfl; have c4 : _ = some (Value.int .i64 imm) := hB.at 4 _ rfl; have c5 : _ = some (Value.bool true) := hB.at 5 _ rfl; have c6 : _ = some (Value.bool false) := hB.at 6 _ rfl; have c7 : _ = some (Value.int .i64 pred) := hB.at 7 _ rfl; have c8 : _ = some (Value.int .i64 succ) := hB.at 8 _ rfl) | (go_at_call 67; refine (hN.out _).mono ?_; rintro e w1 ⟨rfl, hb1⟩; replace hB := hB.keep hb1; clear hb1 c0 c1 c2 c3 c4 c5 c6 c7 c8; have c0 : _ = some (Value.int .i64 op) := hB.at 0 _ rfl; have c1 : _ = some (Value.int .i64 rd) := hB.at 1 _ rfl; have c2 : _ = some (Value.int .i64 r1) := hB.at 2 _ rfl; have c3 : _ = some (Value.int .i64 r2) := hB.at 3 _ rfl; have c4 : _ = some (Value.int .i64 imm) := hB.at 4 _ rfl; have c5 : _ = some (Value.bool true) := hB.at 5 _ rfl; have c6 : _ = some (Value.bool false) := hB.at 6 _ rfl; have c7 : _ = some (Value.int .i64 pred) := hB.at 7 _ rfl; have c8 : _ = some (Value.int .i64 succ) := hB.at 8 _ rfl) | (refine wpList_cat (by rfl) _ _ _ _ rfl _ _ rfl rfl (by simp only [List.length_append, List.length_cons, List.length_nil]; omega) ?_))
  go_quiet ((first | (go_at_call 68; with_reducible exact quiet_same (h1.out _)) | (go_at_call 68; with_reducible exact quiet_same (h2.out _)) | (go_at_call 68; with_reducible exact quiet_same (h3.out _)) | (go_at_call 69; with_reducible exact quiet_same (h4.out _))))
  go_wp2_with (first | (go_at_call 9; refine (hF.out _).mono ?_; rintro e w1 ⟨rfl, rfl⟩) | (go_at_call 67; refine (hN.out _).mono ?_; rintro e w1 ⟨rfl, hb1⟩; replace hB := hB.keep hb1; clear hb1 c0 c1 c2 c3 c4 c5 c6 c7 c8; have c0 : _ = some (Value.int .i64 op) := hB.at 0 _ rfl; have c1 : _ = some (Value.int .i64 rd) := hB.at 1 _ rfl; have c2 : _ = some (Value.int .i64 r1) := hB.at 2 _ rfl; have c3 : _ = some (Value.int .i64 r2) := hB.at 3 _ rfl; have c4 : _ = some (Value.int .i64 imm) := hB.at 4 _ rfl; have c5 : _ = some (Value.bool true) := hB.at 5 _ rfl; have c6 : _ = some (Value.bool false) := hB.at 6 _ rfl; have c7 : _ = some (Value.int .i64 pred) := hB.at 7 _ rfl; have c8 : _ = some (Value.int .i64 succ) := hB.at 8 _ rfl) | (refine wpList_cat (by rfl) _ _ _ _ rfl _ _ rfl rfl (by simp only [List.length_append, List.length_cons, List.length_nil]; omega) ?_))
  go_ret2
  have hb2 := hbody.out
  try simp only [List.append_assoc, List.cons_append, List.nil_append] at hb2
  exact ⟨by rw [hb2]; rfl, (hB.drewN _).bl⟩
set_option maxRecDepth 100000 in
set_option maxHeartbeats 8000000 in
theorem Text_11_ft (op rd r1 r2 imm : Int) (aq rl : Bool) (pred succ : Int) (w : World) (haq : aq = false) (hrl : rl = true) (hc : checkE ⟨op, rd, r1, r2, imm, aq, rl, pred, succ⟩ = 0) (hf : (opOf op).form = 11) (him : -9223372036854775808 ≤ imm ∧ imm ≤ 9223372036854775807) :
    Calls Tryd.prog 46 #[.agg #[.int .i64 op, .int .i64 rd, .int .i64 r1, .int .i64 r2, .int .i64 imm, .bool aq, .bool rl, .int .i64 pred, .int .i64 succ]] w fun e w' => e = .returned (.tuple #[.string ⟨(bodyT ⟨op, rd, r1, r2, imm, aq, rl, pred, succ⟩).toArray⟩, .int .i64 0]) ∧ Below w.heap.size w w' := by
  obtain ⟨g1, g2, g3, g4, g5, g6, g7, g8⟩ := ok_facts ⟨op, rd, r1, r2, imm, aq, rl, pred, succ⟩ hc
  simp only at g1 g2 g3 g4 g5 g6 g7 g8
  have hX1 := fun W => X_any rd g1.1 (by omega) W
  have hX2 := fun W => X_any r1 g2.1 (by omega) W
  have hX3 := fun W => X_any r2 g3.1 (by omega) W
  have hX4 := fun W => Signed_any imm him.1 him.2 W
  have n1 := regT_len rd
  have n2 := regT_len r1
  have n3 := regT_len r2
  have n4 := signL_len imm
  have n0 := nameT_len op
  have hN0 := fun W => R2Name_any op W
  have hF0 := fun W => R2Form_any op W
  rw [← rform_eq, hf] at hF0
  have hF := Lib.hid hF0
  clear hF0
  subst haq hrl
  have hbody : bodyT ⟨op, rd, r1, r2, imm, false, true, pred, succ⟩ = headT ⟨op, rd, r1, r2, imm, false, true, pred, succ⟩ ++ [32] ++ regT rd ++ [44, 32, 40] ++ regT r1 ++ [41] := by
    unfold bodyT
    simp only [hf]
    rfl
  have hhd : headT ⟨op, rd, r1, r2, imm, false, true, pred, succ⟩ = (opOf op).name ++ [46] ++ [114, 108] := rfl
  rw [hhd] at hbody
  obtain ⟨r, hr⟩ : ∃ r, bodyT ⟨op, rd, r1, r2, imm, false, true, pred, succ⟩ = r := ⟨_, rfl⟩
  rw [hr] at hbody ⊢
  clear hr
  clear g1 g2 g3 g4 g5 g6 g7 g8 him hf
  have hB := TB.start w (InsnV.cells ⟨op, rd, r1, r2, imm, false, true, pred, succ⟩).toList 23
  rw [Array.toArray_toList] at hB
  have hu := Tryd.underlying23
  have hi : (Tryd.prog.info? 23).map (·.size) = some (InsnV.cells ⟨op, rd, r1, r2, imm, false, true, pred, succ⟩).toList.length := by kernel_rfl
  have hK := Lib.hid (fun W => R2Check_any ⟨op, rd, r1, r2, imm, false, true, pred, succ⟩ W)
  rw [hc] at hK
  clear hc
  have c0 : _ = some (Value.int .i64 op) := hB.at 0 _ rfl
  have c1 : _ = some (Value.int .i64 rd) := hB.at 1 _ rfl
  have c2 : _ = some (Value.int .i64 r1) := hB.at 2 _ rfl
  have c3 : _ = some (Value.int .i64 r2) := hB.at 3 _ rfl
  have c4 : _ = some (Value.int .i64 imm) := hB.at 4 _ rfl
  have c5 : _ = some (Value.bool false) := hB.at 5 _ rfl
  have c6 : _ = some (Value.bool true) := hB.at 6 _ rfl
  have c7 : _ = some (Value.int .i64 pred) := hB.at 7 _ rfl
  have c8 : _ = some (Value.int .i64 succ) := hB.at 8 _ rfl
  obtain ⟨nm, hnm⟩ : ∃ l, (opOf op).name = l := ⟨_, rfl⟩
  rw [hnm] at hN0 hbody n0
  obtain ⟨l1, hl1⟩ : ∃ l, regT rd = l := ⟨_, rfl⟩
  rw [hl1] at hX1 n1
  obtain ⟨l2, hl2⟩ : ∃ l, regT r1 = l := ⟨_, rfl⟩
  rw [hl2] at hX2 n2
  obtain ⟨l3, hl3⟩ : ∃ l, regT r2 = l := ⟨_, rfl⟩
  rw [hl3] at hX3 n3
  obtain ⟨l4, hl4⟩ : ∃ l, signL imm = l := ⟨_, rfl⟩
  rw [hl4] at hX4 n4
  have hN := Lib.hid hN0
  have h1 := Lib.hid hX1
  have h2 := Lib.hid hX2
  have h3 := Lib.hid hX3
  have h4 := Lib.hid hX4
  clear hN0 hX1 hX2 hX3 hX4
  rw [hl1, hl2] at hbody
  replace hbody := Lib.hid hbody
  clear hnm hl1 hl2 hl3 hl4
  go_enter Tryd.func46, Tryd.ntmps46
  go_upto_region 10 with (first | (refine wpList_load_mid rfl 23 _ rfl w.heap.size 0 rfl (InsnV.cells ⟨op, rd, r1, r2, imm, false, true, pred, succ⟩).toList _ hB.c hu rfl hi ?_) | (go_at_call 11; refine (hK.out _).mono ?_; rintro e w1 ⟨rfl, hb1⟩; replace hB := hB.keep hb1; clear hb1 c0 c1 c2 c3 c4 c5 c6 c7 c8; have c0 : _ = some (Value.int .i64 op) := hB.at 0 _ rfl; have c1 : _ = some (Value.int .i64 rd) := hB.at 1 _ rfl; have c2 : _ = some (Value.int .i64 r1) := hB.at 2 _ rfl; have c3 : _ = some (Value.int .i64 r2) := hB.at 3 _ rfl; have c4 : _ = some (Value.int .i64 imm) := hB.at 4 _ rfl; have c5 : _ = some (Value.bool false) := hB.at 5 _ rfl; have c6 : _ = some (Value.bool true) := hB.at 6 _ rfl; have c7 : _ = some (Value.int .i64 pred) := hB.at 7 _ rfl; have c8 : _ = some (Value.int .i64 succ) := hB.at 8 _ rfl) | (go_at_call 67; refine (hN.out _).mono ?_; rintro e w1 ⟨rfl, hb1⟩; replace hB := hB.keep hb1; clear hb1 c0 c1 c2 c3 c4 c5 c6 c7 c8; have c0 : _ = some (Value.int .i64 op) := hB.at 0 _ rfl; have c1 : _ = some (Value.int .i64 rd) := hB.at 1 _ rfl; have c2 : _ = some (Value.int .i64 r1) := hB.at 2 _ rfl; have c3 : _ = some (Value.int .i64 r2) := hB.at 3 _ rfl; have c4 : _ = some (Value.int .i64 imm) := hB.at 4 _ rfl; have c5 : _ = some (Value.bool false) := hB.at 5 _ rfl; have c6 : _ = some (Value.bool true) := hB.at 6 _ rfl; have c7 : _ = some (Value.int .i64 pred) := hB.at 7 _ rfl; have c8 : _ = some (Value.int .i64 succ) := hB.at 8 _ rfl) | (refine wpList_cat (by rfl) _ _ _ _ rfl _ _ rfl rfl (by simp only [List.length_append, List.length_cons, List.length_nil]; omega) ?_))
  go_quiet ((first | (go_at_call 68; with_reducible exact quiet_same (h1.out _)) | (go_at_call 68; with_reducible exact quiet_same (h2.out _)) | (go_at_call 68; with_reducible exact quiet_same (h3.out _)) | (go_at_call 69; with_reducible exact quiet_same (h4.out _))))
  go_wp2_with (first | (go_at_call 9; refine (hF.out _).mono ?_; rintro e w1 ⟨rfl, rfl⟩) | (go_at_call 67; refine (hN.out _).mono ?_; rintro e w1 ⟨rfl, hb1⟩; replace hB := hB.keep hb1; clear hb1 c0 c1 c2 c3 c4 c5 c6 c7 c8; have c0 : _ = some (Value.int .i64 op) := hB.at 0 _ rfl; have c1 : _ = some (Value.int .i64 rd) := hB.at 1 _ rfl; have c2 : _ = some (Value.int .i64 r1) := hB.at 2 _ rfl; have c3 : _ = some (Value.int .i64 r2) := hB.at 3 _ rfl; have c4 : _ = some (Value.int .i64 imm) := hB.at 4 _ rfl; have c5 : _ = some (Value.bool false) := hB.at 5 _ rfl; have c6 : _ = some (Value.bool true) := hB.at 6 _ rfl; have c7 : _ = some (Value.int .i64 pred) := hB.at 7 _ rfl; have c8 : _ = some (Value.int .i64 succ) := hB.at 8 _ rfl) | (refine wpList_cat (by rfl) _ _ _ _ rfl _ _ rfl rfl (by simp only [List.length_append, List.length_cons, List.length_nil]; omega) ?_))
  go_ret2
  have hb2 := hbody.out
  try simp only [List.append_assoc, List.cons_append, List.nil_append] at hb2
  exact ⟨by rw [hb2]; rfl, (hB.drewN _).bl⟩
set_option maxRecDepth 100000 in
set_option maxHeartbeats 8000000 in
theorem Text_11_ff (op rd r1 r2 imm : Int) (aq rl : Bool) (pred succ : Int) (w : World) (haq : aq = false) (hrl : rl = false) (hc : checkE ⟨op, rd, r1, r2, imm, aq, rl, pred, succ⟩ = 0) (hf : (opOf op).form = 11) (him : -9223372036854775808 ≤ imm ∧ imm ≤ 9223372036854775807) :
    Calls Tryd.prog 46 #[.agg #[.int .i64 op, .int .i64 rd, .int .i64 r1, .int .i64 r2, .int .i64 imm, .bool aq, .bool rl, .int .i64 pred, .int .i64 succ]] w fun e w' => e = .returned (.tuple #[.string ⟨(bodyT ⟨op, rd, r1, r2, imm, aq, rl, pred, succ⟩).toArray⟩, .int .i64 0]) ∧ Below w.heap.size w w' := by
  obtain ⟨g1, g2, g3, g4, g5, g6, g7, g8⟩ := ok_facts ⟨op, rd, r1, r2, imm, aq, rl, pred, succ⟩ hc
  simp only at g1 g2 g3 g4 g5 g6 g7 g8
  have hX1 := fun W => X_any rd g1.1 (by omega) W
  have hX2 := fun W => X_any r1 g2.1 (by omega) W
  have hX3 := fun W => X_any r2 g3.1 (by omega) W
  have hX4 := fun W => Signed_any imm him.1 him.2 W
  have n1 := regT_len rd
  have n2 := regT_len r1
  have n3 := regT_len r2
  have n4 := signL_len imm
  have n0 := nameT_len op
  have hN0 := fun W => R2Name_any op W
  have hF0 := fun W => R2Form_any op W
  rw [← rform_eq, hf] at hF0
  have hF := Lib.hid hF0
  clear hF0
  subst haq hrl
  have hbody : bodyT ⟨op, rd, r1, r2, imm, false, false, pred, succ⟩ = headT ⟨op, rd, r1, r2, imm, false, false, pred, succ⟩ ++ [32] ++ regT rd ++ [44, 32, 40] ++ regT r1 ++ [41] := by
    unfold bodyT
    simp only [hf]
    rfl
  have hhd : headT ⟨op, rd, r1, r2, imm, false, false, pred, succ⟩ = (opOf op).name := rfl
  rw [hhd] at hbody
  obtain ⟨r, hr⟩ : ∃ r, bodyT ⟨op, rd, r1, r2, imm, false, false, pred, succ⟩ = r := ⟨_, rfl⟩
  rw [hr] at hbody ⊢
  clear hr
  clear g1 g2 g3 g4 g5 g6 g7 g8 him hf
  have hB := TB.start w (InsnV.cells ⟨op, rd, r1, r2, imm, false, false, pred, succ⟩).toList 23
  rw [Array.toArray_toList] at hB
  have hu := Tryd.underlying23
  have hi : (Tryd.prog.info? 23).map (·.size) = some (InsnV.cells ⟨op, rd, r1, r2, imm, false, false, pred, succ⟩).toList.length := by kernel_rfl
  have hK := Lib.hid (fun W => R2Check_any ⟨op, rd, r1, r2, imm, false, false, pred, succ⟩ W)
  rw [hc] at hK
  clear hc
  have c0 : _ = some (Value.int .i64 op) := hB.at 0 _ rfl
  have c1 : _ = some (Value.int .i64 rd) := hB.at 1 _ rfl
  have c2 : _ = some (Value.int .i64 r1) := hB.at 2 _ rfl
  have c3 : _ = some (Value.int .i64 r2) := hB.at 3 _ rfl
  have c4 : _ = some (Value.int .i64 imm) := hB.at 4 _ rfl
  have c5 : _ = some (Value.bool false) := hB.at 5 _ rfl
  have c6 : _ = some (Value.bool false) := hB.at 6 _ rfl
  have c7 : _ = some (Value.int .i64 pred) := hB.at 7 _ rfl
  have c8 : _ = some (Value.int .i64 succ) := hB.at 8 _ rfl
  obtain ⟨nm, hnm⟩ : ∃ l, (opOf op).name = l := ⟨_, rfl⟩
  rw [hnm] at hN0 hbody n0
  obtain ⟨l1, hl1⟩ : ∃ l, regT rd = l := ⟨_, rfl⟩
  rw [hl1] at hX1 n1
  obtain ⟨l2, hl2⟩ : ∃ l, regT r1 = l := ⟨_, rfl⟩
  rw [hl2] at hX2 n2
  obtain ⟨l3, hl3⟩ : ∃ l, regT r2 = l := ⟨_, rfl⟩
  rw [hl3] at hX3 n3
  obtain ⟨l4, hl4⟩ : ∃ l, signL imm = l := ⟨_, rfl⟩
  rw [hl4] at hX4 n4
  have hN := Lib.hid hN0
  have h1 := Lib.hid hX1
  have h2 := Lib.hid hX2
  have h3 := Lib.hid hX3
  have h4 := Lib.hid hX4
  clear hN0 hX1 hX2 hX3 hX4
  rw [hl1, hl2] at hbody
  replace hbody := Lib.hid hbody
  clear hnm hl1 hl2 hl3 hl4
  go_enter Tryd.func46, Tryd.ntmps46
  go_upto_region 10 with (first | (refine wpList_load_mid rfl 23 _ rfl w.heap.size 0 rfl (InsnV.cells ⟨op, rd, r1, r2, imm, false, false, pred, succ⟩).toList _ hB.c hu rfl hi ?_) | (go_at_call 11; refine (hK.out _).mono ?_; rintro e w1 ⟨rfl, hb1⟩; replace hB := hB.keep hb1; clear hb1 c0 c1 c2 c3 c4 c5 c6 c7 c8; have c0 : _ = some (Value.int .i64 op) := hB.at 0 _ rfl; have c1 : _ = some (Value.int .i64 rd) := hB.at 1 _ rfl; have c2 : _ = some (Value.int .i64 r1) := hB.at 2 _ rfl; have c3 : _ = some (Value.int .i64 r2) := hB.at 3 _ rfl; have c4 : _ = some (Value.int .i64 imm) := hB.at 4 _ rfl; have c5 : _ = some (Value.bool false) := hB.at 5 _ rfl; have c6 : _ = some (Value.bool false) := hB.at 6 _ rfl; have c7 : _ = some (Value.int .i64 pred) := hB.at 7 _ rfl; have c8 : _ = some (Value.int .i64 succ) := hB.at 8 _ rfl) | (go_at_call 67; refine (hN.out _).mono ?_; rintro e w1 ⟨rfl, hb1⟩; replace hB := hB.keep hb1; clear hb1 c0 c1 c2 c3 c4 c5 c6 c7 c8; have c0 : _ = some (Value.int .i64 op) := hB.at 0 _ rfl; have c1 : _ = some (Value.int .i64 rd) := hB.at 1 _ rfl; have c2 : _ = some (Value.int .i64 r1) := hB.at 2 _ rfl; have c3 : _ = some (Value.int .i64 r2) := hB.at 3 _ rfl; have c4 : _ = some (Value.int .i64 imm) := hB.at 4 _ rfl; have c5 : _ = some (Value.bool false) := hB.at 5 _ rfl; have c6 : _ = some (Value.bool false) := hB.at 6 _ rfl; have c7 : _ = some (Value.int .i64 pred) := hB.at 7 _ rfl; have c8 : _ = some (Value.int .i64 succ) := hB.at 8 _ rfl) | (refine wpList_cat (by rfl) _ _ _ _ rfl _ _ rfl rfl (by simp only [List.length_append, List.length_cons, List.length_nil]; omega) ?_))
  go_quiet ((first | (go_at_call 68; with_reducible exact quiet_same (h1.out _)) | (go_at_call 68; with_reducible exact quiet_same (h2.out _)) | (go_at_call 68; with_reducible exact quiet_same (h3.out _)) | (go_at_call 69; with_reducible exact quiet_same (h4.out _))))
  go_wp2_with (first | (go_at_call 9; refine (hF.out _).mono ?_; rintro e w1 ⟨rfl, rfl⟩) | (go_at_call 67; refine (hN.out _).mono ?_; rintro e w1 ⟨rfl, hb1⟩; replace hB := hB.keep hb1; clear hb1 c0 c1 c2 c3 c4 c5 c6 c7 c8; have c0 : _ = some (Value.int .i64 op) := hB.at 0 _ rfl; have c1 : _ = some (Value.int .i64 rd) := hB.at 1 _ rfl; have c2 : _ = some (Value.int .i64 r1) := hB.at 2 _ rfl; have c3 : _ = some (Value.int .i64 r2) := hB.at 3 _ rfl; have c4 : _ = some (Value.int .i64 imm) := hB.at 4 _ rfl; have c5 : _ = some (Value.bool false) := hB.at 5 _ rfl; have c6 : _ = some (Value.bool false) := hB.at 6 _ rfl; have c7 : _ = some (Value.int .i64 pred) := hB.at 7 _ rfl; have c8 : _ = some (Value.int .i64 succ) := hB.at 8 _ rfl) | (refine wpList_cat (by rfl) _ _ _ _ rfl _ _ rfl rfl (by simp only [List.length_append, List.length_cons, List.length_nil]; omega) ?_))
  go_ret2
  have hb2 := hbody.out
  try simp only [List.append_assoc, List.cons_append, List.nil_append] at hb2
  exact ⟨by rw [hb2]; rfl, (hB.drewN _).bl⟩
end Go.Proofs.YtbdhjckpoabmlaaDoor
namespace Go.Proofs.YtbdhjckpoabmlaaDoor
open Go.RowKit
set_option maxRecDepth 100000 in
set_option maxHeartbeats 8000000 in
theorem Text_12_tt (op rd r1 r2 imm : Int) (aq rl : Bool) (pred succ : Int) (w : World) (haq : aq = true) (hrl : rl = true) (hc : checkE ⟨op, rd, r1, r2, imm, aq, rl, pred, succ⟩ = 0) (hf : (opOf op).form = 12) (him : -9223372036854775808 ≤ imm ∧ imm ≤ 9223372036854775807) :
    Calls Tryd.prog 46 #[.agg #[.int .i64 op, .int .i64 rd, .int .i64 r1, .int .i64 r2, .int .i64 imm, .bool aq, .bool rl, .int .i64 pred, .int .i64 succ]] w fun e w' => e = .returned (.tuple #[.string ⟨(bodyT ⟨op, rd, r1, r2, imm, aq, rl, pred, succ⟩).toArray⟩, .int .i64 0]) ∧ Below w.heap.size w w' := by
  obtain ⟨g1, g2, g3, g4, g5, g6, g7, g8⟩ := ok_facts ⟨op, rd, r1, r2, imm, aq, rl, pred, succ⟩ hc
  simp only at g1 g2 g3 g4 g5 g6 g7 g8
  have hX1 := fun W => X_any rd g1.1 (by omega) W
  have hX2 := fun W => X_any r1 g2.1 (by omega) W
  have hX3 := fun W => X_any r2 g3.1 (by omega) W
  have hX4 := fun W => Signed_any imm him.1 him.2 W
  have n1 := regT_len rd
  have n2 := regT_len r1
  have n3 := regT_len r2
  have n4 := signL_len imm
  have n0 := nameT_len op
  have hN0 := fun W => R2Name_any op W
  have hF0 := fun W => R2Form_any op W
  rw [← rform_eq, hf] at hF0
  have hF := Lib.hid hF0
  clear hF0
  subst haq hrl
  have hbody : bodyT ⟨op, rd, r1, r2, imm, true, true, pred, succ⟩ = headT ⟨op, rd, r1, r2, imm, true, true, pred, succ⟩ ++ [32] ++ regT rd ++ [44, 32] ++ regT r2 ++ [44, 32, 40] ++ regT r1 ++ [41] := by
    unfold bodyT
    simp only [hf]
    rfl
  have hhd : headT ⟨op, rd, r1, r2, imm, true, true, pred, succ⟩ = (opOf op).name ++ [46] ++ [97, 113] ++ [114, 108] := rfl
  rw [hhd] at hbody
  obtain ⟨r, hr⟩ : ∃ r, bodyT ⟨op, rd, r1, r2, imm, true, true, pred, succ⟩ = r := ⟨_, rfl⟩
  rw [hr] at hbody ⊢
  clear hr
  clear g1 g2 g3 g4 g5 g6 g7 g8 him hf
  have hB := TB.start w (InsnV.cells ⟨op, rd, r1, r2, imm, true, true, pred, succ⟩).toList 23
  rw [Array.toArray_toList] at hB
  have hu := Tryd.underlying23
  have hi : (Tryd.prog.info? 23).map (·.size) = some (InsnV.cells ⟨op, rd, r1, r2, imm, true, true, pred, succ⟩).toList.length := by kernel_rfl
  have hK := Lib.hid (fun W => R2Check_any ⟨op, rd, r1, r2, imm, true, true, pred, succ⟩ W)
  rw [hc] at hK
  clear hc
  have c0 : _ = some (Value.int .i64 op) := hB.at 0 _ rfl
  have c1 : _ = some (Value.int .i64 rd) := hB.at 1 _ rfl
  have c2 : _ = some (Value.int .i64 r1) := hB.at 2 _ rfl
  have c3 : _ = some (Value.int .i64 r2) := hB.at 3 _ rfl
  have c4 : _ = some (Value.int .i64 imm) := hB.at 4 _ rfl
  have c5 : _ = some (Value.bool true) := hB.at 5 _ rfl
  have c6 : _ = some (Value.bool true) := hB.at 6 _ rfl
  have c7 : _ = some (Value.int .i64 pred) := hB.at 7 _ rfl
  have c8 : _ = some (Value.int .i64 succ) := hB.at 8 _ rfl
  obtain ⟨nm, hnm⟩ : ∃ l, (opOf op).name = l := ⟨_, rfl⟩
  rw [hnm] at hN0 hbody n0
  obtain ⟨l1, hl1⟩ : ∃ l, regT rd = l := ⟨_, rfl⟩
  rw [hl1] at hX1 n1
  obtain ⟨l2, hl2⟩ : ∃ l, regT r1 = l := ⟨_, rfl⟩
  rw [hl2] at hX2 n2
  obtain ⟨l3, hl3⟩ : ∃ l, regT r2 = l := ⟨_, rfl⟩
  rw [hl3] at hX3 n3
  obtain ⟨l4, hl4⟩ : ∃ l, signL imm = l := ⟨_, rfl⟩
  rw [hl4] at hX4 n4
  have hN := Lib.hid hN0
  have h1 := Lib.hid hX1
  have h2 := Lib.hid hX2
  have h3 := Lib.hid hX3
  have h4 := Lib.hid hX4
  clear hN0 hX1 hX2 hX3 hX4
  rw [hl1, hl2, hl3] at hbody
  replace hbody := Lib.hid hbody
  clear hnm hl1 hl2 hl3 hl4
  go_enter Tryd.func46, Tryd.ntmps46
  go_upto_region 10 with (first | (refine wpList_load_mid rfl 23 _ rfl w.heap.size 0 rfl (InsnV.cells ⟨op, rd, r1, r2, imm, true, true, pred, succ⟩).toList _ hB.c hu rfl hi ?_) | (go_at_call 11; refine (hK.out _).mono ?_; rintro e w1 ⟨rfl, hb1⟩; replace hB := hB.keep hb1; clear hb1 c0 c1 c2 c3 c4 c5 c6 c7 c8; have c0 : _ = some (Value.int .i64 op) := hB.at 0 _ rfl; have c1 : _ = some (Value.int .i64 rd) := hB.at 1 _ rfl; have c2 : _ = some (Value.int .i64 r1) := hB.at 2 _ rfl; have c3 : _ = some (Value.int .i64 r2) := hB.at 3 _ rfl; have c4 : _ = some (Value.int .i64 imm) := hB.at 4 _ rfl; have c5 : _ = some (Value.bool true) := hB.at 5 _ rfl; have c6 : _ = some (Value.bool true) := hB.at 6 _ rfl; have c7 : _ = some (Value.int .i64 pred) := hB.at 7 _ rfl; have c8 : _ = some (Value.int .i64 succ) := hB.at 8 _ rfl) | (go_at_call 67; refine (hN.out _).mono ?_; rintro e w1 ⟨rfl, hb1⟩; replace hB := hB.keep hb1; clear hb1 c0 c1 c2 c3 c4 c5 c6 c7 c8; have c0 : _ = some (Value.int .i64 op) := hB.at 0 _ rfl; have c1 : _ = some (Value.int .i64 rd) := hB.at 1 _ rfl; have c2 : _ = some (Value.int .i64 r1) := hB.at 2 _ rfl; have c3 : _ = some (Value.int .i64 r2) := hB.at 3 _ rfl; have c4 : _ = some (Value.int .i64 imm) := hB.at 4 _ rfl; have c5 : _ = some (Value.bool true) := hB.at 5 _ rfl; have c6 : _ = some (Value.bool true) := hB.at 6 _ rfl; have c7 : _ = some (Value.int .i64 pred) := hB.at 7 _ rfl; have c8 : _ = some (Value.int .i64 succ) := hB.at 8 _ rfl) | (refine wpList_cat (by rfl) _ _ _ _ rfl _ _ rfl rfl (by simp only [List.length_append, List.length_cons, List.length_nil]; omega) ?_))
  go_quiet ((first | (go_at_call 68; with_reducible exact quiet_same (h1.out _)) | (go_at_call 68; with_reducible exact quiet_same (h2.out _)) | (go_at_call 68; with_reducible exact quiet_same (h3.out _)) | (go_at_call 69; with_reducible exact quiet_same (h4.out _))))
  go_wp2_with (first | (go_at_call 9; refine (hF.out _).mono ?_; rintro e w1 ⟨rfl, rfl⟩) | (go_at_call 67; refine (hN.out _).mono ?_; rintro e w1 ⟨rfl, hb1⟩; replace hB := hB.keep hb1; clear hb1 c0 c1 c2 c3 c4 c5 c6 c7 c8; have c0 : _ = some (Value.int .i64 op) := hB.at 0 _ rfl; have c1 : _ = some (Value.int .i64 rd) := hB.at 1 _ rfl; have c2 : _ = some (Value.int .i64 r1) := hB.at 2 _ rfl; have c3 : _ = some (Value.int .i64 r2) := hB.at 3 _ rfl; have c4 : _ = some (Value.int .i64 imm) := hB.at 4 _ rfl; have c5 : _ = some (Value.bool true) := hB.at 5 _ rfl; have c6 : _ = some (Value.bool true) := hB.at 6 _ rfl; have c7 : _ = some (Value.int .i64 pred) := hB.at 7 _ rfl; have c8 : _ = some (Value.int .i64 succ) := hB.at 8 _ rfl) | (refine wpList_cat (by rfl) _ _ _ _ rfl _ _ rfl rfl (by simp only [List.length_append, List.length_cons, List.length_nil]; omega) ?_))
  go_ret2
  have hb2 := hbody.out
  try simp only [List.append_assoc, List.cons_append, List.nil_append] at hb2
  exact ⟨by rw [hb2]; rfl, (hB.drewN _).bl⟩
set_option maxRecDepth 100000 in
set_option maxHeartbeats 8000000 in
theorem Text_12_tf (op rd r1 r2 imm : Int) (aq rl : Bool) (pred succ : Int) (w : World) (haq : aq = true) (hrl : rl = false) (hc : checkE ⟨op, rd, r1, r2, imm, aq, rl, pred, succ⟩ = 0) (hf : (opOf op).form = 12) (him : -9223372036854775808 ≤ imm ∧ imm ≤ 9223372036854775807) :
    Calls Tryd.prog 46 #[.agg #[.int .i64 op, .int .i64 rd, .int .i64 r1, .int .i64 r2, .int .i64 imm, .bool aq, .bool rl, .int .i64 pred, .int .i64 succ]] w fun e w' => e = .returned (.tuple #[.string ⟨(bodyT ⟨op, rd, r1, r2, imm, aq, rl, pred, succ⟩).toArray⟩, .int .i64 0]) ∧ Below w.heap.size w w' := by
  obtain ⟨g1, g2, g3, g4, g5, g6, g7, g8⟩ := ok_facts ⟨op, rd, r1, r2, imm, aq, rl, pred, succ⟩ hc
  simp only at g1 g2 g3 g4 g5 g6 g7 g8
  have hX1 := fun W => X_any rd g1.1 (by omega) W
  have hX2 := fun W => X_any r1 g2.1 (by omega) W
  have hX3 := fun W => X_any r2 g3.1 (by omega) W
  have hX4 := fun W => Signed_any imm him.1 him.2 W
  have n1 := regT_len rd
  have n2 := regT_len r1
  have n3 := regT_len r2
  have n4 := signL_len imm
  have n0 := nameT_len op
  have hN0 := fun W => R2Name_any op W
  have hF0 := fun W => R2Form_any op W
  rw [← rform_eq, hf] at hF0
  have hF := Lib.hid hF0
  clear hF0
  subst haq hrl
  have hbody : bodyT ⟨op, rd, r1, r2, imm, true, false, pred, succ⟩ = headT ⟨op, rd, r1, r2, imm, true, false, pred, succ⟩ ++ [32] ++ regT rd ++ [44, 32] ++ regT r2 ++ [44, 32, 40] ++ regT r1 ++ [41] := by
    unfold bodyT
    simp only [hf]
    rfl
  have hhd : headT ⟨op, rd, r1, r2, imm, true, false, pred, succ⟩ = (opOf op).name ++ [46] ++ [97, 113] := rfl
  rw [hhd] at hbody
  obtain ⟨r, hr⟩ : ∃ r, bodyT ⟨op, rd, r1, r2, imm, true, false, pred, succ⟩ = r := ⟨_, rfl⟩
  rw [hr] at hbody ⊢
  clear hr
  clear g1 g2 g3 g4 g5 g6 g7 g8 him hf
  have hB := TB.start w (InsnV.cells ⟨op, rd, r1, r2, imm, true, false, pred, succ⟩).toList 23
  rw [Array.toArray_toList] at hB
  have hu := Tryd.underlying23
  have hi : (Tryd.prog.info? 23).map (·.size) = some (InsnV.cells ⟨op, rd, r1, r2, imm, true, false, pred, succ⟩).toList.length := by kernel_rfl
  have hK := Lib.hid (fun W => R2Check_any ⟨op, rd, r1, r2, imm, true, false, pred, succ⟩ W)
  rw [hc] at hK
  clear hc
  have c0 : _ = some (Value.int .i64 op) := hB.at 0 _ rfl
  have c1 : _ = some (Value.int .i64 rd) := hB.at 1 _ rfl
  have c2 : _ = some (Value.int .i64 r1) := hB.at 2 _ rfl
  have c3 : _ = some (Value.int .i64 r2) := hB.at 3 _ rfl
  have c4 : _ = some (Value.int .i64 imm) := hB.at 4 _ rfl
  have c5 : _ = some (Value.bool true) := hB.at 5 _ rfl
  have c6 : _ = some (Value.bool false) := hB.at 6 _ rfl
  have c7 : _ = some (Value.int .i64 pred) := hB.at 7 _ rfl
  have c8 : _ = some (Value.int .i64 succ) := hB.at 8 _ rfl
  obtain ⟨nm, hnm⟩ : ∃ l, (opOf op).name = l := ⟨_, rfl⟩
  rw [hnm] at hN0 hbody n0
  obtain ⟨l1, hl1⟩ : ∃ l, regT rd = l := ⟨_, rfl⟩
  rw [hl1] at hX1 n1
  obtain ⟨l2, hl2⟩ : ∃ l, regT r1 = l := ⟨_, rfl⟩
  rw [hl2] at hX2 n2
  obtain ⟨l3, hl3⟩ : ∃ l, regT r2 = l := ⟨_, rfl⟩
  rw [hl3] at hX3 n3
  obtain ⟨l4, hl4⟩ : ∃ l, signL imm = l := ⟨_, rfl⟩
  rw [hl4] at hX4 n4
  have hN := Lib.hid hN0
  have h1 := Lib.hid hX1
  have h2 := Lib.hid hX2
  have h3 := Lib.hid hX3
  have h4 := Lib.hid hX4
  clear hN0 hX1 hX2 hX3 hX4
  rw [hl1, hl2, hl3] at hbody
  replace hbody := Lib.hid hbody
  clear hnm hl1 hl2 hl3 hl4
  go_enter Tryd.func46, Tryd.ntmps46
  go_upto_region 10 with (first | (refine wpList_load_mid rfl 23 _ rfl w.heap.size 0 rfl (InsnV.cells ⟨op, rd, r1, r2, imm, true, false, pred, succ⟩).toList _ hB.c hu rfl hi ?_) | (go_at_call 11; refine (hK.out _).mono ?_; rintro e w1 ⟨rfl, hb1⟩; replace hB := hB.keep hb1; clear hb1 c0 c1 c2 c3 c4 c5 c6 c7 c8; have c0 : _ = some (Value.int .i64 op) := hB.at 0 _ rfl; have c1 : _ = some (Value.int .i64 rd) := hB.at 1 _ rfl; have c2 : _ = some (Value.int .i64 r1) := hB.at 2 _ rfl; have c3 : _ = some (Value.int .i64 r2) := hB.at 3 _ rfl; have c4 : _ = some (Value.int .i64 imm) := hB.at 4 _ rfl; have c5 : _ = some (Value.bool true) := hB.at 5 _ rfl; have c6 : _ = some (Value.bool false) := hB.at 6 _ rfl; have c7 : _ = some (Value.int .i64 pred) := hB.at 7 _ rfl; have c8 : _ = some (Value.int .i64 succ) := hB.at 8 _ rfl) | (go_at_call 67; refine (hN.out _).mono ?_; rintro e w1 ⟨rfl, hb1⟩; replace hB := hB.keep hb1; clear hb1 c0 c1 c2 c3 c4 c5 c6 c7 c8; have c0 : _ = some (Value.int .i64 op) := hB.at 0 _ rfl; have c1 : _ = some (Value.int .i64 rd) := hB.at 1 _ rfl; have c2 : _ = some (Value.int .i64 r1) := hB.at 2 _ rfl; have c3 : _ = some (Value.int .i64 r2) := hB.at 3 _ rfl; have c4 : _ = some (Value.int .i64 imm) := hB.at 4 _ rfl; have c5 : _ = some (Value.bool true) := hB.at 5 _ rfl; have c6 : _ = some (Value.bool false) := hB.at 6 _ rfl; have c7 : _ = some (Value.int .i64 pred) := hB.at 7 _ rfl; have c8 : _ = some (Value.int .i64 succ) := hB.at 8 _ rfl) | (refine wpList_cat (by rfl) _ _ _ _ rfl _ _ rfl rfl (by simp only [List.length_append, List.length_cons, List.length_nil]; omega) ?_))
  go_quiet ((first | (go_at_call 68; with_reducible exact quiet_same (h1.out _)) | (go_at_call 68; with_reducible exact quiet_same (h2.out _)) | (go_at_call 68; with_reducible exact quiet_same (h3.out _)) | (go_at_call 69; with_reducible exact quiet_same (h4.out _))))
  go_wp2_with (first | (go_at_call 9; refine (hF.out _).mono ?_; rintro e w1 ⟨rfl, rfl⟩) | (go_at_call 67; refine (hN.out _).mono ?_; rintro e w1 ⟨rfl, hb1⟩; replace hB := hB.keep hb1; clear hb1 c0 c1 c2 c3 c4 c5 c6 c7 c8; have c0 : _ = some (Value.int .i64 op) := hB.at 0 _ rfl; have c1 : _ = some (Value.int .i64 rd) := hB.at 1 _ rfl; have c2 : _ = some (Value.int .i64 r1) := hB.at 2 _ rfl; have c3 : _ = some (Value.int .i64 r2) := hB.at 3 _ rfl; have c4 : _ = some (Value.int .i64 imm) := hB.at 4 _ rfl; have c5 : _ = some (Value.bool true) := hB.at 5 _ rfl; have c6 : _ = some (Value.bool false) := hB.at 6 _ rfl; have c7 : _ = some (Value.int .i64 pred) := hB.at 7 _ rfl; have c8 : _ = some (Value.int .i64 succ) := hB.at 8 _ rfl) | (refine wpList_cat (by rfl) _ _ _ _ rfl _ _ rfl rfl (by simp only [List.length_append, List.length_cons, List.length_nil]; omega) ?_))
  go_ret2
  have hb2 := hbody.out
  try simp only [List.append_assoc, List.cons_append, List.nil_append] at hb2
  exact ⟨by rw [hb2]; rfl, (hB.drewN _).bl⟩
set_option maxRecDepth 100000 in
set_option maxHeartbeats 8000000 in
theorem Text_12_ft (op rd r1 r2 imm : Int) (aq rl : Bool) (pred succ : Int) (w : World) (haq : aq = false) (hrl : rl = true) (hc : checkE ⟨op, rd, r1, r2, imm, aq, rl, pred, succ⟩ = 0) (hf : (opOf op).form = 12) (him : -9223372036854775808 ≤ imm ∧ imm ≤ 9223372036854775807) :
    Calls Tryd.prog 46 #[.agg #[.int .i64 op, .int .i64 rd, .int .i64 r1, .int .i64 r2, .int .i64 imm, .bool aq, .bool rl, .int .i64 pred, .int .i64 succ]] w fun e w' => e = .returned (.tuple #[.string ⟨(bodyT ⟨op, rd, r1, r2, imm, aq, rl, pred, succ⟩).toArray⟩, .int .i64 0]) ∧ Below w.heap.size w w' := by
  obtain ⟨g1, g2, g3, g4, g5, g6, g7, g8⟩ := ok_facts ⟨op, rd, r1, r2, imm, aq, rl, pred, succ⟩ hc
  simp only at g1 g2 g3 g4 g5 g6 g7 g8
  have hX1 := fun W => X_any rd g1.1 (by omega) W
  have hX2 := fun W => X_any r1 g2.1 (by omega) W
  have hX3 := fun W => X_any r2 g3.1 (by omega) W
  have hX4 := fun W => Signed_any imm him.1 him.2 W
  have n1 := regT_len rd
  have n2 := regT_len r1
  have n3 := regT_len r2
  have n4 := signL_len imm
  have n0 := nameT_len op
  have hN0 := fun W => R2Name_any op W
  have hF0 := fun W => R2Form_any op W
  rw [← rform_eq, hf] at hF0
  have hF := Lib.hid hF0
  clear hF0
  subst haq hrl
  have hbody : bodyT ⟨op, rd, r1, r2, imm, false, true, pred, succ⟩ = headT ⟨op, rd, r1, r2, imm, false, true, pred, succ⟩ ++ [32] ++ regT rd ++ [44, 32] ++ regT r2 ++ [44, 32, 40] ++ regT r1 ++ [41] := by
    unfold bodyT
    simp only [hf]
    rfl
  have hhd : headT ⟨op, rd, r1, r2, imm, false, true, pred, succ⟩ = (opOf op).name ++ [46] ++ [114, 108] := rfl
  rw [hhd] at hbody
  obtain ⟨r, hr⟩ : ∃ r, bodyT ⟨op, rd, r1, r2, imm, false, true, pred, succ⟩ = r := ⟨_, rfl⟩
  rw [hr] at hbody ⊢
  clear hr
  clear g1 g2 g3 g4 g5 g6 g7 g8 him hf
  have hB := TB.start w (InsnV.cells ⟨op, rd, r1, r2, imm, false, true, pred, succ⟩).toList 23
  rw [Array.toArray_toList] at hB
  have hu := Tryd.underlying23
  have hi : (Tryd.prog.info? 23).map (·.size) = some (InsnV.cells ⟨op, rd, r1, r2, imm, false, true, pred, succ⟩).toList.length := by kernel_rfl
  have hK := Lib.hid (fun W => R2Check_any ⟨op, rd, r1, r2, imm, false, true, pred, succ⟩ W)
  rw [hc] at hK
  clear hc
  have c0 : _ = some (Value.int .i64 op) := hB.at 0 _ rfl
  have c1 : _ = some (Value.int .i64 rd) := hB.at 1 _ rfl
  have c2 : _ = some (Value.int .i64 r1) := hB.at 2 _ rfl
  have c3 : _ = some (Value.int .i64 r2) := hB.at 3 _ rfl
  have c4 : _ = some (Value.int .i64 imm) := hB.at 4 _ rfl
  have c5 : _ = some (Value.bool false) := hB.at 5 _ rfl
  have c6 : _ = some (Value.bool true) := hB.at 6 _ rfl
  have c7 : _ = some (Value.int .i64 pred) := hB.at 7 _ rfl
  have c8 : _ = some (Value.int .i64 succ) := hB.at 8 _ rfl
  obtain ⟨nm, hnm⟩ : ∃ l, (opOf op).name = l := ⟨_, rfl⟩
  rw [hnm] at hN0 hbody n0
  obtain ⟨l1, hl1⟩ : ∃ l, regT rd = l := ⟨_, rfl⟩
  rw [hl1] at hX1 n1
  obtain ⟨l2, hl2⟩ : ∃ l, regT r1 = l := ⟨_, rfl⟩
  rw [hl2] at hX2 n2
  obtain ⟨l3, hl3⟩ : ∃ l, regT r2 = l := ⟨_, rfl⟩
  rw [hl3] at hX3 n3
  obtain ⟨l4, hl4⟩ : ∃ l, signL imm = l := ⟨_, rfl⟩
  rw [hl4] at hX4 n4
  have hN := Lib.hid hN0
  have h1 := Lib.hid hX1
  have h2 := Lib.hid hX2
  have h3 := Lib.hid hX3
  have h4 := Lib.hid hX4
  clear hN0 hX1 hX2 hX3 hX4
  rw [hl1, hl2, hl3] at hbody
  replace hbody := Lib.hid hbody
  clear hnm hl1 hl2 hl3 hl4
  go_enter Tryd.func46, Tryd.ntmps46
  go_upto_region 10 with (first | (refine wpList_load_mid rfl 23 _ rfl w.heap.size 0 rfl (InsnV.cells ⟨op, rd, r1, r2, imm, false, true, pred, succ⟩).toList _ hB.c hu rfl hi ?_) | (go_at_call 11; refine (hK.out _).mono ?_; rintro e w1 ⟨rfl, hb1⟩; replace hB := hB.keep hb1; clear hb1 c0 c1 c2 c3 c4 c5 c6 c7 c8; have c0 : _ = some (Value.int .i64 op) := hB.at 0 _ rfl; have c1 : _ = some (Value.int .i64 rd) := hB.at 1 _ rfl; have c2 : _ = some (Value.int .i64 r1) := hB.at 2 _ rfl; have c3 : _ = some (Value.int .i64 r2) := hB.at 3 _ rfl; have c4 : _ = some (Value.int .i64 imm) := hB.at 4 _ rfl; have c5 : _ = some (Value.bool false) := hB.at 5 _ rfl; have c6 : _ = some (Value.bool true) := hB.at 6 _ rfl; have c7 : _ = some (Value.int .i64 pred) := hB.at 7 _ rfl; have c8 : _ = some (Value.int .i64 succ) := hB.at 8 _ rfl) | (go_at_call 67; refine (hN.out _).mono ?_; rintro e w1 ⟨rfl, hb1⟩; replace hB := hB.keep hb1; clear hb1 c0 c1 c2 c3 c4 c5 c6 c7 c8; have c0 : _ = some (Value.int .i64 op) := hB.at 0 _ rfl; have c1 : _ = some (Value.int .i64 rd) := hB.at 1 _ rfl; have c2 : _ = some (Value.int .i64 r1) := hB.at 2 _ rfl; have c3 : _ = some (Value.int .i64 r2) := hB.at 3 _ rfl; have c4 : _ = some (Value.int .i64 imm) := hB.at 4 _ rfl; have c5 : _ = some (Value.bool false) := hB.at 5 _ rfl; have c6 : _ = some (Value.bool true) := hB.at 6 _ rfl; have c7 : _ = some (Value.int .i64 pred) := hB.at 7 _ rfl; have c8 : _ = some (Value.int .i64 succ) := hB.at 8 _ rfl) | (refine wpList_cat (by rfl) _ _ _ _ rfl _ _ rfl rfl (by simp only [List.length_append, List.length_cons, List.length_nil]; omega) ?_))
  go_quiet ((first | (go_at_call 68; with_reducible exact quiet_same (h1.out _)) | (go_at_call 68; with_reducible exact quiet_same (h2.out _)) | (go_at_call 68; with_reducible exact quiet_same (h3.out _)) | (go_at_call 69; with_reducible exact quiet_same (h4.out _))))
  go_wp2_with (first | (go_at_call 9; refine (hF.out _).mono ?_; rintro e w1 ⟨rfl, rfl⟩) | (go_at_call 67; refine (hN.out _).mono ?_; rintro e w1 ⟨rfl, hb1⟩; replace hB := hB.keep hb1; clear hb1 c0 c1 c2 c3 c4 c5 c6 c7 c8; have c0 : _ = some (Value.int .i64 op) := hB.at 0 _ rfl; have c1 : _ = some (Value.int .i64 rd) := hB.at 1 _ rfl; have c2 : _ = some (Value.int .i64 r1) := hB.at 2 _ rfl; have c3 : _ = some (Value.int .i64 r2) := hB.at 3 _ rfl; have c4 : _ = some (Value.int .i64 imm) := hB.at 4 _ rfl; have c5 : _ = some (Value.bool false) := hB.at 5 _ rfl; have c6 : _ = some (Value.bool true) := hB.at 6 _ rfl; have c7 : _ = some (Value.int .i64 pred) := hB.at 7 _ rfl; have c8 : _ = some (Value.int .i64 succ) := hB.at 8 _ rfl) | (refine wpList_cat (by rfl) _ _ _ _ rfl _ _ rfl rfl (by simp only [List.length_append, List.length_cons, List.length_nil]; omega) ?_))
  go_ret2
  have hb2 := hbody.out
  try simp only [List.append_assoc, List.cons_append, List.nil_append] at hb2
  exact ⟨by rw [hb2]; rfl, (hB.drewN _).bl⟩
set_option maxRecDepth 100000 in
set_option maxHeartbeats 8000000 in
theorem Text_12_ff (op rd r1 r2 imm : Int) (aq rl : Bool) (pred succ : Int) (w : World) (haq : aq = false) (hrl : rl = false) (hc : checkE ⟨op, rd, r1, r2, imm, aq, rl, pred, succ⟩ = 0) (hf : (opOf op).form = 12) (him : -9223372036854775808 ≤ imm ∧ imm ≤ 9223372036854775807) :
    Calls Tryd.prog 46 #[.agg #[.int .i64 op, .int .i64 rd, .int .i64 r1, .int .i64 r2, .int .i64 imm, .bool aq, .bool rl, .int .i64 pred, .int .i64 succ]] w fun e w' => e = .returned (.tuple #[.string ⟨(bodyT ⟨op, rd, r1, r2, imm, aq, rl, pred, succ⟩).toArray⟩, .int .i64 0]) ∧ Below w.heap.size w w' := by
  obtain ⟨g1, g2, g3, g4, g5, g6, g7, g8⟩ := ok_facts ⟨op, rd, r1, r2, imm, aq, rl, pred, succ⟩ hc
  simp only at g1 g2 g3 g4 g5 g6 g7 g8
  have hX1 := fun W => X_any rd g1.1 (by omega) W
  have hX2 := fun W => X_any r1 g2.1 (by omega) W
  have hX3 := fun W => X_any r2 g3.1 (by omega) W
  have hX4 := fun W => Signed_any imm him.1 him.2 W
  have n1 := regT_len rd
  have n2 := regT_len r1
  have n3 := regT_len r2
  have n4 := signL_len imm
  have n0 := nameT_len op
  have hN0 := fun W => R2Name_any op W
  have hF0 := fun W => R2Form_any op W
  rw [← rform_eq, hf] at hF0
  have hF := Lib.hid hF0
  clear hF0
  subst haq hrl
  have hbody : bodyT ⟨op, rd, r1, r2, imm, false, false, pred, succ⟩ = headT ⟨op, rd, r1, r2, imm, false, false, pred, succ⟩ ++ [32] ++ regT rd ++ [44, 32] ++ regT r2 ++ [44, 32, 40] ++ regT r1 ++ [41] := by
    unfold bodyT
    simp only [hf]
    rfl
  have hhd : headT ⟨op, rd, r1, r2, imm, false, false, pred, succ⟩ = (opOf op).name := rfl
  rw [hhd] at hbody
  obtain ⟨r, hr⟩ : ∃ r, bodyT ⟨op, rd, r1, r2, imm, false, false, pred, succ⟩ = r := ⟨_, rfl⟩
  rw [hr] at hbody ⊢
  clear hr
  clear g1 g2 g3 g4 g5 g6 g7 g8 him hf
  have hB := TB.start w (InsnV.cells ⟨op, rd, r1, r2, imm, false, false, pred, succ⟩).toList 23
  rw [Array.toArray_toList] at hB
  have hu := Tryd.underlying23
  have hi : (Tryd.prog.info? 23).map (·.size) = some (InsnV.cells ⟨op, rd, r1, r2, imm, false, false, pred, succ⟩).toList.length := by kernel_rfl
  have hK := Lib.hid (fun W => R2Check_any ⟨op, rd, r1, r2, imm, false, false, pred, succ⟩ W)
  rw [hc] at hK
  clear hc
  have c0 : _ = some (Value.int .i64 op) := hB.at 0 _ rfl
  have c1 : _ = some (Value.int .i64 rd) := hB.at 1 _ rfl
  have c2 : _ = some (Value.int .i64 r1) := hB.at 2 _ rfl
  have c3 : _ = some (Value.int .i64 r2) := hB.at 3 _ rfl
  have c4 : _ = some (Value.int .i64 imm) := hB.at 4 _ rfl
  have c5 : _ = some (Value.bool false) := hB.at 5 _ rfl
  have c6 : _ = some (Value.bool false) := hB.at 6 _ rfl
  have c7 : _ = some (Value.int .i64 pred) := hB.at 7 _ rfl
  have c8 : _ = some (Value.int .i64 succ) := hB.at 8 _ rfl
  obtain ⟨nm, hnm⟩ : ∃ l, (opOf op).name = l := ⟨_, rfl⟩
  rw [hnm] at hN0 hbody n0
  obtain ⟨l1, hl1⟩ : ∃ l, regT rd = l := ⟨_, rfl⟩
  rw [hl1] at hX1 n1
  obtain ⟨l2, hl2⟩ : ∃ l, regT r1 = l := ⟨_, rfl⟩
  rw [hl2] at hX2 n2
  obtain ⟨l3, hl3⟩ : ∃ l, regT r2 = l := ⟨_, rfl⟩
  rw [hl3] at hX3 n3
  obtain ⟨l4, hl4⟩ : ∃ l, signL imm = l := ⟨_, rfl⟩
  rw [hl4] at hX4 n4
  have hN := Lib.hid hN0
  have h1 := Lib.hid hX1
  have h2 := Lib.hid hX2
  have h3 := Lib.hid hX3
  have h4 := Lib.hid hX4
  clear hN0 hX1 hX2 hX3 hX4
  rw [hl1, hl2, hl3] at hbody
  replace hbody := Lib.hid hbody
  clear hnm hl1 hl2 hl3 hl4
  go_enter Tryd.func46, Tryd.ntmps46
  go_upto_region 10 with (first | (refine wpList_load_mid rfl 23 _ rfl w.heap.size 0 rfl (InsnV.cells ⟨op, rd, r1, r2, imm, false, false, pred, succ⟩).toList _ hB.c hu rfl hi ?_) | (go_at_call 11; refine (hK.out _).mono ?_; rintro e w1 ⟨rfl, hb1⟩; replace hB := hB.keep hb1; clear hb1 c0 c1 c2 c3 c4 c5 c6 c7 c8; have c0 : _ = some (Value.int .i64 op) := hB.at 0 _ rfl; have c1 : _ = some (Value.int .i64 rd) := hB.at 1 _ rfl; have c2 : _ = some (Value.int .i64 r1) := hB.at 2 _ rfl; have c3 : _ = some (Value.int .i64 r2) := hB.at 3 _ rfl; have c4 : _ = some (Value.int .i64 imm) := hB.at 4 _ rfl; have c5 : _ = some (Value.bool false) := hB.at 5 _ rfl; have c6 : _ = some (Value.bool false) := hB.at 6 _ rfl; have c7 : _ = some (Value.int .i64 pred) := hB.at 7 _ rfl; have c8 : _ = some (Value.int .i64 succ) := hB.at 8 _ rfl) | (go_at_call 67; refine (hN.out _).mono ?_; rintro e w1 ⟨rfl, hb1⟩; replace hB := hB.keep hb1; clear hb1 c0 c1 c2 c3 c4 c5 c6 c7 c8; have c0 : _ = some (Value.int .i64 op) := hB.at 0 _ rfl; have c1 : _ = some (Value.int .i64 rd) := hB.at 1 _ rfl; have c2 : _ = some (Value.int .i64 r1) := hB.at 2 _ rfl; have c3 : _ = some (Value.int .i64 r2) := hB.at 3 _ rfl; have c4 : _ = some (Value.int .i64 imm) := hB.at 4 _ rfl; have c5 : _ = some (Value.bool false) := hB.at 5 _ rfl; have c6 : _ = some (Value.bool false) := hB.at 6 _ rfl; have c7 : _ = some (Value.int .i64 pred) := hB.at 7 _ rfl; have c8 : _ = some (Value.int .i64 succ) := hB.at 8 _ rfl) | (refine wpList_cat (by rfl) _ _ _ _ rfl _ _ rfl rfl (by simp only [List.length_append, List.length_cons, List.length_nil]; omega) ?_))
  go_quiet ((first | (go_at_call 68; with_reducible exact quiet_same (h1.out _)) | (go_at_call 68; with_reducible exact quiet_same (h2.out _)) | (go_at_call 68; with_reducible exact quiet_same (h3.out _)) | (go_at_call 69; with_reducible exact quiet_same (h4.out _))))
  go_wp2_with (first | (go_at_call 9; refine (hF.out _).mono ?_; rintro e w1 ⟨rfl, rfl⟩) | (go_at_call 67; refine (hN.out _).mono ?_; rintro e w1 ⟨rfl, hb1⟩; replace hB := hB.keep hb1; clear hb1 c0 c1 c2 c3 c4 c5 c6 c7 c8; have c0 : _ = some (Value.int .i64 op) := hB.at 0 _ rfl; have c1 : _ = some (Value.int .i64 rd) := hB.at 1 _ rfl; have c2 : _ = some (Value.int .i64 r1) := hB.at 2 _ rfl; have c3 : _ = some (Value.int .i64 r2) := hB.at 3 _ rfl; have c4 : _ = some (Value.int .i64 imm) := hB.at 4 _ rfl; have c5 : _ = some (Value.bool false) := hB.at 5 _ rfl; have c6 : _ = some (Value.bool false) := hB.at 6 _ rfl; have c7 : _ = some (Value.int .i64 pred) := hB.at 7 _ rfl; have c8 : _ = some (Value.int .i64 succ) := hB.at 8 _ rfl) | (refine wpList_cat (by rfl) _ _ _ _ rfl _ _ rfl rfl (by simp only [List.length_append, List.length_cons, List.length_nil]; omega) ?_))
  go_ret2
  have hb2 := hbody.out
  try simp only [List.append_assoc, List.cons_append, List.nil_append] at hb2
  exact ⟨by rw [hb2]; rfl, (hB.drewN _).bl⟩
end Go.Proofs.YtbdhjckpoabmlaaDoor
