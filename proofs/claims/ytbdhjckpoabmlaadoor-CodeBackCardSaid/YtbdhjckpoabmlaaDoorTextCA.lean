/- The walk of the document's Text, form by form. The walk of the document's Text, form by form. Conditions: as each theorem says. -/
import Derived.Test.YtbdhjckpoabmlaaDoorTextC
set_option linter.unusedSimpArgs false
namespace Go.Proofs.YtbdhjckpoabmlaaDoor
open Go.RowKit
set_option maxRecDepth 100000 in
set_option maxHeartbeats 8000000 in
theorem Text_1 (op rd r1 r2 imm : Int) (aq rl : Bool) (pred succ : Int) (w : World) (hc : checkE ⟨op, rd, r1, r2, imm, aq, rl, pred, succ⟩ = 0) (hf : (opOf op).form = 1) (him : -9223372036854775808 ≤ imm ∧ imm ≤ 9223372036854775807) :
    Calls Tryd.prog 46 #[.agg #[.int .i64 op, .int .i64 rd, .int .i64 r1, .int .i64 r2, .int .i64 imm, .bool aq, .bool rl, .int .i64 pred, .int .i64 succ]] w fun e w' => e = .returned (.tuple #[.string ⟨(bodyT ⟨op, rd, r1, r2, imm, aq, rl, pred, succ⟩).toArray⟩, .int .i64 0]) ∧ Below w.heap.size w w' := by
  obtain ⟨g1, g2, g3, g4, g5, g6, g7, g8⟩ := ok_facts ⟨op, rd, r1, r2, imm, aq, rl, pred, succ⟩ hc
  simp only at g1 g2 g3 g4 g5 g6 g7 g8
  have hX1 := fun W => X_any rd g1.1 (by omega) W
  have hX2 := fun W => X_any r1 g2.1 (by omega) W
  have hX3 := fun W => X_any r2 g3.1 (by omega) W
  have hX4 := fun W => Signed_any imm him.1 him.2 W
  have n1 := regT_len rd
  have n2 := regT_len r1
  have n3 := regT_len r2
  have n4 := signL_len imm
  have n0 := nameT_len op
  have hN0 := fun W => R2Name_any op W
  have hF0 := fun W => R2Form_any op W
  rw [← rform_eq, hf] at hF0
  have hF := Lib.hid hF0
  clear hF0
  obtain ⟨rfl, rfl⟩ : aq = false ∧ rl = false := by
    rw [hf] at g6
    rcases g6 with g6 | g6 | g6
    · exact absurd g6 (by decide)
    · exact absurd g6 (by decide)
    · exact g6
  have hbody : bodyT ⟨op, rd, r1, r2, imm, false, false, pred, succ⟩ = headT ⟨op, rd, r1, r2, imm, false, false, pred, succ⟩ ++ [32] ++ regT rd ++ [44, 32] ++ signL imm := by
    unfold bodyT
    simp only [hf]
    rfl
  have hhd : headT ⟨op, rd, r1, r2, imm, false, false, pred, succ⟩ = (opOf op).name := rfl
  rw [hhd] at hbody
  obtain ⟨r, hr⟩ : ∃ r, bodyT ⟨op, rd, r1, r2, imm, false, false, pred, succ⟩ = r := ⟨_, rfl⟩
  rw [hr] at hbody ⊢
  clear hr
  clear g1 g2 g3 g4 g5 g6 g7 g8 him hf
  have hB := TB.start w (InsnV.cells ⟨op, rd, r1, r2, imm, false, false, pred, succ⟩).toList 23
  rw [Array.toArray_toList] at hB
  have hu := Tryd.underlying23
  have hi : (Tryd.prog.info? 23).map (·.size) = some (InsnV.cells ⟨op, rd, r1, r2, imm, false, false, pred, succ⟩).toList.length := by kernel_rfl
  have hK := Lib.hid (fun W => R2Check_any ⟨op, rd, r1, r2, imm, false, false, pred, succ⟩ W)
  rw [hc] at hK
  clear hc
  have c0 : _ = some (Value.int .i64 op) := hB.at 0 _ rfl
  have c1 : _ = some (Value.int .i64 rd) := hB.at 1 _ rfl
  have c2 : _ = some (Value.int .i64 r1) := hB.at 2 _ rfl
  have c3 : _ = some (Value.int .i64 r2) := hB.at 3 _ rfl
  have c4 : _ = some (Value.int .i64 imm) := hB.at 4 _ rfl
  have c5 : _ = some (Value.bool false) := hB.at 5 _ rfl
  have c6 : _ = some (Value.bool false) := hB.at 6 _ rfl
  have c7 : _ = some (Value.int .i64 pred) := hB.at 7 _ rfl
  have c8 : _ = some (Value.int .i64 succ) := hB.at 8 _ rfl
  obtain ⟨nm, hnm⟩ : ∃ l, (opOf op).name = l := ⟨_, rfl⟩
  rw [hnm] at hN0 hbody n0
  obtain ⟨l1, hl1⟩ : ∃ l, regT rd = l := ⟨_, rfl⟩
  rw [hl1] at hX1 n1
  obtain ⟨l2, hl2⟩ : ∃ l, regT r1 = l := ⟨_, rfl⟩
  rw [hl2] at hX2 n2
  obtain ⟨l3, hl3⟩ : ∃ l, regT r2 = l := ⟨_, rfl⟩
  rw [hl3] at hX3 n3
  obtain ⟨l4, hl4⟩ : ∃ l, signL imm = l := ⟨_, rfl⟩
  rw [hl4] at hX4 n4
  have hN := Lib.hid hN0
  have h1 := Lib.hid hX1
  have h2 := Lib.hid hX2
  have h3 := Lib.hid hX3
  have h4 := Lib.hid hX4
  clear hN0 hX1 hX2 hX3 hX4
  rw [hl1, hl4] at hbody
  replace hbody := Lib.hid hbody
  clear hnm hl1 hl2 hl3 hl4
  go_enter Tryd.func46, Tryd.ntmps46
  go_upto_region 10 with (first | (refine wpList_load_mid rfl 23 _ rfl w.heap.size 0 rfl (InsnV.cells ⟨op, rd, r1, r2, imm, false, false, pred, succ⟩).toList _ hB.c hu rfl hi ?_) | (go_at_call 11; refine (hK.out _).mono ?_; rintro e w1 ⟨rfl, hb1⟩; replace hB := hB.keep hb1; clear hb1 c0 c1 c2 c3 c4 c5 c6 c7 c8; have c0 : _ = some (Value.int .i64 op) := hB.at 0 _ rfl; have c1 : _ = some (Value.int .i64 rd) := hB.at 1 _ rfl; have c2 : _ = some (Value.int .i64 r1) := hB.at 2 _ rfl; have c3 : _ = some (Value.int .i64 r2) := hB.at 3 _ rfl; have c4 : _ = some (Value.int .i64 imm) := hB.at 4 _ rfl; have c5 : _ = some (Value.bool false) := hB.at 5 _ rfl; have c6 : _ = some (Value.bool false) := hB.at 6 _ rfl; have c7 : _ = some (Value.int .i64 pred) := hB.at 7 _ rfl; have c8 : _ = some (Value.int .i64 succ) := hB.at 8 _ rfl) | (go_at_call 67; refine (hN.out _).mono ?_; rintro e w1 ⟨rfl, hb1⟩; replace hB := hB.keep hb1; clear hb1 c0 c1 c2 c3 c4 c5 c6 c7 c8; have c0 : _ = some (Value.int .i64 op) := hB.at 0 _ rfl; have c1 : _ = some (Value.int .i64 rd) := hB.at 1 _ rfl; have c2 : _ = some (Value.int .i64 r1) := hB.at 2 _ rfl; have c3 : _ = some (Value.int .i64 r2) := hB.at 3 _ rfl; have c4 : _ = some (Value.int .i64 imm) := hB.at 4 _ rfl; have c5 : _ = some (Value.bool false) := hB.at 5 _ rfl; have c6 : _ = some (Value.bool false) := hB.at 6 _ rfl; have c7 : _ = some (Value.int .i64 pred) := hB.at 7 _ rfl; have c8 : _ = some (Value.int .i64 succ) := hB.at 8 _ rfl) | (refine wpList_cat (by rfl) _ _ _ _ rfl _ _ rfl rfl (by simp only [List.length_append, List.length_cons, List.length_nil]; omega) ?_))
  go_quiet ((first | (go_at_call 68; with_reducible exact quiet_same (h1.out _)) | (go_at_call 68; with_reducible exact quiet_same (h2.out _)) | (go_at_call 68; with_reducible exact quiet_same (h3.out _)) | (go_at_call 69; with_reducible exact quiet_same (h4.out _))))
  go_wp2_with (first | (go_at_call 9; refine (hF.out _).mono ?_; rintro e w1 ⟨rfl, rfl⟩) | (go_at_call 67; refine (hN.out _).mono ?_; rintro e w1 ⟨rfl, hb1⟩; replace hB := hB.keep hb1; clear hb1 c0 c1 c2 c3 c4 c5 c6 c7 c8; have c0 : _ = some (Value.int .i64 op) := hB.at 0 _ rfl; have c1 : _ = some (Value.int .i64 rd) := hB.at 1 _ rfl; have c2 : _ = some (Value.int .i64 r1) := hB.at 2 _ rfl; have c3 : _ = some (Value.int .i64 r2) := hB.at 3 _ rfl; have c4 : _ = some (Value.int .i64 imm) := hB.at 4 _ rfl; have c5 : _ = some (Value.bool false) := hB.at 5 _ rfl; have c6 : _ = some (Value.bool false) := hB.at 6 _ rfl; have c7 : _ = some (Value.int .i64 pred) := hB.at 7 _ rfl; have c8 : _ = some (Value.int .i64 succ) := hB.at 8 _ rfl) | (refine wpList_cat (by rfl) _ _ _ _ rfl _ _ rfl rfl (by simp only [List.length_append, List.length_cons, List.length_nil]; omega) ?_))
  go_ret2
  have hb2 := hbody.out
  try simp only [List.append_assoc, List.cons_append, List.nil_append] at hb2
  exact ⟨by rw [hb2]; rfl, (hB.drewN _).bl⟩
set_option maxRecDepth 100000 in
set_option maxHeartbeats 8000000 in
theorem Text_2 (op rd r1 r2 imm : Int) (aq rl : Bool) (pred succ : Int) (w : World) (hc : checkE ⟨op, rd, r1, r2, imm, aq, rl, pred, succ⟩ = 0) (hf : (opOf op).form = 2) (him : -9223372036854775808 ≤ imm ∧ imm ≤ 9223372036854775807) :
    Calls Tryd.prog 46 #[.agg #[.int .i64 op, .int .i64 rd, .int .i64 r1, .int .i64 r2, .int .i64 imm, .bool aq, .bool rl, .int .i64 pred, .int .i64 succ]] w fun e w' => e = .returned (.tuple #[.string ⟨(bodyT ⟨op, rd, r1, r2, imm, aq, rl, pred, succ⟩).toArray⟩, .int .i64 0]) ∧ Below w.heap.size w w' := by
  obtain ⟨g1, g2, g3, g4, g5, g6, g7, g8⟩ := ok_facts ⟨op, rd, r1, r2, imm, aq, rl, pred, succ⟩ hc
  simp only at g1 g2 g3 g4 g5 g6 g7 g8
  have hX1 := fun W => X_any rd g1.1 (by omega) W
  have hX2 := fun W => X_any r1 g2.1 (by omega) W
  have hX3 := fun W => X_any r2 g3.1 (by omega) W
  have hX4 := fun W => Signed_any imm him.1 him.2 W
  have n1 := regT_len rd
  have n2 := regT_len r1
  have n3 := regT_len r2
  have n4 := signL_len imm
  have n0 := nameT_len op
  have hN0 := fun W => R2Name_any op W
  have hF0 := fun W => R2Form_any op W
  rw [← rform_eq, hf] at hF0
  have hF := Lib.hid hF0
  clear hF0
  obtain ⟨rfl, rfl⟩ : aq = false ∧ rl = false := by
    rw [hf] at g6
    rcases g6 with g6 | g6 | g6
    · exact absurd g6 (by decide)
    · exact absurd g6 (by decide)
    · exact g6
  have hbody : bodyT ⟨op, rd, r1, r2, imm, false, false, pred, succ⟩ = headT ⟨op, rd, r1, r2, imm, false, false, pred, succ⟩ ++ [32] ++ regT rd ++ [44, 32] ++ signL imm := by
    unfold bodyT
    simp only [hf]
    rfl
  have hhd : headT ⟨op, rd, r1, r2, imm, false, false, pred, succ⟩ = (opOf op).name := rfl
  rw [hhd] at hbody
  obtain ⟨r, hr⟩ : ∃ r, bodyT ⟨op, rd, r1, r2, imm, false, false, pred, succ⟩ = r := ⟨_, rfl⟩
  rw [hr] at hbody ⊢
  clear hr
  clear g1 g2 g3 g4 g5 g6 g7 g8 him hf
  have hB := TB.start w (InsnV.cells ⟨op, rd, r1, r2, imm, false, false, pred, succ⟩).toList 23
  rw [Array.toArray_toList] at hB
  have hu := Tryd.underlying23
  have hi : (Tryd.prog.info? 23).map (·.size) = some (InsnV.cells ⟨op, rd, r1, r2, imm, false, false, pred, succ⟩).toList.length := by kernel_rfl
  have hK := Lib.hid (fun W => R2Check_any ⟨op, rd, r1, r2, imm, false, false, pred, succ⟩ W)
  rw [hc] at hK
  clear hc
  have c0 : _ = some (Value.int .i64 op) := hB.at 0 _ rfl
  have c1 : _ = some (Value.int .i64 rd) := hB.at 1 _ rfl
  have c2 : _ = some (Value.int .i64 r1) := hB.at 2 _ rfl
  have c3 : _ = some (Value.int .i64 r2) := hB.at 3 _ rfl
  have c4 : _ = some (Value.int .i64 imm) := hB.at 4 _ rfl
  have c5 : _ = some (Value.bool false) := hB.at 5 _ rfl
  have c6 : _ = some (Value.bool false) := hB.at 6 _ rfl
  have c7 : _ = some (Value.int .i64 pred) := hB.at 7 _ rfl
  have c8 : _ = some (Value.int .i64 succ) := hB.at 8 _ rfl
  obtain ⟨nm, hnm⟩ : ∃ l, (opOf op).name = l := ⟨_, rfl⟩
  rw [hnm] at hN0 hbody n0
  obtain ⟨l1, hl1⟩ : ∃ l, regT rd = l := ⟨_, rfl⟩
  rw [hl1] at hX1 n1
  obtain ⟨l2, hl2⟩ : ∃ l, regT r1 = l := ⟨_, rfl⟩
  rw [hl2] at hX2 n2
  obtain ⟨l3, hl3⟩ : ∃ l, regT r2 = l := ⟨_, rfl⟩
  rw [hl3] at hX3 n3
  obtain ⟨l4, hl4⟩ : ∃ l, signL imm = l := ⟨_, rfl⟩
  rw [hl4] at hX4 n4
  have hN := Lib.hid hN0
  have h1 := Lib.hid hX1
  have h2 := Lib.hid hX2
  have h3 := Lib.hid hX3
  have h4 := Lib.hid hX4
  clear hN0 hX1 hX2 hX3 hX4
  rw [hl1, hl4] at hbody
  replace hbody := Lib.hid hbody
  clear hnm hl1 hl2 hl3 hl4
  go_enter Tryd.func46, Tryd.ntmps46
  go_upto_region 10 with (first | (refine wpList_load_mid rfl 23 _ rfl w.heap.size 0 rfl (InsnV.cells ⟨op, rd, r1, r2, imm, false, false, pred, succ⟩).toList _ hB.c hu rfl hi ?_) | (go_at_call 11; refine (hK.out _).mono ?_; rintro e w1 ⟨rfl, hb1⟩; replace hB := hB.keep hb1; clear hb1 c0 c1 c2 c3 c4 c5 c6 c7 c8; have c0 : _ = some (Value.int .i64 op) := hB.at 0 _ rfl; have c1 : _ = some (Value.int .i64 rd) := hB.at 1 _ rfl; have c2 : _ = some (Value.int .i64 r1) := hB.at 2 _ rfl; have c3 : _ = some (Value.int .i64 r2) := hB.at 3 _ rfl; have c4 : _ = some (Value.int .i64 imm) := hB.at 4 _ rfl; have c5 : _ = some (Value.bool false) := hB.at 5 _ rfl; have c6 : _ = some (Value.bool false) := hB.at 6 _ rfl; have c7 : _ = some (Value.int .i64 pred) := hB.at 7 _ rfl; have c8 : _ = some (Value.int .i64 succ) := hB.at 8 _ rfl) | (go_at_call 67; refine (hN.out _).mono ?_; rintro e w1 ⟨rfl, hb1⟩; replace hB := hB.keep hb1; clear hb1 c0 c1 c2 c3 c4 c5 c6 c7 c8; have c0 : _ = some (Value.int .i64 op) := hB.at 0 _ rfl; have c1 : _ = some (Value.int .i64 rd) := hB.at 1 _ rfl; have c2 : _ = some (Value.int .i64 r1) := hB.at 2 _ rfl; have c3 : _ = some (Value.int .i64 r2) := hB.at 3 _ rfl; have c4 : _ = some (Value.int .i64 imm) := hB.at 4 _ rfl; have c5 : _ = some (Value.bool false) := hB.at 5 _ rfl; have c6 : _ = some (Value.bool false) := hB.at 6 _ rfl; have c7 : _ = some (Value.int .i64 pred) := hB.at 7 _ rfl; have c8 : _ = some (Value.int .i64 succ) := hB.at 8 _ rfl) | (refine wpList_cat (by rfl) _ _ _ _ rfl _ _ rfl rfl (by simp only [List.length_append, List.length_cons, List.length_nil]; omega) ?_))
  go_quiet ((first | (go_at_call 68; with_reducible exact quiet_same (h1.out _)) | (go_at_call 68; with_reducible exact quiet_same (h2.out _)) | (go_at_call 68; with_reducible exact quiet_same (h3.out _)) | (go_at_call 69; with_reducible exact quiet_same (h4.out _))))
  go_wp2_with (first | (go_at_call 9; refine (hF.out _).mono ?_; rintro e w1 ⟨rfl, rfl⟩) | (go_at_call 67; refine (hN.out _).mono ?_; rintro e w1 ⟨rfl, hb1⟩; replace hB := hB.keep hb1; clear hb1 c0 c1 c2 c3 c4 c5 c6 c7 c8; have c0 : _ = some (Value.int .i64 op) := hB.at 0 _ rfl; have c1 : _ = some (Value.int .i64 rd) := hB.at 1 _ rfl; have c2 : _ = some (Value.int .i64 r1) := hB.at 2 _ rfl; have c3 : _ = some (Value.int .i64 r2) := hB.at 3 _ rfl; have c4 : _ = some (Value.int .i64 imm) := hB.at 4 _ rfl; have c5 : _ = some (Value.bool false) := hB.at 5 _ rfl; have c6 : _ = some (Value.bool false) := hB.at 6 _ rfl; have c7 : _ = some (Value.int .i64 pred) := hB.at 7 _ rfl; have c8 : _ = some (Value.int .i64 succ) := hB.at 8 _ rfl) | (refine wpList_cat (by rfl) _ _ _ _ rfl _ _ rfl rfl (by simp only [List.length_append, List.length_cons, List.length_nil]; omega) ?_))
  go_ret2
  have hb2 := hbody.out
  try simp only [List.append_assoc, List.cons_append, List.nil_append] at hb2
  exact ⟨by rw [hb2]; rfl, (hB.drewN _).bl⟩
set_option maxRecDepth 100000 in
set_option maxHeartbeats 8000000 in
theorem Text_3j (op rd r1 r2 imm : Int) (aq rl : Bool) (pred succ : Int) (w : World) (hc : checkE ⟨op, rd, r1, r2, imm, aq, rl, pred, succ⟩ = 0) (hf : (opOf op).form = 3) (him : -9223372036854775808 ≤ imm ∧ imm ≤ 9223372036854775807) (hj : op = 4) :
    Calls Tryd.prog 46 #[.agg #[.int .i64 op, .int .i64 rd, .int .i64 r1, .int .i64 r2, .int .i64 imm, .bool aq, .bool rl, .int .i64 pred, .int .i64 succ]] w fun e w' => e = .returned (.tuple #[.string ⟨(bodyT ⟨op, rd, r1, r2, imm, aq, rl, pred, succ⟩).toArray⟩, .int .i64 0]) ∧ Below w.heap.size w w' := by
  obtain ⟨g1, g2, g3, g4, g5, g6, g7, g8⟩ := ok_facts ⟨op, rd, r1, r2, imm, aq, rl, pred, succ⟩ hc
  simp only at g1 g2 g3 g4 g5 g6 g7 g8
  have hX1 := fun W => X_any rd g1.1 (by omega) W
  have hX2 := fun W => X_any r1 g2.1 (by omega) W
  have hX3 := fun W => X_any r2 g3.1 (by omega) W
  have hX4 := fun W => Signed_any imm him.1 him.2 W
  have n1 := regT_len rd
  have n2 := regT_len r1
  have n3 := regT_len r2
  have n4 := signL_len imm
  have n0 := nameT_len op
  have hN0 := fun W => R2Name_any op W
  have hF0 := fun W => R2Form_any op W
  rw [← rform_eq, hf] at hF0
  have hF := Lib.hid hF0
  clear hF0
  obtain ⟨rfl, rfl⟩ : aq = false ∧ rl = false := by
    rw [hf] at g6
    rcases g6 with g6 | g6 | g6
    · exact absurd g6 (by decide)
    · exact absurd g6 (by decide)
    · exact g6
  have hbody : bodyT ⟨op, rd, r1, r2, imm, false, false, pred, succ⟩ = (opOf op).name ++ [32] ++ regT rd ++ [44, 32] ++ signL imm ++ [40] ++ regT r1 ++ [41] := by
    unfold bodyT
    simp only [hf]; simp only [hj]
    rfl
  obtain ⟨r, hr⟩ : ∃ r, bodyT ⟨op, rd, r1, r2, imm, false, false, pred, succ⟩ = r := ⟨_, rfl⟩
  rw [hr] at hbody ⊢
  clear hr
  clear g1 g2 g3 g4 g5 g6 g7 g8 him hf
  have hB := TB.start w (InsnV.cells ⟨op, rd, r1, r2, imm, false, false, pred, succ⟩).toList 23
  rw [Array.toArray_toList] at hB
  have hu := Tryd.underlying23
  have hi : (Tryd.prog.info? 23).map (·.size) = some (InsnV.cells ⟨op, rd, r1, r2, imm, false, false, pred, succ⟩).toList.length := by kernel_rfl
  have hK := Lib.hid (fun W => R2Check_any ⟨op, rd, r1, r2, imm, false, false, pred, succ⟩ W)
  rw [hc] at hK
  clear hc
  have c0 : _ = some (Value.int .i64 op) := hB.at 0 _ rfl
  have c1 : _ = some (Value.int .i64 rd) := hB.at 1 _ rfl
  have c2 : _ = some (Value.int .i64 r1) := hB.at 2 _ rfl
  have c3 : _ = some (Value.int .i64 r2) := hB.at 3 _ rfl
  have c4 : _ = some (Value.int .i64 imm) := hB.at 4 _ rfl
  have c5 : _ = some (Value.bool false) := hB.at 5 _ rfl
  have c6 : _ = some (Value.bool false) := hB.at 6 _ rfl
  have c7 : _ = some (Value.int .i64 pred) := hB.at 7 _ rfl
  have c8 : _ = some (Value.int .i64 succ) := hB.at 8 _ rfl
  obtain ⟨nm, hnm⟩ : ∃ l, (opOf op).name = l := ⟨_, rfl⟩
  rw [hnm] at hN0 hbody n0
  obtain ⟨l1, hl1⟩ : ∃ l, regT rd = l := ⟨_, rfl⟩
  rw [hl1] at hX1 n1
  obtain ⟨l2, hl2⟩ : ∃ l, regT r1 = l := ⟨_, rfl⟩
  rw [hl2] at hX2 n2
  obtain ⟨l3, hl3⟩ : ∃ l, regT r2 = l := ⟨_, rfl⟩
  rw [hl3] at hX3 n3
  obtain ⟨l4, hl4⟩ : ∃ l, signL imm = l := ⟨_, rfl⟩
  rw [hl4] at hX4 n4
  have hN := Lib.hid hN0
  have h1 := Lib.hid hX1
  have h2 := Lib.hid hX2
  have h3 := Lib.hid hX3
  have h4 := Lib.hid hX4
  clear hN0 hX1 hX2 hX3 hX4
  rw [hl1, hl2, hl4] at hbody
  replace hbody := Lib.hid hbody
  clear hnm hl1 hl2 hl3 hl4
  have tj : (op == 4) = true := by simpa using hj
  clear hj
  go_enter Tryd.func46, Tryd.ntmps46
  go_upto_region 10 with (first | (refine wpList_load_mid rfl 23 _ rfl w.heap.size 0 rfl (InsnV.cells ⟨op, rd, r1, r2, imm, false, false, pred, succ⟩).toList _ hB.c hu rfl hi ?_) | (go_at_call 11; refine (hK.out _).mono ?_; rintro e w1 ⟨rfl, hb1⟩; replace hB := hB.keep hb1; clear hb1 c0 c1 c2 c3 c4 c5 c6 c7 c8; have c0 : _ = some (Value.int .i64 op) := hB.at 0 _ rfl; have c1 : _ = some (Value.int .i64 rd) := hB.at 1 _ rfl; have c2 : _ = some (Value.int .i64 r1) := hB.at 2 _ rfl; have c3 : _ = some (Value.int .i64 r2) := hB.at 3 _ rfl; have c4 : _ = some (Value.int .i64 imm) := hB.at 4 _ rfl; have c5 : _ = some (Value.bool false) := hB.at 5 _ rfl; have c6 : _ = some (Value.bool false) := hB.at 6 _ rfl; have c7 : _ = some (Value.int .i64 pred) := hB.at 7 _ rfl; have c8 : _ = some (Value.int .i64 succ) := hB.at 8 _ rfl) | (go_at_call 67; refine (hN.out _).mono ?_; rintro e w1 ⟨rfl, hb1⟩; replace hB := hB.keep hb1; clear hb1 c0 c1 c2 c3 c4 c5 c6 c7 c8; have c0 : _ = some (Value.int .i64 op) := hB.at 0 _ rfl; have c1 : _ = some (Value.int .i64 rd) := hB.at 1 _ rfl; have c2 : _ = some (Value.int .i64 r1) := hB.at 2 _ rfl; have c3 : _ = some (Value.int .i64 r2) := hB.at 3 _ rfl; have c4 : _ = some (Value.int .i64 imm) := hB.at 4 _ rfl; have c5 : _ = some (Value.bool false) := hB.at 5 _ rfl; have c6 : _ = some (Value.bool false) := hB.at 6 _ rfl; have c7 : _ = some (Value.int .i64 pred) := hB.at 7 _ rfl; have c8 : _ = some (Value.int .i64 succ) := hB.at 8 _ rfl) | (refine wpList_cat (by rfl) _ _ _ _ rfl _ _ rfl rfl (by simp only [List.length_append, List.length_cons, List.length_nil]; omega) ?_))
  go_quiet ((first | (go_at_call 68; with_reducible exact quiet_same (h1.out _)) | (go_at_call 68; with_reducible exact quiet_same (h2.out _)) | (go_at_call 68; with_reducible exact quiet_same (h3.out _)) | (go_at_call 69; with_reducible exact quiet_same (h4.out _))))
  go_wp2_with (first | (go_at_call 9; refine (hF.out _).mono ?_; rintro e w1 ⟨rfl, rfl⟩) | (go_at_call 67; refine (hN.out _).mono ?_; rintro e w1 ⟨rfl, hb1⟩; replace hB := (hB.drewN _).keep hb1; clear hb1 c0 c1 c2 c3 c4 c5 c6 c7 c8; have c0 : _ = some (Value.int .i64 op) := hB.at 0 _ rfl; have c1 : _ = some (Value.int .i64 rd) := hB.at 1 _ rfl; have c2 : _ = some (Value.int .i64 r1) := hB.at 2 _ rfl; have c3 : _ = some (Value.int .i64 r2) := hB.at 3 _ rfl; have c4 : _ = some (Value.int .i64 imm) := hB.at 4 _ rfl; have c5 : _ = some (Value.bool false) := hB.at 5 _ rfl; have c6 : _ = some (Value.bool false) := hB.at 6 _ rfl; have c7 : _ = some (Value.int .i64 pred) := hB.at 7 _ rfl; have c8 : _ = some (Value.int .i64 succ) := hB.at 8 _ rfl) | (refine wpList_cat (by rfl) _ _ _ _ rfl _ _ rfl rfl (by simp only [List.length_append, List.length_cons, List.length_nil]; omega) ?_))
  go_ret2
  have hb2 := hbody.out
  try simp only [List.append_assoc, List.cons_append, List.nil_append] at hb2
  exact ⟨by rw [hb2]; rfl, hB.bl⟩
set_option maxRecDepth 100000 in
set_option maxHeartbeats 8000000 in
theorem Text_3n (op rd r1 r2 imm : Int) (aq rl : Bool) (pred succ : Int) (w : World) (hc : checkE ⟨op, rd, r1, r2, imm, aq, rl, pred, succ⟩ = 0) (hf : (opOf op).form = 3) (him : -9223372036854775808 ≤ imm ∧ imm ≤ 9223372036854775807) (hj : op ≠ 4) :
    Calls Tryd.prog 46 #[.agg #[.int .i64 op, .int .i64 rd, .int .i64 r1, .int .i64 r2, .int .i64 imm, .bool aq, .bool rl, .int .i64 pred, .int .i64 succ]] w fun e w' => e = .returned (.tuple #[.string ⟨(bodyT ⟨op, rd, r1, r2, imm, aq, rl, pred, succ⟩).toArray⟩, .int .i64 0]) ∧ Below w.heap.size w w' := by
  obtain ⟨g1, g2, g3, g4, g5, g6, g7, g8⟩ := ok_facts ⟨op, rd, r1, r2, imm, aq, rl, pred, succ⟩ hc
  simp only at g1 g2 g3 g4 g5 g6 g7 g8
  have hX1 := fun W => X_any rd g1.1 (by omega) W
  have hX2 := fun W => X_any r1 g2.1 (by omega) W
  have hX3 := fun W => X_any r2 g3.1 (by omega) W
  have hX4 := fun W => Signed_any imm him.1 him.2 W
  have n1 := regT_len rd
  have n2 := regT_len r1
  have n3 := regT_len r2
  have n4 := signL_len imm
  have n0 := nameT_len op
  have hN0 := fun W => R2Name_any op W
  have hF0 := fun W => R2Form_any op W
  rw [← rform_eq, hf] at hF0
  have hF := Lib.hid hF0
  clear hF0
  obtain ⟨rfl, rfl⟩ : aq = false ∧ rl = false := by
    rw [hf] at g6
    rcases g6 with g6 | g6 | g6
    · exact absurd g6 (by decide)
    · exact absurd g6 (by decide)
    · exact g6
  have hbody : bodyT ⟨op, rd, r1, r2, imm, false, false, pred, succ⟩ = headT ⟨op, rd, r1, r2, imm, false, false, pred, succ⟩ ++ [32] ++ regT rd ++ [44, 32] ++ regT r1 ++ [44, 32] ++ signL imm := by
    unfold bodyT
    simp only [hf]; simp only [if_neg hj]
    rfl
  have hhd : headT ⟨op, rd, r1, r2, imm, false, false, pred, succ⟩ = (opOf op).name := rfl
  rw [hhd] at hbody
  obtain ⟨r, hr⟩ : ∃ r, bodyT ⟨op, rd, r1, r2, imm, false, false, pred, succ⟩ = r := ⟨_, rfl⟩
  rw [hr] at hbody ⊢
  clear hr
  clear g1 g2 g3 g4 g5 g6 g7 g8 him hf
  have hB := TB.start w (InsnV.cells ⟨op, rd, r1, r2, imm, false, false, pred, succ⟩).toList 23
  rw [Array.toArray_toList] at hB
  have hu := Tryd.underlying23
  have hi : (Tryd.prog.info? 23).map (·.size) = some (InsnV.cells ⟨op, rd, r1, r2, imm, false, false, pred, succ⟩).toList.length := by kernel_rfl
  have hK := Lib.hid (fun W => R2Check_any ⟨op, rd, r1, r2, imm, false, false, pred, succ⟩ W)
  rw [hc] at hK
  clear hc
  have c0 : _ = some (Value.int .i64 op) := hB.at 0 _ rfl
  have c1 : _ = some (Value.int .i64 rd) := hB.at 1 _ rfl
  have c2 : _ = some (Value.int .i64 r1) := hB.at 2 _ rfl
  have c3 : _ = some (Value.int .i64 r2) := hB.at 3 _ rfl
  have c4 : _ = some (Value.int .i64 imm) := hB.at 4 _ rfl
  have c5 : _ = some (Value.bool false) := hB.at 5 _ rfl
  have c6 : _ = some (Value.bool false) := hB.at 6 _ rfl
  have c7 : _ = some (Value.int .i64 pred) := hB.at 7 _ rfl
  have c8 : _ = some (Value.int .i64 succ) := hB.at 8 _ rfl
  obtain ⟨nm, hnm⟩ : ∃ l, (opOf op).name = l := ⟨_, rfl⟩
  rw [hnm] at hN0 hbody n0
  obtain ⟨l1, hl1⟩ : ∃ l, regT rd = l := ⟨_, rfl⟩
  rw [hl1] at hX1 n1
  obtain ⟨l2, hl2⟩ : ∃ l, regT r1 = l := ⟨_, rfl⟩
  rw [hl2] at hX2 n2
  obtain ⟨l3, hl3⟩ : ∃ l, regT r2 = l := ⟨_, rfl⟩
  rw [hl3] at hX3 n3
  obtain ⟨l4, hl4⟩ : ∃ l, signL imm = l := ⟨_, rfl⟩
  rw [hl4] at hX4 n4
  have hN := Lib.hid hN0
  have h1 := Lib.hid hX1
  have h2 := Lib.hid hX2
  have h3 := Lib.hid hX3
  have h4 := Lib.hid hX4
  clear hN0 hX1 hX2 hX3 hX4
  rw [hl1, hl2, hl4] at hbody
  replace hbody := Lib.hid hbody
  clear hnm hl1 hl2 hl3 hl4
  have tj : (op == 4) = false := by simpa using hj
  clear hj
  go_enter Tryd.func46, Tryd.ntmps46
  go_upto_region 10 with (first | (refine wpList_load_mid rfl 23 _ rfl w.heap.size 0 rfl (InsnV.cells ⟨op, rd, r1, r2, imm, false, false, pred, succ⟩).toList _ hB.c hu rfl hi ?_) | (go_at_call 11; refine (hK.out _).mono ?_; rintro e w1 ⟨rfl, hb1⟩; replace hB := hB.keep hb1; clear hb1 c0 c1 c2 c3 c4 c5 c6 c7 c8; have c0 : _ = some (Value.int .i64 op) := hB.at 0 _ rfl; have c1 : _ = some (Value.int .i64 rd) := hB.at 1 _ rfl; have c2 : _ = some (Value.int .i64 r1) := hB.at 2 _ rfl; have c3 : _ = some (Value.int .i64 r2) := hB.at 3 _ rfl; have c4 : _ = some (Value.int .i64 imm) := hB.at 4 _ rfl; have c5 : _ = some (Value.bool false) := hB.at 5 _ rfl; have c6 : _ = some (Value.bool false) := hB.at 6 _ rfl; have c7 : _ = some (Value.int .i64 pred) := hB.at 7 _ rfl; have c8 : _ = some (Value.int .i64 succ) := hB.at 8 _ rfl) | (go_at_call 67; refine (hN.out _).mono ?_; rintro e w1 ⟨rfl, hb1⟩; replace hB := hB.keep hb1; clear hb1 c0 c1 c2 c3 c4 c5 c6 c7 c8; have c0 : _ = some (Value.int .i64 op) := hB.at 0 _ rfl; have c1 : _ = some (Value.int .i64 rd) := hB.at 1 _ rfl; have c2 : _ = some (Value.int .i64 r1) := hB.at 2 _ rfl; have c3 : _ = some (Value.int .i64 r2) := hB.at 3 _ rfl; have c4 : _ = some (Value.int .i64 imm) := hB.at 4 _ rfl; have c5 : _ = some (Value.bool false) := hB.at 5 _ rfl; have c6 : _ = some (Value.bool false) := hB.at 6 _ rfl; have c7 : _ = some (Value.int .i64 pred) := hB.at 7 _ rfl; have c8 : _ = some (Value.int .i64 succ) := hB.at 8 _ rfl) | (refine wpList_cat (by rfl) _ _ _ _ rfl _ _ rfl rfl (by simp only [List.length_append, List.length_cons, List.length_nil]; omega) ?_))
  go_quiet ((first | (go_at_call 68; with_reducible exact quiet_same (h1.out _)) | (go_at_call 68; with_reducible exact quiet_same (h2.out _)) | (go_at_call 68; with_reducible exact quiet_same (h3.out _)) | (go_at_call 69; with_reducible exact quiet_same (h4.out _))))
  go_wp2_with (first | (go_at_call 9; refine (hF.out _).mono ?_; rintro e w1 ⟨rfl, rfl⟩) | (go_at_call 67; refine (hN.out _).mono ?_; rintro e w1 ⟨rfl, hb1⟩; replace hB := hB.keep hb1; clear hb1 c0 c1 c2 c3 c4 c5 c6 c7 c8; have c0 : _ = some (Value.int .i64 op) := hB.at 0 _ rfl; have c1 : _ = some (Value.int .i64 rd) := hB.at 1 _ rfl; have c2 : _ = some (Value.int .i64 r1) := hB.at 2 _ rfl; have c3 : _ = some (Value.int .i64 r2) := hB.at 3 _ rfl; have c4 : _ = some (Value.int .i64 imm) := hB.at 4 _ rfl; have c5 : _ = some (Value.bool false) := hB.at 5 _ rfl; have c6 : _ = some (Value.bool false) := hB.at 6 _ rfl; have c7 : _ = some (Value.int .i64 pred) := hB.at 7 _ rfl; have c8 : _ = some (Value.int .i64 succ) := hB.at 8 _ rfl) | (refine wpList_cat (by rfl) _ _ _ _ rfl _ _ rfl rfl (by simp only [List.length_append, List.length_cons, List.length_nil]; omega) ?_))
  go_ret2
  have hb2 := hbody.out
  try simp only [List.append_assoc, List.cons_append, List.nil_append] at hb2
  exact ⟨by rw [hb2]; rfl, (hB.drewN _).bl⟩
end Go.Proofs.YtbdhjckpoabmlaaDoor
namespace Go.Proofs.YtbdhjckpoabmlaaDoor
open Go.RowKit
set_option maxRecDepth 100000 in
set_option maxHeartbeats 8000000 in
theorem Text_4 (op rd r1 r2 imm : Int) (aq rl : Bool) (pred succ : Int) (w : World) (hc : checkE ⟨op, rd, r1, r2, imm, aq, rl, pred, succ⟩ = 0) (hf : (opOf op).form = 4) (him : -9223372036854775808 ≤ imm ∧ imm ≤ 9223372036854775807) :
    Calls Tryd.prog 46 #[.agg #[.int .i64 op, .int .i64 rd, .int .i64 r1, .int .i64 r2, .int .i64 imm, .bool aq, .bool rl, .int .i64 pred, .int .i64 succ]] w fun e w' => e = .returned (.tuple #[.string ⟨(bodyT ⟨op, rd, r1, r2, imm, aq, rl, pred, succ⟩).toArray⟩, .int .i64 0]) ∧ Below w.heap.size w w' := by
  obtain ⟨g1, g2, g3, g4, g5, g6, g7, g8⟩ := ok_facts ⟨op, rd, r1, r2, imm, aq, rl, pred, succ⟩ hc
  simp only at g1 g2 g3 g4 g5 g6 g7 g8
  have hX1 := fun W => X_any rd g1.1 (by omega) W
  have hX2 := fun W => X_any r1 g2.1 (by omega) W
  have hX3 := fun W => X_any r2 g3.1 (by omega) W
  have hX4 := fun W => Signed_any imm him.1 him.2 W
  have n1 := regT_len rd
  have n2 := regT_len r1
  have n3 := regT_len r2
  have n4 := signL_len imm
  have n0 := nameT_len op
  have hN0 := fun W => R2Name_any op W
  have hF0 := fun W => R2Form_any op W
  rw [← rform_eq, hf] at hF0
  have hF := Lib.hid hF0
  clear hF0
  obtain ⟨rfl, rfl⟩ : aq = false ∧ rl = false := by
    rw [hf] at g6
    rcases g6 with g6 | g6 | g6
    · exact absurd g6 (by decide)
    · exact absurd g6 (by decide)
    · exact g6
  have hbody : bodyT ⟨op, rd, r1, r2, imm, false, false, pred, succ⟩ = headT ⟨op, rd, r1, r2, imm, false, false, pred, succ⟩ ++ [32] ++ regT rd ++ [44, 32] ++ signL imm ++ [40] ++ regT r1 ++ [41] := by
    unfold bodyT
    simp only [hf]
    rfl
  have hhd : headT ⟨op, rd, r1, r2, imm, false, false, pred, succ⟩ = (opOf op).name := rfl
  rw [hhd] at hbody
  obtain ⟨r, hr⟩ : ∃ r, bodyT ⟨op, rd, r1, r2, imm, false, false, pred, succ⟩ = r := ⟨_, rfl⟩
  rw [hr] at hbody ⊢
  clear hr
  clear g1 g2 g3 g4 g5 g6 g7 g8 him hf
  have hB := TB.start w (InsnV.cells ⟨op, rd, r1, r2, imm, false, false, pred, succ⟩).toList 23
  rw [Array.toArray_toList] at hB
  have hu := Tryd.underlying23
  have hi : (Tryd.prog.info? 23).map (·.size) = some (InsnV.cells ⟨op, rd, r1, r2, imm, false, false, pred, succ⟩).toList.length := by kernel_rfl
  have hK := Lib.hid (fun W => R2Check_any ⟨op, rd, r1, r2, imm, false, false, pred, succ⟩ W)
  rw [hc] at hK
  clear hc
  have c0 : _ = some (Value.int .i64 op) := hB.at 0 _ rfl
  have c1 : _ = some (Value.int .i64 rd) := hB.at 1 _ rfl
  have c2 : _ = some (Value.int .i64 r1) := hB.at 2 _ rfl
  have c3 : _ = some (Value.int .i64 r2) := hB.at 3 _ rfl
  have c4 : _ = some (Value.int .i64 imm) := hB.at 4 _ rfl
  have c5 : _ = some (Value.bool false) := hB.at 5 _ rfl
  have c6 : _ = some (Value.bool false) := hB.at 6 _ rfl
  have c7 : _ = some (Value.int .i64 pred) := hB.at 7 _ rfl
  have c8 : _ = some (Value.int .i64 succ) := hB.at 8 _ rfl
  obtain ⟨nm, hnm⟩ : ∃ l, (opOf op).name = l := ⟨_, rfl⟩
  rw [hnm] at hN0 hbody n0
  obtain ⟨l1, hl1⟩ : ∃ l, regT rd = l := ⟨_, rfl⟩
  rw [hl1] at hX1 n1
  obtain ⟨l2, hl2⟩ : ∃ l, regT r1 = l := ⟨_, rfl⟩
  rw [hl2] at hX2 n2
  obtain ⟨l3, hl3⟩ : ∃ l, regT r2 = l := ⟨_, rfl⟩
  rw [hl3] at hX3 n3
  obtain ⟨l4, hl4⟩ : ∃ l, signL imm = l := ⟨_, rfl⟩
  rw [hl4] at hX4 n4
  have hN := Lib.hid hN0
  have h1 := Lib.hid hX1
  have h2 := Lib.hid hX2
  have h3 := Lib.hid hX3
  have h4 := Lib.hid hX4
  clear hN0 hX1 hX2 hX3 hX4
  rw [hl1, hl2, hl4] at hbody
  replace hbody := Lib.hid hbody
  clear hnm hl1 hl2 hl3 hl4
  go_enter Tryd.func46, Tryd.ntmps46
  go_upto_region 10 with (first | (refine wpList_load_mid rfl 23 _ rfl w.heap.size 0 rfl (InsnV.cells ⟨op, rd, r1, r2, imm, false, false, pred, succ⟩).toList _ hB.c hu rfl hi ?_) | (go_at_call 11; refine (hK.out _).mono ?_; rintro e w1 ⟨rfl, hb1⟩; replace hB := hB.keep hb1; clear hb1 c0 c1 c2 c3 c4 c5 c6 c7 c8; have c0 : _ = some (Value.int .i64 op) := hB.at 0 _ rfl; have c1 : _ = some (Value.int .i64 rd) := hB.at 1 _ rfl; have c2 : _ = some (Value.int .i64 r1) := hB.at 2 _ rfl; have c3 : _ = some (Value.int .i64 r2) := hB.at 3 _ rfl; have c4 : _ = some (Value.int .i64 imm) := hB.at 4 _ rfl; have c5 : _ = some (Value.bool false) := hB.at 5 _ rfl; have c6 : _ = some (Value.bool false) := hB.at 6 _ rfl; have c7 : _ = some (Value.int .i64 pred) := hB.at 7 _ rfl; have c8 : _ = some (Value.int .i64 succ) := hB.at 8 _ rfl) | (go_at_call 67; refine (hN.out _).mono ?_; rintro e w1 ⟨rfl, hb1⟩; replace hB := hB.keep hb1; clear hb1 c0 c1 c2 c3 c4 c5 c6 c7 c8; have c0 : _ = some (Value.int .i64 op) := hB.at 0 _ rfl; have c1 : _ = some (Value.int .i64 rd) := hB.at 1 _ rfl; have c2 : _ = some (Value.int .i64 r1) := hB.at 2 _ rfl; have c3 : _ = some (Value.int .i64 r2) := hB.at 3 _ rfl; have c4 : _ = some (Value.int .i64 imm) := hB.at 4 _ rfl; have c5 : _ = some (Value.bool false) := hB.at 5 _ rfl; have c6 : _ = some (Value.bool false) := hB.at 6 _ rfl; have c7 : _ = some (Value.int .i64 pred) := hB.at 7 _ rfl; have c8 : _ = some (Value.int .i64 succ) := hB.at 8 _ rfl) | (refine wpList_cat (by rfl) _ _ _ _ rfl _ _ rfl rfl (by simp only [List.length_append, List.length_cons, List.length_nil]; omega) ?_))
  go_quiet ((first | (go_at_call 68; with_reducible exact quiet_same (h1.out _)) | (go_at_call 68; with_reducible exact quiet_same (h2.out _)) | (go_at_call 68; with_reducible exact quiet_same (h3.out _)) | (go_at_call 69; with_reducible exact quiet_same (h4.out _))))
  go_wp2_with (first | (go_at_call 9; refine (hF.out _).mono ?_; rintro e w1 ⟨rfl, rfl⟩) | (go_at_call 67; refine (hN.out _).mono ?_; rintro e w1 ⟨rfl, hb1⟩; replace hB := hB.keep hb1; clear hb1 c0 c1 c2 c3 c4 c5 c6 c7 c8; have c0 : _ = some (Value.int .i64 op) := hB.at 0 _ rfl; have c1 : _ = some (Value.int .i64 rd) := hB.at 1 _ rfl; have c2 : _ = some (Value.int .i64 r1) := hB.at 2 _ rfl; have c3 : _ = some (Value.int .i64 r2) := hB.at 3 _ rfl; have c4 : _ = some (Value.int .i64 imm) := hB.at 4 _ rfl; have c5 : _ = some (Value.bool false) := hB.at 5 _ rfl; have c6 : _ = some (Value.bool false) := hB.at 6 _ rfl; have c7 : _ = some (Value.int .i64 pred) := hB.at 7 _ rfl; have c8 : _ = some (Value.int .i64 succ) := hB.at 8 _ rfl) | (refine wpList_cat (by rfl) _ _ _ _ rfl _ _ rfl rfl (by simp only [List.length_append, List.length_cons, List.length_nil]; omega) ?_))
  go_ret2
  have hb2 := hbody.out
  try simp only [List.append_assoc, List.cons_append, List.nil_append] at hb2
  exact ⟨by rw [hb2]; rfl, (hB.drewN _).bl⟩
set_option maxRecDepth 100000 in
set_option maxHeartbeats 8000000 in
theorem Text_5 (op rd r1 r2 imm : Int) (aq rl : Bool) (pred succ : Int) (w : World) (hc : checkE ⟨op, rd, r1, r2, imm, aq, rl, pred, succ⟩ = 0) (hf : (opOf op).form = 5) (him : -9223372036854775808 ≤ imm ∧ imm ≤ 9223372036854775807) :
    Calls Tryd.prog 46 #[.agg #[.int .i64 op, .int .i64 rd, .int .i64 r1, .int .i64 r2, .int .i64 imm, .bool aq, .bool rl, .int .i64 pred, .int .i64 succ]] w fun e w' => e = .returned (.tuple #[.string ⟨(bodyT ⟨op, rd, r1, r2, imm, aq, rl, pred, succ⟩).toArray⟩, .int .i64 0]) ∧ Below w.heap.size w w' := by
  obtain ⟨g1, g2, g3, g4, g5, g6, g7, g8⟩ := ok_facts ⟨op, rd, r1, r2, imm, aq, rl, pred, succ⟩ hc
  simp only at g1 g2 g3 g4 g5 g6 g7 g8
  have hX1 := fun W => X_any rd g1.1 (by omega) W
  have hX2 := fun W => X_any r1 g2.1 (by omega) W
  have hX3 := fun W => X_any r2 g3.1 (by omega) W
  have hX4 := fun W => Signed_any imm him.1 him.2 W
  have n1 := regT_len rd
  have n2 := regT_len r1
  have n3 := regT_len r2
  have n4 := signL_len imm
  have n0 := nameT_len op
  have hN0 := fun W => R2Name_any op W
  have hF0 := fun W => R2Form_any op W
  rw [← rform_eq, hf] at hF0
  have hF := Lib.hid hF0
  clear hF0
  obtain ⟨rfl, rfl⟩ : aq = false ∧ rl = false := by
    rw [hf] at g6
    rcases g6 with g6 | g6 | g6
    · exact absurd g6 (by decide)
    · exact absurd g6 (by decide)
    · exact g6
  have hbody : bodyT ⟨op, rd, r1, r2, imm, false, false, pred, succ⟩ = headT ⟨op, rd, r1, r2, imm, false, false, pred, succ⟩ ++ [32] ++ regT r2 ++ [44, 32] ++ signL imm ++ [40] ++ regT r1 ++ [41] := by
    unfold bodyT
    simp only [hf]
    rfl
  have hhd : headT ⟨op, rd, r1, r2, imm, false, false, pred, succ⟩ = (opOf op).name := rfl
  rw [hhd] at hbody
  obtain ⟨r, hr⟩ : ∃ r, bodyT ⟨op, rd, r1, r2, imm, false, false, pred, succ⟩ = r := ⟨_, rfl⟩
  rw [hr] at hbody ⊢
  clear hr
  clear g1 g2 g3 g4 g5 g6 g7 g8 him hf
  have hB := TB.start w (InsnV.cells ⟨op, rd, r1, r2, imm, false, false, pred, succ⟩).toList 23
  rw [Array.toArray_toList] at hB
  have hu := Tryd.underlying23
  have hi : (Tryd.prog.info? 23).map (·.size) = some (InsnV.cells ⟨op, rd, r1, r2, imm, false, false, pred, succ⟩).toList.length := by kernel_rfl
  have hK := Lib.hid (fun W => R2Check_any ⟨op, rd, r1, r2, imm, false, false, pred, succ⟩ W)
  rw [hc] at hK
  clear hc
  have c0 : _ = some (Value.int .i64 op) := hB.at 0 _ rfl
  have c1 : _ = some (Value.int .i64 rd) := hB.at 1 _ rfl
  have c2 : _ = some (Value.int .i64 r1) := hB.at 2 _ rfl
  have c3 : _ = some (Value.int .i64 r2) := hB.at 3 _ rfl
  have c4 : _ = some (Value.int .i64 imm) := hB.at 4 _ rfl
  have c5 : _ = some (Value.bool false) := hB.at 5 _ rfl
  have c6 : _ = some (Value.bool false) := hB.at 6 _ rfl
  have c7 : _ = some (Value.int .i64 pred) := hB.at 7 _ rfl
  have c8 : _ = some (Value.int .i64 succ) := hB.at 8 _ rfl
  obtain ⟨nm, hnm⟩ : ∃ l, (opOf op).name = l := ⟨_, rfl⟩
  rw [hnm] at hN0 hbody n0
  obtain ⟨l1, hl1⟩ : ∃ l, regT rd = l := ⟨_, rfl⟩
  rw [hl1] at hX1 n1
  obtain ⟨l2, hl2⟩ : ∃ l, regT r1 = l := ⟨_, rfl⟩
  rw [hl2] at hX2 n2
  obtain ⟨l3, hl3⟩ : ∃ l, regT r2 = l := ⟨_, rfl⟩
  rw [hl3] at hX3 n3
  obtain ⟨l4, hl4⟩ : ∃ l, signL imm = l := ⟨_, rfl⟩
  rw [hl4] at hX4 n4
  have hN := Lib.hid hN0
  have h1 := Lib.hid hX1
  have h2 := Lib.hid hX2
  have h3 := Lib.hid hX3
  have h4 := Lib.hid hX4
  clear hN0 hX1 hX2 hX3 hX4
  rw [hl2, hl3, hl4] at hbody
  replace hbody := Lib.hid hbody
  clear hnm hl1 hl2 hl3 hl4
  go_enter Tryd.func46, Tryd.ntmps46
  go_upto_region 10 with (first | (refine wpList_load_mid rfl 23 _ rfl w.heap.size 0 rfl (InsnV.cells ⟨op, rd, r1, r2, imm, false, false, pred, succ⟩).toList _ hB.c hu rfl hi ?_) | (go_at_call 11; refine (hK.out _).mono ?_; rintro e w1 ⟨rfl, hb1⟩; replace hB := hB.keep hb1; clear hb1 c0 c1 c2 c3 c4 c5 c6 c7 c8; have c0 : _ = some (Value.int .i64 op) := hB.at 0 _ rfl; have c1 : _ = some (Value.int .i64 rd) := hB.at 1 _ rfl; have c2 : _ = some (Value.int .i64 r1) := hB.at 2 _ rfl; have c3 : _ = some (Value.int .i64 r2) := hB.at 3 _ rfl; have c4 : _ = some (Value.int .i64 imm) := hB.at 4 _ rfl; have c5 : _ = some (Value.bool false) := hB.at 5 _ rfl; have c6 : _ = some (Value.bool false) := hB.at 6 _ rfl; have c7 : _ = some (Value.int .i64 pred) := hB.at 7 _ rfl; have c8 : _ = some (Value.int .i64 succ) := hB.at 8 _ rfl) | (go_at_call 67; refine (hN.out _).mono ?_; rintro e w1 ⟨rfl, hb1⟩; replace hB := hB.keep hb1; clear hb1 c0 c1 c2 c3 c4 c5 c6 c7 c8; have c0 : _ = some (Value.int .i64 op) := hB.at 0 _ rfl; have c1 : _ = some (Value.int .i64 rd) := hB.at 1 _ rfl; have c2 : _ = some (Value.int .i64 r1) := hB.at 2 _ rfl; have c3 : _ = some (Value.int .i64 r2) := hB.at 3 _ rfl; have c4 : _ = some (Value.int .i64 imm) := hB.at 4 _ rfl; have c5 : _ = some (Value.bool false) := hB.at 5 _ rfl; have c6 : _ = some (Value.bool false) := hB.at 6 _ rfl; have c7 : _ = some (Value.int .i64 pred) := hB.at 7 _ rfl; have c8 : _ = some (Value.int .i64 succ) := hB.at 8 _ rfl) | (refine wpList_cat (by rfl) _ _ _ _ rfl _ _ rfl rfl (by simp only [List.length_append, List.length_cons, List.length_nil]; omega) ?_))
  go_quiet ((first | (go_at_call 68; with_reducible exact quiet_same (h1.out _)) | (go_at_call 68; with_reducible exact quiet_same (h2.out _)) | (go_at_call 68; with_reducible exact quiet_same (h3.out _)) | (go_at_call 69; with_reducible exact quiet_same (h4.out _))))
  go_wp2_with (first | (go_at_call 9; refine (hF.out _).mono ?_; rintro e w1 ⟨rfl, rfl⟩) | (go_at_call 67; refine (hN.out _).mono ?_; rintro e w1 ⟨rfl, hb1⟩; replace hB := hB.keep hb1; clear hb1 c0 c1 c2 c3 c4 c5 c6 c7 c8; have c0 : _ = some (Value.int .i64 op) := hB.at 0 _ rfl; have c1 : _ = some (Value.int .i64 rd) := hB.at 1 _ rfl; have c2 : _ = some (Value.int .i64 r1) := hB.at 2 _ rfl; have c3 : _ = some (Value.int .i64 r2) := hB.at 3 _ rfl; have c4 : _ = some (Value.int .i64 imm) := hB.at 4 _ rfl; have c5 : _ = some (Value.bool false) := hB.at 5 _ rfl; have c6 : _ = some (Value.bool false) := hB.at 6 _ rfl; have c7 : _ = some (Value.int .i64 pred) := hB.at 7 _ rfl; have c8 : _ = some (Value.int .i64 succ) := hB.at 8 _ rfl) | (refine wpList_cat (by rfl) _ _ _ _ rfl _ _ rfl rfl (by simp only [List.length_append, List.length_cons, List.length_nil]; omega) ?_))
  go_ret2
  have hb2 := hbody.out
  try simp only [List.append_assoc, List.cons_append, List.nil_append] at hb2
  exact ⟨by rw [hb2]; rfl, (hB.drewN _).bl⟩
set_option maxRecDepth 100000 in
set_option maxHeartbeats 8000000 in
theorem Text_6 (op rd r1 r2 imm : Int) (aq rl : Bool) (pred succ : Int) (w : World) (hc : checkE ⟨op, rd, r1, r2, imm, aq, rl, pred, succ⟩ = 0) (hf : (opOf op).form = 6) (him : -9223372036854775808 ≤ imm ∧ imm ≤ 9223372036854775807) :
    Calls Tryd.prog 46 #[.agg #[.int .i64 op, .int .i64 rd, .int .i64 r1, .int .i64 r2, .int .i64 imm, .bool aq, .bool rl, .int .i64 pred, .int .i64 succ]] w fun e w' => e = .returned (.tuple #[.string ⟨(bodyT ⟨op, rd, r1, r2, imm, aq, rl, pred, succ⟩).toArray⟩, .int .i64 0]) ∧ Below w.heap.size w w' := by
  obtain ⟨g1, g2, g3, g4, g5, g6, g7, g8⟩ := ok_facts ⟨op, rd, r1, r2, imm, aq, rl, pred, succ⟩ hc
  simp only at g1 g2 g3 g4 g5 g6 g7 g8
  have hX1 := fun W => X_any rd g1.1 (by omega) W
  have hX2 := fun W => X_any r1 g2.1 (by omega) W
  have hX3 := fun W => X_any r2 g3.1 (by omega) W
  have hX4 := fun W => Signed_any imm him.1 him.2 W
  have n1 := regT_len rd
  have n2 := regT_len r1
  have n3 := regT_len r2
  have n4 := signL_len imm
  have n0 := nameT_len op
  have hN0 := fun W => R2Name_any op W
  have hF0 := fun W => R2Form_any op W
  rw [← rform_eq, hf] at hF0
  have hF := Lib.hid hF0
  clear hF0
  obtain ⟨rfl, rfl⟩ : aq = false ∧ rl = false := by
    rw [hf] at g6
    rcases g6 with g6 | g6 | g6
    · exact absurd g6 (by decide)
    · exact absurd g6 (by decide)
    · exact g6
  have hbody : bodyT ⟨op, rd, r1, r2, imm, false, false, pred, succ⟩ = headT ⟨op, rd, r1, r2, imm, false, false, pred, succ⟩ ++ [32] ++ regT r1 ++ [44, 32] ++ regT r2 ++ [44, 32] ++ signL imm := by
    unfold bodyT
    simp only [hf]
    rfl
  have hhd : headT ⟨op, rd, r1, r2, imm, false, false, pred, succ⟩ = (opOf op).name := rfl
  rw [hhd] at hbody
  obtain ⟨r, hr⟩ : ∃ r, bodyT ⟨op, rd, r1, r2, imm, false, false, pred, succ⟩ = r := ⟨_, rfl⟩
  rw [hr] at hbody ⊢
  clear hr
  clear g1 g2 g3 g4 g5 g6 g7 g8 him hf
  have hB := TB.start w (InsnV.cells ⟨op, rd, r1, r2, imm, false, false, pred, succ⟩).toList 23
  rw [Array.toArray_toList] at hB
  have hu := Tryd.underlying23
  have hi : (Tryd.prog.info? 23).map (·.size) = some (InsnV.cells ⟨op, rd, r1, r2, imm, false, false, pred, succ⟩).toList.length := by kernel_rfl
  have hK := Lib.hid (fun W => R2Check_any ⟨op, rd, r1, r2, imm, false, false, pred, succ⟩ W)
  rw [hc] at hK
  clear hc
  have c0 : _ = some (Value.int .i64 op) := hB.at 0 _ rfl
  have c1 : _ = some (Value.int .i64 rd) := hB.at 1 _ rfl
  have c2 : _ = some (Value.int .i64 r1) := hB.at 2 _ rfl
  have c3 : _ = some (Value.int .i64 r2) := hB.at 3 _ rfl
  have c4 : _ = some (Value.int .i64 imm) := hB.at 4 _ rfl
  have c5 : _ = some (Value.bool false) := hB.at 5 _ rfl
  have c6 : _ = some (Value.bool false) := hB.at 6 _ rfl
  have c7 : _ = some (Value.int .i64 pred) := hB.at 7 _ rfl
  have c8 : _ = some (Value.int .i64 succ) := hB.at 8 _ rfl
  obtain ⟨nm, hnm⟩ : ∃ l, (opOf op).name = l := ⟨_, rfl⟩
  rw [hnm] at hN0 hbody n0
  obtain ⟨l1, hl1⟩ : ∃ l, regT rd = l := ⟨_, rfl⟩
  rw [hl1] at hX1 n1
  obtain ⟨l2, hl2⟩ : ∃ l, regT r1 = l := ⟨_, rfl⟩
  rw [hl2] at hX2 n2
  obtain ⟨l3, hl3⟩ : ∃ l, regT r2 = l := ⟨_, rfl⟩
  rw [hl3] at hX3 n3
  obtain ⟨l4, hl4⟩ : ∃ l, signL imm = l := ⟨_, rfl⟩
  rw [hl4] at hX4 n4
  have hN := Lib.hid hN0
  have h1 := Lib.hid hX1
  have h2 := Lib.hid hX2
  have h3 := Lib.hid hX3
  have h4 := Lib.hid hX4
  clear hN0 hX1 hX2 hX3 hX4
  rw [hl2, hl3, hl4] at hbody
  replace hbody := Lib.hid hbody
  clear hnm hl1 hl2 hl3 hl4
  go_enter Tryd.func46, Tryd.ntmps46
  go_upto_region 10 with (first | (refine wpList_load_mid rfl 23 _ rfl w.heap.size 0 rfl (InsnV.cells ⟨op, rd, r1, r2, imm, false, false, pred, succ⟩).toList _ hB.c hu rfl hi ?_) | (go_at_call 11; refine (hK.out _).mono ?_; rintro e w1 ⟨rfl, hb1⟩; replace hB := hB.keep hb1; clear hb1 c0 c1 c2 c3 c4 c5 c6 c7 c8; have c0 : _ = some (Value.int .i64 op) := hB.at 0 _ rfl; have c1 : _ = some (Value.int .i64 rd) := hB.at 1 _ rfl; have c2 : _ = some (Value.int .i64 r1) := hB.at 2 _ rfl; have c3 : _ = some (Value.int .i64 r2) := hB.at 3 _ rfl; have c4 : _ = some (Value.int .i64 imm) := hB.at 4 _ rfl; have c5 : _ = some (Value.bool false) := hB.at 5 _ rfl; have c6 : _ = some (Value.bool false) := hB.at 6 _ rfl; have c7 : _ = some (Value.int .i64 pred) := hB.at 7 _ rfl; have c8 : _ = some (Value.int .i64 succ) := hB.at 8 _ rfl) | (go_at_call 67; refine (hN.out _).mono ?_; rintro e w1 ⟨rfl, hb1⟩; replace hB := hB.keep hb1; clear hb1 c0 c1 c2 c3 c4 c5 c6 c7 c8; have c0 : _ = some (Value.int .i64 op) := hB.at 0 _ rfl; have c1 : _ = some (Value.int .i64 rd) := hB.at 1 _ rfl; have c2 : _ = some (Value.int .i64 r1) := hB.at 2 _ rfl; have c3 : _ = some (Value.int .i64 r2) := hB.at 3 _ rfl; have c4 : _ = some (Value.int .i64 imm) := hB.at 4 _ rfl; have c5 : _ = some (Value.bool false) := hB.at 5 _ rfl; have c6 : _ = some (Value.bool false) := hB.at 6 _ rfl; have c7 : _ = some (Value.int .i64 pred) := hB.at 7 _ rfl; have c8 : _ = some (Value.int .i64 succ) := hB.at 8 _ rfl) | (refine wpList_cat (by rfl) _ _ _ _ rfl _ _ rfl rfl (by simp only [List.length_append, List.length_cons, List.length_nil]; omega) ?_))
  go_quiet ((first | (go_at_call 68; with_reducible exact quiet_same (h1.out _)) | (go_at_call 68; with_reducible exact quiet_same (h2.out _)) | (go_at_call 68; with_reducible exact quiet_same (h3.out _)) | (go_at_call 69; with_reducible exact quiet_same (h4.out _))))
  go_wp2_with (first | (go_at_call 9; refine (hF.out _).mono ?_; rintro e w1 ⟨rfl, rfl⟩) | (go_at_call 67; refine (hN.out _).mono ?_; rintro e w1 ⟨rfl, hb1⟩; replace hB := hB.keep hb1; clear hb1 c0 c1 c2 c3 c4 c5 c6 c7 c8; have c0 : _ = some (Value.int .i64 op) := hB.at 0 _ rfl; have c1 : _ = some (Value.int .i64 rd) := hB.at 1 _ rfl; have c2 : _ = some (Value.int .i64 r1) := hB.at 2 _ rfl; have c3 : _ = some (Value.int .i64 r2) := hB.at 3 _ rfl; have c4 : _ = some (Value.int .i64 imm) := hB.at 4 _ rfl; have c5 : _ = some (Value.bool false) := hB.at 5 _ rfl; have c6 : _ = some (Value.bool false) := hB.at 6 _ rfl; have c7 : _ = some (Value.int .i64 pred) := hB.at 7 _ rfl; have c8 : _ = some (Value.int .i64 succ) := hB.at 8 _ rfl) | (refine wpList_cat (by rfl) _ _ _ _ rfl _ _ rfl rfl (by simp only [List.length_append, List.length_cons, List.length_nil]; omega) ?_))
  go_ret2
  have hb2 := hbody.out
  try simp only [List.append_assoc, List.cons_append, List.nil_append] at hb2
  exact ⟨by rw [hb2]; rfl, (hB.drewN _).bl⟩
set_option maxRecDepth 100000 in
set_option maxHeartbeats 8000000 in
theorem Text_7n (op rd r1 r2 imm : Int) (aq rl : Bool) (pred succ : Int) (w : World) (hc : checkE ⟨op, rd, r1, r2, imm, aq, rl, pred, succ⟩ = 0) (hf : (opOf op).form = 7) (him : -9223372036854775808 ≤ imm ∧ imm ≤ 9223372036854775807) (hj : op ≠ 4) :
    Calls Tryd.prog 46 #[.agg #[.int .i64 op, .int .i64 rd, .int .i64 r1, .int .i64 r2, .int .i64 imm, .bool aq, .bool rl, .int .i64 pred, .int .i64 succ]] w fun e w' => e = .returned (.tuple #[.string ⟨(bodyT ⟨op, rd, r1, r2, imm, aq, rl, pred, succ⟩).toArray⟩, .int .i64 0]) ∧ Below w.heap.size w w' := by
  obtain ⟨g1, g2, g3, g4, g5, g6, g7, g8⟩ := ok_facts ⟨op, rd, r1, r2, imm, aq, rl, pred, succ⟩ hc
  simp only at g1 g2 g3 g4 g5 g6 g7 g8
  have hX1 := fun W => X_any rd g1.1 (by omega) W
  have hX2 := fun W => X_any r1 g2.1 (by omega) W
  have hX3 := fun W => X_any r2 g3.1 (by omega) W
  have hX4 := fun W => Signed_any imm him.1 him.2 W
  have n1 := regT_len rd
  have n2 := regT_len r1
  have n3 := regT_len r2
  have n4 := signL_len imm
  have n0 := nameT_len op
  have hN0 := fun W => R2Name_any op W
  have hF0 := fun W => R2Form_any op W
  rw [← rform_eq, hf] at hF0
  have hF := Lib.hid hF0
  clear hF0
  obtain ⟨rfl, rfl⟩ : aq = false ∧ rl = false := by
    rw [hf] at g6
    rcases g6 with g6 | g6 | g6
    · exact absurd g6 (by decide)
    · exact absurd g6 (by decide)
    · exact g6
  have hbody : bodyT ⟨op, rd, r1, r2, imm, false, false, pred, succ⟩ = headT ⟨op, rd, r1, r2, imm, false, false, pred, succ⟩ ++ [32] ++ regT rd ++ [44, 32] ++ regT r1 ++ [44, 32] ++ signL imm := by
    unfold bodyT
    simp only [hf]; simp only [if_neg hj]
    rfl
  have hhd : headT ⟨op, rd, r1, r2, imm, false, false, pred, succ⟩ = (opOf op).name := rfl
  rw [hhd] at hbody
  obtain ⟨r, hr⟩ : ∃ r, bodyT ⟨op, rd, r1, r2, imm, false, false, pred, succ⟩ = r := ⟨_, rfl⟩
  rw [hr] at hbody ⊢
  clear hr
  clear g1 g2 g3 g4 g5 g6 g7 g8 him hf
  have hB := TB.start w (InsnV.cells ⟨op, rd, r1, r2, imm, false, false, pred, succ⟩).toList 23
  rw [Array.toArray_toList] at hB
  have hu := Tryd.underlying23
  have hi : (Tryd.prog.info? 23).map (·.size) = some (InsnV.cells ⟨op, rd, r1, r2, imm, false, false, pred, succ⟩).toList.length := by kernel_rfl
  have hK := Lib.hid (fun W => R2Check_any ⟨op, rd, r1, r2, imm, false, false, pred, succ⟩ W)
  rw [hc] at hK
  clear hc
  have c0 : _ = some (Value.int .i64 op) := hB.at 0 _ rfl
  have c1 : _ = some (Value.int .i64 rd) := hB.at 1 _ rfl
  have c2 : _ = some (Value.int .i64 r1) := hB.at 2 _ rfl
  have c3 : _ = some (Value.int .i64 r2) := hB.at 3 _ rfl
  have c4 : _ = some (Value.int .i64 imm) := hB.at 4 _ rfl
  have c5 : _ = some (Value.bool false) := hB.at 5 _ rfl
  have c6 : _ = some (Value.bool false) := hB.at 6 _ rfl
  have c7 : _ = some (Value.int .i64 pred) := hB.at 7 _ rfl
  have c8 : _ = some (Value.int .i64 succ) := hB.at 8 _ rfl
  obtain ⟨nm, hnm⟩ : ∃ l, (opOf op).name = l := ⟨_, rfl⟩
  rw [hnm] at hN0 hbody n0
  obtain ⟨l1, hl1⟩ : ∃ l, regT rd = l := ⟨_, rfl⟩
  rw [hl1] at hX1 n1
  obtain ⟨l2, hl2⟩ : ∃ l, regT r1 = l := ⟨_, rfl⟩
  rw [hl2] at hX2 n2
  obtain ⟨l3, hl3⟩ : ∃ l, regT r2 = l := ⟨_, rfl⟩
  rw [hl3] at hX3 n3
  obtain ⟨l4, hl4⟩ : ∃ l, signL imm = l := ⟨_, rfl⟩
  rw [hl4] at hX4 n4
  have hN := Lib.hid hN0
  have h1 := Lib.hid hX1
  have h2 := Lib.hid hX2
  have h3 := Lib.hid hX3
  have h4 := Lib.hid hX4
  clear hN0 hX1 hX2 hX3 hX4
  rw [hl1, hl2, hl4] at hbody
  replace hbody := Lib.hid hbody
  clear hnm hl1 hl2 hl3 hl4
  have tj : (op == 4) = false := by simpa using hj
  clear hj
  go_enter Tryd.func46, Tryd.ntmps46
  go_upto_region 10 with (first | (refine wpList_load_mid rfl 23 _ rfl w.heap.size 0 rfl (InsnV.cells ⟨op, rd, r1, r2, imm, false, false, pred, succ⟩).toList _ hB.c hu rfl hi ?_) | (go_at_call 11; refine (hK.out _).mono ?_; rintro e w1 ⟨rfl, hb1⟩; replace hB := hB.keep hb1; clear hb1 c0 c1 c2 c3 c4 c5 c6 c7 c8; have c0 : _ = some (Value.int .i64 op) := hB.at 0 _ rfl; have c1 : _ = some (Value.int .i64 rd) := hB.at 1 _ rfl; have c2 : _ = some (Value.int .i64 r1) := hB.at 2 _ rfl; have c3 : _ = some (Value.int .i64 r2) := hB.at 3 _ rfl; have c4 : _ = some (Value.int .i64 imm) := hB.at 4 _ rfl; have c5 : _ = some (Value.bool false) := hB.at 5 _ rfl; have c6 : _ = some (Value.bool false) := hB.at 6 _ rfl; have c7 : _ = some (Value.int .i64 pred) := hB.at 7 _ rfl; have c8 : _ = some (Value.int .i64 succ) := hB.at 8 _ rfl) | (go_at_call 67; refine (hN.out _).mono ?_; rintro e w1 ⟨rfl, hb1⟩; replace hB := hB.keep hb1; clear hb1 c0 c1 c2 c3 c4 c5 c6 c7 c8; have c0 : _ = some (Value.int .i64 op) := hB.at 0 _ rfl; have c1 : _ = some (Value.int .i64 rd) := hB.at 1 _ rfl; have c2 : _ = some (Value.int .i64 r1) := hB.at 2 _ rfl; have c3 : _ = some (Value.int .i64 r2) := hB.at 3 _ rfl; have c4 : _ = some (Value.int .i64 imm) := hB.at 4 _ rfl; have c5 : _ = some (Value.bool false) := hB.at 5 _ rfl; have c6 : _ = some (Value.bool false) := hB.at 6 _ rfl; have c7 : _ = some (Value.int .i64 pred) := hB.at 7 _ rfl; have c8 : _ = some (Value.int .i64 succ) := hB.at 8 _ rfl) | (refine wpList_cat (by rfl) _ _ _ _ rfl _ _ rfl rfl (by simp only [List.length_append, List.length_cons, List.length_nil]; omega) ?_))
  go_quiet ((first | (go_at_call 68; with_reducible exact quiet_same (h1.out _)) | (go_at_call 68; with_reducible exact quiet_same (h2.out _)) | (go_at_call 68; with_reducible exact quiet_same (h3.out _)) | (go_at_call 69; with_reducible exact quiet_same (h4.out _))))
  go_wp2_with (first | (go_at_call 9; refine (hF.out _).mono ?_; rintro e w1 ⟨rfl, rfl⟩) | (go_at_call 67; refine (hN.out _).mono ?_; rintro e w1 ⟨rfl, hb1⟩; replace hB := hB.keep hb1; clear hb1 c0 c1 c2 c3 c4 c5 c6 c7 c8; have c0 : _ = some (Value.int .i64 op) := hB.at 0 _ rfl; have c1 : _ = some (Value.int .i64 rd) := hB.at 1 _ rfl; have c2 : _ = some (Value.int .i64 r1) := hB.at 2 _ rfl; have c3 : _ = some (Value.int .i64 r2) := hB.at 3 _ rfl; have c4 : _ = some (Value.int .i64 imm) := hB.at 4 _ rfl; have c5 : _ = some (Value.bool false) := hB.at 5 _ rfl; have c6 : _ = some (Value.bool false) := hB.at 6 _ rfl; have c7 : _ = some (Value.int .i64 pred) := hB.at 7 _ rfl; have c8 : _ = some (Value.int .i64 succ) := hB.at 8 _ rfl) | (refine wpList_cat (by rfl) _ _ _ _ rfl _ _ rfl rfl (by simp only [List.length_append, List.length_cons, List.length_nil]; omega) ?_))
  go_ret2
  have hb2 := hbody.out
  try simp only [List.append_assoc, List.cons_append, List.nil_append] at hb2
  exact ⟨by rw [hb2]; rfl, (hB.drewN _).bl⟩
end Go.Proofs.YtbdhjckpoabmlaaDoor
