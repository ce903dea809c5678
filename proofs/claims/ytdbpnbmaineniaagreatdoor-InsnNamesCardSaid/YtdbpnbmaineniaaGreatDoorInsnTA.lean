/- The walk of insn.Text: where it is none, forms 1 to 3. The walk of insn.Text: forms 4 to 7. The walk of insn.Text: forms 8 to 10. Conditions: as each theorem says. -/
import Derived.Test.YtdbpnbmaineniaaGreatDoorTks
import Derived.Test.YtdbpnbmaineniaaGreatDoorInsnWG
set_option linter.unusedVariables false
set_option linter.unusedSimpArgs false
namespace Go.Proofs.YtdbpnbmaineniaaGreatDoor
open Go.RowKit
set_option maxRecDepth 100000 in
set_option maxHeartbeats 8000000 in
theorem IText_no (op rd r1 r2 imm : Int) (aq rl : Bool) (pred succ : Int) (w : World) (ht : Tabs w) (hp : P10 w) (hop : op ≤ 9223372036854775807) (hc : checkE ⟨op, rd, r1, r2, imm, aq, rl, pred, succ⟩ ≠ 0) :
    Calls Tryz.prog 29 #[.agg #[.int .i64 op, .int .i64 rd, .int .i64 r1, .int .i64 r2, .int .i64 imm, .bool aq, .bool rl, .int .i64 pred, .int .i64 succ]] w fun e w' => e = .returned (.tuple #[.string ⟨([] : List UInt8).toArray⟩, .int .i64 2]) ∧ Below w.heap.size w w' := by
  have hc2 : checkE ⟨op, rd, r1, r2, imm, aq, rl, pred, succ⟩ = 2 := by unfold checkE at hc ⊢; cases hk : checkOk ⟨op, rd, r1, r2, imm, aq, rl, pred, succ⟩ <;> simp_all
  have hB := XB.start w (InsnV.cells ⟨op, rd, r1, r2, imm, aq, rl, pred, succ⟩).toList 23
  rw [Array.toArray_toList] at hB
  have hu := Tryz.underlying23
  have hi : (Tryz.prog.info? 23).map (·.size) = some (InsnV.cells ⟨op, rd, r1, r2, imm, aq, rl, pred, succ⟩).toList.length := by kernel_rfl
  have hK := Lib.hid (fun W hW => Check_any ⟨op, rd, r1, r2, imm, aq, rl, pred, succ⟩ hop W hW)
  have hO := Lib.hid (fun W hW => of_any op hop W hW)
  have ht1 := ht.later ((Below.refl _ w).alloc (Nat.le_refl _) (.cells (InsnV.cells ⟨op, rd, r1, r2, imm, aq, rl, pred, succ⟩) 23)) (Nat.le_refl _)
  have hp1 := hp.later ((Below.refl _ w).alloc (Nat.le_refl _) (.cells (InsnV.cells ⟨op, rd, r1, r2, imm, aq, rl, pred, succ⟩) 23)) (Nat.le_refl _)
  obtain ⟨c0, c1, c2, c3, c4, c5, c6, c7, c8⟩ := hB.all9
  rw [hc2] at hK
  clear hc hc2
  go_enter Tryz.func29, Tryz.ntmps29
  go_wp2_with (first | (refine wpList_load_mid rfl 23 _ rfl w.heap.size 0 rfl (InsnV.cells ⟨op, rd, r1, r2, imm, aq, rl, pred, succ⟩).toList _ hB.c hu rfl hi ?_) | (go_at_call 27; refine (hK.out _ ht1).mono ?_; rintro e w1 ⟨rfl, hb1⟩; replace hB := hB.keep hb1; replace ht1 := ht1.later hb1 (Nat.le_refl _); replace hp1 := hp1.later hb1 (Nat.le_refl _); clear hb1 c0 c1 c2 c3 c4 c5 c6 c7 c8; obtain ⟨c0, c1, c2, c3, c4, c5, c6, c7, c8⟩ := hB.all9))
  go_ret2
  exact ⟨rfl, hB.bl⟩
set_option maxRecDepth 100000 in
set_option maxHeartbeats 8000000 in
theorem IText_1 (op rd r1 r2 imm : Int) (aq rl : Bool) (pred succ : Int) (w : World) (ht : Tabs w) (hp : P10 w) (hop : op ≤ 9223372036854775807) (hc : checkE ⟨op, rd, r1, r2, imm, aq, rl, pred, succ⟩ = 0) (hf : (opOf op).form = 1) (him : -9223372036854775808 ≤ imm ∧ imm ≤ 9223372036854775807) :
    Calls Tryz.prog 29 #[.agg #[.int .i64 op, .int .i64 rd, .int .i64 r1, .int .i64 r2, .int .i64 imm, .bool aq, .bool rl, .int .i64 pred, .int .i64 succ]] w fun e w' => e = .returned (.tuple #[.string ⟨(bodyT ⟨op, rd, r1, r2, imm, aq, rl, pred, succ⟩).toArray⟩, .int .i64 0]) ∧ Below w.heap.size w w' := by
  obtain ⟨g1, g2, g3, g4, g5, g6, g7, g8⟩ := ok_facts ⟨op, rd, r1, r2, imm, aq, rl, pred, succ⟩ hc
  simp only at g1 g2 g3 g4 g5 g6 g7 g8
  obtain ⟨rfl, rfl⟩ : aq = false ∧ rl = false := by
    rw [hf] at g6
    rcases g6 with g6 | g6 | g6
    · exact absurd g6 (by decide)
    · exact absurd g6 (by decide)
    · exact g6
  have hbody : bodyT ⟨op, rd, r1, r2, imm, false, false, pred, succ⟩ = (opOf op).name ++ [32] ++ regT rd ++ [44, 32] ++ signL imm := by
    rw [body_eq _ hc]
    show (opOf op).name ++ flagT false false ++ tailT _ = _
    unfold tailT flagT
    simp only [hf]
    simp [List.append_assoc]
  have hne : (opOf op).name ≠ [] := name_full op (by rw [hf]; decide)
  have n0 := (info_op op).2.2
  have n1 := regT_lenS rd g1.1 g1.2
  have n2 := regT_lenS r1 g2.1 g2.2
  have n3 := regT_lenS r2 g3.1 g3.2
  have n4 := signL_lenS imm
  have n5 := partT_lenS pred.toNat
  have n6 := partT_lenS succ.toNat
  have hB := XB.start w (InsnV.cells ⟨op, rd, r1, r2, imm, false, false, pred, succ⟩).toList 23
  rw [Array.toArray_toList] at hB
  have hu := Tryz.underlying23
  have hi : (Tryz.prog.info? 23).map (·.size) = some (InsnV.cells ⟨op, rd, r1, r2, imm, false, false, pred, succ⟩).toList.length := by kernel_rfl
  have hK := Lib.hid (fun W hW => Check_any ⟨op, rd, r1, r2, imm, false, false, pred, succ⟩ hop W hW)
  have hO := Lib.hid (fun W hW => of_any op hop W hW)
  have ht1 := ht.later ((Below.refl _ w).alloc (Nat.le_refl _) (.cells (InsnV.cells ⟨op, rd, r1, r2, imm, false, false, pred, succ⟩) 23)) (Nat.le_refl _)
  have hp1 := hp.later ((Below.refl _ w).alloc (Nat.le_refl _) (.cells (InsnV.cells ⟨op, rd, r1, r2, imm, false, false, pred, succ⟩) 23)) (Nat.le_refl _)
  obtain ⟨c0, c1, c2, c3, c4, c5, c6, c7, c8⟩ := hB.all9
  rw [hc] at hK
  rw [hf] at hO
  generalize (opOf op).name = nm at hO hbody hne n0
  generalize (opOf op).loads = o2 at hO
  generalize (opOf op).stores = o3 at hO
  generalize (opOf op).size = o4 at hO
  obtain ⟨r, hr⟩ : ∃ r, bodyT ⟨op, rd, r1, r2, imm, false, false, pred, succ⟩ = r := ⟨_, rfl⟩
  rw [hr] at hbody ⊢
  clear hr hc hf ht hp hop
  replace hbody := Lib.hid hbody
  replace hne := Lib.hid hne
  replace him := Lib.hid him
  have hg1 := Lib.hid g1
  have hg2 := Lib.hid g2
  have hg3 := Lib.hid g3
  have hg4 := Lib.hid g4
  have hg5 := Lib.hid g5
  clear g1 g2 g3 g4 g5 g6 g7 g8
  go_enter Tryz.func29, Tryz.ntmps29
  go_upto_region 6 with (first | (refine wpList_load_mid rfl 23 _ rfl w.heap.size 0 rfl (InsnV.cells ⟨op, rd, r1, r2, imm, false, false, pred, succ⟩).toList _ hB.c hu rfl hi ?_) | (go_at_call 27; refine (hK.out _ ht1).mono ?_; rintro e w1 ⟨rfl, hb1⟩; replace hB := hB.keep hb1; replace ht1 := ht1.later hb1 (Nat.le_refl _); replace hp1 := hp1.later hb1 (Nat.le_refl _); clear hb1 c0 c1 c2 c3 c4 c5 c6 c7 c8; obtain ⟨c0, c1, c2, c3, c4, c5, c6, c7, c8⟩ := hB.all9) | (go_at_call 75; refine (hO.out _ ht1).mono ?_; rintro e w2 ⟨rfl, hb2⟩; replace hB := hB.keep hb2; replace hp1 := hp1.later hb2 (Nat.le_refl _); clear hb2 ht1 c0 c1 c2 c3 c4 c5 c6 c7 c8; obtain ⟨c0, c1, c2, c3, c4, c5, c6, c7, c8⟩ := hB.all9))
  have hT0 := TX.start hB hp1 [.string ⟨nm.toArray⟩, .int .i64 1, .bool o2, .bool o3, .int .i64 o4] 106 115 rfl
  clear c0 c1 c2 c3 c4 c5 c6 c7 c8 hB hp1
  generalize hW9 : ((w2.alloc _).alloc _ : World) = W9 at hT0 ⊢
  clear hW9
  generalize w2.heap.size = q at hT0 ⊢
  generalize hb9 : q + 1 = b at hT0 ⊢
  clear hb9
  replace hT0 := hT0.keep (Below.refl W9.heap.size W9).drew
  refine wp_region_held_drew (S := fun W => ∃ l, TX w (InsnV.cells ⟨op, rd, r1, r2, imm, false, false, pred, succ⟩).toList [.string ⟨nm.toArray⟩, .int .i64 1, .bool o2, .bool o3, .int .i64 o4] q b l W) (by kernel_rfl) ⟨_, hT0⟩ (fun hHeld => ?_)
  refine tkS 0 (.pointer (some ⟨b, 0, none⟩)) hHeld ?_
  try simp only [Act.put, List.getElem_toArray, List.getElem_cons_zero, List.setIfInBounds_toArray, List.set_cons_zero, List.set_cons_succ]
  generalize World.drew _ = W8 at hHeld hT0 ⊢
  refine tkS 1 (.pointer (some ⟨b, 0, none⟩)) hHeld ?_
  try simp only [Act.put, List.getElem_toArray, List.getElem_cons_succ, List.getElem_cons_zero, List.setIfInBounds_toArray, List.set_cons_zero, List.set_cons_succ]
  refine tkS 2 (.pointer (some ⟨b, 0, none⟩)) hHeld ?_
  try simp only [Act.put, List.getElem_toArray, List.getElem_cons_succ, List.getElem_cons_zero, List.setIfInBounds_toArray, List.set_cons_zero, List.set_cons_succ]
  refine tkS 3 (.pointer (some ⟨q, 0, none⟩)) hHeld ?_
  try simp only [Act.put, List.getElem_toArray, List.getElem_cons_succ, List.getElem_cons_zero, List.setIfInBounds_toArray, List.set_cons_zero, List.set_cons_succ]
  refine wpAnyH_take (i := 4) (v := .string ⟨nm.toArray⟩) rfl (by kernel_rfl) (by kernel_rfl) (by kernel_rfl) (fun _ _ _ h => h) (Or.inl ⟨by rfl, fun W hS => by (have k : W.cell? ⟨q, 0, none⟩ = some (.string ⟨nm.toArray⟩) := hS.elim fun _ h => h.op 0 _ rfl); go_simp⟩) hHeld ?_
  try simp only [Act.put, List.getElem_toArray, List.getElem_cons_succ, List.getElem_cons_zero, List.setIfInBounds_toArray, List.set_cons_zero, List.set_cons_succ]
  refine wpAnyH_ready (rs := [5]) (by kernel_rfl) (by simp) (AllReadyH.cons rfl (fun K hK2 => ?_) AllReadyH.nil)
  rw [if_pos (by rfl)]
  simp only [List.getElem_toArray, List.getElem_cons_succ, List.getElem_cons_zero]
  go_wp2_with (go_at_call 84; refine (hT0.strL nm (by simp) (by omega)).mono ?_; rintro e w4 ⟨⟨v4, rfl⟩, hT⟩)
  refine hK2.out _ _ (⟨_, hT⟩) (fun hHeld2 => ?_)
  clear hK2 K hHeld hHeld2 hT0
  try simp only [Act.put, List.getElem_toArray, List.getElem_cons_succ, List.getElem_cons_zero, List.setIfInBounds_toArray, List.set_cons_zero, List.set_cons_succ]
  refine wpAnyH_done (by kernel_rfl) ?_ _
  rw [List.nil_append] at hT
  obtain ⟨c0, c1, c2, c3, c4, c5, c6, c7, c8, d1⟩ := hT.all10
  go_wp2_with (first | (go_at_call 50; refine (hT.byte 32 (by (try simp only [List.length_append, List.length_cons, List.length_nil]); omega)).mono ?_; rintro e w5 ⟨⟨v5, rfl⟩, hT2⟩; replace hT := hT2; clear c0 c1 c2 c3 c4 c5 c6 c7 c8 d1; obtain ⟨c0, c1, c2, c3, c4, c5, c6, c7, c8, d1⟩ := hT.all10) | (go_at_call 85; refine (hT.regs1 rd hg1.out (by (try simp only [List.length_append, List.length_cons, List.length_nil]); omega) 3 rfl).mono ?_; rintro e w5 ⟨rfl, hT2⟩; replace hT := hT2; clear c0 c1 c2 c3 c4 c5 c6 c7 c8 d1; obtain ⟨c0, c1, c2, c3, c4, c5, c6, c7, c8, d1⟩ := hT.all10) | (go_at_call 86; refine (hT.comma (by (try simp only [List.length_append, List.length_cons, List.length_nil]); omega)).mono ?_; rintro e w5 ⟨rfl, hT2⟩; replace hT := hT2; clear c0 c1 c2 c3 c4 c5 c6 c7 c8 d1; obtain ⟨c0, c1, c2, c3, c4, c5, c6, c7, c8, d1⟩ := hT.all10) | (go_at_call 87; refine (hT.num imm him.out.1 him.out.2 (by (try simp only [List.length_append, List.length_cons, List.length_nil]); omega)).mono ?_; rintro e w5 ⟨rfl, hT2⟩; replace hT := hT2; clear c0 c1 c2 c3 c4 c5 c6 c7 c8 d1; obtain ⟨c0, c1, c2, c3, c4, c5, c6, c7, c8, d1⟩ := hT.all10) | (go_at_call 51; refine (hT.string (fun e => hne.out (by have h := congrArg List.length e; (try simp only [List.length_append, List.length_nil] at h); exact List.length_eq_zero_iff.1 (by omega)))).mono ?_; rintro e w9 ⟨rfl, hbl⟩))
  go_ret2
  have hb2 := hbody.out
  try simp only [List.append_assoc, List.cons_append, List.nil_append] at hb2
  exact ⟨by rw [hb2]; rfl, hbl⟩
set_option maxRecDepth 100000 in
set_option maxHeartbeats 8000000 in
theorem IText_2 (op rd r1 r2 imm : Int) (aq rl : Bool) (pred succ : Int) (w : World) (ht : Tabs w) (hp : P10 w) (hop : op ≤ 9223372036854775807) (hc : checkE ⟨op, rd, r1, r2, imm, aq, rl, pred, succ⟩ = 0) (hf : (opOf op).form = 2) (him : -9223372036854775808 ≤ imm ∧ imm ≤ 9223372036854775807) :
    Calls Tryz.prog 29 #[.agg #[.int .i64 op, .int .i64 rd, .int .i64 r1, .int .i64 r2, .int .i64 imm, .bool aq, .bool rl, .int .i64 pred, .int .i64 succ]] w fun e w' => e = .returned (.tuple #[.string ⟨(bodyT ⟨op, rd, r1, r2, imm, aq, rl, pred, succ⟩).toArray⟩, .int .i64 0]) ∧ Below w.heap.size w w' := by
  obtain ⟨g1, g2, g3, g4, g5, g6, g7, g8⟩ := ok_facts ⟨op, rd, r1, r2, imm, aq, rl, pred, succ⟩ hc
  simp only at g1 g2 g3 g4 g5 g6 g7 g8
  obtain ⟨rfl, rfl⟩ : aq = false ∧ rl = false := by
    rw [hf] at g6
    rcases g6 with g6 | g6 | g6
    · exact absurd g6 (by decide)
    · exact absurd g6 (by decide)
    · exact g6
  have hbody : bodyT ⟨op, rd, r1, r2, imm, false, false, pred, succ⟩ = (opOf op).name ++ [32] ++ regT rd ++ [44, 32] ++ signL imm := by
    rw [body_eq _ hc]
    show (opOf op).name ++ flagT false false ++ tailT _ = _
    unfold tailT flagT
    simp only [hf]
    simp [List.append_assoc]
  have hne : (opOf op).name ≠ [] := name_full op (by rw [hf]; decide)
  have n0 := (info_op op).2.2
  have n1 := regT_lenS rd g1.1 g1.2
  have n2 := regT_lenS r1 g2.1 g2.2
  have n3 := regT_lenS r2 g3.1 g3.2
  have n4 := signL_lenS imm
  have n5 := partT_lenS pred.toNat
  have n6 := partT_lenS succ.toNat
  have hB := XB.start w (InsnV.cells ⟨op, rd, r1, r2, imm, false, false, pred, succ⟩).toList 23
  rw [Array.toArray_toList] at hB
  have hu := Tryz.underlying23
  have hi : (Tryz.prog.info? 23).map (·.size) = some (InsnV.cells ⟨op, rd, r1, r2, imm, false, false, pred, succ⟩).toList.length := by kernel_rfl
  have hK := Lib.hid (fun W hW => Check_any ⟨op, rd, r1, r2, imm, false, false, pred, succ⟩ hop W hW)
  have hO := Lib.hid (fun W hW => of_any op hop W hW)
  have ht1 := ht.later ((Below.refl _ w).alloc (Nat.le_refl _) (.cells (InsnV.cells ⟨op, rd, r1, r2, imm, false, false, pred, succ⟩) 23)) (Nat.le_refl _)
  have hp1 := hp.later ((Below.refl _ w).alloc (Nat.le_refl _) (.cells (InsnV.cells ⟨op, rd, r1, r2, imm, false, false, pred, succ⟩) 23)) (Nat.le_refl _)
  obtain ⟨c0, c1, c2, c3, c4, c5, c6, c7, c8⟩ := hB.all9
  rw [hc] at hK
  rw [hf] at hO
  generalize (opOf op).name = nm at hO hbody hne n0
  generalize (opOf op).loads = o2 at hO
  generalize (opOf op).stores = o3 at hO
  generalize (opOf op).size = o4 at hO
  obtain ⟨r, hr⟩ : ∃ r, bodyT ⟨op, rd, r1, r2, imm, false, false, pred, succ⟩ = r := ⟨_, rfl⟩
  rw [hr] at hbody ⊢
  clear hr hc hf ht hp hop
  replace hbody := Lib.hid hbody
  replace hne := Lib.hid hne
  replace him := Lib.hid him
  have hg1 := Lib.hid g1
  have hg2 := Lib.hid g2
  have hg3 := Lib.hid g3
  have hg4 := Lib.hid g4
  have hg5 := Lib.hid g5
  clear g1 g2 g3 g4 g5 g6 g7 g8
  go_enter Tryz.func29, Tryz.ntmps29
  go_upto_region 6 with (first | (refine wpList_load_mid rfl 23 _ rfl w.heap.size 0 rfl (InsnV.cells ⟨op, rd, r1, r2, imm, false, false, pred, succ⟩).toList _ hB.c hu rfl hi ?_) | (go_at_call 27; refine (hK.out _ ht1).mono ?_; rintro e w1 ⟨rfl, hb1⟩; replace hB := hB.keep hb1; replace ht1 := ht1.later hb1 (Nat.le_refl _); replace hp1 := hp1.later hb1 (Nat.le_refl _); clear hb1 c0 c1 c2 c3 c4 c5 c6 c7 c8; obtain ⟨c0, c1, c2, c3, c4, c5, c6, c7, c8⟩ := hB.all9) | (go_at_call 75; refine (hO.out _ ht1).mono ?_; rintro e w2 ⟨rfl, hb2⟩; replace hB := hB.keep hb2; replace hp1 := hp1.later hb2 (Nat.le_refl _); clear hb2 ht1 c0 c1 c2 c3 c4 c5 c6 c7 c8; obtain ⟨c0, c1, c2, c3, c4, c5, c6, c7, c8⟩ := hB.all9))
  have hT0 := TX.start hB hp1 [.string ⟨nm.toArray⟩, .int .i64 2, .bool o2, .bool o3, .int .i64 o4] 106 115 rfl
  clear c0 c1 c2 c3 c4 c5 c6 c7 c8 hB hp1
  generalize hW9 : ((w2.alloc _).alloc _ : World) = W9 at hT0 ⊢
  clear hW9
  generalize w2.heap.size = q at hT0 ⊢
  generalize hb9 : q + 1 = b at hT0 ⊢
  clear hb9
  replace hT0 := hT0.keep (Below.refl W9.heap.size W9).drew
  refine wp_region_held_drew (S := fun W => ∃ l, TX w (InsnV.cells ⟨op, rd, r1, r2, imm, false, false, pred, succ⟩).toList [.string ⟨nm.toArray⟩, .int .i64 2, .bool o2, .bool o3, .int .i64 o4] q b l W) (by kernel_rfl) ⟨_, hT0⟩ (fun hHeld => ?_)
  refine tkS 0 (.pointer (some ⟨b, 0, none⟩)) hHeld ?_
  try simp only [Act.put, List.getElem_toArray, List.getElem_cons_zero, List.setIfInBounds_toArray, List.set_cons_zero, List.set_cons_succ]
  generalize World.drew _ = W8 at hHeld hT0 ⊢
  refine tkS 1 (.pointer (some ⟨b, 0, none⟩)) hHeld ?_
  try simp only [Act.put, List.getElem_toArray, List.getElem_cons_succ, List.getElem_cons_zero, List.setIfInBounds_toArray, List.set_cons_zero, List.set_cons_succ]
  refine tkS 2 (.pointer (some ⟨b, 0, none⟩)) hHeld ?_
  try simp only [Act.put, List.getElem_toArray, List.getElem_cons_succ, List.getElem_cons_zero, List.setIfInBounds_toArray, List.set_cons_zero, List.set_cons_succ]
  refine tkS 3 (.pointer (some ⟨q, 0, none⟩)) hHeld ?_
  try simp only [Act.put, List.getElem_toArray, List.getElem_cons_succ, List.getElem_cons_zero, List.setIfInBounds_toArray, List.set_cons_zero, List.set_cons_succ]
  refine wpAnyH_take (i := 4) (v := .string ⟨nm.toArray⟩) rfl (by kernel_rfl) (by kernel_rfl) (by kernel_rfl) (fun _ _ _ h => h) (Or.inl ⟨by rfl, fun W hS => by (have k : W.cell? ⟨q, 0, none⟩ = some (.string ⟨nm.toArray⟩) := hS.elim fun _ h => h.op 0 _ rfl); go_simp⟩) hHeld ?_
  try simp only [Act.put, List.getElem_toArray, List.getElem_cons_succ, List.getElem_cons_zero, List.setIfInBounds_toArray, List.set_cons_zero, List.set_cons_succ]
  refine wpAnyH_ready (rs := [5]) (by kernel_rfl) (by simp) (AllReadyH.cons rfl (fun K hK2 => ?_) AllReadyH.nil)
  rw [if_pos (by rfl)]
  simp only [List.getElem_toArray, List.getElem_cons_succ, List.getElem_cons_zero]
  go_wp2_with (go_at_call 84; refine (hT0.strL nm (by simp) (by omega)).mono ?_; rintro e w4 ⟨⟨v4, rfl⟩, hT⟩)
  refine hK2.out _ _ (⟨_, hT⟩) (fun hHeld2 => ?_)
  clear hK2 K hHeld hHeld2 hT0
  try simp only [Act.put, List.getElem_toArray, List.getElem_cons_succ, List.getElem_cons_zero, List.setIfInBounds_toArray, List.set_cons_zero, List.set_cons_succ]
  refine wpAnyH_done (by kernel_rfl) ?_ _
  rw [List.nil_append] at hT
  obtain ⟨c0, c1, c2, c3, c4, c5, c6, c7, c8, d1⟩ := hT.all10
  go_wp2_with (first | (go_at_call 50; refine (hT.byte 32 (by (try simp only [List.length_append, List.length_cons, List.length_nil]); omega)).mono ?_; rintro e w5 ⟨⟨v5, rfl⟩, hT2⟩; replace hT := hT2; clear c0 c1 c2 c3 c4 c5 c6 c7 c8 d1; obtain ⟨c0, c1, c2, c3, c4, c5, c6, c7, c8, d1⟩ := hT.all10) | (go_at_call 85; refine (hT.regs1 rd hg1.out (by (try simp only [List.length_append, List.length_cons, List.length_nil]); omega) 3 rfl).mono ?_; rintro e w5 ⟨rfl, hT2⟩; replace hT := hT2; clear c0 c1 c2 c3 c4 c5 c6 c7 c8 d1; obtain ⟨c0, c1, c2, c3, c4, c5, c6, c7, c8, d1⟩ := hT.all10) | (go_at_call 86; refine (hT.comma (by (try simp only [List.length_append, List.length_cons, List.length_nil]); omega)).mono ?_; rintro e w5 ⟨rfl, hT2⟩; replace hT := hT2; clear c0 c1 c2 c3 c4 c5 c6 c7 c8 d1; obtain ⟨c0, c1, c2, c3, c4, c5, c6, c7, c8, d1⟩ := hT.all10) | (go_at_call 87; refine (hT.num imm him.out.1 him.out.2 (by (try simp only [List.length_append, List.length_cons, List.length_nil]); omega)).mono ?_; rintro e w5 ⟨rfl, hT2⟩; replace hT := hT2; clear c0 c1 c2 c3 c4 c5 c6 c7 c8 d1; obtain ⟨c0, c1, c2, c3, c4, c5, c6, c7, c8, d1⟩ := hT.all10) | (go_at_call 51; refine (hT.string (fun e => hne.out (by have h := congrArg List.length e; (try simp only [List.length_append, List.length_nil] at h); exact List.length_eq_zero_iff.1 (by omega)))).mono ?_; rintro e w9 ⟨rfl, hbl⟩))
  go_ret2
  have hb2 := hbody.out
  try simp only [List.append_assoc, List.cons_append, List.nil_append] at hb2
  exact ⟨by rw [hb2]; rfl, hbl⟩
set_option maxRecDepth 100000 in
set_option maxHeartbeats 8000000 in
theorem IText_3j (op rd r1 r2 imm : Int) (aq rl : Bool) (pred succ : Int) (w : World) (ht : Tabs w) (hp : P10 w) (hop : op ≤ 9223372036854775807) (hc : checkE ⟨op, rd, r1, r2, imm, aq, rl, pred, succ⟩ = 0) (hf : (opOf op).form = 3) (him : -9223372036854775808 ≤ imm ∧ imm ≤ 9223372036854775807) (hj : op = 4) :
    Calls Tryz.prog 29 #[.agg #[.int .i64 op, .int .i64 rd, .int .i64 r1, .int .i64 r2, .int .i64 imm, .bool aq, .bool rl, .int .i64 pred, .int .i64 succ]] w fun e w' => e = .returned (.tuple #[.string ⟨(bodyT ⟨op, rd, r1, r2, imm, aq, rl, pred, succ⟩).toArray⟩, .int .i64 0]) ∧ Below w.heap.size w w' := by
  obtain ⟨g1, g2, g3, g4, g5, g6, g7, g8⟩ := ok_facts ⟨op, rd, r1, r2, imm, aq, rl, pred, succ⟩ hc
  simp only at g1 g2 g3 g4 g5 g6 g7 g8
  obtain ⟨rfl, rfl⟩ : aq = false ∧ rl = false := by
    rw [hf] at g6
    rcases g6 with g6 | g6 | g6
    · exact absurd g6 (by decide)
    · exact absurd g6 (by decide)
    · exact g6
  have hbody : bodyT ⟨op, rd, r1, r2, imm, false, false, pred, succ⟩ = (opOf op).name ++ [32] ++ regT rd ++ [44, 32] ++ signL imm ++ [40] ++ regT r1 ++ [41] := by
    rw [body_eq _ hc]
    show (opOf op).name ++ flagT false false ++ tailT _ = _
    unfold tailT flagT
    simp only [hf, if_pos hj]
    simp [List.append_assoc]
  have hne : (opOf op).name ≠ [] := name_full op (by rw [hf]; decide)
  have n0 := (info_op op).2.2
  have n1 := regT_lenS rd g1.1 g1.2
  have n2 := regT_lenS r1 g2.1 g2.2
  have n3 := regT_lenS r2 g3.1 g3.2
  have n4 := signL_lenS imm
  have n5 := partT_lenS pred.toNat
  have n6 := partT_lenS succ.toNat
  have hB := XB.start w (InsnV.cells ⟨op, rd, r1, r2, imm, false, false, pred, succ⟩).toList 23
  rw [Array.toArray_toList] at hB
  have hu := Tryz.underlying23
  have hi : (Tryz.prog.info? 23).map (·.size) = some (InsnV.cells ⟨op, rd, r1, r2, imm, false, false, pred, succ⟩).toList.length := by kernel_rfl
  have hK := Lib.hid (fun W hW => Check_any ⟨op, rd, r1, r2, imm, false, false, pred, succ⟩ hop W hW)
  have hO := Lib.hid (fun W hW => of_any op hop W hW)
  have ht1 := ht.later ((Below.refl _ w).alloc (Nat.le_refl _) (.cells (InsnV.cells ⟨op, rd, r1, r2, imm, false, false, pred, succ⟩) 23)) (Nat.le_refl _)
  have hp1 := hp.later ((Below.refl _ w).alloc (Nat.le_refl _) (.cells (InsnV.cells ⟨op, rd, r1, r2, imm, false, false, pred, succ⟩) 23)) (Nat.le_refl _)
  obtain ⟨c0, c1, c2, c3, c4, c5, c6, c7, c8⟩ := hB.all9
  rw [hc] at hK
  rw [hf] at hO
  generalize (opOf op).name = nm at hO hbody hne n0
  generalize (opOf op).loads = o2 at hO
  generalize (opOf op).stores = o3 at hO
  generalize (opOf op).size = o4 at hO
  obtain ⟨r, hr⟩ : ∃ r, bodyT ⟨op, rd, r1, r2, imm, false, false, pred, succ⟩ = r := ⟨_, rfl⟩
  rw [hr] at hbody ⊢
  clear hr hc hf ht hp hop
  replace hbody := Lib.hid hbody
  replace hne := Lib.hid hne
  replace him := Lib.hid him
  have hg1 := Lib.hid g1
  have hg2 := Lib.hid g2
  have hg3 := Lib.hid g3
  have hg4 := Lib.hid g4
  have hg5 := Lib.hid g5
  clear g1 g2 g3 g4 g5 g6 g7 g8
  have tj : (op == 4) = true := by simpa using hj
  clear hj
  go_enter Tryz.func29, Tryz.ntmps29
  go_upto_region 6 with (first | (refine wpList_load_mid rfl 23 _ rfl w.heap.size 0 rfl (InsnV.cells ⟨op, rd, r1, r2, imm, false, false, pred, succ⟩).toList _ hB.c hu rfl hi ?_) | (go_at_call 27; refine (hK.out _ ht1).mono ?_; rintro e w1 ⟨rfl, hb1⟩; replace hB := hB.keep hb1; replace ht1 := ht1.later hb1 (Nat.le_refl _); replace hp1 := hp1.later hb1 (Nat.le_refl _); clear hb1 c0 c1 c2 c3 c4 c5 c6 c7 c8; obtain ⟨c0, c1, c2, c3, c4, c5, c6, c7, c8⟩ := hB.all9) | (go_at_call 75; refine (hO.out _ ht1).mono ?_; rintro e w2 ⟨rfl, hb2⟩; replace hB := hB.keep hb2; replace hp1 := hp1.later hb2 (Nat.le_refl _); clear hb2 ht1 c0 c1 c2 c3 c4 c5 c6 c7 c8; obtain ⟨c0, c1, c2, c3, c4, c5, c6, c7, c8⟩ := hB.all9))
  have hT0 := TX.start hB hp1 [.string ⟨nm.toArray⟩, .int .i64 3, .bool o2, .bool o3, .int .i64 o4] 106 115 rfl
  clear c0 c1 c2 c3 c4 c5 c6 c7 c8 hB hp1
  generalize hW9 : ((w2.alloc _).alloc _ : World) = W9 at hT0 ⊢
  clear hW9
  generalize w2.heap.size = q at hT0 ⊢
  generalize hb9 : q + 1 = b at hT0 ⊢
  clear hb9
  replace hT0 := hT0.keep (Below.refl W9.heap.size W9).drew
  refine wp_region_held_drew (S := fun W => ∃ l, TX w (InsnV.cells ⟨op, rd, r1, r2, imm, false, false, pred, succ⟩).toList [.string ⟨nm.toArray⟩, .int .i64 3, .bool o2, .bool o3, .int .i64 o4] q b l W) (by kernel_rfl) ⟨_, hT0⟩ (fun hHeld => ?_)
  refine tkS 0 (.pointer (some ⟨b, 0, none⟩)) hHeld ?_
  try simp only [Act.put, List.getElem_toArray, List.getElem_cons_zero, List.setIfInBounds_toArray, List.set_cons_zero, List.set_cons_succ]
  generalize World.drew _ = W8 at hHeld hT0 ⊢
  refine tkS 1 (.pointer (some ⟨b, 0, none⟩)) hHeld ?_
  try simp only [Act.put, List.getElem_toArray, List.getElem_cons_succ, List.getElem_cons_zero, List.setIfInBounds_toArray, List.set_cons_zero, List.set_cons_succ]
  refine tkS 2 (.pointer (some ⟨b, 0, none⟩)) hHeld ?_
  try simp only [Act.put, List.getElem_toArray, List.getElem_cons_succ, List.getElem_cons_zero, List.setIfInBounds_toArray, List.set_cons_zero, List.set_cons_succ]
  refine tkS 3 (.pointer (some ⟨q, 0, none⟩)) hHeld ?_
  try simp only [Act.put, List.getElem_toArray, List.getElem_cons_succ, List.getElem_cons_zero, List.setIfInBounds_toArray, List.set_cons_zero, List.set_cons_succ]
  refine wpAnyH_take (i := 4) (v := .string ⟨nm.toArray⟩) rfl (by kernel_rfl) (by kernel_rfl) (by kernel_rfl) (fun _ _ _ h => h) (Or.inl ⟨by rfl, fun W hS => by (have k : W.cell? ⟨q, 0, none⟩ = some (.string ⟨nm.toArray⟩) := hS.elim fun _ h => h.op 0 _ rfl); go_simp⟩) hHeld ?_
  try simp only [Act.put, List.getElem_toArray, List.getElem_cons_succ, List.getElem_cons_zero, List.setIfInBounds_toArray, List.set_cons_zero, List.set_cons_succ]
  refine wpAnyH_ready (rs := [5]) (by kernel_rfl) (by simp) (AllReadyH.cons rfl (fun K hK2 => ?_) AllReadyH.nil)
  rw [if_pos (by rfl)]
  simp only [List.getElem_toArray, List.getElem_cons_succ, List.getElem_cons_zero]
  go_wp2_with (go_at_call 84; refine (hT0.strL nm (by simp) (by omega)).mono ?_; rintro e w4 ⟨⟨v4, rfl⟩, hT⟩)
  refine hK2.out _ _ (⟨_, hT⟩) (fun hHeld2 => ?_)
  clear hK2 K hHeld hHeld2 hT0
  try simp only [Act.put, List.getElem_toArray, List.getElem_cons_succ, List.getElem_cons_zero, List.setIfInBounds_toArray, List.set_cons_zero, List.set_cons_succ]
  refine wpAnyH_done (by kernel_rfl) ?_ _
  rw [List.nil_append] at hT
  obtain ⟨c0, c1, c2, c3, c4, c5, c6, c7, c8, d1⟩ := hT.all10
  go_wp2_with (first | (go_at_call 50; refine (hT.byte 32 (by (try simp only [List.length_append, List.length_cons, List.length_nil]); omega)).mono ?_; rintro e w5 ⟨⟨v5, rfl⟩, hT2⟩; replace hT := hT2; clear c0 c1 c2 c3 c4 c5 c6 c7 c8 d1; obtain ⟨c0, c1, c2, c3, c4, c5, c6, c7, c8, d1⟩ := hT.all10) | (go_at_call 85; refine (hT.regs1 rd hg1.out (by (try simp only [List.length_append, List.length_cons, List.length_nil]); omega) 3 rfl).mono ?_; rintro e w5 ⟨rfl, hT2⟩; replace hT := hT2; clear c0 c1 c2 c3 c4 c5 c6 c7 c8 d1; obtain ⟨c0, c1, c2, c3, c4, c5, c6, c7, c8, d1⟩ := hT.all10) | (go_at_call 86; refine (hT.comma (by (try simp only [List.length_append, List.length_cons, List.length_nil]); omega)).mono ?_; rintro e w5 ⟨rfl, hT2⟩; replace hT := hT2; clear c0 c1 c2 c3 c4 c5 c6 c7 c8 d1; obtain ⟨c0, c1, c2, c3, c4, c5, c6, c7, c8, d1⟩ := hT.all10) | (go_at_call 87; refine (hT.num imm him.out.1 him.out.2 (by (try simp only [List.length_append, List.length_cons, List.length_nil]); omega)).mono ?_; rintro e w5 ⟨rfl, hT2⟩; replace hT := hT2; clear c0 c1 c2 c3 c4 c5 c6 c7 c8 d1; obtain ⟨c0, c1, c2, c3, c4, c5, c6, c7, c8, d1⟩ := hT.all10) | (go_at_call 88; refine (hT.att r1 hg2.out.1 hg2.out.2 (by (try simp only [List.length_append, List.length_cons, List.length_nil]); omega)).mono ?_; rintro e w5 ⟨rfl, hT2⟩; replace hT := hT2; clear c0 c1 c2 c3 c4 c5 c6 c7 c8 d1; obtain ⟨c0, c1, c2, c3, c4, c5, c6, c7, c8, d1⟩ := hT.all10) | (go_at_call 51; refine (hT.string (fun e => hne.out (by have h := congrArg List.length e; (try simp only [List.length_append, List.length_nil] at h); exact List.length_eq_zero_iff.1 (by omega)))).mono ?_; rintro e w9 ⟨rfl, hbl⟩))
  go_ret2
  have hb2 := hbody.out
  try simp only [List.append_assoc, List.cons_append, List.nil_append] at hb2
  exact ⟨by rw [hb2]; rfl, hbl⟩
set_option maxRecDepth 100000 in
set_option maxHeartbeats 8000000 in
theorem IText_3n (op rd r1 r2 imm : Int) (aq rl : Bool) (pred succ : Int) (w : World) (ht : Tabs w) (hp : P10 w) (hop : op ≤ 9223372036854775807) (hc : checkE ⟨op, rd, r1, r2, imm, aq, rl, pred, succ⟩ = 0) (hf : (opOf op).form = 3) (him : -9223372036854775808 ≤ imm ∧ imm ≤ 9223372036854775807) (hj : op ≠ 4) :
    Calls Tryz.prog 29 #[.agg #[.int .i64 op, .int .i64 rd, .int .i64 r1, .int .i64 r2, .int .i64 imm, .bool aq, .bool rl, .int .i64 pred, .int .i64 succ]] w fun e w' => e = .returned (.tuple #[.string ⟨(bodyT ⟨op, rd, r1, r2, imm, aq, rl, pred, succ⟩).toArray⟩, .int .i64 0]) ∧ Below w.heap.size w w' := by
  obtain ⟨g1, g2, g3, g4, g5, g6, g7, g8⟩ := ok_facts ⟨op, rd, r1, r2, imm, aq, rl, pred, succ⟩ hc
  simp only at g1 g2 g3 g4 g5 g6 g7 g8
  obtain ⟨rfl, rfl⟩ : aq = false ∧ rl = false := by
    rw [hf] at g6
    rcases g6 with g6 | g6 | g6
    · exact absurd g6 (by decide)
    · exact absurd g6 (by decide)
    · exact g6
  have hbody : bodyT ⟨op, rd, r1, r2, imm, false, false, pred, succ⟩ = (opOf op).name ++ [32] ++ regT rd ++ [44, 32] ++ regT r1 ++ [44, 32] ++ signL imm := by
    rw [body_eq _ hc]
    show (opOf op).name ++ flagT false false ++ tailT _ = _
    unfold tailT flagT
    simp only [hf, if_neg hj]
    simp [List.append_assoc]
  have hne : (opOf op).name ≠ [] := name_full op (by rw [hf]; decide)
  have n0 := (info_op op).2.2
  have n1 := regT_lenS rd g1.1 g1.2
  have n2 := regT_lenS r1 g2.1 g2.2
  have n3 := regT_lenS r2 g3.1 g3.2
  have n4 := signL_lenS imm
  have n5 := partT_lenS pred.toNat
  have n6 := partT_lenS succ.toNat
  have hB := XB.start w (InsnV.cells ⟨op, rd, r1, r2, imm, false, false, pred, succ⟩).toList 23
  rw [Array.toArray_toList] at hB
  have hu := Tryz.underlying23
  have hi : (Tryz.prog.info? 23).map (·.size) = some (InsnV.cells ⟨op, rd, r1, r2, imm, false, false, pred, succ⟩).toList.length := by kernel_rfl
  have hK := Lib.hid (fun W hW => Check_any ⟨op, rd, r1, r2, imm, false, false, pred, succ⟩ hop W hW)
  have hO := Lib.hid (fun W hW => of_any op hop W hW)
  have ht1 := ht.later ((Below.refl _ w).alloc (Nat.le_refl _) (.cells (InsnV.cells ⟨op, rd, r1, r2, imm, false, false, pred, succ⟩) 23)) (Nat.le_refl _)
  have hp1 := hp.later ((Below.refl _ w).alloc (Nat.le_refl _) (.cells (InsnV.cells ⟨op, rd, r1, r2, imm, false, false, pred, succ⟩) 23)) (Nat.le_refl _)
  obtain ⟨c0, c1, c2, c3, c4, c5, c6, c7, c8⟩ := hB.all9
  rw [hc] at hK
  rw [hf] at hO
  generalize (opOf op).name = nm at hO hbody hne n0
  generalize (opOf op).loads = o2 at hO
  generalize (opOf op).stores = o3 at hO
  generalize (opOf op).size = o4 at hO
  obtain ⟨r, hr⟩ : ∃ r, bodyT ⟨op, rd, r1, r2, imm, false, false, pred, succ⟩ = r := ⟨_, rfl⟩
  rw [hr] at hbody ⊢
  clear hr hc hf ht hp hop
  replace hbody := Lib.hid hbody
  replace hne := Lib.hid hne
  replace him := Lib.hid him
  have hg1 := Lib.hid g1
  have hg2 := Lib.hid g2
  have hg3 := Lib.hid g3
  have hg4 := Lib.hid g4
  have hg5 := Lib.hid g5
  clear g1 g2 g3 g4 g5 g6 g7 g8
  have tj : (op == 4) = false := by simpa using hj
  clear hj
  go_enter Tryz.func29, Tryz.ntmps29
  go_upto_region 6 with (first | (refine wpList_load_mid rfl 23 _ rfl w.heap.size 0 rfl (InsnV.cells ⟨op, rd, r1, r2, imm, false, false, pred, succ⟩).toList _ hB.c hu rfl hi ?_) | (go_at_call 27; refine (hK.out _ ht1).mono ?_; rintro e w1 ⟨rfl, hb1⟩; replace hB := hB.keep hb1; replace ht1 := ht1.later hb1 (Nat.le_refl _); replace hp1 := hp1.later hb1 (Nat.le_refl _); clear hb1 c0 c1 c2 c3 c4 c5 c6 c7 c8; obtain ⟨c0, c1, c2, c3, c4, c5, c6, c7, c8⟩ := hB.all9) | (go_at_call 75; refine (hO.out _ ht1).mono ?_; rintro e w2 ⟨rfl, hb2⟩; replace hB := hB.keep hb2; replace hp1 := hp1.later hb2 (Nat.le_refl _); clear hb2 ht1 c0 c1 c2 c3 c4 c5 c6 c7 c8; obtain ⟨c0, c1, c2, c3, c4, c5, c6, c7, c8⟩ := hB.all9))
  have hT0 := TX.start hB hp1 [.string ⟨nm.toArray⟩, .int .i64 3, .bool o2, .bool o3, .int .i64 o4] 106 115 rfl
  clear c0 c1 c2 c3 c4 c5 c6 c7 c8 hB hp1
  generalize hW9 : ((w2.alloc _).alloc _ : World) = W9 at hT0 ⊢
  clear hW9
  generalize w2.heap.size = q at hT0 ⊢
  generalize hb9 : q + 1 = b at hT0 ⊢
  clear hb9
  replace hT0 := hT0.keep (Below.refl W9.heap.size W9).drew
  refine wp_region_held_drew (S := fun W => ∃ l, TX w (InsnV.cells ⟨op, rd, r1, r2, imm, false, false, pred, succ⟩).toList [.string ⟨nm.toArray⟩, .int .i64 3, .bool o2, .bool o3, .int .i64 o4] q b l W) (by kernel_rfl) ⟨_, hT0⟩ (fun hHeld => ?_)
  refine tkS 0 (.pointer (some ⟨b, 0, none⟩)) hHeld ?_
  try simp only [Act.put, List.getElem_toArray, List.getElem_cons_zero, List.setIfInBounds_toArray, List.set_cons_zero, List.set_cons_succ]
  generalize World.drew _ = W8 at hHeld hT0 ⊢
  refine tkS 1 (.pointer (some ⟨b, 0, none⟩)) hHeld ?_
  try simp only [Act.put, List.getElem_toArray, List.getElem_cons_succ, List.getElem_cons_zero, List.setIfInBounds_toArray, List.set_cons_zero, List.set_cons_succ]
  refine tkS 2 (.pointer (some ⟨b, 0, none⟩)) hHeld ?_
  try simp only [Act.put, List.getElem_toArray, List.getElem_cons_succ, List.getElem_cons_zero, List.setIfInBounds_toArray, List.set_cons_zero, List.set_cons_succ]
  refine tkS 3 (.pointer (some ⟨q, 0, none⟩)) hHeld ?_
  try simp only [Act.put, List.getElem_toArray, List.getElem_cons_succ, List.getElem_cons_zero, List.setIfInBounds_toArray, List.set_cons_zero, List.set_cons_succ]
  refine wpAnyH_take (i := 4) (v := .string ⟨nm.toArray⟩) rfl (by kernel_rfl) (by kernel_rfl) (by kernel_rfl) (fun _ _ _ h => h) (Or.inl ⟨by rfl, fun W hS => by (have k : W.cell? ⟨q, 0, none⟩ = some (.string ⟨nm.toArray⟩) := hS.elim fun _ h => h.op 0 _ rfl); go_simp⟩) hHeld ?_
  try simp only [Act.put, List.getElem_toArray, List.getElem_cons_succ, List.getElem_cons_zero, List.setIfInBounds_toArray, List.set_cons_zero, List.set_cons_succ]
  refine wpAnyH_ready (rs := [5]) (by kernel_rfl) (by simp) (AllReadyH.cons rfl (fun K hK2 => ?_) AllReadyH.nil)
  rw [if_pos (by rfl)]
  simp only [List.getElem_toArray, List.getElem_cons_succ, List.getElem_cons_zero]
  go_wp2_with (go_at_call 84; refine (hT0.strL nm (by simp) (by omega)).mono ?_; rintro e w4 ⟨⟨v4, rfl⟩, hT⟩)
  refine hK2.out _ _ (⟨_, hT⟩) (fun hHeld2 => ?_)
  clear hK2 K hHeld hHeld2 hT0
  try simp only [Act.put, List.getElem_toArray, List.getElem_cons_succ, List.getElem_cons_zero, List.setIfInBounds_toArray, List.set_cons_zero, List.set_cons_succ]
  refine wpAnyH_done (by kernel_rfl) ?_ _
  rw [List.nil_append] at hT
  obtain ⟨c0, c1, c2, c3, c4, c5, c6, c7, c8, d1⟩ := hT.all10
  go_wp2_with (first | (go_at_call 50; refine (hT.byte 32 (by (try simp only [List.length_append, List.length_cons, List.length_nil]); omega)).mono ?_; rintro e w5 ⟨⟨v5, rfl⟩, hT2⟩; replace hT := hT2; clear c0 c1 c2 c3 c4 c5 c6 c7 c8 d1; obtain ⟨c0, c1, c2, c3, c4, c5, c6, c7, c8, d1⟩ := hT.all10) | (go_at_call 85; refine (hT.regs2 rd r1 hg1.out hg2.out (by (try simp only [List.length_append, List.length_cons, List.length_nil]); omega) 3 rfl).mono ?_; rintro e w5 ⟨rfl, hT2⟩; replace hT := hT2; clear c0 c1 c2 c3 c4 c5 c6 c7 c8 d1; obtain ⟨c0, c1, c2, c3, c4, c5, c6, c7, c8, d1⟩ := hT.all10) | (go_at_call 86; refine (hT.comma (by (try simp only [List.length_append, List.length_cons, List.length_nil]); omega)).mono ?_; rintro e w5 ⟨rfl, hT2⟩; replace hT := hT2; clear c0 c1 c2 c3 c4 c5 c6 c7 c8 d1; obtain ⟨c0, c1, c2, c3, c4, c5, c6, c7, c8, d1⟩ := hT.all10) | (go_at_call 87; refine (hT.num imm him.out.1 him.out.2 (by (try simp only [List.length_append, List.length_cons, List.length_nil]); omega)).mono ?_; rintro e w5 ⟨rfl, hT2⟩; replace hT := hT2; clear c0 c1 c2 c3 c4 c5 c6 c7 c8 d1; obtain ⟨c0, c1, c2, c3, c4, c5, c6, c7, c8, d1⟩ := hT.all10) | (go_at_call 51; refine (hT.string (fun e => hne.out (by have h := congrArg List.length e; (try simp only [List.length_append, List.length_nil] at h); exact List.length_eq_zero_iff.1 (by omega)))).mono ?_; rintro e w9 ⟨rfl, hbl⟩))
  go_ret2
  have hb2 := hbody.out
  try simp only [List.append_assoc, List.cons_append, List.nil_append] at hb2
  exact ⟨by rw [hb2]; rfl, hbl⟩
end Go.Proofs.YtdbpnbmaineniaaGreatDoor
namespace Go.Proofs.YtdbpnbmaineniaaGreatDoor
open Go.RowKit
set_option maxRecDepth 100000 in
set_option maxHeartbeats 8000000 in
theorem IText_4 (op rd r1 r2 imm : Int) (aq rl : Bool) (pred succ : Int) (w : World) (ht : Tabs w) (hp : P10 w) (hop : op ≤ 9223372036854775807) (hc : checkE ⟨op, rd, r1, r2, imm, aq, rl, pred, succ⟩ = 0) (hf : (opOf op).form = 4) (him : -9223372036854775808 ≤ imm ∧ imm ≤ 9223372036854775807) :
    Calls Tryz.prog 29 #[.agg #[.int .i64 op, .int .i64 rd, .int .i64 r1, .int .i64 r2, .int .i64 imm, .bool aq, .bool rl, .int .i64 pred, .int .i64 succ]] w fun e w' => e = .returned (.tuple #[.string ⟨(bodyT ⟨op, rd, r1, r2, imm, aq, rl, pred, succ⟩).toArray⟩, .int .i64 0]) ∧ Below w.heap.size w w' := by
  obtain ⟨g1, g2, g3, g4, g5, g6, g7, g8⟩ := ok_facts ⟨op, rd, r1, r2, imm, aq, rl, pred, succ⟩ hc
  simp only at g1 g2 g3 g4 g5 g6 g7 g8
  obtain ⟨rfl, rfl⟩ : aq = false ∧ rl = false := by
    rw [hf] at g6
    rcases g6 with g6 | g6 | g6
    · exact absurd g6 (by decide)
    · exact absurd g6 (by decide)
    · exact g6
  have hbody : bodyT ⟨op, rd, r1, r2, imm, false, false, pred, succ⟩ = (opOf op).name ++ [32] ++ regT rd ++ [44, 32] ++ signL imm ++ [40] ++ regT r1 ++ [41] := by
    rw [body_eq _ hc]
    show (opOf op).name ++ flagT false false ++ tailT _ = _
    unfold tailT flagT
    simp only [hf]
    simp [List.append_assoc]
  have hne : (opOf op).name ≠ [] := name_full op (by rw [hf]; decide)
  have n0 := (info_op op).2.2
  have n1 := regT_lenS rd g1.1 g1.2
  have n2 := regT_lenS r1 g2.1 g2.2
  have n3 := regT_lenS r2 g3.1 g3.2
  have n4 := signL_lenS imm
  have n5 := partT_lenS pred.toNat
  have n6 := partT_lenS succ.toNat
  have hB := XB.start w (InsnV.cells ⟨op, rd, r1, r2, imm, false, false, pred, succ⟩).toList 23
  rw [Array.toArray_toList] at hB
  have hu := Tryz.underlying23
  have hi : (Tryz.prog.info? 23).map (·.size) = some (InsnV.cells ⟨op, rd, r1, r2, imm, false, false, pred, succ⟩).toList.length := by kernel_rfl
  have hK := Lib.hid (fun W hW => Check_any ⟨op, rd, r1, r2, imm, false, false, pred, succ⟩ hop W hW)
  have hO := Lib.hid (fun W hW => of_any op hop W hW)
  have ht1 := ht.later ((Below.refl _ w).alloc (Nat.le_refl _) (.cells (InsnV.cells ⟨op, rd, r1, r2, imm, false, false, pred, succ⟩) 23)) (Nat.le_refl _)
  have hp1 := hp.later ((Below.refl _ w).alloc (Nat.le_refl _) (.cells (InsnV.cells ⟨op, rd, r1, r2, imm, false, false, pred, succ⟩) 23)) (Nat.le_refl _)
  obtain ⟨c0, c1, c2, c3, c4, c5, c6, c7, c8⟩ := hB.all9
  rw [hc] at hK
  rw [hf] at hO
  generalize (opOf op).name = nm at hO hbody hne n0
  generalize (opOf op).loads = o2 at hO
  generalize (opOf op).stores = o3 at hO
  generalize (opOf op).size = o4 at hO
  obtain ⟨r, hr⟩ : ∃ r, bodyT ⟨op, rd, r1, r2, imm, false, false, pred, succ⟩ = r := ⟨_, rfl⟩
  rw [hr] at hbody ⊢
  clear hr hc hf ht hp hop
  replace hbody := Lib.hid hbody
  replace hne := Lib.hid hne
  replace him := Lib.hid him
  have hg1 := Lib.hid g1
  have hg2 := Lib.hid g2
  have hg3 := Lib.hid g3
  have hg4 := Lib.hid g4
  have hg5 := Lib.hid g5
  clear g1 g2 g3 g4 g5 g6 g7 g8
  go_enter Tryz.func29, Tryz.ntmps29
  go_upto_region 6 with (first | (refine wpList_load_mid rfl 23 _ rfl w.heap.size 0 rfl (InsnV.cells ⟨op, rd, r1, r2, imm, false, false, pred, succ⟩).toList _ hB.c hu rfl hi ?_) | (go_at_call 27; refine (hK.out _ ht1).mono ?_; rintro e w1 ⟨rfl, hb1⟩; replace hB := hB.keep hb1; replace ht1 := ht1.later hb1 (Nat.le_refl _); replace hp1 := hp1.later hb1 (Nat.le_refl _); clear hb1 c0 c1 c2 c3 c4 c5 c6 c7 c8; obtain ⟨c0, c1, c2, c3, c4, c5, c6, c7, c8⟩ := hB.all9) | (go_at_call 75; refine (hO.out _ ht1).mono ?_; rintro e w2 ⟨rfl, hb2⟩; replace hB := hB.keep hb2; replace hp1 := hp1.later hb2 (Nat.le_refl _); clear hb2 ht1 c0 c1 c2 c3 c4 c5 c6 c7 c8; obtain ⟨c0, c1, c2, c3, c4, c5, c6, c7, c8⟩ := hB.all9))
  have hT0 := TX.start hB hp1 [.string ⟨nm.toArray⟩, .int .i64 4, .bool o2, .bool o3, .int .i64 o4] 106 115 rfl
  clear c0 c1 c2 c3 c4 c5 c6 c7 c8 hB hp1
  generalize hW9 : ((w2.alloc _).alloc _ : World) = W9 at hT0 ⊢
  clear hW9
  generalize w2.heap.size = q at hT0 ⊢
  generalize hb9 : q + 1 = b at hT0 ⊢
  clear hb9
  replace hT0 := hT0.keep (Below.refl W9.heap.size W9).drew
  refine wp_region_held_drew (S := fun W => ∃ l, TX w (InsnV.cells ⟨op, rd, r1, r2, imm, false, false, pred, succ⟩).toList [.string ⟨nm.toArray⟩, .int .i64 4, .bool o2, .bool o3, .int .i64 o4] q b l W) (by kernel_rfl) ⟨_, hT0⟩ (fun hHeld => ?_)
  refine tkS 0 (.pointer (some ⟨b, 0, none⟩)) hHeld ?_
  try simp only [Act.put, List.getElem_toArray, List.getElem_cons_zero, List.setIfInBounds_toArray, List.set_cons_zero, List.set_cons_succ]
  generalize World.drew _ = W8 at hHeld hT0 ⊢
  refine tkS 1 (.pointer (some ⟨b, 0, none⟩)) hHeld ?_
  try simp only [Act.put, List.getElem_toArray, List.getElem_cons_succ, List.getElem_cons_zero, List.setIfInBounds_toArray, List.set_cons_zero, List.set_cons_succ]
  refine tkS 2 (.pointer (some ⟨b, 0, none⟩)) hHeld ?_
  try simp only [Act.put, List.getElem_toArray, List.getElem_cons_succ, List.getElem_cons_zero, List.setIfInBounds_toArray, List.set_cons_zero, List.set_cons_succ]
  refine tkS 3 (.pointer (some ⟨q, 0, none⟩)) hHeld ?_
  try simp only [Act.put, List.getElem_toArray, List.getElem_cons_succ, List.getElem_cons_zero, List.setIfInBounds_toArray, List.set_cons_zero, List.set_cons_succ]
  refine wpAnyH_take (i := 4) (v := .string ⟨nm.toArray⟩) rfl (by kernel_rfl) (by kernel_rfl) (by kernel_rfl) (fun _ _ _ h => h) (Or.inl ⟨by rfl, fun W hS => by (have k : W.cell? ⟨q, 0, none⟩ = some (.string ⟨nm.toArray⟩) := hS.elim fun _ h => h.op 0 _ rfl); go_simp⟩) hHeld ?_
  try simp only [Act.put, List.getElem_toArray, List.getElem_cons_succ, List.getElem_cons_zero, List.setIfInBounds_toArray, List.set_cons_zero, List.set_cons_succ]
  refine wpAnyH_ready (rs := [5]) (by kernel_rfl) (by simp) (AllReadyH.cons rfl (fun K hK2 => ?_) AllReadyH.nil)
  rw [if_pos (by rfl)]
  simp only [List.getElem_toArray, List.getElem_cons_succ, List.getElem_cons_zero]
  go_wp2_with (go_at_call 84; refine (hT0.strL nm (by simp) (by omega)).mono ?_; rintro e w4 ⟨⟨v4, rfl⟩, hT⟩)
  refine hK2.out _ _ (⟨_, hT⟩) (fun hHeld2 => ?_)
  clear hK2 K hHeld hHeld2 hT0
  try simp only [Act.put, List.getElem_toArray, List.getElem_cons_succ, List.getElem_cons_zero, List.setIfInBounds_toArray, List.set_cons_zero, List.set_cons_succ]
  refine wpAnyH_done (by kernel_rfl) ?_ _
  rw [List.nil_append] at hT
  obtain ⟨c0, c1, c2, c3, c4, c5, c6, c7, c8, d1⟩ := hT.all10
  go_wp2_with (first | (go_at_call 50; refine (hT.byte 32 (by (try simp only [List.length_append, List.length_cons, List.length_nil]); omega)).mono ?_; rintro e w5 ⟨⟨v5, rfl⟩, hT2⟩; replace hT := hT2; clear c0 c1 c2 c3 c4 c5 c6 c7 c8 d1; obtain ⟨c0, c1, c2, c3, c4, c5, c6, c7, c8, d1⟩ := hT.all10) | (go_at_call 85; refine (hT.regs1 rd hg1.out (by (try simp only [List.length_append, List.length_cons, List.length_nil]); omega) 3 rfl).mono ?_; rintro e w5 ⟨rfl, hT2⟩; replace hT := hT2; clear c0 c1 c2 c3 c4 c5 c6 c7 c8 d1; obtain ⟨c0, c1, c2, c3, c4, c5, c6, c7, c8, d1⟩ := hT.all10) | (go_at_call 86; refine (hT.comma (by (try simp only [List.length_append, List.length_cons, List.length_nil]); omega)).mono ?_; rintro e w5 ⟨rfl, hT2⟩; replace hT := hT2; clear c0 c1 c2 c3 c4 c5 c6 c7 c8 d1; obtain ⟨c0, c1, c2, c3, c4, c5, c6, c7, c8, d1⟩ := hT.all10) | (go_at_call 87; refine (hT.num imm him.out.1 him.out.2 (by (try simp only [List.length_append, List.length_cons, List.length_nil]); omega)).mono ?_; rintro e w5 ⟨rfl, hT2⟩; replace hT := hT2; clear c0 c1 c2 c3 c4 c5 c6 c7 c8 d1; obtain ⟨c0, c1, c2, c3, c4, c5, c6, c7, c8, d1⟩ := hT.all10) | (go_at_call 88; refine (hT.att r1 hg2.out.1 hg2.out.2 (by (try simp only [List.length_append, List.length_cons, List.length_nil]); omega)).mono ?_; rintro e w5 ⟨rfl, hT2⟩; replace hT := hT2; clear c0 c1 c2 c3 c4 c5 c6 c7 c8 d1; obtain ⟨c0, c1, c2, c3, c4, c5, c6, c7, c8, d1⟩ := hT.all10) | (go_at_call 51; refine (hT.string (fun e => hne.out (by have h := congrArg List.length e; (try simp only [List.length_append, List.length_nil] at h); exact List.length_eq_zero_iff.1 (by omega)))).mono ?_; rintro e w9 ⟨rfl, hbl⟩))
  go_ret2
  have hb2 := hbody.out
  try simp only [List.append_assoc, List.cons_append, List.nil_append] at hb2
  exact ⟨by rw [hb2]; rfl, hbl⟩
set_option maxRecDepth 100000 in
set_option maxHeartbeats 8000000 in
theorem IText_5 (op rd r1 r2 imm : Int) (aq rl : Bool) (pred succ : Int) (w : World) (ht : Tabs w) (hp : P10 w) (hop : op ≤ 9223372036854775807) (hc : checkE ⟨op, rd, r1, r2, imm, aq, rl, pred, succ⟩ = 0) (hf : (opOf op).form = 5) (him : -9223372036854775808 ≤ imm ∧ imm ≤ 9223372036854775807) :
    Calls Tryz.prog 29 #[.agg #[.int .i64 op, .int .i64 rd, .int .i64 r1, .int .i64 r2, .int .i64 imm, .bool aq, .bool rl, .int .i64 pred, .int .i64 succ]] w fun e w' => e = .returned (.tuple #[.string ⟨(bodyT ⟨op, rd, r1, r2, imm, aq, rl, pred, succ⟩).toArray⟩, .int .i64 0]) ∧ Below w.heap.size w w' := by
  obtain ⟨g1, g2, g3, g4, g5, g6, g7, g8⟩ := ok_facts ⟨op, rd, r1, r2, imm, aq, rl, pred, succ⟩ hc
  simp only at g1 g2 g3 g4 g5 g6 g7 g8
  obtain ⟨rfl, rfl⟩ : aq = false ∧ rl = false := by
    rw [hf] at g6
    rcases g6 with g6 | g6 | g6
    · exact absurd g6 (by decide)
    · exact absurd g6 (by decide)
    · exact g6
  have hbody : bodyT ⟨op, rd, r1, r2, imm, false, false, pred, succ⟩ = (opOf op).name ++ [32] ++ regT r2 ++ [44, 32] ++ signL imm ++ [40] ++ regT r1 ++ [41] := by
    rw [body_eq _ hc]
    show (opOf op).name ++ flagT false false ++ tailT _ = _
    unfold tailT flagT
    simp only [hf]
    simp [List.append_assoc]
  have hne : (opOf op).name ≠ [] := name_full op (by rw [hf]; decide)
  have n0 := (info_op op).2.2
  have n1 := regT_lenS rd g1.1 g1.2
  have n2 := regT_lenS r1 g2.1 g2.2
  have n3 := regT_lenS r2 g3.1 g3.2
  have n4 := signL_lenS imm
  have n5 := partT_lenS pred.toNat
  have n6 := partT_lenS succ.toNat
  have hB := XB.start w (InsnV.cells ⟨op, rd, r1, r2, imm, false, false, pred, succ⟩).toList 23
  rw [Array.toArray_toList] at hB
  have hu := Tryz.underlying23
  have hi : (Tryz.prog.info? 23).map (·.size) = some (InsnV.cells ⟨op, rd, r1, r2, imm, false, false, pred, succ⟩).toList.length := by kernel_rfl
  have hK := Lib.hid (fun W hW => Check_any ⟨op, rd, r1, r2, imm, false, false, pred, succ⟩ hop W hW)
  have hO := Lib.hid (fun W hW => of_any op hop W hW)
  have ht1 := ht.later ((Below.refl _ w).alloc (Nat.le_refl _) (.cells (InsnV.cells ⟨op, rd, r1, r2, imm, false, false, pred, succ⟩) 23)) (Nat.le_refl _)
  have hp1 := hp.later ((Below.refl _ w).alloc (Nat.le_refl _) (.cells (InsnV.cells ⟨op, rd, r1, r2, imm, false, false, pred, succ⟩) 23)) (Nat.le_refl _)
  obtain ⟨c0, c1, c2, c3, c4, c5, c6, c7, c8⟩ := hB.all9
  rw [hc] at hK
  rw [hf] at hO
  generalize (opOf op).name = nm at hO hbody hne n0
  generalize (opOf op).loads = o2 at hO
  generalize (opOf op).stores = o3 at hO
  generalize (opOf op).size = o4 at hO
  obtain ⟨r, hr⟩ : ∃ r, bodyT ⟨op, rd, r1, r2, imm, false, false, pred, succ⟩ = r := ⟨_, rfl⟩
  rw [hr] at hbody ⊢
  clear hr hc hf ht hp hop
  replace hbody := Lib.hid hbody
  replace hne := Lib.hid hne
  replace him := Lib.hid him
  have hg1 := Lib.hid g1
  have hg2 := Lib.hid g2
  have hg3 := Lib.hid g3
  have hg4 := Lib.hid g4
  have hg5 := Lib.hid g5
  clear g1 g2 g3 g4 g5 g6 g7 g8
  go_enter Tryz.func29, Tryz.ntmps29
  go_upto_region 6 with (first | (refine wpList_load_mid rfl 23 _ rfl w.heap.size 0 rfl (InsnV.cells ⟨op, rd, r1, r2, imm, false, false, pred, succ⟩).toList _ hB.c hu rfl hi ?_) | (go_at_call 27; refine (hK.out _ ht1).mono ?_; rintro e w1 ⟨rfl, hb1⟩; replace hB := hB.keep hb1; replace ht1 := ht1.later hb1 (Nat.le_refl _); replace hp1 := hp1.later hb1 (Nat.le_refl _); clear hb1 c0 c1 c2 c3 c4 c5 c6 c7 c8; obtain ⟨c0, c1, c2, c3, c4, c5, c6, c7, c8⟩ := hB.all9) | (go_at_call 75; refine (hO.out _ ht1).mono ?_; rintro e w2 ⟨rfl, hb2⟩; replace hB := hB.keep hb2; replace hp1 := hp1.later hb2 (Nat.le_refl _); clear hb2 ht1 c0 c1 c2 c3 c4 c5 c6 c7 c8; obtain ⟨c0, c1, c2, c3, c4, c5, c6, c7, c8⟩ := hB.all9))
  have hT0 := TX.start hB hp1 [.string ⟨nm.toArray⟩, .int .i64 5, .bool o2, .bool o3, .int .i64 o4] 106 115 rfl
  clear c0 c1 c2 c3 c4 c5 c6 c7 c8 hB hp1
  generalize hW9 : ((w2.alloc _).alloc _ : World) = W9 at hT0 ⊢
  clear hW9
  generalize w2.heap.size = q at hT0 ⊢
  generalize hb9 : q + 1 = b at hT0 ⊢
  clear hb9
  replace hT0 := hT0.keep (Below.refl W9.heap.size W9).drew
  refine wp_region_held_drew (S := fun W => ∃ l, TX w (InsnV.cells ⟨op, rd, r1, r2, imm, false, false, pred, succ⟩).toList [.string ⟨nm.toArray⟩, .int .i64 5, .bool o2, .bool o3, .int .i64 o4] q b l W) (by kernel_rfl) ⟨_, hT0⟩ (fun hHeld => ?_)
  refine tkS 0 (.pointer (some ⟨b, 0, none⟩)) hHeld ?_
  try simp only [Act.put, List.getElem_toArray, List.getElem_cons_zero, List.setIfInBounds_toArray, List.set_cons_zero, List.set_cons_succ]
  generalize World.drew _ = W8 at hHeld hT0 ⊢
  refine tkS 1 (.pointer (some ⟨b, 0, none⟩)) hHeld ?_
  try simp only [Act.put, List.getElem_toArray, List.getElem_cons_succ, List.getElem_cons_zero, List.setIfInBounds_toArray, List.set_cons_zero, List.set_cons_succ]
  refine tkS 2 (.pointer (some ⟨b, 0, none⟩)) hHeld ?_
  try simp only [Act.put, List.getElem_toArray, List.getElem_cons_succ, List.getElem_cons_zero, List.setIfInBounds_toArray, List.set_cons_zero, List.set_cons_succ]
  refine tkS 3 (.pointer (some ⟨q, 0, none⟩)) hHeld ?_
  try simp only [Act.put, List.getElem_toArray, List.getElem_cons_succ, List.getElem_cons_zero, List.setIfInBounds_toArray, List.set_cons_zero, List.set_cons_succ]
  refine wpAnyH_take (i := 4) (v := .string ⟨nm.toArray⟩) rfl (by kernel_rfl) (by kernel_rfl) (by kernel_rfl) (fun _ _ _ h => h) (Or.inl ⟨by rfl, fun W hS => by (have k : W.cell? ⟨q, 0, none⟩ = some (.string ⟨nm.toArray⟩) := hS.elim fun _ h => h.op 0 _ rfl); go_simp⟩) hHeld ?_
  try simp only [Act.put, List.getElem_toArray, List.getElem_cons_succ, List.getElem_cons_zero, List.setIfInBounds_toArray, List.set_cons_zero, List.set_cons_succ]
  refine wpAnyH_ready (rs := [5]) (by kernel_rfl) (by simp) (AllReadyH.cons rfl (fun K hK2 => ?_) AllReadyH.nil)
  rw [if_pos (by rfl)]
  simp only [List.getElem_toArray, List.getElem_cons_succ, List.getElem_cons_zero]
  go_wp2_with (go_at_call 84; refine (hT0.strL nm (by simp) (by omega)).mono ?_; rintro e w4 ⟨⟨v4, rfl⟩, hT⟩)
  refine hK2.out _ _ (⟨_, hT⟩) (fun hHeld2 => ?_)
  clear hK2 K hHeld hHeld2 hT0
  try simp only [Act.put, List.getElem_toArray, List.getElem_cons_succ, List.getElem_cons_zero, List.setIfInBounds_toArray, List.set_cons_zero, List.set_cons_succ]
  refine wpAnyH_done (by kernel_rfl) ?_ _
  rw [List.nil_append] at hT
  obtain ⟨c0, c1, c2, c3, c4, c5, c6, c7, c8, d1⟩ := hT.all10
  go_wp2_with (first | (go_at_call 50; refine (hT.byte 32 (by (try simp only [List.length_append, List.length_cons, List.length_nil]); omega)).mono ?_; rintro e w5 ⟨⟨v5, rfl⟩, hT2⟩; replace hT := hT2; clear c0 c1 c2 c3 c4 c5 c6 c7 c8 d1; obtain ⟨c0, c1, c2, c3, c4, c5, c6, c7, c8, d1⟩ := hT.all10) | (go_at_call 85; refine (hT.regs1 r2 hg3.out (by (try simp only [List.length_append, List.length_cons, List.length_nil]); omega) 3 rfl).mono ?_; rintro e w5 ⟨rfl, hT2⟩; replace hT := hT2; clear c0 c1 c2 c3 c4 c5 c6 c7 c8 d1; obtain ⟨c0, c1, c2, c3, c4, c5, c6, c7, c8, d1⟩ := hT.all10) | (go_at_call 86; refine (hT.comma (by (try simp only [List.length_append, List.length_cons, List.length_nil]); omega)).mono ?_; rintro e w5 ⟨rfl, hT2⟩; replace hT := hT2; clear c0 c1 c2 c3 c4 c5 c6 c7 c8 d1; obtain ⟨c0, c1, c2, c3, c4, c5, c6, c7, c8, d1⟩ := hT.all10) | (go_at_call 87; refine (hT.num imm him.out.1 him.out.2 (by (try simp only [List.length_append, List.length_cons, List.length_nil]); omega)).mono ?_; rintro e w5 ⟨rfl, hT2⟩; replace hT := hT2; clear c0 c1 c2 c3 c4 c5 c6 c7 c8 d1; obtain ⟨c0, c1, c2, c3, c4, c5, c6, c7, c8, d1⟩ := hT.all10) | (go_at_call 88; refine (hT.att r1 hg2.out.1 hg2.out.2 (by (try simp only [List.length_append, List.length_cons, List.length_nil]); omega)).mono ?_; rintro e w5 ⟨rfl, hT2⟩; replace hT := hT2; clear c0 c1 c2 c3 c4 c5 c6 c7 c8 d1; obtain ⟨c0, c1, c2, c3, c4, c5, c6, c7, c8, d1⟩ := hT.all10) | (go_at_call 51; refine (hT.string (fun e => hne.out (by have h := congrArg List.length e; (try simp only [List.length_append, List.length_nil] at h); exact List.length_eq_zero_iff.1 (by omega)))).mono ?_; rintro e w9 ⟨rfl, hbl⟩))
  go_ret2
  have hb2 := hbody.out
  try simp only [List.append_assoc, List.cons_append, List.nil_append] at hb2
  exact ⟨by rw [hb2]; rfl, hbl⟩
set_option maxRecDepth 100000 in
set_option maxHeartbeats 8000000 in
theorem IText_6 (op rd r1 r2 imm : Int) (aq rl : Bool) (pred succ : Int) (w : World) (ht : Tabs w) (hp : P10 w) (hop : op ≤ 9223372036854775807) (hc : checkE ⟨op, rd, r1, r2, imm, aq, rl, pred, succ⟩ = 0) (hf : (opOf op).form = 6) (him : -9223372036854775808 ≤ imm ∧ imm ≤ 9223372036854775807) :
    Calls Tryz.prog 29 #[.agg #[.int .i64 op, .int .i64 rd, .int .i64 r1, .int .i64 r2, .int .i64 imm, .bool aq, .bool rl, .int .i64 pred, .int .i64 succ]] w fun e w' => e = .returned (.tuple #[.string ⟨(bodyT ⟨op, rd, r1, r2, imm, aq, rl, pred, succ⟩).toArray⟩, .int .i64 0]) ∧ Below w.heap.size w w' := by
  obtain ⟨g1, g2, g3, g4, g5, g6, g7, g8⟩ := ok_facts ⟨op, rd, r1, r2, imm, aq, rl, pred, succ⟩ hc
  simp only at g1 g2 g3 g4 g5 g6 g7 g8
  obtain ⟨rfl, rfl⟩ : aq = false ∧ rl = false := by
    rw [hf] at g6
    rcases g6 with g6 | g6 | g6
    · exact absurd g6 (by decide)
    · exact absurd g6 (by decide)
    · exact g6
  have hbody : bodyT ⟨op, rd, r1, r2, imm, false, false, pred, succ⟩ = (opOf op).name ++ [32] ++ regT r1 ++ [44, 32] ++ regT r2 ++ [44, 32] ++ signL imm := by
    rw [body_eq _ hc]
    show (opOf op).name ++ flagT false false ++ tailT _ = _
    unfold tailT flagT
    simp only [hf]
    simp [List.append_assoc]
  have hne : (opOf op).name ≠ [] := name_full op (by rw [hf]; decide)
  have n0 := (info_op op).2.2
  have n1 := regT_lenS rd g1.1 g1.2
  have n2 := regT_lenS r1 g2.1 g2.2
  have n3 := regT_lenS r2 g3.1 g3.2
  have n4 := signL_lenS imm
  have n5 := partT_lenS pred.toNat
  have n6 := partT_lenS succ.toNat
  have hB := XB.start w (InsnV.cells ⟨op, rd, r1, r2, imm, false, false, pred, succ⟩).toList 23
  rw [Array.toArray_toList] at hB
  have hu := Tryz.underlying23
  have hi : (Tryz.prog.info? 23).map (·.size) = some (InsnV.cells ⟨op, rd, r1, r2, imm, false, false, pred, succ⟩).toList.length := by kernel_rfl
  have hK := Lib.hid (fun W hW => Check_any ⟨op, rd, r1, r2, imm, false, false, pred, succ⟩ hop W hW)
  have hO := Lib.hid (fun W hW => of_any op hop W hW)
  have ht1 := ht.later ((Below.refl _ w).alloc (Nat.le_refl _) (.cells (InsnV.cells ⟨op, rd, r1, r2, imm, false, false, pred, succ⟩) 23)) (Nat.le_refl _)
  have hp1 := hp.later ((Below.refl _ w).alloc (Nat.le_refl _) (.cells (InsnV.cells ⟨op, rd, r1, r2, imm, false, false, pred, succ⟩) 23)) (Nat.le_refl _)
  obtain ⟨c0, c1, c2, c3, c4, c5, c6, c7, c8⟩ := hB.all9
  rw [hc] at hK
  rw [hf] at hO
  generalize (opOf op).name = nm at hO hbody hne n0
  generalize (opOf op).loads = o2 at hO
  generalize (opOf op).stores = o3 at hO
  generalize (opOf op).size = o4 at hO
  obtain ⟨r, hr⟩ : ∃ r, bodyT ⟨op, rd, r1, r2, imm, false, false, pred, succ⟩ = r := ⟨_, rfl⟩
  rw [hr] at hbody ⊢
  clear hr hc hf ht hp hop
  replace hbody := Lib.hid hbody
  replace hne := Lib.hid hne
  replace him := Lib.hid him
  have hg1 := Lib.hid g1
  have hg2 := Lib.hid g2
  have hg3 := Lib.hid g3
  have hg4 := Lib.hid g4
  have hg5 := Lib.hid g5
  clear g1 g2 g3 g4 g5 g6 g7 g8
  go_enter Tryz.func29, Tryz.ntmps29
  go_upto_region 6 with (first | (refine wpList_load_mid rfl 23 _ rfl w.heap.size 0 rfl (InsnV.cells ⟨op, rd, r1, r2, imm, false, false, pred, succ⟩).toList _ hB.c hu rfl hi ?_) | (go_at_call 27; refine (hK.out _ ht1).mono ?_; rintro e w1 ⟨rfl, hb1⟩; replace hB := hB.keep hb1; replace ht1 := ht1.later hb1 (Nat.le_refl _); replace hp1 := hp1.later hb1 (Nat.le_refl _); clear hb1 c0 c1 c2 c3 c4 c5 c6 c7 c8; obtain ⟨c0, c1, c2, c3, c4, c5, c6, c7, c8⟩ := hB.all9) | (go_at_call 75; refine (hO.out _ ht1).mono ?_; rintro e w2 ⟨rfl, hb2⟩; replace hB := hB.keep hb2; replace hp1 := hp1.later hb2 (Nat.le_refl _); clear hb2 ht1 c0 c1 c2 c3 c4 c5 c6 c7 c8; obtain ⟨c0, c1, c2, c3, c4, c5, c6, c7, c8⟩ := hB.all9))
  have hT0 := TX.start hB hp1 [.string ⟨nm.toArray⟩, .int .i64 6, .bool o2, .bool o3, .int .i64 o4] 106 115 rfl
  clear c0 c1 c2 c3 c4 c5 c6 c7 c8 hB hp1
  generalize hW9 : ((w2.alloc _).alloc _ : World) = W9 at hT0 ⊢
  clear hW9
  generalize w2.heap.size = q at hT0 ⊢
  generalize hb9 : q + 1 = b at hT0 ⊢
  clear hb9
  replace hT0 := hT0.keep (Below.refl W9.heap.size W9).drew
  refine wp_region_held_drew (S := fun W => ∃ l, TX w (InsnV.cells ⟨op, rd, r1, r2, imm, false, false, pred, succ⟩).toList [.string ⟨nm.toArray⟩, .int .i64 6, .bool o2, .bool o3, .int .i64 o4] q b l W) (by kernel_rfl) ⟨_, hT0⟩ (fun hHeld => ?_)
  refine tkS 0 (.pointer (some ⟨b, 0, none⟩)) hHeld ?_
  try simp only [Act.put, List.getElem_toArray, List.getElem_cons_zero, List.setIfInBounds_toArray, List.set_cons_zero, List.set_cons_succ]
  generalize World.drew _ = W8 at hHeld hT0 ⊢
  refine tkS 1 (.pointer (some ⟨b, 0, none⟩)) hHeld ?_
  try simp only [Act.put, List.getElem_toArray, List.getElem_cons_succ, List.getElem_cons_zero, List.setIfInBounds_toArray, List.set_cons_zero, List.set_cons_succ]
  refine tkS 2 (.pointer (some ⟨b, 0, none⟩)) hHeld ?_
  try simp only [Act.put, List.getElem_toArray, List.getElem_cons_succ, List.getElem_cons_zero, List.setIfInBounds_toArray, List.set_cons_zero, List.set_cons_succ]
  refine tkS 3 (.pointer (some ⟨q, 0, none⟩)) hHeld ?_
  try simp only [Act.put, List.getElem_toArray, List.getElem_cons_succ, List.getElem_cons_zero, List.setIfInBounds_toArray, List.set_cons_zero, List.set_cons_succ]
  refine wpAnyH_take (i := 4) (v := .string ⟨nm.toArray⟩) rfl (by kernel_rfl) (by kernel_rfl) (by kernel_rfl) (fun _ _ _ h => h) (Or.inl ⟨by rfl, fun W hS => by (have k : W.cell? ⟨q, 0, none⟩ = some (.string ⟨nm.toArray⟩) := hS.elim fun _ h => h.op 0 _ rfl); go_simp⟩) hHeld ?_
  try simp only [Act.put, List.getElem_toArray, List.getElem_cons_succ, List.getElem_cons_zero, List.setIfInBounds_toArray, List.set_cons_zero, List.set_cons_succ]
  refine wpAnyH_ready (rs := [5]) (by kernel_rfl) (by simp) (AllReadyH.cons rfl (fun K hK2 => ?_) AllReadyH.nil)
  rw [if_pos (by rfl)]
  simp only [List.getElem_toArray, List.getElem_cons_succ, List.getElem_cons_zero]
  go_wp2_with (go_at_call 84; refine (hT0.strL nm (by simp) (by omega)).mono ?_; rintro e w4 ⟨⟨v4, rfl⟩, hT⟩)
  refine hK2.out _ _ (⟨_, hT⟩) (fun hHeld2 => ?_)
  clear hK2 K hHeld hHeld2 hT0
  try simp only [Act.put, List.getElem_toArray, List.getElem_cons_succ, List.getElem_cons_zero, List.setIfInBounds_toArray, List.set_cons_zero, List.set_cons_succ]
  refine wpAnyH_done (by kernel_rfl) ?_ _
  rw [List.nil_append] at hT
  obtain ⟨c0, c1, c2, c3, c4, c5, c6, c7, c8, d1⟩ := hT.all10
  go_wp2_with (first | (go_at_call 50; refine (hT.byte 32 (by (try simp only [List.length_append, List.length_cons, List.length_nil]); omega)).mono ?_; rintro e w5 ⟨⟨v5, rfl⟩, hT2⟩; replace hT := hT2; clear c0 c1 c2 c3 c4 c5 c6 c7 c8 d1; obtain ⟨c0, c1, c2, c3, c4, c5, c6, c7, c8, d1⟩ := hT.all10) | (go_at_call 85; refine (hT.regs2 r1 r2 hg2.out hg3.out (by (try simp only [List.length_append, List.length_cons, List.length_nil]); omega) 3 rfl).mono ?_; rintro e w5 ⟨rfl, hT2⟩; replace hT := hT2; clear c0 c1 c2 c3 c4 c5 c6 c7 c8 d1; obtain ⟨c0, c1, c2, c3, c4, c5, c6, c7, c8, d1⟩ := hT.all10) | (go_at_call 86; refine (hT.comma (by (try simp only [List.length_append, List.length_cons, List.length_nil]); omega)).mono ?_; rintro e w5 ⟨rfl, hT2⟩; replace hT := hT2; clear c0 c1 c2 c3 c4 c5 c6 c7 c8 d1; obtain ⟨c0, c1, c2, c3, c4, c5, c6, c7, c8, d1⟩ := hT.all10) | (go_at_call 87; refine (hT.num imm him.out.1 him.out.2 (by (try simp only [List.length_append, List.length_cons, List.length_nil]); omega)).mono ?_; rintro e w5 ⟨rfl, hT2⟩; replace hT := hT2; clear c0 c1 c2 c3 c4 c5 c6 c7 c8 d1; obtain ⟨c0, c1, c2, c3, c4, c5, c6, c7, c8, d1⟩ := hT.all10) | (go_at_call 51; refine (hT.string (fun e => hne.out (by have h := congrArg List.length e; (try simp only [List.length_append, List.length_nil] at h); exact List.length_eq_zero_iff.1 (by omega)))).mono ?_; rintro e w9 ⟨rfl, hbl⟩))
  go_ret2
  have hb2 := hbody.out
  try simp only [List.append_assoc, List.cons_append, List.nil_append] at hb2
  exact ⟨by rw [hb2]; rfl, hbl⟩
set_option maxRecDepth 100000 in
set_option maxHeartbeats 8000000 in
theorem IText_7n (op rd r1 r2 imm : Int) (aq rl : Bool) (pred succ : Int) (w : World) (ht : Tabs w) (hp : P10 w) (hop : op ≤ 9223372036854775807) (hc : checkE ⟨op, rd, r1, r2, imm, aq, rl, pred, succ⟩ = 0) (hf : (opOf op).form = 7) (him : -9223372036854775808 ≤ imm ∧ imm ≤ 9223372036854775807) (hj : op ≠ 4) :
    Calls Tryz.prog 29 #[.agg #[.int .i64 op, .int .i64 rd, .int .i64 r1, .int .i64 r2, .int .i64 imm, .bool aq, .bool rl, .int .i64 pred, .int .i64 succ]] w fun e w' => e = .returned (.tuple #[.string ⟨(bodyT ⟨op, rd, r1, r2, imm, aq, rl, pred, succ⟩).toArray⟩, .int .i64 0]) ∧ Below w.heap.size w w' := by
  obtain ⟨g1, g2, g3, g4, g5, g6, g7, g8⟩ := ok_facts ⟨op, rd, r1, r2, imm, aq, rl, pred, succ⟩ hc
  simp only at g1 g2 g3 g4 g5 g6 g7 g8
  obtain ⟨rfl, rfl⟩ : aq = false ∧ rl = false := by
    rw [hf] at g6
    rcases g6 with g6 | g6 | g6
    · exact absurd g6 (by decide)
    · exact absurd g6 (by decide)
    · exact g6
  have hbody : bodyT ⟨op, rd, r1, r2, imm, false, false, pred, succ⟩ = (opOf op).name ++ [32] ++ regT rd ++ [44, 32] ++ regT r1 ++ [44, 32] ++ signL imm := by
    rw [body_eq _ hc]
    show (opOf op).name ++ flagT false false ++ tailT _ = _
    unfold tailT flagT
    simp only [hf, if_neg hj]
    simp [List.append_assoc]
  have hne : (opOf op).name ≠ [] := name_full op (by rw [hf]; decide)
  have n0 := (info_op op).2.2
  have n1 := regT_lenS rd g1.1 g1.2
  have n2 := regT_lenS r1 g2.1 g2.2
  have n3 := regT_lenS r2 g3.1 g3.2
  have n4 := signL_lenS imm
  have n5 := partT_lenS pred.toNat
  have n6 := partT_lenS succ.toNat
  have hB := XB.start w (InsnV.cells ⟨op, rd, r1, r2, imm, false, false, pred, succ⟩).toList 23
  rw [Array.toArray_toList] at hB
  have hu := Tryz.underlying23
  have hi : (Tryz.prog.info? 23).map (·.size) = some (InsnV.cells ⟨op, rd, r1, r2, imm, false, false, pred, succ⟩).toList.length := by kernel_rfl
  have hK := Lib.hid (fun W hW => Check_any ⟨op, rd, r1, r2, imm, false, false, pred, succ⟩ hop W hW)
  have hO := Lib.hid (fun W hW => of_any op hop W hW)
  have ht1 := ht.later ((Below.refl _ w).alloc (Nat.le_refl _) (.cells (InsnV.cells ⟨op, rd, r1, r2, imm, false, false, pred, succ⟩) 23)) (Nat.le_refl _)
  have hp1 := hp.later ((Below.refl _ w).alloc (Nat.le_refl _) (.cells (InsnV.cells ⟨op, rd, r1, r2, imm, false, false, pred, succ⟩) 23)) (Nat.le_refl _)
  obtain ⟨c0, c1, c2, c3, c4, c5, c6, c7, c8⟩ := hB.all9
  rw [hc] at hK
  rw [hf] at hO
  generalize (opOf op).name = nm at hO hbody hne n0
  generalize (opOf op).loads = o2 at hO
  generalize (opOf op).stores = o3 at hO
  generalize (opOf op).size = o4 at hO
  obtain ⟨r, hr⟩ : ∃ r, bodyT ⟨op, rd, r1, r2, imm, false, false, pred, succ⟩ = r := ⟨_, rfl⟩
  rw [hr] at hbody ⊢
  clear hr hc hf ht hp hop
  replace hbody := Lib.hid hbody
  replace hne := Lib.hid hne
  replace him := Lib.hid him
  have hg1 := Lib.hid g1
  have hg2 := Lib.hid g2
  have hg3 := Lib.hid g3
  have hg4 := Lib.hid g4
  have hg5 := Lib.hid g5
  clear g1 g2 g3 g4 g5 g6 g7 g8
  have tj : (op == 4) = false := by simpa using hj
  clear hj
  go_enter Tryz.func29, Tryz.ntmps29
  go_upto_region 6 with (first | (refine wpList_load_mid rfl 23 _ rfl w.heap.size 0 rfl (InsnV.cells ⟨op, rd, r1, r2, imm, false, false, pred, succ⟩).toList _ hB.c hu rfl hi ?_) | (go_at_call 27; refine (hK.out _ ht1).mono ?_; rintro e w1 ⟨rfl, hb1⟩; replace hB := hB.keep hb1; replace ht1 := ht1.later hb1 (Nat.le_refl _); replace hp1 := hp1.later hb1 (Nat.le_refl _); clear hb1 c0 c1 c2 c3 c4 c5 c6 c7 c8; obtain ⟨c0, c1, c2, c3, c4, c5, c6, c7, c8⟩ := hB.all9) | (go_at_call 75; refine (hO.out _ ht1).mono ?_; rintro e w2 ⟨rfl, hb2⟩; replace hB := hB.keep hb2; replace hp1 := hp1.later hb2 (Nat.le_refl _); clear hb2 ht1 c0 c1 c2 c3 c4 c5 c6 c7 c8; obtain ⟨c0, c1, c2, c3, c4, c5, c6, c7, c8⟩ := hB.all9))
  have hT0 := TX.start hB hp1 [.string ⟨nm.toArray⟩, .int .i64 7, .bool o2, .bool o3, .int .i64 o4] 106 115 rfl
  clear c0 c1 c2 c3 c4 c5 c6 c7 c8 hB hp1
  generalize hW9 : ((w2.alloc _).alloc _ : World) = W9 at hT0 ⊢
  clear hW9
  generalize w2.heap.size = q at hT0 ⊢
  generalize hb9 : q + 1 = b at hT0 ⊢
  clear hb9
  replace hT0 := hT0.keep (Below.refl W9.heap.size W9).drew
  refine wp_region_held_drew (S := fun W => ∃ l, TX w (InsnV.cells ⟨op, rd, r1, r2, imm, false, false, pred, succ⟩).toList [.string ⟨nm.toArray⟩, .int .i64 7, .bool o2, .bool o3, .int .i64 o4] q b l W) (by kernel_rfl) ⟨_, hT0⟩ (fun hHeld => ?_)
  refine tkS 0 (.pointer (some ⟨b, 0, none⟩)) hHeld ?_
  try simp only [Act.put, List.getElem_toArray, List.getElem_cons_zero, List.setIfInBounds_toArray, List.set_cons_zero, List.set_cons_succ]
  generalize World.drew _ = W8 at hHeld hT0 ⊢
  refine tkS 1 (.pointer (some ⟨b, 0, none⟩)) hHeld ?_
  try simp only [Act.put, List.getElem_toArray, List.getElem_cons_succ, List.getElem_cons_zero, List.setIfInBounds_toArray, List.set_cons_zero, List.set_cons_succ]
  refine tkS 2 (.pointer (some ⟨b, 0, none⟩)) hHeld ?_
  try simp only [Act.put, List.getElem_toArray, List.getElem_cons_succ, List.getElem_cons_zero, List.setIfInBounds_toArray, List.set_cons_zero, List.set_cons_succ]
  refine tkS 3 (.pointer (some ⟨q, 0, none⟩)) hHeld ?_
  try simp only [Act.put, List.getElem_toArray, List.getElem_cons_succ, List.getElem_cons_zero, List.setIfInBounds_toArray, List.set_cons_zero, List.set_cons_succ]
  refine wpAnyH_take (i := 4) (v := .string ⟨nm.toArray⟩) rfl (by kernel_rfl) (by kernel_rfl) (by kernel_rfl) (fun _ _ _ h => h) (Or.inl ⟨by rfl, fun W hS => by (have k : W.cell? ⟨q, 0, none⟩ = some (.string ⟨nm.toArray⟩) := hS.elim fun _ h => h.op 0 _ rfl); go_simp⟩) hHeld ?_
  try simp only [Act.put, List.getElem_toArray, List.getElem_cons_succ, List.getElem_cons_zero, List.setIfInBounds_toArray, List.set_cons_zero, List.set_cons_succ]
  refine wpAnyH_ready (rs := [5]) (by kernel_rfl) (by simp) (AllReadyH.cons rfl (fun K hK2 => ?_) AllReadyH.nil)
  rw [if_pos (by rfl)]
  simp only [List.getElem_toArray, List.getElem_cons_succ, List.getElem_cons_zero]
  go_wp2_with (go_at_call 84; refine (hT0.strL nm (by simp) (by omega)).mono ?_; rintro e w4 ⟨⟨v4, rfl⟩, hT⟩)
  refine hK2.out _ _ (⟨_, hT⟩) (fun hHeld2 => ?_)
  clear hK2 K hHeld hHeld2 hT0
  try simp only [Act.put, List.getElem_toArray, List.getElem_cons_succ, List.getElem_cons_zero, List.setIfInBounds_toArray, List.set_cons_zero, List.set_cons_succ]
  refine wpAnyH_done (by kernel_rfl) ?_ _
  rw [List.nil_append] at hT
  obtain ⟨c0, c1, c2, c3, c4, c5, c6, c7, c8, d1⟩ := hT.all10
  go_wp2_with (first | (go_at_call 50; refine (hT.byte 32 (by (try simp only [List.length_append, List.length_cons, List.length_nil]); omega)).mono ?_; rintro e w5 ⟨⟨v5, rfl⟩, hT2⟩; replace hT := hT2; clear c0 c1 c2 c3 c4 c5 c6 c7 c8 d1; obtain ⟨c0, c1, c2, c3, c4, c5, c6, c7, c8, d1⟩ := hT.all10) | (go_at_call 85; refine (hT.regs2 rd r1 hg1.out hg2.out (by (try simp only [List.length_append, List.length_cons, List.length_nil]); omega) 3 rfl).mono ?_; rintro e w5 ⟨rfl, hT2⟩; replace hT := hT2; clear c0 c1 c2 c3 c4 c5 c6 c7 c8 d1; obtain ⟨c0, c1, c2, c3, c4, c5, c6, c7, c8, d1⟩ := hT.all10) | (go_at_call 86; refine (hT.comma (by (try simp only [List.length_append, List.length_cons, List.length_nil]); omega)).mono ?_; rintro e w5 ⟨rfl, hT2⟩; replace hT := hT2; clear c0 c1 c2 c3 c4 c5 c6 c7 c8 d1; obtain ⟨c0, c1, c2, c3, c4, c5, c6, c7, c8, d1⟩ := hT.all10) | (go_at_call 87; refine (hT.num imm him.out.1 him.out.2 (by (try simp only [List.length_append, List.length_cons, List.length_nil]); omega)).mono ?_; rintro e w5 ⟨rfl, hT2⟩; replace hT := hT2; clear c0 c1 c2 c3 c4 c5 c6 c7 c8 d1; obtain ⟨c0, c1, c2, c3, c4, c5, c6, c7, c8, d1⟩ := hT.all10) | (go_at_call 51; refine (hT.string (fun e => hne.out (by have h := congrArg List.length e; (try simp only [List.length_append, List.length_nil] at h); exact List.length_eq_zero_iff.1 (by omega)))).mono ?_; rintro e w9 ⟨rfl, hbl⟩))
  go_ret2
  have hb2 := hbody.out
  try simp only [List.append_assoc, List.cons_append, List.nil_append] at hb2
  exact ⟨by rw [hb2]; rfl, hbl⟩
end Go.Proofs.YtdbpnbmaineniaaGreatDoor
namespace Go.Proofs.YtdbpnbmaineniaaGreatDoor
open Go.RowKit
set_option maxRecDepth 100000 in
set_option maxHeartbeats 8000000 in
theorem IText_8 (op rd r1 r2 imm : Int) (aq rl : Bool) (pred succ : Int) (w : World) (ht : Tabs w) (hp : P10 w) (hop : op ≤ 9223372036854775807) (hc : checkE ⟨op, rd, r1, r2, imm, aq, rl, pred, succ⟩ = 0) (hf : (opOf op).form = 8) (him : -9223372036854775808 ≤ imm ∧ imm ≤ 9223372036854775807) :
    Calls Tryz.prog 29 #[.agg #[.int .i64 op, .int .i64 rd, .int .i64 r1, .int .i64 r2, .int .i64 imm, .bool aq, .bool rl, .int .i64 pred, .int .i64 succ]] w fun e w' => e = .returned (.tuple #[.string ⟨(bodyT ⟨op, rd, r1, r2, imm, aq, rl, pred, succ⟩).toArray⟩, .int .i64 0]) ∧ Below w.heap.size w w' := by
  obtain ⟨g1, g2, g3, g4, g5, g6, g7, g8⟩ := ok_facts ⟨op, rd, r1, r2, imm, aq, rl, pred, succ⟩ hc
  simp only at g1 g2 g3 g4 g5 g6 g7 g8
  obtain ⟨rfl, rfl⟩ : aq = false ∧ rl = false := by
    rw [hf] at g6
    rcases g6 with g6 | g6 | g6
    · exact absurd g6 (by decide)
    · exact absurd g6 (by decide)
    · exact g6
  have hbody : bodyT ⟨op, rd, r1, r2, imm, false, false, pred, succ⟩ = (opOf op).name ++ [32] ++ regT rd ++ [44, 32] ++ regT r1 ++ [44, 32] ++ regT r2 := by
    rw [body_eq _ hc]
    show (opOf op).name ++ flagT false false ++ tailT _ = _
    unfold tailT flagT
    simp only [hf]
    simp [List.append_assoc]
  have hne : (opOf op).name ≠ [] := name_full op (by rw [hf]; decide)
  have n0 := (info_op op).2.2
  have n1 := regT_lenS rd g1.1 g1.2
  have n2 := regT_lenS r1 g2.1 g2.2
  have n3 := regT_lenS r2 g3.1 g3.2
  have n4 := signL_lenS imm
  have n5 := partT_lenS pred.toNat
  have n6 := partT_lenS succ.toNat
  have hB := XB.start w (InsnV.cells ⟨op, rd, r1, r2, imm, false, false, pred, succ⟩).toList 23
  rw [Array.toArray_toList] at hB
  have hu := Tryz.underlying23
  have hi : (Tryz.prog.info? 23).map (·.size) = some (InsnV.cells ⟨op, rd, r1, r2, imm, false, false, pred, succ⟩).toList.length := by kernel_rfl
  have hK := Lib.hid (fun W hW => Check_any ⟨op, rd, r1, r2, imm, false, false, pred, succ⟩ hop W hW)
  have hO := Lib.hid (fun W hW => of_any op hop W hW)
  have ht1 := ht.later ((Below.refl _ w).alloc (Nat.le_refl _) (.cells (InsnV.cells ⟨op, rd, r1, r2, imm, false, false, pred, succ⟩) 23)) (Nat.le_refl _)
  have hp1 := hp.later ((Below.refl _ w).alloc (Nat.le_refl _) (.cells (InsnV.cells ⟨op, rd, r1, r2, imm, false, false, pred, succ⟩) 23)) (Nat.le_refl _)
  obtain ⟨c0, c1, c2, c3, c4, c5, c6, c7, c8⟩ := hB.all9
  rw [hc] at hK
  rw [hf] at hO
  generalize (opOf op).name = nm at hO hbody hne n0
  generalize (opOf op).loads = o2 at hO
  generalize (opOf op).stores = o3 at hO
  generalize (opOf op).size = o4 at hO
  obtain ⟨r, hr⟩ : ∃ r, bodyT ⟨op, rd, r1, r2, imm, false, false, pred, succ⟩ = r := ⟨_, rfl⟩
  rw [hr] at hbody ⊢
  clear hr hc hf ht hp hop
  replace hbody := Lib.hid hbody
  replace hne := Lib.hid hne
  replace him := Lib.hid him
  have hg1 := Lib.hid g1
  have hg2 := Lib.hid g2
  have hg3 := Lib.hid g3
  have hg4 := Lib.hid g4
  have hg5 := Lib.hid g5
  clear g1 g2 g3 g4 g5 g6 g7 g8
  go_enter Tryz.func29, Tryz.ntmps29
  go_upto_region 6 with (first | (refine wpList_load_mid rfl 23 _ rfl w.heap.size 0 rfl (InsnV.cells ⟨op, rd, r1, r2, imm, false, false, pred, succ⟩).toList _ hB.c hu rfl hi ?_) | (go_at_call 27; refine (hK.out _ ht1).mono ?_; rintro e w1 ⟨rfl, hb1⟩; replace hB := hB.keep hb1; replace ht1 := ht1.later hb1 (Nat.le_refl _); replace hp1 := hp1.later hb1 (Nat.le_refl _); clear hb1 c0 c1 c2 c3 c4 c5 c6 c7 c8; obtain ⟨c0, c1, c2, c3, c4, c5, c6, c7, c8⟩ := hB.all9) | (go_at_call 75; refine (hO.out _ ht1).mono ?_; rintro e w2 ⟨rfl, hb2⟩; replace hB := hB.keep hb2; replace hp1 := hp1.later hb2 (Nat.le_refl _); clear hb2 ht1 c0 c1 c2 c3 c4 c5 c6 c7 c8; obtain ⟨c0, c1, c2, c3, c4, c5, c6, c7, c8⟩ := hB.all9))
  have hT0 := TX.start hB hp1 [.string ⟨nm.toArray⟩, .int .i64 8, .bool o2, .bool o3, .int .i64 o4] 106 115 rfl
  clear c0 c1 c2 c3 c4 c5 c6 c7 c8 hB hp1
  generalize hW9 : ((w2.alloc _).alloc _ : World) = W9 at hT0 ⊢
  clear hW9
  generalize w2.heap.size = q at hT0 ⊢
  generalize hb9 : q + 1 = b at hT0 ⊢
  clear hb9
  replace hT0 := hT0.keep (Below.refl W9.heap.size W9).drew
  refine wp_region_held_drew (S := fun W => ∃ l, TX w (InsnV.cells ⟨op, rd, r1, r2, imm, false, false, pred, succ⟩).toList [.string ⟨nm.toArray⟩, .int .i64 8, .bool o2, .bool o3, .int .i64 o4] q b l W) (by kernel_rfl) ⟨_, hT0⟩ (fun hHeld => ?_)
  refine tkS 0 (.pointer (some ⟨b, 0, none⟩)) hHeld ?_
  try simp only [Act.put, List.getElem_toArray, List.getElem_cons_zero, List.setIfInBounds_toArray, List.set_cons_zero, List.set_cons_succ]
  generalize World.drew _ = W8 at hHeld hT0 ⊢
  refine tkS 1 (.pointer (some ⟨b, 0, none⟩)) hHeld ?_
  try simp only [Act.put, List.getElem_toArray, List.getElem_cons_succ, List.getElem_cons_zero, List.setIfInBounds_toArray, List.set_cons_zero, List.set_cons_succ]
  refine tkS 2 (.pointer (some ⟨b, 0, none⟩)) hHeld ?_
  try simp only [Act.put, List.getElem_toArray, List.getElem_cons_succ, List.getElem_cons_zero, List.setIfInBounds_toArray, List.set_cons_zero, List.set_cons_succ]
  refine tkS 3 (.pointer (some ⟨q, 0, none⟩)) hHeld ?_
  try simp only [Act.put, List.getElem_toArray, List.getElem_cons_succ, List.getElem_cons_zero, List.setIfInBounds_toArray, List.set_cons_zero, List.set_cons_succ]
  refine wpAnyH_take (i := 4) (v := .string ⟨nm.toArray⟩) rfl (by kernel_rfl) (by kernel_rfl) (by kernel_rfl) (fun _ _ _ h => h) (Or.inl ⟨by rfl, fun W hS => by (have k : W.cell? ⟨q, 0, none⟩ = some (.string ⟨nm.toArray⟩) := hS.elim fun _ h => h.op 0 _ rfl); go_simp⟩) hHeld ?_
  try simp only [Act.put, List.getElem_toArray, List.getElem_cons_succ, List.getElem_cons_zero, List.setIfInBounds_toArray, List.set_cons_zero, List.set_cons_succ]
  refine wpAnyH_ready (rs := [5]) (by kernel_rfl) (by simp) (AllReadyH.cons rfl (fun K hK2 => ?_) AllReadyH.nil)
  rw [if_pos (by rfl)]
  simp only [List.getElem_toArray, List.getElem_cons_succ, List.getElem_cons_zero]
  go_wp2_with (go_at_call 84; refine (hT0.strL nm (by simp) (by omega)).mono ?_; rintro e w4 ⟨⟨v4, rfl⟩, hT⟩)
  refine hK2.out _ _ (⟨_, hT⟩) (fun hHeld2 => ?_)
  clear hK2 K hHeld hHeld2 hT0
  try simp only [Act.put, List.getElem_toArray, List.getElem_cons_succ, List.getElem_cons_zero, List.setIfInBounds_toArray, List.set_cons_zero, List.set_cons_succ]
  refine wpAnyH_done (by kernel_rfl) ?_ _
  rw [List.nil_append] at hT
  obtain ⟨c0, c1, c2, c3, c4, c5, c6, c7, c8, d1⟩ := hT.all10
  go_wp2_with (first | (go_at_call 50; refine (hT.byte 32 (by (try simp only [List.length_append, List.length_cons, List.length_nil]); omega)).mono ?_; rintro e w5 ⟨⟨v5, rfl⟩, hT2⟩; replace hT := hT2; clear c0 c1 c2 c3 c4 c5 c6 c7 c8 d1; obtain ⟨c0, c1, c2, c3, c4, c5, c6, c7, c8, d1⟩ := hT.all10) | (go_at_call 85; refine (hT.regs3 rd r1 r2 hg1.out hg2.out hg3.out (by (try simp only [List.length_append, List.length_cons, List.length_nil]); omega) 3 rfl).mono ?_; rintro e w5 ⟨rfl, hT2⟩; replace hT := hT2; clear c0 c1 c2 c3 c4 c5 c6 c7 c8 d1; obtain ⟨c0, c1, c2, c3, c4, c5, c6, c7, c8, d1⟩ := hT.all10) | (go_at_call 86; refine (hT.comma (by (try simp only [List.length_append, List.length_cons, List.length_nil]); omega)).mono ?_; rintro e w5 ⟨rfl, hT2⟩; replace hT := hT2; clear c0 c1 c2 c3 c4 c5 c6 c7 c8 d1; obtain ⟨c0, c1, c2, c3, c4, c5, c6, c7, c8, d1⟩ := hT.all10) | (go_at_call 51; refine (hT.string (fun e => hne.out (by have h := congrArg List.length e; (try simp only [List.length_append, List.length_nil] at h); exact List.length_eq_zero_iff.1 (by omega)))).mono ?_; rintro e w9 ⟨rfl, hbl⟩))
  go_ret2
  have hb2 := hbody.out
  try simp only [List.append_assoc, List.cons_append, List.nil_append] at hb2
  exact ⟨by rw [hb2]; rfl, hbl⟩
set_option maxRecDepth 100000 in
set_option maxHeartbeats 8000000 in
theorem IText_9 (op rd r1 r2 imm : Int) (aq rl : Bool) (pred succ : Int) (w : World) (ht : Tabs w) (hp : P10 w) (hop : op ≤ 9223372036854775807) (hc : checkE ⟨op, rd, r1, r2, imm, aq, rl, pred, succ⟩ = 0) (hf : (opOf op).form = 9) (him : -9223372036854775808 ≤ imm ∧ imm ≤ 9223372036854775807) :
    Calls Tryz.prog 29 #[.agg #[.int .i64 op, .int .i64 rd, .int .i64 r1, .int .i64 r2, .int .i64 imm, .bool aq, .bool rl, .int .i64 pred, .int .i64 succ]] w fun e w' => e = .returned (.tuple #[.string ⟨(bodyT ⟨op, rd, r1, r2, imm, aq, rl, pred, succ⟩).toArray⟩, .int .i64 0]) ∧ Below w.heap.size w w' := by
  obtain ⟨g1, g2, g3, g4, g5, g6, g7, g8⟩ := ok_facts ⟨op, rd, r1, r2, imm, aq, rl, pred, succ⟩ hc
  simp only at g1 g2 g3 g4 g5 g6 g7 g8
  obtain ⟨rfl, rfl⟩ : aq = false ∧ rl = false := by
    rw [hf] at g6
    rcases g6 with g6 | g6 | g6
    · exact absurd g6 (by decide)
    · exact absurd g6 (by decide)
    · exact g6
  have hbody : bodyT ⟨op, rd, r1, r2, imm, false, false, pred, succ⟩ = (opOf op).name ++ [32] ++ partT pred.toNat ++ [44, 32] ++ partT succ.toNat := by
    rw [body_eq _ hc]
    show (opOf op).name ++ flagT false false ++ tailT _ = _
    unfold tailT flagT
    simp only [hf]
    simp [List.append_assoc]
  have hne : (opOf op).name ≠ [] := name_full op (by rw [hf]; decide)
  have n0 := (info_op op).2.2
  have n1 := regT_lenS rd g1.1 g1.2
  have n2 := regT_lenS r1 g2.1 g2.2
  have n3 := regT_lenS r2 g3.1 g3.2
  have n4 := signL_lenS imm
  have n5 := partT_lenS pred.toNat
  have n6 := partT_lenS succ.toNat
  have hB := XB.start w (InsnV.cells ⟨op, rd, r1, r2, imm, false, false, pred, succ⟩).toList 23
  rw [Array.toArray_toList] at hB
  have hu := Tryz.underlying23
  have hi : (Tryz.prog.info? 23).map (·.size) = some (InsnV.cells ⟨op, rd, r1, r2, imm, false, false, pred, succ⟩).toList.length := by kernel_rfl
  have hK := Lib.hid (fun W hW => Check_any ⟨op, rd, r1, r2, imm, false, false, pred, succ⟩ hop W hW)
  have hO := Lib.hid (fun W hW => of_any op hop W hW)
  have ht1 := ht.later ((Below.refl _ w).alloc (Nat.le_refl _) (.cells (InsnV.cells ⟨op, rd, r1, r2, imm, false, false, pred, succ⟩) 23)) (Nat.le_refl _)
  have hp1 := hp.later ((Below.refl _ w).alloc (Nat.le_refl _) (.cells (InsnV.cells ⟨op, rd, r1, r2, imm, false, false, pred, succ⟩) 23)) (Nat.le_refl _)
  obtain ⟨c0, c1, c2, c3, c4, c5, c6, c7, c8⟩ := hB.all9
  rw [hc] at hK
  rw [hf] at hO
  generalize (opOf op).name = nm at hO hbody hne n0
  generalize (opOf op).loads = o2 at hO
  generalize (opOf op).stores = o3 at hO
  generalize (opOf op).size = o4 at hO
  obtain ⟨r, hr⟩ : ∃ r, bodyT ⟨op, rd, r1, r2, imm, false, false, pred, succ⟩ = r := ⟨_, rfl⟩
  rw [hr] at hbody ⊢
  clear hr hc hf ht hp hop
  replace hbody := Lib.hid hbody
  replace hne := Lib.hid hne
  replace him := Lib.hid him
  have hg1 := Lib.hid g1
  have hg2 := Lib.hid g2
  have hg3 := Lib.hid g3
  have hg4 := Lib.hid g4
  have hg5 := Lib.hid g5
  clear g1 g2 g3 g4 g5 g6 g7 g8
  go_enter Tryz.func29, Tryz.ntmps29
  go_upto_region 6 with (first | (refine wpList_load_mid rfl 23 _ rfl w.heap.size 0 rfl (InsnV.cells ⟨op, rd, r1, r2, imm, false, false, pred, succ⟩).toList _ hB.c hu rfl hi ?_) | (go_at_call 27; refine (hK.out _ ht1).mono ?_; rintro e w1 ⟨rfl, hb1⟩; replace hB := hB.keep hb1; replace ht1 := ht1.later hb1 (Nat.le_refl _); replace hp1 := hp1.later hb1 (Nat.le_refl _); clear hb1 c0 c1 c2 c3 c4 c5 c6 c7 c8; obtain ⟨c0, c1, c2, c3, c4, c5, c6, c7, c8⟩ := hB.all9) | (go_at_call 75; refine (hO.out _ ht1).mono ?_; rintro e w2 ⟨rfl, hb2⟩; replace hB := hB.keep hb2; replace hp1 := hp1.later hb2 (Nat.le_refl _); clear hb2 ht1 c0 c1 c2 c3 c4 c5 c6 c7 c8; obtain ⟨c0, c1, c2, c3, c4, c5, c6, c7, c8⟩ := hB.all9))
  have hT0 := TX.start hB hp1 [.string ⟨nm.toArray⟩, .int .i64 9, .bool o2, .bool o3, .int .i64 o4] 106 115 rfl
  clear c0 c1 c2 c3 c4 c5 c6 c7 c8 hB hp1
  generalize hW9 : ((w2.alloc _).alloc _ : World) = W9 at hT0 ⊢
  clear hW9
  generalize w2.heap.size = q at hT0 ⊢
  generalize hb9 : q + 1 = b at hT0 ⊢
  clear hb9
  replace hT0 := hT0.keep (Below.refl W9.heap.size W9).drew
  refine wp_region_held_drew (S := fun W => ∃ l, TX w (InsnV.cells ⟨op, rd, r1, r2, imm, false, false, pred, succ⟩).toList [.string ⟨nm.toArray⟩, .int .i64 9, .bool o2, .bool o3, .int .i64 o4] q b l W) (by kernel_rfl) ⟨_, hT0⟩ (fun hHeld => ?_)
  refine tkS 0 (.pointer (some ⟨b, 0, none⟩)) hHeld ?_
  try simp only [Act.put, List.getElem_toArray, List.getElem_cons_zero, List.setIfInBounds_toArray, List.set_cons_zero, List.set_cons_succ]
  generalize World.drew _ = W8 at hHeld hT0 ⊢
  refine tkS 1 (.pointer (some ⟨b, 0, none⟩)) hHeld ?_
  try simp only [Act.put, List.getElem_toArray, List.getElem_cons_succ, List.getElem_cons_zero, List.setIfInBounds_toArray, List.set_cons_zero, List.set_cons_succ]
  refine tkS 2 (.pointer (some ⟨b, 0, none⟩)) hHeld ?_
  try simp only [Act.put, List.getElem_toArray, List.getElem_cons_succ, List.getElem_cons_zero, List.setIfInBounds_toArray, List.set_cons_zero, List.set_cons_succ]
  refine tkS 3 (.pointer (some ⟨q, 0, none⟩)) hHeld ?_
  try simp only [Act.put, List.getElem_toArray, List.getElem_cons_succ, List.getElem_cons_zero, List.setIfInBounds_toArray, List.set_cons_zero, List.set_cons_succ]
  refine wpAnyH_take (i := 4) (v := .string ⟨nm.toArray⟩) rfl (by kernel_rfl) (by kernel_rfl) (by kernel_rfl) (fun _ _ _ h => h) (Or.inl ⟨by rfl, fun W hS => by (have k : W.cell? ⟨q, 0, none⟩ = some (.string ⟨nm.toArray⟩) := hS.elim fun _ h => h.op 0 _ rfl); go_simp⟩) hHeld ?_
  try simp only [Act.put, List.getElem_toArray, List.getElem_cons_succ, List.getElem_cons_zero, List.setIfInBounds_toArray, List.set_cons_zero, List.set_cons_succ]
  refine wpAnyH_ready (rs := [5]) (by kernel_rfl) (by simp) (AllReadyH.cons rfl (fun K hK2 => ?_) AllReadyH.nil)
  rw [if_pos (by rfl)]
  simp only [List.getElem_toArray, List.getElem_cons_succ, List.getElem_cons_zero]
  go_wp2_with (go_at_call 84; refine (hT0.strL nm (by simp) (by omega)).mono ?_; rintro e w4 ⟨⟨v4, rfl⟩, hT⟩)
  refine hK2.out _ _ (⟨_, hT⟩) (fun hHeld2 => ?_)
  clear hK2 K hHeld hHeld2 hT0
  try simp only [Act.put, List.getElem_toArray, List.getElem_cons_succ, List.getElem_cons_zero, List.setIfInBounds_toArray, List.set_cons_zero, List.set_cons_succ]
  refine wpAnyH_done (by kernel_rfl) ?_ _
  rw [List.nil_append] at hT
  obtain ⟨c0, c1, c2, c3, c4, c5, c6, c7, c8, d1⟩ := hT.all10
  go_upto_region 50 with (first | (go_at_call 50; refine (hT.byte 32 (by (try simp only [List.length_append, List.length_cons, List.length_nil]); omega)).mono ?_; rintro e w5 ⟨⟨v5, rfl⟩, hT2⟩; replace hT := hT2; clear c0 c1 c2 c3 c4 c5 c6 c7 c8 d1; obtain ⟨c0, c1, c2, c3, c4, c5, c6, c7, c8, d1⟩ := hT.all10) | (go_at_call 86; refine (hT.comma (by (try simp only [List.length_append, List.length_cons, List.length_nil]); omega)).mono ?_; rintro e w5 ⟨rfl, hT2⟩; replace hT := hT2; clear c0 c1 c2 c3 c4 c5 c6 c7 c8 d1; obtain ⟨c0, c1, c2, c3, c4, c5, c6, c7, c8, d1⟩ := hT.all10) | (go_at_call 89; refine (hT.set pred hg4.out.1 hg4.out.2 (by (try simp only [List.length_append, List.length_cons, List.length_nil]); omega)).mono ?_; rintro e w5 ⟨rfl, hT2⟩; replace hT := hT2; clear c0 c1 c2 c3 c4 c5 c6 c7 c8 d1; obtain ⟨c0, c1, c2, c3, c4, c5, c6, c7, c8, d1⟩ := hT.all10))
  go_wp2_with (first | (go_at_call 89; refine (hT.set succ hg5.out.1 hg5.out.2 (by (try simp only [List.length_append, List.length_cons, List.length_nil]); omega)).mono ?_; rintro e w5 ⟨rfl, hT2⟩; replace hT := hT2; clear c0 c1 c2 c3 c4 c5 c6 c7 c8 d1; obtain ⟨c0, c1, c2, c3, c4, c5, c6, c7, c8, d1⟩ := hT.all10) | (go_at_call 51; refine (hT.string (fun e => hne.out (by have h := congrArg List.length e; (try simp only [List.length_append, List.length_nil] at h); exact List.length_eq_zero_iff.1 (by omega)))).mono ?_; rintro e w9 ⟨rfl, hbl⟩))
  go_ret2
  have hb2 := hbody.out
  try simp only [List.append_assoc, List.cons_append, List.nil_append] at hb2
  exact ⟨by rw [hb2]; rfl, hbl⟩
set_option maxRecDepth 100000 in
set_option maxHeartbeats 8000000 in
theorem IText_10 (op rd r1 r2 imm : Int) (aq rl : Bool) (pred succ : Int) (w : World) (ht : Tabs w) (hp : P10 w) (hop : op ≤ 9223372036854775807) (hc : checkE ⟨op, rd, r1, r2, imm, aq, rl, pred, succ⟩ = 0) (hf : (opOf op).form = 10) (him : -9223372036854775808 ≤ imm ∧ imm ≤ 9223372036854775807) :
    Calls Tryz.prog 29 #[.agg #[.int .i64 op, .int .i64 rd, .int .i64 r1, .int .i64 r2, .int .i64 imm, .bool aq, .bool rl, .int .i64 pred, .int .i64 succ]] w fun e w' => e = .returned (.tuple #[.string ⟨(bodyT ⟨op, rd, r1, r2, imm, aq, rl, pred, succ⟩).toArray⟩, .int .i64 0]) ∧ Below w.heap.size w w' := by
  obtain ⟨g1, g2, g3, g4, g5, g6, g7, g8⟩ := ok_facts ⟨op, rd, r1, r2, imm, aq, rl, pred, succ⟩ hc
  simp only at g1 g2 g3 g4 g5 g6 g7 g8
  obtain ⟨rfl, rfl⟩ : aq = false ∧ rl = false := by
    rw [hf] at g6
    rcases g6 with g6 | g6 | g6
    · exact absurd g6 (by decide)
    · exact absurd g6 (by decide)
    · exact g6
  have hbody : bodyT ⟨op, rd, r1, r2, imm, false, false, pred, succ⟩ = (opOf op).name := by
    rw [body_eq _ hc]
    show (opOf op).name ++ flagT false false ++ tailT _ = _
    unfold tailT flagT
    simp only [hf]
    simp [List.append_assoc]
  have hne : (opOf op).name ≠ [] := name_full op (by rw [hf]; decide)
  have n0 := (info_op op).2.2
  have n1 := regT_lenS rd g1.1 g1.2
  have n2 := regT_lenS r1 g2.1 g2.2
  have n3 := regT_lenS r2 g3.1 g3.2
  have n4 := signL_lenS imm
  have n5 := partT_lenS pred.toNat
  have n6 := partT_lenS succ.toNat
  have hB := XB.start w (InsnV.cells ⟨op, rd, r1, r2, imm, false, false, pred, succ⟩).toList 23
  rw [Array.toArray_toList] at hB
  have hu := Tryz.underlying23
  have hi : (Tryz.prog.info? 23).map (·.size) = some (InsnV.cells ⟨op, rd, r1, r2, imm, false, false, pred, succ⟩).toList.length := by kernel_rfl
  have hK := Lib.hid (fun W hW => Check_any ⟨op, rd, r1, r2, imm, false, false, pred, succ⟩ hop W hW)
  have hO := Lib.hid (fun W hW => of_any op hop W hW)
  have ht1 := ht.later ((Below.refl _ w).alloc (Nat.le_refl _) (.cells (InsnV.cells ⟨op, rd, r1, r2, imm, false, false, pred, succ⟩) 23)) (Nat.le_refl _)
  have hp1 := hp.later ((Below.refl _ w).alloc (Nat.le_refl _) (.cells (InsnV.cells ⟨op, rd, r1, r2, imm, false, false, pred, succ⟩) 23)) (Nat.le_refl _)
  obtain ⟨c0, c1, c2, c3, c4, c5, c6, c7, c8⟩ := hB.all9
  rw [hc] at hK
  rw [hf] at hO
  generalize (opOf op).name = nm at hO hbody hne n0
  generalize (opOf op).loads = o2 at hO
  generalize (opOf op).stores = o3 at hO
  generalize (opOf op).size = o4 at hO
  obtain ⟨r, hr⟩ : ∃ r, bodyT ⟨op, rd, r1, r2, imm, false, false, pred, succ⟩ = r := ⟨_, rfl⟩
  rw [hr] at hbody ⊢
  clear hr hc hf ht hp hop
  replace hbody := Lib.hid hbody
  replace hne := Lib.hid hne
  replace him := Lib.hid him
  have hg1 := Lib.hid g1
  have hg2 := Lib.hid g2
  have hg3 := Lib.hid g3
  have hg4 := Lib.hid g4
  have hg5 := Lib.hid g5
  clear g1 g2 g3 g4 g5 g6 g7 g8
  go_enter Tryz.func29, Tryz.ntmps29
  go_upto_region 6 with (first | (refine wpList_load_mid rfl 23 _ rfl w.heap.size 0 rfl (InsnV.cells ⟨op, rd, r1, r2, imm, false, false, pred, succ⟩).toList _ hB.c hu rfl hi ?_) | (go_at_call 27; refine (hK.out _ ht1).mono ?_; rintro e w1 ⟨rfl, hb1⟩; replace hB := hB.keep hb1; replace ht1 := ht1.later hb1 (Nat.le_refl _); replace hp1 := hp1.later hb1 (Nat.le_refl _); clear hb1 c0 c1 c2 c3 c4 c5 c6 c7 c8; obtain ⟨c0, c1, c2, c3, c4, c5, c6, c7, c8⟩ := hB.all9) | (go_at_call 75; refine (hO.out _ ht1).mono ?_; rintro e w2 ⟨rfl, hb2⟩; replace hB := hB.keep hb2; replace hp1 := hp1.later hb2 (Nat.le_refl _); clear hb2 ht1 c0 c1 c2 c3 c4 c5 c6 c7 c8; obtain ⟨c0, c1, c2, c3, c4, c5, c6, c7, c8⟩ := hB.all9))
  have hT0 := TX.start hB hp1 [.string ⟨nm.toArray⟩, .int .i64 10, .bool o2, .bool o3, .int .i64 o4] 106 115 rfl
  clear c0 c1 c2 c3 c4 c5 c6 c7 c8 hB hp1
  generalize hW9 : ((w2.alloc _).alloc _ : World) = W9 at hT0 ⊢
  clear hW9
  generalize w2.heap.size = q at hT0 ⊢
  generalize hb9 : q + 1 = b at hT0 ⊢
  clear hb9
  replace hT0 := hT0.keep (Below.refl W9.heap.size W9).drew
  refine wp_region_held_drew (S := fun W => ∃ l, TX w (InsnV.cells ⟨op, rd, r1, r2, imm, false, false, pred, succ⟩).toList [.string ⟨nm.toArray⟩, .int .i64 10, .bool o2, .bool o3, .int .i64 o4] q b l W) (by kernel_rfl) ⟨_, hT0⟩ (fun hHeld => ?_)
  refine tkS 0 (.pointer (some ⟨b, 0, none⟩)) hHeld ?_
  try simp only [Act.put, List.getElem_toArray, List.getElem_cons_zero, List.setIfInBounds_toArray, List.set_cons_zero, List.set_cons_succ]
  generalize World.drew _ = W8 at hHeld hT0 ⊢
  refine tkS 1 (.pointer (some ⟨b, 0, none⟩)) hHeld ?_
  try simp only [Act.put, List.getElem_toArray, List.getElem_cons_succ, List.getElem_cons_zero, List.setIfInBounds_toArray, List.set_cons_zero, List.set_cons_succ]
  refine tkS 2 (.pointer (some ⟨b, 0, none⟩)) hHeld ?_
  try simp only [Act.put, List.getElem_toArray, List.getElem_cons_succ, List.getElem_cons_zero, List.setIfInBounds_toArray, List.set_cons_zero, List.set_cons_succ]
  refine tkS 3 (.pointer (some ⟨q, 0, none⟩)) hHeld ?_
  try simp only [Act.put, List.getElem_toArray, List.getElem_cons_succ, List.getElem_cons_zero, List.setIfInBounds_toArray, List.set_cons_zero, List.set_cons_succ]
  refine wpAnyH_take (i := 4) (v := .string ⟨nm.toArray⟩) rfl (by kernel_rfl) (by kernel_rfl) (by kernel_rfl) (fun _ _ _ h => h) (Or.inl ⟨by rfl, fun W hS => by (have k : W.cell? ⟨q, 0, none⟩ = some (.string ⟨nm.toArray⟩) := hS.elim fun _ h => h.op 0 _ rfl); go_simp⟩) hHeld ?_
  try simp only [Act.put, List.getElem_toArray, List.getElem_cons_succ, List.getElem_cons_zero, List.setIfInBounds_toArray, List.set_cons_zero, List.set_cons_succ]
  refine wpAnyH_ready (rs := [5]) (by kernel_rfl) (by simp) (AllReadyH.cons rfl (fun K hK2 => ?_) AllReadyH.nil)
  rw [if_pos (by rfl)]
  simp only [List.getElem_toArray, List.getElem_cons_succ, List.getElem_cons_zero]
  go_wp2_with (go_at_call 84; refine (hT0.strL nm (by simp) (by omega)).mono ?_; rintro e w4 ⟨⟨v4, rfl⟩, hT⟩)
  refine hK2.out _ _ (⟨_, hT⟩) (fun hHeld2 => ?_)
  clear hK2 K hHeld hHeld2 hT0
  try simp only [Act.put, List.getElem_toArray, List.getElem_cons_succ, List.getElem_cons_zero, List.setIfInBounds_toArray, List.set_cons_zero, List.set_cons_succ]
  refine wpAnyH_done (by kernel_rfl) ?_ _
  rw [List.nil_append] at hT
  obtain ⟨c0, c1, c2, c3, c4, c5, c6, c7, c8, d1⟩ := hT.all10
  go_wp2_with (first | (go_at_call 51; refine (hT.string (fun e => hne.out (by have h := congrArg List.length e; (try simp only [List.length_append, List.length_nil] at h); exact List.length_eq_zero_iff.1 (by omega)))).mono ?_; rintro e w9 ⟨rfl, hbl⟩))
  go_ret2
  have hb2 := hbody.out
  try simp only [List.append_assoc, List.cons_append, List.nil_append] at hb2
  exact ⟨by rw [hb2]; rfl, hbl⟩
end Go.Proofs.YtdbpnbmaineniaaGreatDoor
