/- The walk of insn.Text: form 11. Conditions: the library's tables of spaces and of powers of ten lie as its initialisers lay them. -/
import Derived.Test.YtgkgljlejnihdaaDoorInsnTx
set_option linter.unusedVariables false
set_option linter.unusedSimpArgs false
namespace Go.Proofs.YtgkgljlejnihdaaDoor
open Go.RowKit
set_option maxRecDepth 100000 in
set_option maxHeartbeats 8000000 in
theorem IText_11_ff (op rd r1 r2 imm : Int) (aq rl : Bool) (pred succ : Int) (w : World) (ht : Tabs w) (hp : P10 w) (hop : op ≤ 9223372036854775807) (haq : aq = false) (hrl : rl = false) (hc : checkE ⟨op, rd, r1, r2, imm, aq, rl, pred, succ⟩ = 0) (hf : (opOf op).form = 11) (him : -9223372036854775808 ≤ imm ∧ imm ≤ 9223372036854775807) :
    Calls Tryd.prog 47 #[.agg #[.int .i64 op, .int .i64 rd, .int .i64 r1, .int .i64 r2, .int .i64 imm, .bool aq, .bool rl, .int .i64 pred, .int .i64 succ]] w fun e w' => e = .returned (.tuple #[.string ⟨(bodyT ⟨op, rd, r1, r2, imm, aq, rl, pred, succ⟩).toArray⟩, .int .i64 0]) ∧ Below w.heap.size w w' := by
  obtain ⟨g1, g2, g3, g4, g5, g6, g7, g8⟩ := ok_facts ⟨op, rd, r1, r2, imm, aq, rl, pred, succ⟩ hc
  simp only at g1 g2 g3 g4 g5 g6 g7 g8
  subst haq hrl
  have hbody : bodyT ⟨op, rd, r1, r2, imm, false, false, pred, succ⟩ = (opOf op).name ++ [32] ++ regT rd ++ [44, 32] ++ [40] ++ regT r1 ++ [41] := by
    rw [body_eq _ hc]
    show (opOf op).name ++ flagT false false ++ tailT _ = _
    unfold tailT flagT
    simp only [hf]
    simp [List.append_assoc]
  have hne : (opOf op).name ≠ [] := name_full op (by rw [hf]; decide)
  have n0 := (info_op op).2.2
  have n1 := regT_len rd g1.1 g1.2
  have n2 := regT_len r1 g2.1 g2.2
  have n3 := regT_len r2 g3.1 g3.2
  have n4 := signL_len imm
  have n5 := partT_len pred.toNat
  have n6 := partT_len succ.toNat
  have hB := XB.start w (InsnV.cells ⟨op, rd, r1, r2, imm, false, false, pred, succ⟩).toList 23
  rw [Array.toArray_toList] at hB
  have hu := Tryd.underlying23
  have hi : (Tryd.prog.info? 23).map (·.size) = some (InsnV.cells ⟨op, rd, r1, r2, imm, false, false, pred, succ⟩).toList.length := by kernel_rfl
  have hK := Lib.hid (fun W hW => Check_any ⟨op, rd, r1, r2, imm, false, false, pred, succ⟩ hop W hW)
  have hO := Lib.hid (fun W hW => of_any op hop W hW)
  have ht1 := ht.later ((Below.refl _ w).alloc (Nat.le_refl _) (.cells (InsnV.cells ⟨op, rd, r1, r2, imm, false, false, pred, succ⟩) 23)) (Nat.le_refl _)
  have hp1 := hp.later ((Below.refl _ w).alloc (Nat.le_refl _) (.cells (InsnV.cells ⟨op, rd, r1, r2, imm, false, false, pred, succ⟩) 23)) (Nat.le_refl _)
  have c0 : _ = some (Value.int .i64 op) := hB.at 0 _ rfl
  have c1 : _ = some (Value.int .i64 rd) := hB.at 1 _ rfl
  have c2 : _ = some (Value.int .i64 r1) := hB.at 2 _ rfl
  have c3 : _ = some (Value.int .i64 r2) := hB.at 3 _ rfl
  have c4 : _ = some (Value.int .i64 imm) := hB.at 4 _ rfl
  have c5 : _ = some (Value.bool false) := hB.at 5 _ rfl
  have c6 : _ = some (Value.bool false) := hB.at 6 _ rfl
  have c7 : _ = some (Value.int .i64 pred) := hB.at 7 _ rfl
  have c8 : _ = some (Value.int .i64 succ) := hB.at 8 _ rfl
  rw [hc] at hK
  rw [hf] at hO
  generalize (opOf op).name = nm at hO hbody hne n0
  generalize (opOf op).loads = o2 at hO
  generalize (opOf op).stores = o3 at hO
  generalize (opOf op).size = o4 at hO
  obtain ⟨r, hr⟩ : ∃ r, bodyT ⟨op, rd, r1, r2, imm, false, false, pred, succ⟩ = r := ⟨_, rfl⟩
  rw [hr] at hbody ⊢
  clear hr hc hf ht hp hop
  replace hbody := Lib.hid hbody
  replace hne := Lib.hid hne
  replace him := Lib.hid him
  have hg1 := Lib.hid g1
  have hg2 := Lib.hid g2
  have hg3 := Lib.hid g3
  have hg4 := Lib.hid g4
  have hg5 := Lib.hid g5
  clear g1 g2 g3 g4 g5 g6 g7 g8
  go_enter Tryd.func47, Tryd.ntmps47
  go_upto_region 6 with (first | (refine wpList_load_mid rfl 23 _ rfl w.heap.size 0 rfl (InsnV.cells ⟨op, rd, r1, r2, imm, false, false, pred, succ⟩).toList _ hB.c hu rfl hi ?_) | (go_at_call 11; refine (hK.out _ ht1).mono ?_; rintro e w1 ⟨rfl, hb1⟩; replace hB := hB.keep hb1; replace ht1 := ht1.later hb1 (Nat.le_refl _); replace hp1 := hp1.later hb1 (Nat.le_refl _); clear hb1 c0 c1 c2 c3 c4 c5 c6 c7 c8; have c0 : _ = some (Value.int .i64 op) := hB.at 0 _ rfl; have c1 : _ = some (Value.int .i64 rd) := hB.at 1 _ rfl; have c2 : _ = some (Value.int .i64 r1) := hB.at 2 _ rfl; have c3 : _ = some (Value.int .i64 r2) := hB.at 3 _ rfl; have c4 : _ = some (Value.int .i64 imm) := hB.at 4 _ rfl; have c5 : _ = some (Value.bool false) := hB.at 5 _ rfl; have c6 : _ = some (Value.bool false) := hB.at 6 _ rfl; have c7 : _ = some (Value.int .i64 pred) := hB.at 7 _ rfl; have c8 : _ = some (Value.int .i64 succ) := hB.at 8 _ rfl) | (go_at_call 38; refine (hO.out _ ht1).mono ?_; rintro e w2 ⟨rfl, hb2⟩; replace hB := hB.keep hb2; replace hp1 := hp1.later hb2 (Nat.le_refl _); clear hb2 ht1 c0 c1 c2 c3 c4 c5 c6 c7 c8; have c0 : _ = some (Value.int .i64 op) := hB.at 0 _ rfl; have c1 : _ = some (Value.int .i64 rd) := hB.at 1 _ rfl; have c2 : _ = some (Value.int .i64 r1) := hB.at 2 _ rfl; have c3 : _ = some (Value.int .i64 r2) := hB.at 3 _ rfl; have c4 : _ = some (Value.int .i64 imm) := hB.at 4 _ rfl; have c5 : _ = some (Value.bool false) := hB.at 5 _ rfl; have c6 : _ = some (Value.bool false) := hB.at 6 _ rfl; have c7 : _ = some (Value.int .i64 pred) := hB.at 7 _ rfl; have c8 : _ = some (Value.int .i64 succ) := hB.at 8 _ rfl))
  have hT0 := TX.start hB hp1 [.string ⟨nm.toArray⟩, .int .i64 11, .bool o2, .bool o3, .int .i64 o4] 67 104 rfl
  clear c0 c1 c2 c3 c4 c5 c6 c7 c8 hB hp1
  generalize hW9 : ((w2.alloc _).alloc _ : World) = W9 at hT0 ⊢
  clear hW9
  generalize w2.heap.size = q at hT0 ⊢
  generalize hb9 : q + 1 = b at hT0 ⊢
  clear hb9
  replace hT0 := hT0.keep (Below.refl W9.heap.size W9).drew
  refine wp_region_held_drew (S := fun W => ∃ l, TX w (InsnV.cells ⟨op, rd, r1, r2, imm, false, false, pred, succ⟩).toList [.string ⟨nm.toArray⟩, .int .i64 11, .bool o2, .bool o3, .int .i64 o4] q b l W) (by kernel_rfl) ⟨_, hT0⟩ (fun hHeld => ?_)
  refine wpAnyH_take (i := 0) (v := .pointer (some ⟨b, 0, none⟩)) rfl (by kernel_rfl) (by kernel_rfl) (by kernel_rfl) (fun _ _ _ h => h) (Or.inl ⟨by rfl, fun W _ => by kernel_rfl⟩) hHeld ?_
  try simp only [Act.put, List.getElem_toArray, List.getElem_cons_zero, List.setIfInBounds_toArray, List.set_cons_zero, List.set_cons_succ]
  generalize World.drew _ = W8 at hHeld hT0 ⊢
  refine wpAnyH_take (i := 1) (v := .pointer (some ⟨b, 0, none⟩)) rfl (by kernel_rfl) (by kernel_rfl) (by kernel_rfl) (fun _ _ _ h => h) (Or.inl ⟨by rfl, fun W _ => by kernel_rfl⟩) hHeld ?_
  try simp only [Act.put, List.getElem_toArray, List.getElem_cons_succ, List.getElem_cons_zero, List.setIfInBounds_toArray, List.set_cons_zero, List.set_cons_succ]
  refine wpAnyH_take (i := 2) (v := .pointer (some ⟨b, 0, none⟩)) rfl (by kernel_rfl) (by kernel_rfl) (by kernel_rfl) (fun _ _ _ h => h) (Or.inl ⟨by rfl, fun W _ => by kernel_rfl⟩) hHeld ?_
  try simp only [Act.put, List.getElem_toArray, List.getElem_cons_succ, List.getElem_cons_zero, List.setIfInBounds_toArray, List.set_cons_zero, List.set_cons_succ]
  refine wpAnyH_take (i := 3) (v := .pointer (some ⟨q, 0, none⟩)) rfl (by kernel_rfl) (by kernel_rfl) (by kernel_rfl) (fun _ _ _ h => h) (Or.inl ⟨by rfl, fun W _ => by kernel_rfl⟩) hHeld ?_
  try simp only [Act.put, List.getElem_toArray, List.getElem_cons_succ, List.getElem_cons_zero, List.setIfInBounds_toArray, List.set_cons_zero, List.set_cons_succ]
  refine wpAnyH_take (i := 4) (v := .string ⟨nm.toArray⟩) rfl (by kernel_rfl) (by kernel_rfl) (by kernel_rfl) (fun _ _ _ h => h) (Or.inl ⟨by rfl, fun W hS => by (have k : W.cell? ⟨q, 0, none⟩ = some (.string ⟨nm.toArray⟩) := hS.elim fun _ h => h.op 0 _ rfl); go_simp⟩) hHeld ?_
  try simp only [Act.put, List.getElem_toArray, List.getElem_cons_succ, List.getElem_cons_zero, List.setIfInBounds_toArray, List.set_cons_zero, List.set_cons_succ]
  refine wpAnyH_ready (rs := [5]) (by kernel_rfl) (by simp) (AllReadyH.cons rfl (fun K hK2 => ?_) AllReadyH.nil)
  rw [if_pos (by rfl)]
  simp only [List.getElem_toArray, List.getElem_cons_succ, List.getElem_cons_zero]
  go_wp2_with (go_at_call 70; refine (hT0.strL nm (by simp) (by omega)).mono ?_; rintro e w4 ⟨⟨v4, rfl⟩, hT⟩)
  refine hK2.out _ _ (⟨_, hT⟩) (fun hHeld2 => ?_)
  clear hK2 K hHeld hHeld2 hT0
  try simp only [Act.put, List.getElem_toArray, List.getElem_cons_succ, List.getElem_cons_zero, List.setIfInBounds_toArray, List.set_cons_zero, List.set_cons_succ]
  refine wpAnyH_done (by kernel_rfl) ?_ _
  rw [List.nil_append] at hT
  have c0 : _ = some (Value.int .i64 op) := hT.at 0 _ rfl
  have c1 : _ = some (Value.int .i64 rd) := hT.at 1 _ rfl
  have c2 : _ = some (Value.int .i64 r1) := hT.at 2 _ rfl
  have c3 : _ = some (Value.int .i64 r2) := hT.at 3 _ rfl
  have c4 : _ = some (Value.int .i64 imm) := hT.at 4 _ rfl
  have c5 : _ = some (Value.bool false) := hT.at 5 _ rfl
  have c6 : _ = some (Value.bool false) := hT.at 6 _ rfl
  have c7 : _ = some (Value.int .i64 pred) := hT.at 7 _ rfl
  have c8 : _ = some (Value.int .i64 succ) := hT.at 8 _ rfl
  have d1 : _ = some (Value.int .i64 11) := hT.op 1 _ rfl
  go_wp2_with (first | (go_at_call 71; refine (hT.byte 32 (by (try simp only [List.length_append, List.length_cons, List.length_nil]); omega)).mono ?_; rintro e w5 ⟨⟨v5, rfl⟩, hT2⟩; replace hT := hT2; clear c0 c1 c2 c3 c4 c5 c6 c7 c8 d1; have c0 : _ = some (Value.int .i64 op) := hT.at 0 _ rfl; have c1 : _ = some (Value.int .i64 rd) := hT.at 1 _ rfl; have c2 : _ = some (Value.int .i64 r1) := hT.at 2 _ rfl; have c3 : _ = some (Value.int .i64 r2) := hT.at 3 _ rfl; have c4 : _ = some (Value.int .i64 imm) := hT.at 4 _ rfl; have c5 : _ = some (Value.bool false) := hT.at 5 _ rfl; have c6 : _ = some (Value.bool false) := hT.at 6 _ rfl; have c7 : _ = some (Value.int .i64 pred) := hT.at 7 _ rfl; have c8 : _ = some (Value.int .i64 succ) := hT.at 8 _ rfl; have d1 : _ = some (Value.int .i64 11) := hT.op 1 _ rfl) | (go_at_call 72; refine (hT.regs1 rd hg1.out (by (try simp only [List.length_append, List.length_cons, List.length_nil]); omega) 3 rfl).mono ?_; rintro e w5 ⟨rfl, hT2⟩; replace hT := hT2; clear c0 c1 c2 c3 c4 c5 c6 c7 c8 d1; have c0 : _ = some (Value.int .i64 op) := hT.at 0 _ rfl; have c1 : _ = some (Value.int .i64 rd) := hT.at 1 _ rfl; have c2 : _ = some (Value.int .i64 r1) := hT.at 2 _ rfl; have c3 : _ = some (Value.int .i64 r2) := hT.at 3 _ rfl; have c4 : _ = some (Value.int .i64 imm) := hT.at 4 _ rfl; have c5 : _ = some (Value.bool false) := hT.at 5 _ rfl; have c6 : _ = some (Value.bool false) := hT.at 6 _ rfl; have c7 : _ = some (Value.int .i64 pred) := hT.at 7 _ rfl; have c8 : _ = some (Value.int .i64 succ) := hT.at 8 _ rfl; have d1 : _ = some (Value.int .i64 11) := hT.op 1 _ rfl) | (go_at_call 73; refine (hT.comma (by (try simp only [List.length_append, List.length_cons, List.length_nil]); omega)).mono ?_; rintro e w5 ⟨rfl, hT2⟩; replace hT := hT2; clear c0 c1 c2 c3 c4 c5 c6 c7 c8 d1; have c0 : _ = some (Value.int .i64 op) := hT.at 0 _ rfl; have c1 : _ = some (Value.int .i64 rd) := hT.at 1 _ rfl; have c2 : _ = some (Value.int .i64 r1) := hT.at 2 _ rfl; have c3 : _ = some (Value.int .i64 r2) := hT.at 3 _ rfl; have c4 : _ = some (Value.int .i64 imm) := hT.at 4 _ rfl; have c5 : _ = some (Value.bool false) := hT.at 5 _ rfl; have c6 : _ = some (Value.bool false) := hT.at 6 _ rfl; have c7 : _ = some (Value.int .i64 pred) := hT.at 7 _ rfl; have c8 : _ = some (Value.int .i64 succ) := hT.at 8 _ rfl; have d1 : _ = some (Value.int .i64 11) := hT.op 1 _ rfl) | (go_at_call 75; refine (hT.att r1 hg2.out.1 hg2.out.2 (by (try simp only [List.length_append, List.length_cons, List.length_nil]); omega)).mono ?_; rintro e w5 ⟨rfl, hT2⟩; replace hT := hT2; clear c0 c1 c2 c3 c4 c5 c6 c7 c8 d1; have c0 : _ = some (Value.int .i64 op) := hT.at 0 _ rfl; have c1 : _ = some (Value.int .i64 rd) := hT.at 1 _ rfl; have c2 : _ = some (Value.int .i64 r1) := hT.at 2 _ rfl; have c3 : _ = some (Value.int .i64 r2) := hT.at 3 _ rfl; have c4 : _ = some (Value.int .i64 imm) := hT.at 4 _ rfl; have c5 : _ = some (Value.bool false) := hT.at 5 _ rfl; have c6 : _ = some (Value.bool false) := hT.at 6 _ rfl; have c7 : _ = some (Value.int .i64 pred) := hT.at 7 _ rfl; have c8 : _ = some (Value.int .i64 succ) := hT.at 8 _ rfl; have d1 : _ = some (Value.int .i64 11) := hT.op 1 _ rfl) | (go_at_call 77; refine (hT.string (fun e => hne.out (by have h := congrArg List.length e; (try simp only [List.length_append, List.length_nil] at h); exact List.length_eq_zero_iff.1 (by omega)))).mono ?_; rintro e w9 ⟨rfl, hbl⟩))
  go_ret2
  have hb2 := hbody.out
  try simp only [List.append_assoc, List.cons_append, List.nil_append] at hb2
  exact ⟨by rw [hb2]; rfl, hbl⟩
set_option maxRecDepth 100000 in
set_option maxHeartbeats 8000000 in
theorem IText_11_ft (op rd r1 r2 imm : Int) (aq rl : Bool) (pred succ : Int) (w : World) (ht : Tabs w) (hp : P10 w) (hop : op ≤ 9223372036854775807) (haq : aq = false) (hrl : rl = true) (hc : checkE ⟨op, rd, r1, r2, imm, aq, rl, pred, succ⟩ = 0) (hf : (opOf op).form = 11) (him : -9223372036854775808 ≤ imm ∧ imm ≤ 9223372036854775807) :
    Calls Tryd.prog 47 #[.agg #[.int .i64 op, .int .i64 rd, .int .i64 r1, .int .i64 r2, .int .i64 imm, .bool aq, .bool rl, .int .i64 pred, .int .i64 succ]] w fun e w' => e = .returned (.tuple #[.string ⟨(bodyT ⟨op, rd, r1, r2, imm, aq, rl, pred, succ⟩).toArray⟩, .int .i64 0]) ∧ Below w.heap.size w w' := by
  obtain ⟨g1, g2, g3, g4, g5, g6, g7, g8⟩ := ok_facts ⟨op, rd, r1, r2, imm, aq, rl, pred, succ⟩ hc
  simp only at g1 g2 g3 g4 g5 g6 g7 g8
  subst haq hrl
  have hbody : bodyT ⟨op, rd, r1, r2, imm, false, true, pred, succ⟩ = (opOf op).name ++ [46] ++ [114, 108] ++ [32] ++ regT rd ++ [44, 32] ++ [40] ++ regT r1 ++ [41] := by
    rw [body_eq _ hc]
    show (opOf op).name ++ flagT false true ++ tailT _ = _
    unfold tailT flagT
    simp only [hf]
    simp [List.append_assoc]
  have hne : (opOf op).name ≠ [] := name_full op (by rw [hf]; decide)
  have n0 := (info_op op).2.2
  have n1 := regT_len rd g1.1 g1.2
  have n2 := regT_len r1 g2.1 g2.2
  have n3 := regT_len r2 g3.1 g3.2
  have n4 := signL_len imm
  have n5 := partT_len pred.toNat
  have n6 := partT_len succ.toNat
  have hB := XB.start w (InsnV.cells ⟨op, rd, r1, r2, imm, false, true, pred, succ⟩).toList 23
  rw [Array.toArray_toList] at hB
  have hu := Tryd.underlying23
  have hi : (Tryd.prog.info? 23).map (·.size) = some (InsnV.cells ⟨op, rd, r1, r2, imm, false, true, pred, succ⟩).toList.length := by kernel_rfl
  have hK := Lib.hid (fun W hW => Check_any ⟨op, rd, r1, r2, imm, false, true, pred, succ⟩ hop W hW)
  have hO := Lib.hid (fun W hW => of_any op hop W hW)
  have ht1 := ht.later ((Below.refl _ w).alloc (Nat.le_refl _) (.cells (InsnV.cells ⟨op, rd, r1, r2, imm, false, true, pred, succ⟩) 23)) (Nat.le_refl _)
  have hp1 := hp.later ((Below.refl _ w).alloc (Nat.le_refl _) (.cells (InsnV.cells ⟨op, rd, r1, r2, imm, false, true, pred, succ⟩) 23)) (Nat.le_refl _)
  have c0 : _ = some (Value.int .i64 op) := hB.at 0 _ rfl
  have c1 : _ = some (Value.int .i64 rd) := hB.at 1 _ rfl
  have c2 : _ = some (Value.int .i64 r1) := hB.at 2 _ rfl
  have c3 : _ = some (Value.int .i64 r2) := hB.at 3 _ rfl
  have c4 : _ = some (Value.int .i64 imm) := hB.at 4 _ rfl
  have c5 : _ = some (Value.bool false) := hB.at 5 _ rfl
  have c6 : _ = some (Value.bool true) := hB.at 6 _ rfl
  have c7 : _ = some (Value.int .i64 pred) := hB.at 7 _ rfl
  have c8 : _ = some (Value.int .i64 succ) := hB.at 8 _ rfl
  rw [hc] at hK
  rw [hf] at hO
  generalize (opOf op).name = nm at hO hbody hne n0
  generalize (opOf op).loads = o2 at hO
  generalize (opOf op).stores = o3 at hO
  generalize (opOf op).size = o4 at hO
  obtain ⟨r, hr⟩ : ∃ r, bodyT ⟨op, rd, r1, r2, imm, false, true, pred, succ⟩ = r := ⟨_, rfl⟩
  rw [hr] at hbody ⊢
  clear hr hc hf ht hp hop
  replace hbody := Lib.hid hbody
  replace hne := Lib.hid hne
  replace him := Lib.hid him
  have hg1 := Lib.hid g1
  have hg2 := Lib.hid g2
  have hg3 := Lib.hid g3
  have hg4 := Lib.hid g4
  have hg5 := Lib.hid g5
  clear g1 g2 g3 g4 g5 g6 g7 g8
  go_enter Tryd.func47, Tryd.ntmps47
  go_upto_region 6 with (first | (refine wpList_load_mid rfl 23 _ rfl w.heap.size 0 rfl (InsnV.cells ⟨op, rd, r1, r2, imm, false, true, pred, succ⟩).toList _ hB.c hu rfl hi ?_) | (go_at_call 11; refine (hK.out _ ht1).mono ?_; rintro e w1 ⟨rfl, hb1⟩; replace hB := hB.keep hb1; replace ht1 := ht1.later hb1 (Nat.le_refl _); replace hp1 := hp1.later hb1 (Nat.le_refl _); clear hb1 c0 c1 c2 c3 c4 c5 c6 c7 c8; have c0 : _ = some (Value.int .i64 op) := hB.at 0 _ rfl; have c1 : _ = some (Value.int .i64 rd) := hB.at 1 _ rfl; have c2 : _ = some (Value.int .i64 r1) := hB.at 2 _ rfl; have c3 : _ = some (Value.int .i64 r2) := hB.at 3 _ rfl; have c4 : _ = some (Value.int .i64 imm) := hB.at 4 _ rfl; have c5 : _ = some (Value.bool false) := hB.at 5 _ rfl; have c6 : _ = some (Value.bool true) := hB.at 6 _ rfl; have c7 : _ = some (Value.int .i64 pred) := hB.at 7 _ rfl; have c8 : _ = some (Value.int .i64 succ) := hB.at 8 _ rfl) | (go_at_call 38; refine (hO.out _ ht1).mono ?_; rintro e w2 ⟨rfl, hb2⟩; replace hB := hB.keep hb2; replace hp1 := hp1.later hb2 (Nat.le_refl _); clear hb2 ht1 c0 c1 c2 c3 c4 c5 c6 c7 c8; have c0 : _ = some (Value.int .i64 op) := hB.at 0 _ rfl; have c1 : _ = some (Value.int .i64 rd) := hB.at 1 _ rfl; have c2 : _ = some (Value.int .i64 r1) := hB.at 2 _ rfl; have c3 : _ = some (Value.int .i64 r2) := hB.at 3 _ rfl; have c4 : _ = some (Value.int .i64 imm) := hB.at 4 _ rfl; have c5 : _ = some (Value.bool false) := hB.at 5 _ rfl; have c6 : _ = some (Value.bool true) := hB.at 6 _ rfl; have c7 : _ = some (Value.int .i64 pred) := hB.at 7 _ rfl; have c8 : _ = some (Value.int .i64 succ) := hB.at 8 _ rfl))
  have hT0 := TX.start hB hp1 [.string ⟨nm.toArray⟩, .int .i64 11, .bool o2, .bool o3, .int .i64 o4] 67 104 rfl
  clear c0 c1 c2 c3 c4 c5 c6 c7 c8 hB hp1
  generalize hW9 : ((w2.alloc _).alloc _ : World) = W9 at hT0 ⊢
  clear hW9
  generalize w2.heap.size = q at hT0 ⊢
  generalize hb9 : q + 1 = b at hT0 ⊢
  clear hb9
  replace hT0 := hT0.keep (Below.refl W9.heap.size W9).drew
  refine wp_region_held_drew (S := fun W => ∃ l, TX w (InsnV.cells ⟨op, rd, r1, r2, imm, false, true, pred, succ⟩).toList [.string ⟨nm.toArray⟩, .int .i64 11, .bool o2, .bool o3, .int .i64 o4] q b l W) (by kernel_rfl) ⟨_, hT0⟩ (fun hHeld => ?_)
  refine wpAnyH_take (i := 0) (v := .pointer (some ⟨b, 0, none⟩)) rfl (by kernel_rfl) (by kernel_rfl) (by kernel_rfl) (fun _ _ _ h => h) (Or.inl ⟨by rfl, fun W _ => by kernel_rfl⟩) hHeld ?_
  try simp only [Act.put, List.getElem_toArray, List.getElem_cons_zero, List.setIfInBounds_toArray, List.set_cons_zero, List.set_cons_succ]
  generalize World.drew _ = W8 at hHeld hT0 ⊢
  refine wpAnyH_take (i := 1) (v := .pointer (some ⟨b, 0, none⟩)) rfl (by kernel_rfl) (by kernel_rfl) (by kernel_rfl) (fun _ _ _ h => h) (Or.inl ⟨by rfl, fun W _ => by kernel_rfl⟩) hHeld ?_
  try simp only [Act.put, List.getElem_toArray, List.getElem_cons_succ, List.getElem_cons_zero, List.setIfInBounds_toArray, List.set_cons_zero, List.set_cons_succ]
  refine wpAnyH_take (i := 2) (v := .pointer (some ⟨b, 0, none⟩)) rfl (by kernel_rfl) (by kernel_rfl) (by kernel_rfl) (fun _ _ _ h => h) (Or.inl ⟨by rfl, fun W _ => by kernel_rfl⟩) hHeld ?_
  try simp only [Act.put, List.getElem_toArray, List.getElem_cons_succ, List.getElem_cons_zero, List.setIfInBounds_toArray, List.set_cons_zero, List.set_cons_succ]
  refine wpAnyH_take (i := 3) (v := .pointer (some ⟨q, 0, none⟩)) rfl (by kernel_rfl) (by kernel_rfl) (by kernel_rfl) (fun _ _ _ h => h) (Or.inl ⟨by rfl, fun W _ => by kernel_rfl⟩) hHeld ?_
  try simp only [Act.put, List.getElem_toArray, List.getElem_cons_succ, List.getElem_cons_zero, List.setIfInBounds_toArray, List.set_cons_zero, List.set_cons_succ]
  refine wpAnyH_take (i := 4) (v := .string ⟨nm.toArray⟩) rfl (by kernel_rfl) (by kernel_rfl) (by kernel_rfl) (fun _ _ _ h => h) (Or.inl ⟨by rfl, fun W hS => by (have k : W.cell? ⟨q, 0, none⟩ = some (.string ⟨nm.toArray⟩) := hS.elim fun _ h => h.op 0 _ rfl); go_simp⟩) hHeld ?_
  try simp only [Act.put, List.getElem_toArray, List.getElem_cons_succ, List.getElem_cons_zero, List.setIfInBounds_toArray, List.set_cons_zero, List.set_cons_succ]
  refine wpAnyH_ready (rs := [5]) (by kernel_rfl) (by simp) (AllReadyH.cons rfl (fun K hK2 => ?_) AllReadyH.nil)
  rw [if_pos (by rfl)]
  simp only [List.getElem_toArray, List.getElem_cons_succ, List.getElem_cons_zero]
  go_wp2_with (go_at_call 70; refine (hT0.strL nm (by simp) (by omega)).mono ?_; rintro e w4 ⟨⟨v4, rfl⟩, hT⟩)
  refine hK2.out _ _ (⟨_, hT⟩) (fun hHeld2 => ?_)
  clear hK2 K hHeld hHeld2 hT0
  try simp only [Act.put, List.getElem_toArray, List.getElem_cons_succ, List.getElem_cons_zero, List.setIfInBounds_toArray, List.set_cons_zero, List.set_cons_succ]
  refine wpAnyH_done (by kernel_rfl) ?_ _
  rw [List.nil_append] at hT
  have c0 : _ = some (Value.int .i64 op) := hT.at 0 _ rfl
  have c1 : _ = some (Value.int .i64 rd) := hT.at 1 _ rfl
  have c2 : _ = some (Value.int .i64 r1) := hT.at 2 _ rfl
  have c3 : _ = some (Value.int .i64 r2) := hT.at 3 _ rfl
  have c4 : _ = some (Value.int .i64 imm) := hT.at 4 _ rfl
  have c5 : _ = some (Value.bool false) := hT.at 5 _ rfl
  have c6 : _ = some (Value.bool true) := hT.at 6 _ rfl
  have c7 : _ = some (Value.int .i64 pred) := hT.at 7 _ rfl
  have c8 : _ = some (Value.int .i64 succ) := hT.at 8 _ rfl
  have d1 : _ = some (Value.int .i64 11) := hT.op 1 _ rfl
  go_upto_region 9 with (go_at_call 71; refine (hT.byte 46 (by (try simp only [List.length_append, List.length_cons, List.length_nil]); omega)).mono ?_; rintro e w5 ⟨⟨v5, rfl⟩, hT2⟩; replace hT := hT2; clear c0 c1 c2 c3 c4 c5 c6 c7 c8 d1; have c0 : _ = some (Value.int .i64 op) := hT.at 0 _ rfl; have c1 : _ = some (Value.int .i64 rd) := hT.at 1 _ rfl; have c2 : _ = some (Value.int .i64 r1) := hT.at 2 _ rfl; have c3 : _ = some (Value.int .i64 r2) := hT.at 3 _ rfl; have c4 : _ = some (Value.int .i64 imm) := hT.at 4 _ rfl; have c5 : _ = some (Value.bool false) := hT.at 5 _ rfl; have c6 : _ = some (Value.bool true) := hT.at 6 _ rfl; have c7 : _ = some (Value.int .i64 pred) := hT.at 7 _ rfl; have c8 : _ = some (Value.int .i64 succ) := hT.at 8 _ rfl; have d1 : _ = some (Value.int .i64 11) := hT.op 1 _ rfl)
  go_upto_region 13 with (go_at_call 70; refine (hT.strL [114, 108] (by (try simp only [List.length_append, List.length_cons, List.length_nil]); omega) (by decide)).mono ?_; rintro e w5 ⟨⟨v5, rfl⟩, hT2⟩; replace hT := hT2; clear c0 c1 c2 c3 c4 c5 c6 c7 c8 d1; have c0 : _ = some (Value.int .i64 op) := hT.at 0 _ rfl; have c1 : _ = some (Value.int .i64 rd) := hT.at 1 _ rfl; have c2 : _ = some (Value.int .i64 r1) := hT.at 2 _ rfl; have c3 : _ = some (Value.int .i64 r2) := hT.at 3 _ rfl; have c4 : _ = some (Value.int .i64 imm) := hT.at 4 _ rfl; have c5 : _ = some (Value.bool false) := hT.at 5 _ rfl; have c6 : _ = some (Value.bool true) := hT.at 6 _ rfl; have c7 : _ = some (Value.int .i64 pred) := hT.at 7 _ rfl; have c8 : _ = some (Value.int .i64 succ) := hT.at 8 _ rfl; have d1 : _ = some (Value.int .i64 11) := hT.op 1 _ rfl)
  go_wp2_with (first | (go_at_call 71; refine (hT.byte 32 (by (try simp only [List.length_append, List.length_cons, List.length_nil]); omega)).mono ?_; rintro e w5 ⟨⟨v5, rfl⟩, hT2⟩; replace hT := hT2; clear c0 c1 c2 c3 c4 c5 c6 c7 c8 d1; have c0 : _ = some (Value.int .i64 op) := hT.at 0 _ rfl; have c1 : _ = some (Value.int .i64 rd) := hT.at 1 _ rfl; have c2 : _ = some (Value.int .i64 r1) := hT.at 2 _ rfl; have c3 : _ = some (Value.int .i64 r2) := hT.at 3 _ rfl; have c4 : _ = some (Value.int .i64 imm) := hT.at 4 _ rfl; have c5 : _ = some (Value.bool false) := hT.at 5 _ rfl; have c6 : _ = some (Value.bool true) := hT.at 6 _ rfl; have c7 : _ = some (Value.int .i64 pred) := hT.at 7 _ rfl; have c8 : _ = some (Value.int .i64 succ) := hT.at 8 _ rfl; have d1 : _ = some (Value.int .i64 11) := hT.op 1 _ rfl) | (go_at_call 72; refine (hT.regs1 rd hg1.out (by (try simp only [List.length_append, List.length_cons, List.length_nil]); omega) 3 rfl).mono ?_; rintro e w5 ⟨rfl, hT2⟩; replace hT := hT2; clear c0 c1 c2 c3 c4 c5 c6 c7 c8 d1; have c0 : _ = some (Value.int .i64 op) := hT.at 0 _ rfl; have c1 : _ = some (Value.int .i64 rd) := hT.at 1 _ rfl; have c2 : _ = some (Value.int .i64 r1) := hT.at 2 _ rfl; have c3 : _ = some (Value.int .i64 r2) := hT.at 3 _ rfl; have c4 : _ = some (Value.int .i64 imm) := hT.at 4 _ rfl; have c5 : _ = some (Value.bool false) := hT.at 5 _ rfl; have c6 : _ = some (Value.bool true) := hT.at 6 _ rfl; have c7 : _ = some (Value.int .i64 pred) := hT.at 7 _ rfl; have c8 : _ = some (Value.int .i64 succ) := hT.at 8 _ rfl; have d1 : _ = some (Value.int .i64 11) := hT.op 1 _ rfl) | (go_at_call 73; refine (hT.comma (by (try simp only [List.length_append, List.length_cons, List.length_nil]); omega)).mono ?_; rintro e w5 ⟨rfl, hT2⟩; replace hT := hT2; clear c0 c1 c2 c3 c4 c5 c6 c7 c8 d1; have c0 : _ = some (Value.int .i64 op) := hT.at 0 _ rfl; have c1 : _ = some (Value.int .i64 rd) := hT.at 1 _ rfl; have c2 : _ = some (Value.int .i64 r1) := hT.at 2 _ rfl; have c3 : _ = some (Value.int .i64 r2) := hT.at 3 _ rfl; have c4 : _ = some (Value.int .i64 imm) := hT.at 4 _ rfl; have c5 : _ = some (Value.bool false) := hT.at 5 _ rfl; have c6 : _ = some (Value.bool true) := hT.at 6 _ rfl; have c7 : _ = some (Value.int .i64 pred) := hT.at 7 _ rfl; have c8 : _ = some (Value.int .i64 succ) := hT.at 8 _ rfl; have d1 : _ = some (Value.int .i64 11) := hT.op 1 _ rfl) | (go_at_call 75; refine (hT.att r1 hg2.out.1 hg2.out.2 (by (try simp only [List.length_append, List.length_cons, List.length_nil]); omega)).mono ?_; rintro e w5 ⟨rfl, hT2⟩; replace hT := hT2; clear c0 c1 c2 c3 c4 c5 c6 c7 c8 d1; have c0 : _ = some (Value.int .i64 op) := hT.at 0 _ rfl; have c1 : _ = some (Value.int .i64 rd) := hT.at 1 _ rfl; have c2 : _ = some (Value.int .i64 r1) := hT.at 2 _ rfl; have c3 : _ = some (Value.int .i64 r2) := hT.at 3 _ rfl; have c4 : _ = some (Value.int .i64 imm) := hT.at 4 _ rfl; have c5 : _ = some (Value.bool false) := hT.at 5 _ rfl; have c6 : _ = some (Value.bool true) := hT.at 6 _ rfl; have c7 : _ = some (Value.int .i64 pred) := hT.at 7 _ rfl; have c8 : _ = some (Value.int .i64 succ) := hT.at 8 _ rfl; have d1 : _ = some (Value.int .i64 11) := hT.op 1 _ rfl) | (go_at_call 77; refine (hT.string (fun e => hne.out (by have h := congrArg List.length e; (try simp only [List.length_append, List.length_nil] at h); exact List.length_eq_zero_iff.1 (by omega)))).mono ?_; rintro e w9 ⟨rfl, hbl⟩))
  go_ret2
  have hb2 := hbody.out
  try simp only [List.append_assoc, List.cons_append, List.nil_append] at hb2
  exact ⟨by rw [hb2]; rfl, hbl⟩
set_option maxRecDepth 100000 in
set_option maxHeartbeats 8000000 in
theorem IText_11_tf (op rd r1 r2 imm : Int) (aq rl : Bool) (pred succ : Int) (w : World) (ht : Tabs w) (hp : P10 w) (hop : op ≤ 9223372036854775807) (haq : aq = true) (hrl : rl = false) (hc : checkE ⟨op, rd, r1, r2, imm, aq, rl, pred, succ⟩ = 0) (hf : (opOf op).form = 11) (him : -9223372036854775808 ≤ imm ∧ imm ≤ 9223372036854775807) :
    Calls Tryd.prog 47 #[.agg #[.int .i64 op, .int .i64 rd, .int .i64 r1, .int .i64 r2, .int .i64 imm, .bool aq, .bool rl, .int .i64 pred, .int .i64 succ]] w fun e w' => e = .returned (.tuple #[.string ⟨(bodyT ⟨op, rd, r1, r2, imm, aq, rl, pred, succ⟩).toArray⟩, .int .i64 0]) ∧ Below w.heap.size w w' := by
  obtain ⟨g1, g2, g3, g4, g5, g6, g7, g8⟩ := ok_facts ⟨op, rd, r1, r2, imm, aq, rl, pred, succ⟩ hc
  simp only at g1 g2 g3 g4 g5 g6 g7 g8
  subst haq hrl
  have hbody : bodyT ⟨op, rd, r1, r2, imm, true, false, pred, succ⟩ = (opOf op).name ++ [46] ++ [97, 113] ++ [32] ++ regT rd ++ [44, 32] ++ [40] ++ regT r1 ++ [41] := by
    rw [body_eq _ hc]
    show (opOf op).name ++ flagT true false ++ tailT _ = _
    unfold tailT flagT
    simp only [hf]
    simp [List.append_assoc]
  have hne : (opOf op).name ≠ [] := name_full op (by rw [hf]; decide)
  have n0 := (info_op op).2.2
  have n1 := regT_len rd g1.1 g1.2
  have n2 := regT_len r1 g2.1 g2.2
  have n3 := regT_len r2 g3.1 g3.2
  have n4 := signL_len imm
  have n5 := partT_len pred.toNat
  have n6 := partT_len succ.toNat
  have hB := XB.start w (InsnV.cells ⟨op, rd, r1, r2, imm, true, false, pred, succ⟩).toList 23
  rw [Array.toArray_toList] at hB
  have hu := Tryd.underlying23
  have hi : (Tryd.prog.info? 23).map (·.size) = some (InsnV.cells ⟨op, rd, r1, r2, imm, true, false, pred, succ⟩).toList.length := by kernel_rfl
  have hK := Lib.hid (fun W hW => Check_any ⟨op, rd, r1, r2, imm, true, false, pred, succ⟩ hop W hW)
  have hO := Lib.hid (fun W hW => of_any op hop W hW)
  have ht1 := ht.later ((Below.refl _ w).alloc (Nat.le_refl _) (.cells (InsnV.cells ⟨op, rd, r1, r2, imm, true, false, pred, succ⟩) 23)) (Nat.le_refl _)
  have hp1 := hp.later ((Below.refl _ w).alloc (Nat.le_refl _) (.cells (InsnV.cells ⟨op, rd, r1, r2, imm, true, false, pred, succ⟩) 23)) (Nat.le_refl _)
  have c0 : _ = some (Value.int .i64 op) := hB.at 0 _ rfl
  have c1 : _ = some (Value.int .i64 rd) := hB.at 1 _ rfl
  have c2 : _ = some (Value.int .i64 r1) := hB.at 2 _ rfl
  have c3 : _ = some (Value.int .i64 r2) := hB.at 3 _ rfl
  have c4 : _ = some (Value.int .i64 imm) := hB.at 4 _ rfl
  have c5 : _ = some (Value.bool true) := hB.at 5 _ rfl
  have c6 : _ = some (Value.bool false) := hB.at 6 _ rfl
  have c7 : _ = some (Value.int .i64 pred) := hB.at 7 _ rfl
  have c8 : _ = some (Value.int .i64 succ) := hB.at 8 _ rfl
  rw [hc] at hK
  rw [hf] at hO
  generalize (opOf op).name = nm at hO hbody hne n0
  generalize (opOf op).loads = o2 at hO
  generalize (opOf op).stores = o3 at hO
  generalize (opOf op).size = o4 at hO
  obtain ⟨r, hr⟩ : ∃ r, bodyT ⟨op, rd, r1, r2, imm, true, false, pred, succ⟩ = r := ⟨_, rfl⟩
  rw [hr] at hbody ⊢
  clear hr hc hf ht hp hop
  replace hbody := Lib.hid hbody
  replace hne := Lib.hid hne
  replace him := Lib.hid him
  have hg1 := Lib.hid g1
  have hg2 := Lib.hid g2
  have hg3 := Lib.hid g3
  have hg4 := Lib.hid g4
  have hg5 := Lib.hid g5
  clear g1 g2 g3 g4 g5 g6 g7 g8
  go_enter Tryd.func47, Tryd.ntmps47
  go_upto_region 6 with (first | (refine wpList_load_mid rfl 23 _ rfl w.heap.size 0 rfl (InsnV.cells ⟨op, rd, r1, r2, imm, true, false, pred, succ⟩).toList _ hB.c hu rfl hi ?_) | (go_at_call 11; refine (hK.out _ ht1).mono ?_; rintro e w1 ⟨rfl, hb1⟩; replace hB := hB.keep hb1; replace ht1 := ht1.later hb1 (Nat.le_refl _); replace hp1 := hp1.later hb1 (Nat.le_refl _); clear hb1 c0 c1 c2 c3 c4 c5 c6 c7 c8; have c0 : _ = some (Value.int .i64 op) := hB.at 0 _ rfl; have c1 : _ = some (Value.int .i64 rd) := hB.at 1 _ rfl; have c2 : _ = some (Value.int .i64 r1) := hB.at 2 _ rfl; have c3 : _ = some (Value.int .i64 r2) := hB.at 3 _ rfl; have c4 : _ = some (Value.int .i64 imm) := hB.at 4 _ rfl; have c5 : _ = some (Value.bool true) := hB.at 5 _ rfl; have c6 : _ = some (Value.bool false) := hB.at 6 _ rfl; have c7 : _ = some (Value.int .i64 pred) := hB.at 7 _ rfl; have c8 : _ = some (Value.int .i64 succ) := hB.at 8 _ rfl) | (go_at_call 38; refine (hO.out _ ht1).mono ?_; rintro e w2 ⟨rfl, hb2⟩; replace hB := hB.keep hb2; replace hp1 := hp1.later hb2 (Nat.le_refl _); clear hb2 ht1 c0 c1 c2 c3 c4 c5 c6 c7 c8; have c0 : _ = some (Value.int .i64 op) := hB.at 0 _ rfl; have c1 : _ = some (Value.int .i64 rd) := hB.at 1 _ rfl; have c2 : _ = some (Value.int .i64 r1) := hB.at 2 _ rfl; have c3 : _ = some (Value.int .i64 r2) := hB.at 3 _ rfl; have c4 : _ = some (Value.int .i64 imm) := hB.at 4 _ rfl; have c5 : _ = some (Value.bool true) := hB.at 5 _ rfl; have c6 : _ = some (Value.bool false) := hB.at 6 _ rfl; have c7 : _ = some (Value.int .i64 pred) := hB.at 7 _ rfl; have c8 : _ = some (Value.int .i64 succ) := hB.at 8 _ rfl))
  have hT0 := TX.start hB hp1 [.string ⟨nm.toArray⟩, .int .i64 11, .bool o2, .bool o3, .int .i64 o4] 67 104 rfl
  clear c0 c1 c2 c3 c4 c5 c6 c7 c8 hB hp1
  generalize hW9 : ((w2.alloc _).alloc _ : World) = W9 at hT0 ⊢
  clear hW9
  generalize w2.heap.size = q at hT0 ⊢
  generalize hb9 : q + 1 = b at hT0 ⊢
  clear hb9
  replace hT0 := hT0.keep (Below.refl W9.heap.size W9).drew
  refine wp_region_held_drew (S := fun W => ∃ l, TX w (InsnV.cells ⟨op, rd, r1, r2, imm, true, false, pred, succ⟩).toList [.string ⟨nm.toArray⟩, .int .i64 11, .bool o2, .bool o3, .int .i64 o4] q b l W) (by kernel_rfl) ⟨_, hT0⟩ (fun hHeld => ?_)
  refine wpAnyH_take (i := 0) (v := .pointer (some ⟨b, 0, none⟩)) rfl (by kernel_rfl) (by kernel_rfl) (by kernel_rfl) (fun _ _ _ h => h) (Or.inl ⟨by rfl, fun W _ => by kernel_rfl⟩) hHeld ?_
  try simp only [Act.put, List.getElem_toArray, List.getElem_cons_zero, List.setIfInBounds_toArray, List.set_cons_zero, List.set_cons_succ]
  generalize World.drew _ = W8 at hHeld hT0 ⊢
  refine wpAnyH_take (i := 1) (v := .pointer (some ⟨b, 0, none⟩)) rfl (by kernel_rfl) (by kernel_rfl) (by kernel_rfl) (fun _ _ _ h => h) (Or.inl ⟨by rfl, fun W _ => by kernel_rfl⟩) hHeld ?_
  try simp only [Act.put, List.getElem_toArray, List.getElem_cons_succ, List.getElem_cons_zero, List.setIfInBounds_toArray, List.set_cons_zero, List.set_cons_succ]
  refine wpAnyH_take (i := 2) (v := .pointer (some ⟨b, 0, none⟩)) rfl (by kernel_rfl) (by kernel_rfl) (by kernel_rfl) (fun _ _ _ h => h) (Or.inl ⟨by rfl, fun W _ => by kernel_rfl⟩) hHeld ?_
  try simp only [Act.put, List.getElem_toArray, List.getElem_cons_succ, List.getElem_cons_zero, List.setIfInBounds_toArray, List.set_cons_zero, List.set_cons_succ]
  refine wpAnyH_take (i := 3) (v := .pointer (some ⟨q, 0, none⟩)) rfl (by kernel_rfl) (by kernel_rfl) (by kernel_rfl) (fun _ _ _ h => h) (Or.inl ⟨by rfl, fun W _ => by kernel_rfl⟩) hHeld ?_
  try simp only [Act.put, List.getElem_toArray, List.getElem_cons_succ, List.getElem_cons_zero, List.setIfInBounds_toArray, List.set_cons_zero, List.set_cons_succ]
  refine wpAnyH_take (i := 4) (v := .string ⟨nm.toArray⟩) rfl (by kernel_rfl) (by kernel_rfl) (by kernel_rfl) (fun _ _ _ h => h) (Or.inl ⟨by rfl, fun W hS => by (have k : W.cell? ⟨q, 0, none⟩ = some (.string ⟨nm.toArray⟩) := hS.elim fun _ h => h.op 0 _ rfl); go_simp⟩) hHeld ?_
  try simp only [Act.put, List.getElem_toArray, List.getElem_cons_succ, List.getElem_cons_zero, List.setIfInBounds_toArray, List.set_cons_zero, List.set_cons_succ]
  refine wpAnyH_ready (rs := [5]) (by kernel_rfl) (by simp) (AllReadyH.cons rfl (fun K hK2 => ?_) AllReadyH.nil)
  rw [if_pos (by rfl)]
  simp only [List.getElem_toArray, List.getElem_cons_succ, List.getElem_cons_zero]
  go_wp2_with (go_at_call 70; refine (hT0.strL nm (by simp) (by omega)).mono ?_; rintro e w4 ⟨⟨v4, rfl⟩, hT⟩)
  refine hK2.out _ _ (⟨_, hT⟩) (fun hHeld2 => ?_)
  clear hK2 K hHeld hHeld2 hT0
  try simp only [Act.put, List.getElem_toArray, List.getElem_cons_succ, List.getElem_cons_zero, List.setIfInBounds_toArray, List.set_cons_zero, List.set_cons_succ]
  refine wpAnyH_done (by kernel_rfl) ?_ _
  rw [List.nil_append] at hT
  have c0 : _ = some (Value.int .i64 op) := hT.at 0 _ rfl
  have c1 : _ = some (Value.int .i64 rd) := hT.at 1 _ rfl
  have c2 : _ = some (Value.int .i64 r1) := hT.at 2 _ rfl
  have c3 : _ = some (Value.int .i64 r2) := hT.at 3 _ rfl
  have c4 : _ = some (Value.int .i64 imm) := hT.at 4 _ rfl
  have c5 : _ = some (Value.bool true) := hT.at 5 _ rfl
  have c6 : _ = some (Value.bool false) := hT.at 6 _ rfl
  have c7 : _ = some (Value.int .i64 pred) := hT.at 7 _ rfl
  have c8 : _ = some (Value.int .i64 succ) := hT.at 8 _ rfl
  have d1 : _ = some (Value.int .i64 11) := hT.op 1 _ rfl
  go_upto_region 9 with (go_at_call 71; refine (hT.byte 46 (by (try simp only [List.length_append, List.length_cons, List.length_nil]); omega)).mono ?_; rintro e w5 ⟨⟨v5, rfl⟩, hT2⟩; replace hT := hT2; clear c0 c1 c2 c3 c4 c5 c6 c7 c8 d1; have c0 : _ = some (Value.int .i64 op) := hT.at 0 _ rfl; have c1 : _ = some (Value.int .i64 rd) := hT.at 1 _ rfl; have c2 : _ = some (Value.int .i64 r1) := hT.at 2 _ rfl; have c3 : _ = some (Value.int .i64 r2) := hT.at 3 _ rfl; have c4 : _ = some (Value.int .i64 imm) := hT.at 4 _ rfl; have c5 : _ = some (Value.bool true) := hT.at 5 _ rfl; have c6 : _ = some (Value.bool false) := hT.at 6 _ rfl; have c7 : _ = some (Value.int .i64 pred) := hT.at 7 _ rfl; have c8 : _ = some (Value.int .i64 succ) := hT.at 8 _ rfl; have d1 : _ = some (Value.int .i64 11) := hT.op 1 _ rfl)
  go_upto_region 11 with (go_at_call 70; refine (hT.strL [97, 113] (by (try simp only [List.length_append, List.length_cons, List.length_nil]); omega) (by decide)).mono ?_; rintro e w5 ⟨⟨v5, rfl⟩, hT2⟩; replace hT := hT2; clear c0 c1 c2 c3 c4 c5 c6 c7 c8 d1; have c0 : _ = some (Value.int .i64 op) := hT.at 0 _ rfl; have c1 : _ = some (Value.int .i64 rd) := hT.at 1 _ rfl; have c2 : _ = some (Value.int .i64 r1) := hT.at 2 _ rfl; have c3 : _ = some (Value.int .i64 r2) := hT.at 3 _ rfl; have c4 : _ = some (Value.int .i64 imm) := hT.at 4 _ rfl; have c5 : _ = some (Value.bool true) := hT.at 5 _ rfl; have c6 : _ = some (Value.bool false) := hT.at 6 _ rfl; have c7 : _ = some (Value.int .i64 pred) := hT.at 7 _ rfl; have c8 : _ = some (Value.int .i64 succ) := hT.at 8 _ rfl; have d1 : _ = some (Value.int .i64 11) := hT.op 1 _ rfl)
  go_wp2_with (first | (go_at_call 71; refine (hT.byte 32 (by (try simp only [List.length_append, List.length_cons, List.length_nil]); omega)).mono ?_; rintro e w5 ⟨⟨v5, rfl⟩, hT2⟩; replace hT := hT2; clear c0 c1 c2 c3 c4 c5 c6 c7 c8 d1; have c0 : _ = some (Value.int .i64 op) := hT.at 0 _ rfl; have c1 : _ = some (Value.int .i64 rd) := hT.at 1 _ rfl; have c2 : _ = some (Value.int .i64 r1) := hT.at 2 _ rfl; have c3 : _ = some (Value.int .i64 r2) := hT.at 3 _ rfl; have c4 : _ = some (Value.int .i64 imm) := hT.at 4 _ rfl; have c5 : _ = some (Value.bool true) := hT.at 5 _ rfl; have c6 : _ = some (Value.bool false) := hT.at 6 _ rfl; have c7 : _ = some (Value.int .i64 pred) := hT.at 7 _ rfl; have c8 : _ = some (Value.int .i64 succ) := hT.at 8 _ rfl; have d1 : _ = some (Value.int .i64 11) := hT.op 1 _ rfl) | (go_at_call 72; refine (hT.regs1 rd hg1.out (by (try simp only [List.length_append, List.length_cons, List.length_nil]); omega) 3 rfl).mono ?_; rintro e w5 ⟨rfl, hT2⟩; replace hT := hT2; clear c0 c1 c2 c3 c4 c5 c6 c7 c8 d1; have c0 : _ = some (Value.int .i64 op) := hT.at 0 _ rfl; have c1 : _ = some (Value.int .i64 rd) := hT.at 1 _ rfl; have c2 : _ = some (Value.int .i64 r1) := hT.at 2 _ rfl; have c3 : _ = some (Value.int .i64 r2) := hT.at 3 _ rfl; have c4 : _ = some (Value.int .i64 imm) := hT.at 4 _ rfl; have c5 : _ = some (Value.bool true) := hT.at 5 _ rfl; have c6 : _ = some (Value.bool false) := hT.at 6 _ rfl; have c7 : _ = some (Value.int .i64 pred) := hT.at 7 _ rfl; have c8 : _ = some (Value.int .i64 succ) := hT.at 8 _ rfl; have d1 : _ = some (Value.int .i64 11) := hT.op 1 _ rfl) | (go_at_call 73; refine (hT.comma (by (try simp only [List.length_append, List.length_cons, List.length_nil]); omega)).mono ?_; rintro e w5 ⟨rfl, hT2⟩; replace hT := hT2; clear c0 c1 c2 c3 c4 c5 c6 c7 c8 d1; have c0 : _ = some (Value.int .i64 op) := hT.at 0 _ rfl; have c1 : _ = some (Value.int .i64 rd) := hT.at 1 _ rfl; have c2 : _ = some (Value.int .i64 r1) := hT.at 2 _ rfl; have c3 : _ = some (Value.int .i64 r2) := hT.at 3 _ rfl; have c4 : _ = some (Value.int .i64 imm) := hT.at 4 _ rfl; have c5 : _ = some (Value.bool true) := hT.at 5 _ rfl; have c6 : _ = some (Value.bool false) := hT.at 6 _ rfl; have c7 : _ = some (Value.int .i64 pred) := hT.at 7 _ rfl; have c8 : _ = some (Value.int .i64 succ) := hT.at 8 _ rfl; have d1 : _ = some (Value.int .i64 11) := hT.op 1 _ rfl) | (go_at_call 75; refine (hT.att r1 hg2.out.1 hg2.out.2 (by (try simp only [List.length_append, List.length_cons, List.length_nil]); omega)).mono ?_; rintro e w5 ⟨rfl, hT2⟩; replace hT := hT2; clear c0 c1 c2 c3 c4 c5 c6 c7 c8 d1; have c0 : _ = some (Value.int .i64 op) := hT.at 0 _ rfl; have c1 : _ = some (Value.int .i64 rd) := hT.at 1 _ rfl; have c2 : _ = some (Value.int .i64 r1) := hT.at 2 _ rfl; have c3 : _ = some (Value.int .i64 r2) := hT.at 3 _ rfl; have c4 : _ = some (Value.int .i64 imm) := hT.at 4 _ rfl; have c5 : _ = some (Value.bool true) := hT.at 5 _ rfl; have c6 : _ = some (Value.bool false) := hT.at 6 _ rfl; have c7 : _ = some (Value.int .i64 pred) := hT.at 7 _ rfl; have c8 : _ = some (Value.int .i64 succ) := hT.at 8 _ rfl; have d1 : _ = some (Value.int .i64 11) := hT.op 1 _ rfl) | (go_at_call 77; refine (hT.string (fun e => hne.out (by have h := congrArg List.length e; (try simp only [List.length_append, List.length_nil] at h); exact List.length_eq_zero_iff.1 (by omega)))).mono ?_; rintro e w9 ⟨rfl, hbl⟩))
  go_ret2
  have hb2 := hbody.out
  try simp only [List.append_assoc, List.cons_append, List.nil_append] at hb2
  exact ⟨by rw [hb2]; rfl, hbl⟩
set_option maxRecDepth 100000 in
set_option maxHeartbeats 8000000 in
theorem IText_11_tt (op rd r1 r2 imm : Int) (aq rl : Bool) (pred succ : Int) (w : World) (ht : Tabs w) (hp : P10 w) (hop : op ≤ 9223372036854775807) (haq : aq = true) (hrl : rl = true) (hc : checkE ⟨op, rd, r1, r2, imm, aq, rl, pred, succ⟩ = 0) (hf : (opOf op).form = 11) (him : -9223372036854775808 ≤ imm ∧ imm ≤ 9223372036854775807) :
    Calls Tryd.prog 47 #[.agg #[.int .i64 op, .int .i64 rd, .int .i64 r1, .int .i64 r2, .int .i64 imm, .bool aq, .bool rl, .int .i64 pred, .int .i64 succ]] w fun e w' => e = .returned (.tuple #[.string ⟨(bodyT ⟨op, rd, r1, r2, imm, aq, rl, pred, succ⟩).toArray⟩, .int .i64 0]) ∧ Below w.heap.size w w' := by
  obtain ⟨g1, g2, g3, g4, g5, g6, g7, g8⟩ := ok_facts ⟨op, rd, r1, r2, imm, aq, rl, pred, succ⟩ hc
  simp only at g1 g2 g3 g4 g5 g6 g7 g8
  subst haq hrl
  have hbody : bodyT ⟨op, rd, r1, r2, imm, true, true, pred, succ⟩ = (opOf op).name ++ [46] ++ [97, 113] ++ [114, 108] ++ [32] ++ regT rd ++ [44, 32] ++ [40] ++ regT r1 ++ [41] := by
    rw [body_eq _ hc]
    show (opOf op).name ++ flagT true true ++ tailT _ = _
    unfold tailT flagT
    simp only [hf]
    simp [List.append_assoc]
  have hne : (opOf op).name ≠ [] := name_full op (by rw [hf]; decide)
  have n0 := (info_op op).2.2
  have n1 := regT_len rd g1.1 g1.2
  have n2 := regT_len r1 g2.1 g2.2
  have n3 := regT_len r2 g3.1 g3.2
  have n4 := signL_len imm
  have n5 := partT_len pred.toNat
  have n6 := partT_len succ.toNat
  have hB := XB.start w (InsnV.cells ⟨op, rd, r1, r2, imm, true, true, pred, succ⟩).toList 23
  rw [Array.toArray_toList] at hB
  have hu := Tryd.underlying23
  have hi : (Tryd.prog.info? 23).map (·.size) = some (InsnV.cells ⟨op, rd, r1, r2, imm, true, true, pred, succ⟩).toList.length := by kernel_rfl
  have hK := Lib.hid (fun W hW => Check_any ⟨op, rd, r1, r2, imm, true, true, pred, succ⟩ hop W hW)
  have hO := Lib.hid (fun W hW => of_any op hop W hW)
  have ht1 := ht.later ((Below.refl _ w).alloc (Nat.le_refl _) (.cells (InsnV.cells ⟨op, rd, r1, r2, imm, true, true, pred, succ⟩) 23)) (Nat.le_refl _)
  have hp1 := hp.later ((Below.refl _ w).alloc (Nat.le_refl _) (.cells (InsnV.cells ⟨op, rd, r1, r2, imm, true, true, pred, succ⟩) 23)) (Nat.le_refl _)
  have c0 : _ = some (Value.int .i64 op) := hB.at 0 _ rfl
  have c1 : _ = some (Value.int .i64 rd) := hB.at 1 _ rfl
  have c2 : _ = some (Value.int .i64 r1) := hB.at 2 _ rfl
  have c3 : _ = some (Value.int .i64 r2) := hB.at 3 _ rfl
  have c4 : _ = some (Value.int .i64 imm) := hB.at 4 _ rfl
  have c5 : _ = some (Value.bool true) := hB.at 5 _ rfl
  have c6 : _ = some (Value.bool true) := hB.at 6 _ rfl
  have c7 : _ = some (Value.int .i64 pred) := hB.at 7 _ rfl
  have c8 : _ = some (Value.int .i64 succ) := hB.at 8 _ rfl
  rw [hc] at hK
  rw [hf] at hO
  generalize (opOf op).name = nm at hO hbody hne n0
  generalize (opOf op).loads = o2 at hO
  generalize (opOf op).stores = o3 at hO
  generalize (opOf op).size = o4 at hO
  obtain ⟨r, hr⟩ : ∃ r, bodyT ⟨op, rd, r1, r2, imm, true, true, pred, succ⟩ = r := ⟨_, rfl⟩
  rw [hr] at hbody ⊢
  clear hr hc hf ht hp hop
  replace hbody := Lib.hid hbody
  replace hne := Lib.hid hne
  replace him := Lib.hid him
  have hg1 := Lib.hid g1
  have hg2 := Lib.hid g2
  have hg3 := Lib.hid g3
  have hg4 := Lib.hid g4
  have hg5 := Lib.hid g5
  clear g1 g2 g3 g4 g5 g6 g7 g8
  go_enter Tryd.func47, Tryd.ntmps47
  go_upto_region 6 with (first | (refine wpList_load_mid rfl 23 _ rfl w.heap.size 0 rfl (InsnV.cells ⟨op, rd, r1, r2, imm, true, true, pred, succ⟩).toList _ hB.c hu rfl hi ?_) | (go_at_call 11; refine (hK.out _ ht1).mono ?_; rintro e w1 ⟨rfl, hb1⟩; replace hB := hB.keep hb1; replace ht1 := ht1.later hb1 (Nat.le_refl _); replace hp1 := hp1.later hb1 (Nat.le_refl _); clear hb1 c0 c1 c2 c3 c4 c5 c6 c7 c8; have c0 : _ = some (Value.int .i64 op) := hB.at 0 _ rfl; have c1 : _ = some (Value.int .i64 rd) := hB.at 1 _ rfl; have c2 : _ = some (Value.int .i64 r1) := hB.at 2 _ rfl; have c3 : _ = some (Value.int .i64 r2) := hB.at 3 _ rfl; have c4 : _ = some (Value.int .i64 imm) := hB.at 4 _ rfl; have c5 : _ = some (Value.bool true) := hB.at 5 _ rfl; have c6 : _ = some (Value.bool true) := hB.at 6 _ rfl; have c7 : _ = some (Value.int .i64 pred) := hB.at 7 _ rfl; have c8 : _ = some (Value.int .i64 succ) := hB.at 8 _ rfl) | (go_at_call 38; refine (hO.out _ ht1).mono ?_; rintro e w2 ⟨rfl, hb2⟩; replace hB := hB.keep hb2; replace hp1 := hp1.later hb2 (Nat.le_refl _); clear hb2 ht1 c0 c1 c2 c3 c4 c5 c6 c7 c8; have c0 : _ = some (Value.int .i64 op) := hB.at 0 _ rfl; have c1 : _ = some (Value.int .i64 rd) := hB.at 1 _ rfl; have c2 : _ = some (Value.int .i64 r1) := hB.at 2 _ rfl; have c3 : _ = some (Value.int .i64 r2) := hB.at 3 _ rfl; have c4 : _ = some (Value.int .i64 imm) := hB.at 4 _ rfl; have c5 : _ = some (Value.bool true) := hB.at 5 _ rfl; have c6 : _ = some (Value.bool true) := hB.at 6 _ rfl; have c7 : _ = some (Value.int .i64 pred) := hB.at 7 _ rfl; have c8 : _ = some (Value.int .i64 succ) := hB.at 8 _ rfl))
  have hT0 := TX.start hB hp1 [.string ⟨nm.toArray⟩, .int .i64 11, .bool o2, .bool o3, .int .i64 o4] 67 104 rfl
  clear c0 c1 c2 c3 c4 c5 c6 c7 c8 hB hp1
  generalize hW9 : ((w2.alloc _).alloc _ : World) = W9 at hT0 ⊢
  clear hW9
  generalize w2.heap.size = q at hT0 ⊢
  generalize hb9 : q + 1 = b at hT0 ⊢
  clear hb9
  replace hT0 := hT0.keep (Below.refl W9.heap.size W9).drew
  refine wp_region_held_drew (S := fun W => ∃ l, TX w (InsnV.cells ⟨op, rd, r1, r2, imm, true, true, pred, succ⟩).toList [.string ⟨nm.toArray⟩, .int .i64 11, .bool o2, .bool o3, .int .i64 o4] q b l W) (by kernel_rfl) ⟨_, hT0⟩ (fun hHeld => ?_)
  refine wpAnyH_take (i := 0) (v := .pointer (some ⟨b, 0, none⟩)) rfl (by kernel_rfl) (by kernel_rfl) (by kernel_rfl) (fun _ _ _ h => h) (Or.inl ⟨by rfl, fun W _ => by kernel_rfl⟩) hHeld ?_
  try simp only [Act.put, List.getElem_toArray, List.getElem_cons_zero, List.setIfInBounds_toArray, List.set_cons_zero, List.set_cons_succ]
  generalize World.drew _ = W8 at hHeld hT0 ⊢
  refine wpAnyH_take (i := 1) (v := .pointer (some ⟨b, 0, none⟩)) rfl (by kernel_rfl) (by kernel_rfl) (by kernel_rfl) (fun _ _ _ h => h) (Or.inl ⟨by rfl, fun W _ => by kernel_rfl⟩) hHeld ?_
  try simp only [Act.put, List.getElem_toArray, List.getElem_cons_succ, List.getElem_cons_zero, List.setIfInBounds_toArray, List.set_cons_zero, List.set_cons_succ]
  refine wpAnyH_take (i := 2) (v := .pointer (some ⟨b, 0, none⟩)) rfl (by kernel_rfl) (by kernel_rfl) (by kernel_rfl) (fun _ _ _ h => h) (Or.inl ⟨by rfl, fun W _ => by kernel_rfl⟩) hHeld ?_
  try simp only [Act.put, List.getElem_toArray, List.getElem_cons_succ, List.getElem_cons_zero, List.setIfInBounds_toArray, List.set_cons_zero, List.set_cons_succ]
  refine wpAnyH_take (i := 3) (v := .pointer (some ⟨q, 0, none⟩)) rfl (by kernel_rfl) (by kernel_rfl) (by kernel_rfl) (fun _ _ _ h => h) (Or.inl ⟨by rfl, fun W _ => by kernel_rfl⟩) hHeld ?_
  try simp only [Act.put, List.getElem_toArray, List.getElem_cons_succ, List.getElem_cons_zero, List.setIfInBounds_toArray, List.set_cons_zero, List.set_cons_succ]
  refine wpAnyH_take (i := 4) (v := .string ⟨nm.toArray⟩) rfl (by kernel_rfl) (by kernel_rfl) (by kernel_rfl) (fun _ _ _ h => h) (Or.inl ⟨by rfl, fun W hS => by (have k : W.cell? ⟨q, 0, none⟩ = some (.string ⟨nm.toArray⟩) := hS.elim fun _ h => h.op 0 _ rfl); go_simp⟩) hHeld ?_
  try simp only [Act.put, List.getElem_toArray, List.getElem_cons_succ, List.getElem_cons_zero, List.setIfInBounds_toArray, List.set_cons_zero, List.set_cons_succ]
  refine wpAnyH_ready (rs := [5]) (by kernel_rfl) (by simp) (AllReadyH.cons rfl (fun K hK2 => ?_) AllReadyH.nil)
  rw [if_pos (by rfl)]
  simp only [List.getElem_toArray, List.getElem_cons_succ, List.getElem_cons_zero]
  go_wp2_with (go_at_call 70; refine (hT0.strL nm (by simp) (by omega)).mono ?_; rintro e w4 ⟨⟨v4, rfl⟩, hT⟩)
  refine hK2.out _ _ (⟨_, hT⟩) (fun hHeld2 => ?_)
  clear hK2 K hHeld hHeld2 hT0
  try simp only [Act.put, List.getElem_toArray, List.getElem_cons_succ, List.getElem_cons_zero, List.setIfInBounds_toArray, List.set_cons_zero, List.set_cons_succ]
  refine wpAnyH_done (by kernel_rfl) ?_ _
  rw [List.nil_append] at hT
  have c0 : _ = some (Value.int .i64 op) := hT.at 0 _ rfl
  have c1 : _ = some (Value.int .i64 rd) := hT.at 1 _ rfl
  have c2 : _ = some (Value.int .i64 r1) := hT.at 2 _ rfl
  have c3 : _ = some (Value.int .i64 r2) := hT.at 3 _ rfl
  have c4 : _ = some (Value.int .i64 imm) := hT.at 4 _ rfl
  have c5 : _ = some (Value.bool true) := hT.at 5 _ rfl
  have c6 : _ = some (Value.bool true) := hT.at 6 _ rfl
  have c7 : _ = some (Value.int .i64 pred) := hT.at 7 _ rfl
  have c8 : _ = some (Value.int .i64 succ) := hT.at 8 _ rfl
  have d1 : _ = some (Value.int .i64 11) := hT.op 1 _ rfl
  go_upto_region 9 with (go_at_call 71; refine (hT.byte 46 (by (try simp only [List.length_append, List.length_cons, List.length_nil]); omega)).mono ?_; rintro e w5 ⟨⟨v5, rfl⟩, hT2⟩; replace hT := hT2; clear c0 c1 c2 c3 c4 c5 c6 c7 c8 d1; have c0 : _ = some (Value.int .i64 op) := hT.at 0 _ rfl; have c1 : _ = some (Value.int .i64 rd) := hT.at 1 _ rfl; have c2 : _ = some (Value.int .i64 r1) := hT.at 2 _ rfl; have c3 : _ = some (Value.int .i64 r2) := hT.at 3 _ rfl; have c4 : _ = some (Value.int .i64 imm) := hT.at 4 _ rfl; have c5 : _ = some (Value.bool true) := hT.at 5 _ rfl; have c6 : _ = some (Value.bool true) := hT.at 6 _ rfl; have c7 : _ = some (Value.int .i64 pred) := hT.at 7 _ rfl; have c8 : _ = some (Value.int .i64 succ) := hT.at 8 _ rfl; have d1 : _ = some (Value.int .i64 11) := hT.op 1 _ rfl)
  go_upto_region 11 with (go_at_call 70; refine (hT.strL [97, 113] (by (try simp only [List.length_append, List.length_cons, List.length_nil]); omega) (by decide)).mono ?_; rintro e w5 ⟨⟨v5, rfl⟩, hT2⟩; replace hT := hT2; clear c0 c1 c2 c3 c4 c5 c6 c7 c8 d1; have c0 : _ = some (Value.int .i64 op) := hT.at 0 _ rfl; have c1 : _ = some (Value.int .i64 rd) := hT.at 1 _ rfl; have c2 : _ = some (Value.int .i64 r1) := hT.at 2 _ rfl; have c3 : _ = some (Value.int .i64 r2) := hT.at 3 _ rfl; have c4 : _ = some (Value.int .i64 imm) := hT.at 4 _ rfl; have c5 : _ = some (Value.bool true) := hT.at 5 _ rfl; have c6 : _ = some (Value.bool true) := hT.at 6 _ rfl; have c7 : _ = some (Value.int .i64 pred) := hT.at 7 _ rfl; have c8 : _ = some (Value.int .i64 succ) := hT.at 8 _ rfl; have d1 : _ = some (Value.int .i64 11) := hT.op 1 _ rfl)
  go_upto_region 13 with (go_at_call 70; refine (hT.strL [114, 108] (by (try simp only [List.length_append, List.length_cons, List.length_nil]); omega) (by decide)).mono ?_; rintro e w5 ⟨⟨v5, rfl⟩, hT2⟩; replace hT := hT2; clear c0 c1 c2 c3 c4 c5 c6 c7 c8 d1; have c0 : _ = some (Value.int .i64 op) := hT.at 0 _ rfl; have c1 : _ = some (Value.int .i64 rd) := hT.at 1 _ rfl; have c2 : _ = some (Value.int .i64 r1) := hT.at 2 _ rfl; have c3 : _ = some (Value.int .i64 r2) := hT.at 3 _ rfl; have c4 : _ = some (Value.int .i64 imm) := hT.at 4 _ rfl; have c5 : _ = some (Value.bool true) := hT.at 5 _ rfl; have c6 : _ = some (Value.bool true) := hT.at 6 _ rfl; have c7 : _ = some (Value.int .i64 pred) := hT.at 7 _ rfl; have c8 : _ = some (Value.int .i64 succ) := hT.at 8 _ rfl; have d1 : _ = some (Value.int .i64 11) := hT.op 1 _ rfl)
  go_wp2_with (first | (go_at_call 71; refine (hT.byte 32 (by (try simp only [List.length_append, List.length_cons, List.length_nil]); omega)).mono ?_; rintro e w5 ⟨⟨v5, rfl⟩, hT2⟩; replace hT := hT2; clear c0 c1 c2 c3 c4 c5 c6 c7 c8 d1; have c0 : _ = some (Value.int .i64 op) := hT.at 0 _ rfl; have c1 : _ = some (Value.int .i64 rd) := hT.at 1 _ rfl; have c2 : _ = some (Value.int .i64 r1) := hT.at 2 _ rfl; have c3 : _ = some (Value.int .i64 r2) := hT.at 3 _ rfl; have c4 : _ = some (Value.int .i64 imm) := hT.at 4 _ rfl; have c5 : _ = some (Value.bool true) := hT.at 5 _ rfl; have c6 : _ = some (Value.bool true) := hT.at 6 _ rfl; have c7 : _ = some (Value.int .i64 pred) := hT.at 7 _ rfl; have c8 : _ = some (Value.int .i64 succ) := hT.at 8 _ rfl; have d1 : _ = some (Value.int .i64 11) := hT.op 1 _ rfl) | (go_at_call 72; refine (hT.regs1 rd hg1.out (by (try simp only [List.length_append, List.length_cons, List.length_nil]); omega) 3 rfl).mono ?_; rintro e w5 ⟨rfl, hT2⟩; replace hT := hT2; clear c0 c1 c2 c3 c4 c5 c6 c7 c8 d1; have c0 : _ = some (Value.int .i64 op) := hT.at 0 _ rfl; have c1 : _ = some (Value.int .i64 rd) := hT.at 1 _ rfl; have c2 : _ = some (Value.int .i64 r1) := hT.at 2 _ rfl; have c3 : _ = some (Value.int .i64 r2) := hT.at 3 _ rfl; have c4 : _ = some (Value.int .i64 imm) := hT.at 4 _ rfl; have c5 : _ = some (Value.bool true) := hT.at 5 _ rfl; have c6 : _ = some (Value.bool true) := hT.at 6 _ rfl; have c7 : _ = some (Value.int .i64 pred) := hT.at 7 _ rfl; have c8 : _ = some (Value.int .i64 succ) := hT.at 8 _ rfl; have d1 : _ = some (Value.int .i64 11) := hT.op 1 _ rfl) | (go_at_call 73; refine (hT.comma (by (try simp only [List.length_append, List.length_cons, List.length_nil]); omega)).mono ?_; rintro e w5 ⟨rfl, hT2⟩; replace hT := hT2; clear c0 c1 c2 c3 c4 c5 c6 c7 c8 d1; have c0 : _ = some (Value.int .i64 op) := hT.at 0 _ rfl; have c1 : _ = some (Value.int .i64 rd) := hT.at 1 _ rfl; have c2 : _ = some (Value.int .i64 r1) := hT.at 2 _ rfl; have c3 : _ = some (Value.int .i64 r2) := hT.at 3 _ rfl; have c4 : _ = some (Value.int .i64 imm) := hT.at 4 _ rfl; have c5 : _ = some (Value.bool true) := hT.at 5 _ rfl; have c6 : _ = some (Value.bool true) := hT.at 6 _ rfl; have c7 : _ = some (Value.int .i64 pred) := hT.at 7 _ rfl; have c8 : _ = some (Value.int .i64 succ) := hT.at 8 _ rfl; have d1 : _ = some (Value.int .i64 11) := hT.op 1 _ rfl) | (go_at_call 75; refine (hT.att r1 hg2.out.1 hg2.out.2 (by (try simp only [List.length_append, List.length_cons, List.length_nil]); omega)).mono ?_; rintro e w5 ⟨rfl, hT2⟩; replace hT := hT2; clear c0 c1 c2 c3 c4 c5 c6 c7 c8 d1; have c0 : _ = some (Value.int .i64 op) := hT.at 0 _ rfl; have c1 : _ = some (Value.int .i64 rd) := hT.at 1 _ rfl; have c2 : _ = some (Value.int .i64 r1) := hT.at 2 _ rfl; have c3 : _ = some (Value.int .i64 r2) := hT.at 3 _ rfl; have c4 : _ = some (Value.int .i64 imm) := hT.at 4 _ rfl; have c5 : _ = some (Value.bool true) := hT.at 5 _ rfl; have c6 : _ = some (Value.bool true) := hT.at 6 _ rfl; have c7 : _ = some (Value.int .i64 pred) := hT.at 7 _ rfl; have c8 : _ = some (Value.int .i64 succ) := hT.at 8 _ rfl; have d1 : _ = some (Value.int .i64 11) := hT.op 1 _ rfl) | (go_at_call 77; refine (hT.string (fun e => hne.out (by have h := congrArg List.length e; (try simp only [List.length_append, List.length_nil] at h); exact List.length_eq_zero_iff.1 (by omega)))).mono ?_; rintro e w9 ⟨rfl, hbl⟩))
  go_ret2
  have hb2 := hbody.out
  try simp only [List.append_assoc, List.cons_append, List.nil_append] at hb2
  exact ⟨by rw [hb2]; rfl, hbl⟩
end Go.Proofs.YtgkgljlejnihdaaDoor
