/- insn.Text of whatever instruction. Conditions: the library's tables of spaces and of powers of ten lie as its initialisers lay them. -/
import Derived.Test.YtdbpnbmaineniaaGreatDoorTks
import Derived.Test.YtdbpnbmaineniaaGreatDoorInsnWG
import Derived.Test.YtdbpnbmaineniaaGreatDoorShapePl
set_option linter.unusedVariables false
set_option linter.unusedSimpArgs false
namespace Go.Proofs.YtdbpnbmaineniaaGreatDoor
open Go.RowKit
/-- What stands behind the name and the flags, by the form. -/
def tailG (f : Int) (j : Bool) (a b c i p s : List UInt8) : List UInt8 :=
  if f = 1 ∨ f = 2 then [32] ++ a ++ [44, 32] ++ i
  else if f = 3 ∨ f = 7 then if j then [32] ++ a ++ [44, 32] ++ i ++ [40] ++ b ++ [41] else [32] ++ a ++ [44, 32] ++ b ++ [44, 32] ++ i
  else if f = 4 then [32] ++ a ++ [44, 32] ++ i ++ [40] ++ b ++ [41]
  else if f = 5 then [32] ++ c ++ [44, 32] ++ i ++ [40] ++ b ++ [41]
  else if f = 6 then [32] ++ b ++ [44, 32] ++ c ++ [44, 32] ++ i
  else if f = 8 then [32] ++ a ++ [44, 32] ++ b ++ [44, 32] ++ c
  else if f = 9 then [32] ++ p ++ [44, 32] ++ s
  else if f = 11 then [32] ++ a ++ [44, 32, 40] ++ b ++ [41]
  else if f = 12 then [32] ++ a ++ [44, 32] ++ c ++ [44, 32, 40] ++ b ++ [41]
  else []
theorem body_G (i : InsnV) (h : checkE i = 0) : bodyT i = (opOf i.op).name ++ (flagT i.aq i.rl ++ tailG (opOf i.op).form (i.op == 4) (regT i.rd) (regT i.rs1) (regT i.rs2) (signL i.imm) (partT i.pred.toNat) (partT i.succ.toNat)) := by
  rw [body_eq i h, List.append_assoc]
  congr 2
  unfold tailT tailG
  by_cases h4 : i.op = 4
  · rw [if_pos h4, show (i.op == 4) = true by simpa using h4]; rfl
  · rw [if_neg h4, show (i.op == 4) = false by simpa using h4]; rfl
theorem TX.startO {w W : World} {cs os : List Value} {f : Nat} {xs : Array Value} {Q : World → World → Prop} (hO : Hid (∀ W, Tabs W → Calls Tryz.prog f xs W fun e w' => e = .returned (.agg os.toArray) ∧ Q W w')) (h : XB w cs W) (hp : P10 W) (t t' : TypeId) (h' : t' = 115) : TX w cs os W.heap.size (W.heap.size + 1) [] ((W.alloc (.cells os.toArray t)).alloc (.cells #[.pointer none, .slice none 0 0] t')) := TX.start h hp os t t' h'
theorem TX.b32 {w W : World} {cs os : List Value} {q b : Nat} {l : List UInt8} (h : TX w cs os q b l W) (hl : l.length ≤ 800) : Calls Tryz.prog 50 #[.pointer (some ⟨b, 0, none⟩), .int .u8 32] W fun e w' => (∃ v, e = .returned v) ∧ TX w cs os q b (l ++ [32]) w' := h.byte 32 hl
theorem TX.b46 {w W : World} {cs os : List Value} {q b : Nat} {l : List UInt8} (h : TX w cs os q b l W) (hl : l.length ≤ 800) : Calls Tryz.prog 50 #[.pointer (some ⟨b, 0, none⟩), .int .u8 46] W fun e w' => (∃ v, e = .returned v) ∧ TX w cs os q b (l ++ [46]) w' := h.byte 46 hl
set_option maxRecDepth 100000 in
set_option maxHeartbeats 32000000 in
theorem IText_no (op rd r1 r2 imm : Int) (aq rl : Bool) (pred succ : Int) (w : World) (ht : Tabs w) (hp : P10 w) (hop : op ≤ 9223372036854775807) (hc : checkE ⟨op, rd, r1, r2, imm, aq, rl, pred, succ⟩ ≠ 0) :
    Calls Tryz.prog 29 #[.agg #[.int .i64 op, .int .i64 rd, .int .i64 r1, .int .i64 r2, .int .i64 imm, .bool aq, .bool rl, .int .i64 pred, .int .i64 succ]] w fun e w' => e = .returned (.tuple #[.string ⟨([] : List UInt8).toArray⟩, .int .i64 2]) ∧ Below w.heap.size w w' := by
  have hc2 : checkE ⟨op, rd, r1, r2, imm, aq, rl, pred, succ⟩ = 2 := by unfold checkE at hc ⊢; cases hk : checkOk ⟨op, rd, r1, r2, imm, aq, rl, pred, succ⟩ <;> simp_all
  have hB := XB.start w (InsnV.cells ⟨op, rd, r1, r2, imm, aq, rl, pred, succ⟩).toList 23
  rw [Array.toArray_toList] at hB
  have hu := Tryz.underlying23
  have hi : (Tryz.prog.info? 23).map (·.size) = some (InsnV.cells ⟨op, rd, r1, r2, imm, aq, rl, pred, succ⟩).toList.length := by kernel_rfl
  have hK := Lib.hid (fun W hW => Check_any ⟨op, rd, r1, r2, imm, aq, rl, pred, succ⟩ hop W hW)
  have ht1 := ht.later ((Below.refl _ w).alloc (Nat.le_refl _) (.cells (InsnV.cells ⟨op, rd, r1, r2, imm, aq, rl, pred, succ⟩) 23)) (Nat.le_refl _)
  have hp1 := hp.later ((Below.refl _ w).alloc (Nat.le_refl _) (.cells (InsnV.cells ⟨op, rd, r1, r2, imm, aq, rl, pred, succ⟩) 23)) (Nat.le_refl _)
  obtain ⟨c0, c1, c2, c3, c4, c5, c6, c7, c8⟩ := hB.all9
  rw [hc2] at hK
  clear hc hc2
  go_enter Tryz.func29, Tryz.ntmps29
  go_wp2_with (first | (refine wpList_load_mid rfl 23 _ rfl w.heap.size 0 rfl _ _ hB.c hu rfl hi ?_) | (go_at_call 27; refine (hK.out _ ht1).mono ?_; rintro e w1 ⟨rfl, hb1⟩; replace hB := hB.keep hb1; replace ht1 := ht1.later hb1 (Nat.le_refl _); replace hp1 := hp1.later hb1 (Nat.le_refl _); clear hb1 c0 c1 c2 c3 c4 c5 c6 c7 c8; obtain ⟨c0, c1, c2, c3, c4, c5, c6, c7, c8⟩ := hB.all9))
  go_ret2
  exact ⟨rfl, hB.bl⟩
set_option maxRecDepth 100000 in
set_option maxHeartbeats 32000000 in
theorem IText_ok (op rd r1 r2 imm : Int) (aq rl : Bool) (pred succ : Int) (w : World) (ht : Tabs w) (hp : P10 w) (hop : op ≤ 9223372036854775807) (hc : checkE ⟨op, rd, r1, r2, imm, aq, rl, pred, succ⟩ = 0) (him : -9223372036854775808 ≤ imm ∧ imm ≤ 9223372036854775807) :
    Calls Tryz.prog 29 #[.agg #[.int .i64 op, .int .i64 rd, .int .i64 r1, .int .i64 r2, .int .i64 imm, .bool aq, .bool rl, .int .i64 pred, .int .i64 succ]] w fun e w' => e = .returned (.tuple #[.string ⟨(bodyT ⟨op, rd, r1, r2, imm, aq, rl, pred, succ⟩).toArray⟩, .int .i64 0]) ∧ Below w.heap.size w w' := by
  obtain ⟨g1, g2, g3, g4, g5, g6, g7, g8⟩ := ok_facts ⟨op, rd, r1, r2, imm, aq, rl, pred, succ⟩ hc
  simp only at g1 g2 g3 g4 g5 g6 g7 g8
  have hbody := body_G ⟨op, rd, r1, r2, imm, aq, rl, pred, succ⟩ hc
  simp only at hbody
  have hne : (opOf op).name ≠ [] := name_full op (by omega)
  have h7 : (opOf op).form = 7 → op ≠ 4 := fun h e => by rw [e] at h; revert h; decide +kernel
  have n0 := (info_op op).2.2
  have n1 := regT_lenS rd g1.1 g1.2
  have n2 := regT_lenS r1 g2.1 g2.2
  have n3 := regT_lenS r2 g3.1 g3.2
  have n4 := signL_lenS imm
  have n5 := partT_lenS pred.toNat
  have n6 := partT_lenS succ.toNat
  have hB := XB.start w (InsnV.cells ⟨op, rd, r1, r2, imm, aq, rl, pred, succ⟩).toList 23
  rw [Array.toArray_toList] at hB
  have hu := Tryz.underlying23
  have hi : (Tryz.prog.info? 23).map (·.size) = some (InsnV.cells ⟨op, rd, r1, r2, imm, aq, rl, pred, succ⟩).toList.length := by kernel_rfl
  have hK := Lib.hid (fun W hW => Check_any ⟨op, rd, r1, r2, imm, aq, rl, pred, succ⟩ hop W hW)
  have ht1 := ht.later ((Below.refl _ w).alloc (Nat.le_refl _) (.cells (InsnV.cells ⟨op, rd, r1, r2, imm, aq, rl, pred, succ⟩) 23)) (Nat.le_refl _)
  have hp1 := hp.later ((Below.refl _ w).alloc (Nat.le_refl _) (.cells (InsnV.cells ⟨op, rd, r1, r2, imm, aq, rl, pred, succ⟩) 23)) (Nat.le_refl _)
  obtain ⟨c0, c1, c2, c3, c4, c5, c6, c7, c8⟩ := hB.all9
  have hO := Lib.hid (fun W hW => of_any op hop W hW)
  rw [hc] at hK
  generalize (opOf op).name = nm at hO hbody hne n0
  generalize (opOf op).loads = o2 at hO
  generalize (opOf op).stores = o3 at hO
  generalize (opOf op).size = o4 at hO
  generalize (opOf op).form = F at hO hbody g6 g7 g8 h7
  obtain ⟨r, hr⟩ : ∃ r, bodyT ⟨op, rd, r1, r2, imm, aq, rl, pred, succ⟩ = r := ⟨_, rfl⟩
  rw [hr] at hbody ⊢
  clear hr hc ht hp hop
  have hkk : Hid ((aq = false ∧ rl = false) ∧ (F = 1 ∨ F = 2 ∨ (F = 3 ∧ (op == 4) = true) ∨ (F = 3 ∧ (op == 4) = false) ∨ F = 4 ∨ F = 5 ∨ F = 6 ∨ (F = 7 ∧ (op == 4) = false) ∨ F = 8 ∨ F = 9 ∨ F = 10) ∨ F = 11 ∨ F = 12) := Lib.hid (by
    have e4 : (op == 4) = decide (op = 4) := rfl
    rw [e4]
    by_cases h4 : op = 4
    · have : F ≠ 7 := fun h => h7 h h4
      simp only [h4, decide_true, Bool.true_eq_false, and_false, and_true, false_or]
      rcases g6 with g6 | g6 | g6
      · exact .inr (.inl g6)
      · exact .inr (.inr g6)
      · by_cases e1 : F = 11
        · exact .inr (.inl e1)
        · by_cases e2 : F = 12
          · exact .inr (.inr e2)
          · exact .inl ⟨g6, by omega⟩
    · simp only [h4, decide_false, Bool.false_eq_true, and_false, and_true, false_or]
      rcases g6 with g6 | g6 | g6
      · exact .inr (.inl g6)
      · exact .inr (.inr g6)
      · by_cases e1 : F = 11
        · exact .inr (.inl e1)
        · by_cases e2 : F = 12
          · exact .inr (.inr e2)
          · exact .inl ⟨g6, by omega⟩)
  generalize hJ : (op == 4) = J at hbody hkk
  replace hJ := Lib.hid hJ
  replace hbody := Lib.hid hbody
  replace hne := Lib.hid hne
  replace him := Lib.hid him
  have hg1 := Lib.hid g1
  have hg2 := Lib.hid g2
  have hg3 := Lib.hid g3
  have hg4 := Lib.hid g4
  have hg5 := Lib.hid g5
  clear g1 g2 g3 g4 g5 g6 g7 g8 h7
  have key := hkk.out
  clear hkk
  rcases key with ⟨⟨rfl, rfl⟩, rfl | rfl | ⟨rfl, rfl⟩ | ⟨rfl, rfl⟩ | rfl | rfl | rfl | ⟨rfl, rfl⟩ | rfl | rfl | rfl⟩ | rfl | rfl
  case' inr.inl => rcases aq <;> rcases rl
  case' inr.inr => rcases aq <;> rcases rl
  all_goals as_aux_lemma =>
    have tj := hJ.out
    go_enter Tryz.func29, Tryz.ntmps29
    go_upto_region 6 with (first | (refine wpList_load_mid rfl 23 _ rfl w.heap.size 0 rfl _ _ hB.c hu rfl hi ?_) | (go_at_call 27; refine (hK.out _ ht1).mono ?_; rintro e w1 ⟨rfl, hb1⟩; replace hB := hB.keep hb1; replace ht1 := ht1.later hb1 (Nat.le_refl _); replace hp1 := hp1.later hb1 (Nat.le_refl _); clear hb1 c0 c1 c2 c3 c4 c5 c6 c7 c8; obtain ⟨c0, c1, c2, c3, c4, c5, c6, c7, c8⟩ := hB.all9) | (go_at_call 75; refine (hO.out _ ht1).mono ?_; rintro e w2 ⟨rfl, hb2⟩; replace hB := hB.keep hb2; replace hp1 := hp1.later hb2 (Nat.le_refl _); clear hb2 ht1 c0 c1 c2 c3 c4 c5 c6 c7 c8; obtain ⟨c0, c1, c2, c3, c4, c5, c6, c7, c8⟩ := hB.all9))
    have hT0 := TX.startO hO hB hp1 106 115 rfl
    clear c0 c1 c2 c3 c4 c5 c6 c7 c8 hB hp1
    generalize hW9 : ((w2.alloc _).alloc _ : World) = W9 at hT0 ⊢
    clear hW9
    generalize w2.heap.size = q at hT0 ⊢
    generalize hb9 : q + 1 = b at hT0 ⊢
    clear hb9
    replace hT0 := hT0.keep (Below.refl W9.heap.size W9).drew
    refine wp_region_held_drew (S := fun W => ∃ l, TX w _ _ q b l W) (by kernel_rfl) ⟨_, hT0⟩ (fun hHeld => ?_)
    refine tkS 0 (.pointer (some ⟨b, 0, none⟩)) hHeld ?_
    try simp only [Act.put, List.getElem_toArray, List.getElem_cons_zero, List.setIfInBounds_toArray, List.set_cons_zero, List.set_cons_succ]
    generalize World.drew _ = W8 at hHeld hT0 ⊢
    refine tkS 1 (.pointer (some ⟨b, 0, none⟩)) hHeld ?_
    try simp only [Act.put, List.getElem_toArray, List.getElem_cons_succ, List.getElem_cons_zero, List.setIfInBounds_toArray, List.set_cons_zero, List.set_cons_succ]
    refine tkS 2 (.pointer (some ⟨b, 0, none⟩)) hHeld ?_
    try simp only [Act.put, List.getElem_toArray, List.getElem_cons_succ, List.getElem_cons_zero, List.setIfInBounds_toArray, List.set_cons_zero, List.set_cons_succ]
    refine tkS 3 (.pointer (some ⟨q, 0, none⟩)) hHeld ?_
    try simp only [Act.put, List.getElem_toArray, List.getElem_cons_succ, List.getElem_cons_zero, List.setIfInBounds_toArray, List.set_cons_zero, List.set_cons_succ]
    refine wpAnyH_take (i := 4) (v := .string ⟨nm.toArray⟩) rfl (by kernel_rfl) (by kernel_rfl) (by kernel_rfl) (fun _ _ _ h => h) (Or.inl ⟨by rfl, fun W hS => by (have k : W.cell? ⟨q, 0, none⟩ = some (.string ⟨nm.toArray⟩) := hS.elim fun _ h => h.op 0 _ rfl); go_simp⟩) hHeld ?_
    try simp only [Act.put, List.getElem_toArray, List.getElem_cons_succ, List.getElem_cons_zero, List.setIfInBounds_toArray, List.set_cons_zero, List.set_cons_succ]
    refine wpAnyH_ready (rs := [5]) (by kernel_rfl) (by simp) (AllReadyH.cons rfl (fun K hK2 => ?_) AllReadyH.nil)
    rw [if_pos (by rfl)]
    simp only [List.getElem_toArray, List.getElem_cons_succ, List.getElem_cons_zero]
    go_wp2_with (go_at_call 84; refine (hT0.strL nm (by simp) (by omega)).mono ?_; rintro e w4 ⟨⟨v4, rfl⟩, hT⟩)
    refine hK2.out _ _ (⟨_, hT⟩) (fun hHeld2 => ?_)
    clear hK2 K hHeld hHeld2 hT0
    try simp only [Act.put, List.getElem_toArray, List.getElem_cons_succ, List.getElem_cons_zero, List.setIfInBounds_toArray, List.set_cons_zero, List.set_cons_succ]
    refine wpAnyH_done (by kernel_rfl) ?_ _
    rw [List.nil_append] at hT
    obtain ⟨c0, c1, c2, c3, c4, c5, c6, c7, c8, d1⟩ := hT.all10
    go_wp2_with (first | (go_at_call 50; (first | (with_reducible refine (hT.b32 (by (try simp only [List.length_append, List.length_cons, List.length_nil]); omega)).mono ?_) | (with_reducible refine (hT.b46 (by (try simp only [List.length_append, List.length_cons, List.length_nil]); omega)).mono ?_)); rintro e w5 ⟨⟨v5, rfl⟩, hT2⟩; replace hT := hT2; clear c0 c1 c2 c3 c4 c5 c6 c7 c8 d1; obtain ⟨c0, c1, c2, c3, c4, c5, c6, c7, c8, d1⟩ := hT.all10) | (go_at_call 84; (first | (with_reducible refine (hT.strL [97, 113] (by (try simp only [List.length_append, List.length_cons, List.length_nil]); omega) (by decide)).mono ?_) | (with_reducible refine (hT.strL [114, 108] (by (try simp only [List.length_append, List.length_cons, List.length_nil]); omega) (by decide)).mono ?_)); rintro e w5 ⟨⟨v5, rfl⟩, hT2⟩; replace hT := hT2; clear c0 c1 c2 c3 c4 c5 c6 c7 c8 d1; obtain ⟨c0, c1, c2, c3, c4, c5, c6, c7, c8, d1⟩ := hT.all10) | (go_at_call 85; (first | (with_reducible refine (hT.regs1 rd hg1.out (by (try simp only [List.length_append, List.length_cons, List.length_nil]); omega) 3 rfl).mono ?_) | (with_reducible refine (hT.regs1 r2 hg3.out (by (try simp only [List.length_append, List.length_cons, List.length_nil]); omega) 3 rfl).mono ?_) | (with_reducible refine (hT.regs2 rd r1 hg1.out hg2.out (by (try simp only [List.length_append, List.length_cons, List.length_nil]); omega) 3 rfl).mono ?_) | (with_reducible refine (hT.regs2 r1 r2 hg2.out hg3.out (by (try simp only [List.length_append, List.length_cons, List.length_nil]); omega) 3 rfl).mono ?_) | (with_reducible refine (hT.regs2 rd r2 hg1.out hg3.out (by (try simp only [List.length_append, List.length_cons, List.length_nil]); omega) 3 rfl).mono ?_) | (with_reducible refine (hT.regs3 rd r1 r2 hg1.out hg2.out hg3.out (by (try simp only [List.length_append, List.length_cons, List.length_nil]); omega) 3 rfl).mono ?_)); rintro e w5 ⟨rfl, hT2⟩; replace hT := hT2; clear c0 c1 c2 c3 c4 c5 c6 c7 c8 d1; obtain ⟨c0, c1, c2, c3, c4, c5, c6, c7, c8, d1⟩ := hT.all10) | (go_at_call 86; (with_reducible refine (hT.comma (by (try simp only [List.length_append, List.length_cons, List.length_nil]); omega)).mono ?_); rintro e w5 ⟨rfl, hT2⟩; replace hT := hT2; clear c0 c1 c2 c3 c4 c5 c6 c7 c8 d1; obtain ⟨c0, c1, c2, c3, c4, c5, c6, c7, c8, d1⟩ := hT.all10) | (go_at_call 87; (with_reducible refine (hT.num imm him.out.1 him.out.2 (by (try simp only [List.length_append, List.length_cons, List.length_nil]); omega)).mono ?_); rintro e w5 ⟨rfl, hT2⟩; replace hT := hT2; clear c0 c1 c2 c3 c4 c5 c6 c7 c8 d1; obtain ⟨c0, c1, c2, c3, c4, c5, c6, c7, c8, d1⟩ := hT.all10) | (go_at_call 88; (with_reducible refine (hT.att r1 hg2.out.1 hg2.out.2 (by (try simp only [List.length_append, List.length_cons, List.length_nil]); omega)).mono ?_); rintro e w5 ⟨rfl, hT2⟩; replace hT := hT2; clear c0 c1 c2 c3 c4 c5 c6 c7 c8 d1; obtain ⟨c0, c1, c2, c3, c4, c5, c6, c7, c8, d1⟩ := hT.all10) | (go_at_call 89; (first | (with_reducible refine (hT.set pred hg4.out.1 hg4.out.2 (by (try simp only [List.length_append, List.length_cons, List.length_nil]); omega)).mono ?_) | (with_reducible refine (hT.set succ hg5.out.1 hg5.out.2 (by (try simp only [List.length_append, List.length_cons, List.length_nil]); omega)).mono ?_)); rintro e w5 ⟨rfl, hT2⟩; replace hT := hT2; clear c0 c1 c2 c3 c4 c5 c6 c7 c8 d1; obtain ⟨c0, c1, c2, c3, c4, c5, c6, c7, c8, d1⟩ := hT.all10) | (go_at_call 51; refine (hT.string (fun e => hne.out (by have h := congrArg List.length e; (try simp only [List.length_append, List.length_nil] at h); exact List.length_eq_zero_iff.1 (by omega)))).mono ?_; rintro e w9 ⟨rfl, hbl⟩))
    go_ret2
    refine ⟨?_, hbl⟩
    rw [hbody.out]
    simp [flagT, tailG]
theorem IText_any (i : InsnV) (hop : i.op ≤ 9223372036854775807) (him : -9223372036854775808 ≤ i.imm ∧ i.imm ≤ 9223372036854775807) (w : World) (ht : Tabs w) (hp : P10 w) :
    Calls Tryz.prog 29 #[.agg i.cells] w fun e w' => e = .returned (.tuple #[.string ⟨(textT i).toArray⟩, .int .i64 (checkE i)]) ∧ Below w.heap.size w w' := by
  by_cases hc : checkE i = 0
  · rw [show textT i = bodyT i from if_pos hc, hc]
    obtain ⟨op, rd, r1, r2, imm, aq, rl, pred, succ⟩ := i
    exact IText_ok op rd r1 r2 imm aq rl pred succ w ht hp hop hc him
  · have h2 : checkE i = 2 := by unfold checkE at hc ⊢; cases hk : checkOk i <;> simp_all
    rw [show textT i = [] from if_neg hc, h2]
    obtain ⟨op, rd, r1, r2, imm, aq, rl, pred, succ⟩ := i
    exact IText_no op rd r1 r2 imm aq rl pred succ w ht hp hop hc
end Go.Proofs.YtdbpnbmaineniaaGreatDoor
