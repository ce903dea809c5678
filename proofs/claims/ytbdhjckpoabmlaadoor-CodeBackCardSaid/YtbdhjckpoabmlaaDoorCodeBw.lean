/- The walk of the law CodeBack. Conditions: the library's table of ASCII spaces and the fields' places lie as their initialisers lay them. -/
import Derived.Test.YtbdhjckpoabmlaaDoorCodeL
import Derived.Test.YtbdhjckpoabmlaaDoorCodeIn
import Derived.Test.YtbdhjckpoabmlaaDoorCodePn
import Derived.Test.YtbdhjckpoabmlaaDoorRefCheck
import Derived.Test.YtbdhjckpoabmlaaDoorInsnEq
set_option linter.unusedSimpArgs false
set_option linter.unusedVariables false
namespace Go.Proofs.YtbdhjckpoabmlaaDoor
open Go.RowKit
theorem wpList_yieldsC {P : Program} {ops : Array Oper} {rest : List Oper} {op : Oper} {a : Act} {w : World} {Q : Exit → Act → World → Prop} {S : World → Prop} {v : Value} (hy : YieldsIf P ops S op v a) (hS : S w) (h : wpList P ops Q rest (a.put op.dst v) w) : wpList P ops Q (op :: rest) a w :=
  wpList_step fun K hK => by
    rcases hy with ⟨hw, hv⟩ | ⟨hw, rfl⟩
    · rw [if_pos hw]; unfold Oper.wp; simp only [hv w hS, Oper.upon]; exact hK _ _ h
    · rw [if_neg (by simp [hw])]; exact hK _ _ h
theorem yieldsIf_eql_insn {ops : Array Oper} {S : World → Prop} {op : Oper} {a : Act} (hw : Region.wanted op (yielded ops a.tmps) = true) (x y : Operand) (t : TypeId) (ho : op.op = .binOp .eql 23 x y t) (A B : Array Value) (b : Bool)
    (hx : a.eval x = .agg A) (hy : a.eval y = .agg B) (hq : ∀ w, (binOp .eql 23 (.agg A) (.agg B)).run Tryd.prog w = .ok (.bool b) w) : YieldsIf Tryd.prog ops S op (.bool b) a :=
  .inl ⟨hw, fun w _ => by
    unfold execOp
    simp only [ho, hx, hy, Sem.run_bind, run_eqGuard_agg w .eql 23 x y A B Tryd.eqGuardType23, hq, Result.andThen_ok, Sem.run_pure]⟩
/-- Two instructions' boxes. -/
structure BB (w : World) (IL OL : List Value) (W : World) : Prop where
  rI : W.rangeAt w.heap.size 0 IL
  rO : W.rangeAt (w.heap.size + 1) 0 OL
  bl : Below w.heap.size w W
  lt : w.heap.size + 1 < W.heap.size
theorem BB.keep {w W W' : World} {IL OL : List Value} (h : BB w IL OL W) (hb : Below W.heap.size W W') : BB w IL OL W' :=
  ⟨range_on h.rI (Nat.lt_trans (Nat.lt_succ_self _) h.lt) hb, range_on h.rO h.lt hb, h.bl.trans (hb.mono h.bl.size), Nat.lt_of_lt_of_le h.lt hb.size⟩
theorem BB.start (w : World) (i o : InsnV) (t : TypeId) : BB w i.cells.toList o.cells.toList ((w.alloc (.cells i.cells t)).alloc (.cells o.cells t)) := by
  have s1 : (w.alloc (.cells i.cells t)).heap.size = w.heap.size + 1 := by simp
  have h2 : Below (w.alloc (.cells i.cells t)).heap.size (w.alloc (.cells i.cells t)) ((w.alloc (.cells i.cells t)).alloc (.cells o.cells t)) := (Below.refl _ _).alloc (Nat.le_refl _) _
  have h1 : Below w.heap.size w (w.alloc (.cells i.cells t)) := (Below.refl _ _).alloc (Nat.le_refl _) _
  refine ⟨range_on (cellR w i.cells t) (by rw [s1]; omega) h2, ?_, h1.trans (h2.mono h1.size), by simp⟩
  have := cellR (w.alloc (.cells i.cells t)) o.cells t
  rw [s1] at this; exact this
/-- Insn at lists of cells. -/
theorem insn_list (x : BitVec 32) (W : World) (ht : Tabs W) (hfl : Flds W) : Calls Tryd.prog 10 #[.int .u32 (un32 x)] W fun e w' => e = .returned (.tuple #[.agg (insnW x).1.cells.toList.toArray, .int .i64 (insnW x).2]) ∧ Below W.heap.size W w' := by
  rw [Array.toArray_toList]; exact Insn_any x W ht hfl
theorem check_list (i : InsnV) (W : World) : Calls Tryd.prog 11 #[.agg i.cells.toList.toArray] W fun e w' => e = .returned (.int .i64 (checkE i)) ∧ Below W.heap.size W w' := by
  rw [Array.toArray_toList]; exact R2Check_any i W
theorem insnFrom_04 (w : BitVec 32) : ∀ (n : Nat) (a : Int), (insnFrom w a n).2 = 0 ∨ (insnFrom w a n).2 = 4
  | 0, _ => .inr rfl
  | n + 1, a => by
    unfold insnFrom
    split
    · exact .inl rfl
    · exact insnFrom_04 w n (a + 1)
theorem insnW_04 (x : BitVec 32) : (insnW x).2 = 0 ∨ (insnW x).2 = 4 := insnFrom_04 x 87 1
theorem wordV_no (i : InsnV) (h : checkE i ≠ 0) : un32 (wordV i) = 0 := by unfold wordV wordT; rw [if_neg h]; rfl
theorem eql_list (i o : InsnV) (w : World) : (binOp .eql 23 (.agg i.cells.toList.toArray) (.agg o.cells.toList.toArray)).run Tryd.prog w = .ok (.bool (decide (i = o))) w := by
  rw [Array.toArray_toList, Array.toArray_toList]; exact insn_eql i o w
theorem same_words (i o : InsnV) (hi : checkE i = 0) (ho : checkE o = 0) : (un32 (wordV i) == un32 (wordV o)) = decide (i = o) := by
  by_cases e : i = o
  · subst e; simp
  · rw [decide_eq_false e, beq_eq_false_iff_ne]
    intro h
    exact e (word_inj i o hi ho (un32_inj.1 h))
section
attribute [local irreducible] un32 wordV checkE
set_option maxRecDepth 100000 in
set_option maxHeartbeats 32000000 in
theorem CodeBack_0 (i o : InsnV) (x : BitVec 32) (w : World) (hep : (insnW x).2 = 0) (hlo : -9223372036854775808 ≤ i.op) (hop : i.op ≤ 9223372036854775807) (hlo2 : -9223372036854775808 ≤ o.op) (hop2 : o.op ≤ 9223372036854775807) (ht : Tabs w) (hfl : Flds w) :
    Calls Tryd.prog 5 #[.agg i.cells, .agg o.cells, .int .u32 (un32 x)] w fun e w' => e = .returned (.bool true) ∧ Below w.heap.size w w' := by
  have hu := Tryd.underlying23
  have hC := checkE_02 i
  have hD := Lib.hid (checkE_02 o)
  have hIn := Lib.hid (insn_list x)
  rw [hep] at hIn
  obtain ⟨hP1, hP2⟩ := word_insn x hep
  obtain ⟨l1, l2⟩ := ok_op _ hP1
  have hWP := Lib.hid (word_list (insnW x).1 (by omega) (by omega))
  have hCP := Lib.hid (check_list (insnW x).1)
  rw [hP1, hP2] at hWP
  rw [hP1] at hCP
  clear hP1 hP2 l1 l2
  have hnP := Lib.hid (insnW x).1.list_len
  have hsP := Lib.hid (size_insn (insnW x).1)
  have h1P := Lib.hid (insnW x).1.list_one
  have hWI := Lib.hid (word_list i hlo hop)
  have hWO := Lib.hid (word_list o hlo2 hop2)
  have hCI := Lib.hid (check_list i)
  have hno := Lib.hid (wordV_no i)
  have hIa : Hid (checkE i = 0 → ∀ W, Tabs W → Flds W → Calls Tryd.prog 10 #[.int .u32 (un32 (wordV i))] W fun e w' => e = .returned (.tuple #[.agg i.cells.toList.toArray, .int .i64 0]) ∧ Below W.heap.size W w') := Lib.hid fun h W h1 h2 => by
    have := insn_list (wordV i) W h1 h2
    rw [insn_word i h] at this; exact this
  have hsI := Lib.hid (size_insn i)
  have hsO := Lib.hid (size_insn o)
  have hnI := Lib.hid i.list_len
  have h1I := Lib.hid i.list_one
  have hqI : Hid (∀ w, (binOp .eql 23 (.agg i.cells.toList.toArray) (.agg i.cells.toList.toArray)).run Tryd.prog w = .ok (.bool true) w) := Lib.hid fun w => by rw [eql_list i i w]; simp
  have hqO := Lib.hid (eql_list i o)
  have hsw := Lib.hid (same_words i o)
  have hB := BB.start w i o 23
  replace hep := Lib.hid hep
  have hDx := Lib.hid hD.out
  go_enter Tryd.func5, Tryd.ntmps5
  go_upto_region 3 with (go_at_call 6; refine (Lives3_any _ (ht.later hB.bl (Nat.le_refl _)) (hfl.later hB.bl)).mono ?_; rintro e w1 ⟨rfl, hb1⟩)
  replace hB := hB.keep hb1
  clear hb1
  generalize checkE i = c at *
  generalize checkE o = d at *
  generalize wordV i = a at *
  generalize wordV o = b at *
  generalize i.cells.toList = IL at *
  generalize o.cells.toList = OL at *
  generalize (insnW x).1.cells.toList = PL at *
  generalize decide (i = o) = q at *
  have ht1 := ht.later hB.bl (Nat.le_refl _)
  have hfl1 := hfl.later hB.bl
  go_upto_region 4 with (first | (go_at_call 10; refine (hIn.out _ ht1 hfl1).mono ?_; rintro e w2 ⟨rfl, hb2⟩) | (refine wpList_store_mid rfl 23 _ _ rfl w2.heap.size 0 PL.toArray rfl rfl (fun j hj => cells_fresh w2 #[.int .i64 0, .int .i64 0, .int .i64 0, .int .i64 0, .int .i64 0, .bool false, .bool false, .int .i64 0, .int .i64 0] 23 9 (by decide) j (by rw [List.size_toArray, hnP.out] at hj; exact hj)) (by rw [List.size_toArray]; exact hsP.out) h1P.out ?_))
  replace hB := hB.keep hb2
  clear hb2 ht1 hfl1 hIn
  obtain ⟨hb3, hr3, hl3, -⟩ := copied (s := w2) (cs := PL) hnP.out #[.int .i64 0, .int .i64 0, .int .i64 0, .int .i64 0, .int .i64 0, .bool false, .bool false, .int .i64 0, .int .i64 0] rfl 23
  generalize World.setCells _ w2.heap.size 0 PL = w3 at hb3 hr3 hl3 ⊢
  replace hB := hB.keep hb3
  clear hb3
  have ht3 := ht.later hB.bl (Nat.le_refl _)
  have hfl3 := hfl.later hB.bl
  go_upto_region 6 with (first | (refine wpList_load_mid rfl 23 _ rfl w2.heap.size 0 rfl PL _ hr3 hu rfl hsP.out ?_) | (go_at_call 7; refine (hWP.out _ ht3 hfl3).mono ?_; rintro e w4 ⟨rfl, hb4⟩))
  replace hB := hB.keep hb4
  have hr4 := range_on hr3 hl3 hb4
  clear hb4 ht3 hfl3 hWP hr3
  refine wp_region_lit ?_
  refine wpList_yieldsC (S := fun W => W = w4) (v := .int .i64 0) (Or.inl ⟨by rfl, fun W _ => by kernel_rfl⟩) rfl ?_
  try simp only [Act.put, List.setIfInBounds_toArray, List.set_cons_zero, List.set_cons_succ]
  refine wpList_yieldsC (S := fun W => W = w4) (v := .bool false) (Or.inl ⟨by rfl, fun W _ => by go_simp⟩) rfl ?_
  try simp only [Act.put, List.setIfInBounds_toArray, List.set_cons_zero, List.set_cons_succ]
  refine wpList_yieldsC (S := fun W => W = w4) (v := .bool false) (Or.inl ⟨by rfl, fun W _ => by kernel_rfl⟩) rfl ?_
  try simp only [Act.put, List.setIfInBounds_toArray, List.set_cons_zero, List.set_cons_succ]
  refine wpList_yieldsC (S := fun W => W = w4) (v := .int .u32 (un32 x)) (Or.inl ⟨by rfl, fun W _ => by kernel_rfl⟩) rfl ?_
  try simp only [Act.put, List.setIfInBounds_toArray, List.set_cons_zero, List.set_cons_succ]
  refine wpList_yieldsC (S := fun W => W = w4) (v := .int .u32 (un32 x)) (Or.inl ⟨by rfl, fun W _ => by kernel_rfl⟩) rfl ?_
  try simp only [Act.put, List.setIfInBounds_toArray, List.set_cons_zero, List.set_cons_succ]
  refine wpList_yieldsC (S := fun W => W = w4) (v := .bool false) (Or.inl ⟨by rfl, fun W _ => by go_simp⟩) rfl ?_
  try simp only [Act.put, List.setIfInBounds_toArray, List.set_cons_zero, List.set_cons_succ]
  refine wpList_yieldsC (S := fun W => W = w4) (v := .bool false) (Or.inl ⟨by rfl, fun W _ => by go_simp⟩) rfl ?_
  try simp only [Act.put, List.setIfInBounds_toArray, List.set_cons_zero, List.set_cons_succ]
  refine wpList_yieldsC (S := fun W => W = w4) (v := .bool false) (Or.inl ⟨by rfl, fun W _ => by kernel_rfl⟩) rfl ?_
  try simp only [Act.put, List.setIfInBounds_toArray, List.set_cons_zero, List.set_cons_succ]
  refine wpList_yieldsC (S := fun W => W = w4) (v := .agg PL.toArray) (yieldsIf_load_mid (by rfl) 23 _ rfl w2.heap.size 0 rfl PL _ (fun W hS => by rw [hS]; exact hr4) hu rfl hsP.out) rfl ?_
  try simp only [Act.put, List.setIfInBounds_toArray, List.set_cons_zero, List.set_cons_succ]
  go_upto_region 8 with (go_at_call 11; refine (hCP.out _).mono ?_; rintro e w5 ⟨rfl, hb5⟩)
  replace hB := hB.keep hb5
  clear hb5 hr4 hCP
  have ht5 := ht.later hB.bl (Nat.le_refl _)
  have hfl5 := hfl.later hB.bl
  go_upto_region 9 with (first | (refine wpList_load_mid rfl 23 _ rfl w.heap.size 0 rfl IL _ hB.rI hu rfl hsI.out ?_) | (go_at_call 7; refine (hWI.out _ ht5 hfl5).mono ?_; rintro e w5b ⟨rfl, hb6⟩))
  replace hB := hB.keep hb6
  clear hb6 ht5 hfl5 hWI
  rcases hC with rfl | rfl
  · have ht6 := ht.later hB.bl (Nat.le_refl _)
    have hfl6 := hfl.later hB.bl
    have hIa2 := Lib.hid (hIa.out (by simp))
    clear hIa hno hCI
    go_upto_region 12 with (first | (go_at_call 10; refine (hIa2.out _ ht6 hfl6).mono ?_; rintro e w6 ⟨rfl, hb6⟩) | (refine wpList_store_mid rfl 23 _ _ rfl w6.heap.size 0 IL.toArray rfl rfl (fun j hj => cells_fresh w6 #[.int .i64 0, .int .i64 0, .int .i64 0, .int .i64 0, .int .i64 0, .bool false, .bool false, .int .i64 0, .int .i64 0] 23 9 (by decide) j (by rw [List.size_toArray, hnI.out] at hj; exact hj)) (by rw [List.size_toArray]; exact hsI.out) h1I.out ?_))
    replace hB := hB.keep hb6
    clear hb6 ht6 hfl6 hIa2
    obtain ⟨hb7, hr7, hl7, -⟩ := copied (s := w6) (cs := IL) hnI.out #[.int .i64 0, .int .i64 0, .int .i64 0, .int .i64 0, .int .i64 0, .bool false, .bool false, .int .i64 0, .int .i64 0] rfl 23
    generalize World.setCells _ w6.heap.size 0 IL = w7 at hb7 hr7 hl7 ⊢
    replace hB := hB.keep hb7
    clear hb7
    have ht7 := ht.later hB.bl (Nat.le_refl _)
    have hfl7 := hfl.later hB.bl
    go_upto_region 13 with (first | (refine wpList_load_mid rfl 23 _ rfl (w.heap.size + 1) 0 rfl OL _ hB.rO hu rfl hsO.out ?_) | (go_at_call 7; refine (hWO.out _ ht7 hfl7).mono ?_; rintro e w8 ⟨rfl, hb8⟩))
    replace hB := hB.keep hb8
    replace hr7 := range_on hr7 hl7 hb8
    clear hb8 ht7 hfl7 hWO
    rcases hDx.out with rfl | rfl
    · have tq : ((un32 a == un32 b) == q) = true := by rw [hsw.out (by simp) (by simp)]; simp
      clear hsw
      refine wp_region_lit ?_
      refine wpList_yieldsC (S := fun W => W = w8) (v := .int .i64 0) (Or.inl ⟨by rfl, fun W _ => by kernel_rfl⟩) rfl ?_
      try simp only [Act.put, List.setIfInBounds_toArray, List.set_cons_zero, List.set_cons_succ]
      refine wpList_yieldsC (S := fun W => W = w8) (v := .bool true) (Or.inl ⟨by rfl, fun W _ => by go_simp⟩) rfl ?_
      try simp only [Act.put, List.setIfInBounds_toArray, List.set_cons_zero, List.set_cons_succ]
      refine wpList_yieldsC (S := fun W => W = w8) (v := .bool true) (Or.inl ⟨by rfl, fun W _ => by kernel_rfl⟩) rfl ?_
      try simp only [Act.put, List.setIfInBounds_toArray, List.set_cons_zero, List.set_cons_succ]
      refine wpList_yieldsC (S := fun W => W = w8) (v := .agg IL.toArray) (yieldsIf_load_mid (by rfl) 23 _ rfl w6.heap.size 0 rfl IL _ (fun W hS => by rw [hS]; exact hr7) hu rfl hsI.out) rfl ?_
      try simp only [Act.put, List.setIfInBounds_toArray, List.set_cons_zero, List.set_cons_succ]
      refine wpList_yieldsC (S := fun W => W = w8) (v := .agg IL.toArray) (yieldsIf_load_mid (by rfl) 23 _ rfl w.heap.size 0 rfl IL _ (fun W hS => by rw [hS]; exact hB.rI) hu rfl hsI.out) rfl ?_
      try simp only [Act.put, List.setIfInBounds_toArray, List.set_cons_zero, List.set_cons_succ]
      refine wpList_yieldsC (S := fun W => W = w8) (v := .bool true) (yieldsIf_eql_insn (by rfl) _ _ _ rfl IL.toArray IL.toArray true rfl rfl hqI.out) rfl ?_
      try simp only [Act.put, List.setIfInBounds_toArray, List.set_cons_zero, List.set_cons_succ]
      refine wpList_yieldsC (S := fun W => W = w8) (v := .bool true) (Or.inl ⟨by rfl, fun W _ => by go_simp⟩) rfl ?_
      try simp only [Act.put, List.setIfInBounds_toArray, List.set_cons_zero, List.set_cons_succ]
      refine wpList_yieldsC (S := fun W => W = w8) (v := .bool true) (Or.inl ⟨by rfl, fun W _ => by kernel_rfl⟩) rfl ?_
      try simp only [Act.put, List.setIfInBounds_toArray, List.set_cons_zero, List.set_cons_succ]
      refine wpList_yieldsC (S := fun W => W = w8) (v := .int .i64 0) (Or.inl ⟨by rfl, fun W _ => by kernel_rfl⟩) rfl ?_
      try simp only [Act.put, List.setIfInBounds_toArray, List.set_cons_zero, List.set_cons_succ]
      refine wpList_yieldsC (S := fun W => W = w8) (v := .bool false) (Or.inl ⟨by rfl, fun W _ => by go_simp⟩) rfl ?_
      try simp only [Act.put, List.setIfInBounds_toArray, List.set_cons_zero, List.set_cons_succ]
      refine wpList_yieldsC (S := fun W => W = w8) (v := .bool false) (Or.inl ⟨by rfl, fun W _ => by kernel_rfl⟩) rfl ?_
      try simp only [Act.put, List.setIfInBounds_toArray, List.set_cons_zero, List.set_cons_succ]
      refine wpList_yieldsC (S := fun W => W = w8) (v := .int .u32 (un32 a)) (Or.inl ⟨by rfl, fun W _ => by kernel_rfl⟩) rfl ?_
      try simp only [Act.put, List.setIfInBounds_toArray, List.set_cons_zero, List.set_cons_succ]
      refine wpList_yieldsC (S := fun W => W = w8) (v := .int .u32 (un32 b)) (Or.inl ⟨by rfl, fun W _ => by kernel_rfl⟩) rfl ?_
      try simp only [Act.put, List.setIfInBounds_toArray, List.set_cons_zero, List.set_cons_succ]
      refine wpList_yieldsC (S := fun W => W = w8) (v := .bool (un32 a == un32 b)) (Or.inl ⟨by rfl, fun W _ => by go_simp⟩) rfl ?_
      try simp only [Act.put, List.setIfInBounds_toArray, List.set_cons_zero, List.set_cons_succ]
      refine wpList_yieldsC (S := fun W => W = w8) (v := .agg IL.toArray) (yieldsIf_load_mid (by rfl) 23 _ rfl w.heap.size 0 rfl IL _ (fun W hS => by rw [hS]; exact hB.rI) hu rfl hsI.out) rfl ?_
      try simp only [Act.put, List.setIfInBounds_toArray, List.set_cons_zero, List.set_cons_succ]
      refine wpList_yieldsC (S := fun W => W = w8) (v := .agg OL.toArray) (yieldsIf_load_mid (by rfl) 23 _ rfl (w.heap.size + 1) 0 rfl OL _ (fun W hS => by rw [hS]; exact hB.rO) hu rfl hsO.out) rfl ?_
      try simp only [Act.put, List.setIfInBounds_toArray, List.set_cons_zero, List.set_cons_succ]
      refine wpList_yieldsC (S := fun W => W = w8) (v := .bool q) (yieldsIf_eql_insn (by rfl) _ _ _ rfl IL.toArray OL.toArray q rfl rfl hqO.out) rfl ?_
      try simp only [Act.put, List.setIfInBounds_toArray, List.set_cons_zero, List.set_cons_succ]
      refine wpList_yieldsC (S := fun W => W = w8) (v := .bool true) (Or.inl ⟨by rfl, fun W _ => by go_simp⟩) rfl ?_
      try simp only [Act.put, List.setIfInBounds_toArray, List.set_cons_zero, List.set_cons_succ]
      refine wpList_yieldsC (S := fun W => W = w8) (v := .bool true) (Or.inl ⟨by rfl, fun W _ => by go_simp⟩) rfl ?_
      try simp only [Act.put, List.setIfInBounds_toArray, List.set_cons_zero, List.set_cons_succ]
      refine wpList_yieldsC (S := fun W => W = w8) (v := .bool true) (Or.inl ⟨by rfl, fun W _ => by go_simp⟩) rfl ?_
      try simp only [Act.put, List.setIfInBounds_toArray, List.set_cons_zero, List.set_cons_succ]
      go_wp2_with fail
      go_ret
      exact ⟨rfl, hB.bl⟩
    · clear hsw
      refine wp_region_lit ?_
      refine wpList_yieldsC (S := fun W => W = w8) (v := .int .i64 0) (Or.inl ⟨by rfl, fun W _ => by kernel_rfl⟩) rfl ?_
      try simp only [Act.put, List.setIfInBounds_toArray, List.set_cons_zero, List.set_cons_succ]
      refine wpList_yieldsC (S := fun W => W = w8) (v := .bool true) (Or.inl ⟨by rfl, fun W _ => by go_simp⟩) rfl ?_
      try simp only [Act.put, List.setIfInBounds_toArray, List.set_cons_zero, List.set_cons_succ]
      refine wpList_yieldsC (S := fun W => W = w8) (v := .bool true) (Or.inl ⟨by rfl, fun W _ => by kernel_rfl⟩) rfl ?_
      try simp only [Act.put, List.setIfInBounds_toArray, List.set_cons_zero, List.set_cons_succ]
      refine wpList_yieldsC (S := fun W => W = w8) (v := .agg IL.toArray) (yieldsIf_load_mid (by rfl) 23 _ rfl w6.heap.size 0 rfl IL _ (fun W hS => by rw [hS]; exact hr7) hu rfl hsI.out) rfl ?_
      try simp only [Act.put, List.setIfInBounds_toArray, List.set_cons_zero, List.set_cons_succ]
      refine wpList_yieldsC (S := fun W => W = w8) (v := .agg IL.toArray) (yieldsIf_load_mid (by rfl) 23 _ rfl w.heap.size 0 rfl IL _ (fun W hS => by rw [hS]; exact hB.rI) hu rfl hsI.out) rfl ?_
      try simp only [Act.put, List.setIfInBounds_toArray, List.set_cons_zero, List.set_cons_succ]
      refine wpList_yieldsC (S := fun W => W = w8) (v := .bool true) (yieldsIf_eql_insn (by rfl) _ _ _ rfl IL.toArray IL.toArray true rfl rfl hqI.out) rfl ?_
      try simp only [Act.put, List.setIfInBounds_toArray, List.set_cons_zero, List.set_cons_succ]
      refine wpList_yieldsC (S := fun W => W = w8) (v := .bool true) (Or.inl ⟨by rfl, fun W _ => by go_simp⟩) rfl ?_
      try simp only [Act.put, List.setIfInBounds_toArray, List.set_cons_zero, List.set_cons_succ]
      refine wpList_yieldsC (S := fun W => W = w8) (v := .bool true) (Or.inl ⟨by rfl, fun W _ => by kernel_rfl⟩) rfl ?_
      try simp only [Act.put, List.setIfInBounds_toArray, List.set_cons_zero, List.set_cons_succ]
      refine wpList_yieldsC (S := fun W => W = w8) (v := .int .i64 2) (Or.inl ⟨by rfl, fun W _ => by kernel_rfl⟩) rfl ?_
      try simp only [Act.put, List.setIfInBounds_toArray, List.set_cons_zero, List.set_cons_succ]
      refine wpList_yieldsC (S := fun W => W = w8) (v := .bool true) (Or.inl ⟨by rfl, fun W _ => by go_simp⟩) rfl ?_
      try simp only [Act.put, List.setIfInBounds_toArray, List.set_cons_zero, List.set_cons_succ]
      refine wpList_yieldsC (S := fun W => W = w8) (v := .bool true) (Or.inl ⟨by rfl, fun W _ => by kernel_rfl⟩) rfl ?_
      try simp only [Act.put, List.setIfInBounds_toArray, List.set_cons_zero, List.set_cons_succ]
      go_wp2_with fail
      go_ret
      exact ⟨rfl, hB.bl⟩
  · have ta := hno.out (by simp)
    clear hIa hno hsw hWO
    go_wp2_with (first | (refine wpList_load_mid rfl 23 _ rfl w.heap.size 0 rfl IL _ hB.rI hu rfl hsI.out ?_) | (go_at_call 11; refine (hCI.out _).mono ?_; rintro e w9 ⟨rfl, hb9⟩))
    go_ret
    exact ⟨rfl, hB.bl.trans (hb9.mono hB.bl.size)⟩
set_option maxRecDepth 100000 in
set_option maxHeartbeats 32000000 in
theorem CodeBack_4 (i o : InsnV) (x : BitVec 32) (w : World) (hep : (insnW x).2 = 4) (hlo : -9223372036854775808 ≤ i.op) (hop : i.op ≤ 9223372036854775807) (hlo2 : -9223372036854775808 ≤ o.op) (hop2 : o.op ≤ 9223372036854775807) (ht : Tabs w) (hfl : Flds w) :
    Calls Tryd.prog 5 #[.agg i.cells, .agg o.cells, .int .u32 (un32 x)] w fun e w' => e = .returned (.bool true) ∧ Below w.heap.size w w' := by
  have hu := Tryd.underlying23
  have hC := checkE_02 i
  have hD := Lib.hid (checkE_02 o)
  have hIn := Lib.hid (insn_list x)
  rw [hep] at hIn
  have hnP := Lib.hid (insnW x).1.list_len
  have hsP := Lib.hid (size_insn (insnW x).1)
  have h1P := Lib.hid (insnW x).1.list_one
  have hWI := Lib.hid (word_list i hlo hop)
  have hWO := Lib.hid (word_list o hlo2 hop2)
  have hCI := Lib.hid (check_list i)
  have hno := Lib.hid (wordV_no i)
  have hIa : Hid (checkE i = 0 → ∀ W, Tabs W → Flds W → Calls Tryd.prog 10 #[.int .u32 (un32 (wordV i))] W fun e w' => e = .returned (.tuple #[.agg i.cells.toList.toArray, .int .i64 0]) ∧ Below W.heap.size W w') := Lib.hid fun h W h1 h2 => by
    have := insn_list (wordV i) W h1 h2
    rw [insn_word i h] at this; exact this
  have hsI := Lib.hid (size_insn i)
  have hsO := Lib.hid (size_insn o)
  have hnI := Lib.hid i.list_len
  have h1I := Lib.hid i.list_one
  have hqI : Hid (∀ w, (binOp .eql 23 (.agg i.cells.toList.toArray) (.agg i.cells.toList.toArray)).run Tryd.prog w = .ok (.bool true) w) := Lib.hid fun w => by rw [eql_list i i w]; simp
  have hqO := Lib.hid (eql_list i o)
  have hsw := Lib.hid (same_words i o)
  have hB := BB.start w i o 23
  replace hep := Lib.hid hep
  have hDx := Lib.hid hD.out
  go_enter Tryd.func5, Tryd.ntmps5
  go_upto_region 3 with (go_at_call 6; refine (Lives3_any _ (ht.later hB.bl (Nat.le_refl _)) (hfl.later hB.bl)).mono ?_; rintro e w1 ⟨rfl, hb1⟩)
  replace hB := hB.keep hb1
  clear hb1
  generalize checkE i = c at *
  generalize checkE o = d at *
  generalize wordV i = a at *
  generalize wordV o = b at *
  generalize i.cells.toList = IL at *
  generalize o.cells.toList = OL at *
  generalize (insnW x).1.cells.toList = PL at *
  generalize decide (i = o) = q at *
  have ht1 := ht.later hB.bl (Nat.le_refl _)
  have hfl1 := hfl.later hB.bl
  go_upto_region 4 with (first | (go_at_call 10; refine (hIn.out _ ht1 hfl1).mono ?_; rintro e w2 ⟨rfl, hb2⟩) | (refine wpList_store_mid rfl 23 _ _ rfl w2.heap.size 0 PL.toArray rfl rfl (fun j hj => cells_fresh w2 #[.int .i64 0, .int .i64 0, .int .i64 0, .int .i64 0, .int .i64 0, .bool false, .bool false, .int .i64 0, .int .i64 0] 23 9 (by decide) j (by rw [List.size_toArray, hnP.out] at hj; exact hj)) (by rw [List.size_toArray]; exact hsP.out) h1P.out ?_))
  replace hB := hB.keep hb2
  clear hb2 ht1 hfl1 hIn
  obtain ⟨hb3, hr3, hl3, -⟩ := copied (s := w2) (cs := PL) hnP.out #[.int .i64 0, .int .i64 0, .int .i64 0, .int .i64 0, .int .i64 0, .bool false, .bool false, .int .i64 0, .int .i64 0] rfl 23
  generalize World.setCells _ w2.heap.size 0 PL = w3 at hb3 hr3 hl3 ⊢
  replace hB := hB.keep hb3
  clear hb3
  have ht3 := ht.later hB.bl (Nat.le_refl _)
  have hfl3 := hfl.later hB.bl
  go_upto_region 8 with fail
  have ht5 := ht3
  have hfl5 := hfl3
  go_upto_region 9 with (first | (refine wpList_load_mid rfl 23 _ rfl w.heap.size 0 rfl IL _ hB.rI hu rfl hsI.out ?_) | (go_at_call 7; refine (hWI.out _ ht5 hfl5).mono ?_; rintro e w5b ⟨rfl, hb6⟩))
  replace hB := hB.keep hb6
  clear hb6 ht5 hfl5 hWI
  rcases hC with rfl | rfl
  · have ht6 := ht.later hB.bl (Nat.le_refl _)
    have hfl6 := hfl.later hB.bl
    have hIa2 := Lib.hid (hIa.out (by simp))
    clear hIa hno hCI
    go_upto_region 12 with (first | (go_at_call 10; refine (hIa2.out _ ht6 hfl6).mono ?_; rintro e w6 ⟨rfl, hb6⟩) | (refine wpList_store_mid rfl 23 _ _ rfl w6.heap.size 0 IL.toArray rfl rfl (fun j hj => cells_fresh w6 #[.int .i64 0, .int .i64 0, .int .i64 0, .int .i64 0, .int .i64 0, .bool false, .bool false, .int .i64 0, .int .i64 0] 23 9 (by decide) j (by rw [List.size_toArray, hnI.out] at hj; exact hj)) (by rw [List.size_toArray]; exact hsI.out) h1I.out ?_))
    replace hB := hB.keep hb6
    clear hb6 ht6 hfl6 hIa2
    obtain ⟨hb7, hr7, hl7, -⟩ := copied (s := w6) (cs := IL) hnI.out #[.int .i64 0, .int .i64 0, .int .i64 0, .int .i64 0, .int .i64 0, .bool false, .bool false, .int .i64 0, .int .i64 0] rfl 23
    generalize World.setCells _ w6.heap.size 0 IL = w7 at hb7 hr7 hl7 ⊢
    replace hB := hB.keep hb7
    clear hb7
    have ht7 := ht.later hB.bl (Nat.le_refl _)
    have hfl7 := hfl.later hB.bl
    go_upto_region 13 with (first | (refine wpList_load_mid rfl 23 _ rfl (w.heap.size + 1) 0 rfl OL _ hB.rO hu rfl hsO.out ?_) | (go_at_call 7; refine (hWO.out _ ht7 hfl7).mono ?_; rintro e w8 ⟨rfl, hb8⟩))
    replace hB := hB.keep hb8
    replace hr7 := range_on hr7 hl7 hb8
    clear hb8 ht7 hfl7 hWO
    rcases hDx.out with rfl | rfl
    · have tq : ((un32 a == un32 b) == q) = true := by rw [hsw.out (by simp) (by simp)]; simp
      clear hsw
      refine wp_region_lit ?_
      refine wpList_yieldsC (S := fun W => W = w8) (v := .int .i64 0) (Or.inl ⟨by rfl, fun W _ => by kernel_rfl⟩) rfl ?_
      try simp only [Act.put, List.setIfInBounds_toArray, List.set_cons_zero, List.set_cons_succ]
      refine wpList_yieldsC (S := fun W => W = w8) (v := .bool true) (Or.inl ⟨by rfl, fun W _ => by go_simp⟩) rfl ?_
      try simp only [Act.put, List.setIfInBounds_toArray, List.set_cons_zero, List.set_cons_succ]
      refine wpList_yieldsC (S := fun W => W = w8) (v := .bool true) (Or.inl ⟨by rfl, fun W _ => by kernel_rfl⟩) rfl ?_
      try simp only [Act.put, List.setIfInBounds_toArray, List.set_cons_zero, List.set_cons_succ]
      refine wpList_yieldsC (S := fun W => W = w8) (v := .agg IL.toArray) (yieldsIf_load_mid (by rfl) 23 _ rfl w6.heap.size 0 rfl IL _ (fun W hS => by rw [hS]; exact hr7) hu rfl hsI.out) rfl ?_
      try simp only [Act.put, List.setIfInBounds_toArray, List.set_cons_zero, List.set_cons_succ]
      refine wpList_yieldsC (S := fun W => W = w8) (v := .agg IL.toArray) (yieldsIf_load_mid (by rfl) 23 _ rfl w.heap.size 0 rfl IL _ (fun W hS => by rw [hS]; exact hB.rI) hu rfl hsI.out) rfl ?_
      try simp only [Act.put, List.setIfInBounds_toArray, List.set_cons_zero, List.set_cons_succ]
      refine wpList_yieldsC (S := fun W => W = w8) (v := .bool true) (yieldsIf_eql_insn (by rfl) _ _ _ rfl IL.toArray IL.toArray true rfl rfl hqI.out) rfl ?_
      try simp only [Act.put, List.setIfInBounds_toArray, List.set_cons_zero, List.set_cons_succ]
      refine wpList_yieldsC (S := fun W => W = w8) (v := .bool true) (Or.inl ⟨by rfl, fun W _ => by go_simp⟩) rfl ?_
      try simp only [Act.put, List.setIfInBounds_toArray, List.set_cons_zero, List.set_cons_succ]
      refine wpList_yieldsC (S := fun W => W = w8) (v := .bool true) (Or.inl ⟨by rfl, fun W _ => by kernel_rfl⟩) rfl ?_
      try simp only [Act.put, List.setIfInBounds_toArray, List.set_cons_zero, List.set_cons_succ]
      refine wpList_yieldsC (S := fun W => W = w8) (v := .int .i64 0) (Or.inl ⟨by rfl, fun W _ => by kernel_rfl⟩) rfl ?_
      try simp only [Act.put, List.setIfInBounds_toArray, List.set_cons_zero, List.set_cons_succ]
      refine wpList_yieldsC (S := fun W => W = w8) (v := .bool false) (Or.inl ⟨by rfl, fun W _ => by go_simp⟩) rfl ?_
      try simp only [Act.put, List.setIfInBounds_toArray, List.set_cons_zero, List.set_cons_succ]
      refine wpList_yieldsC (S := fun W => W = w8) (v := .bool false) (Or.inl ⟨by rfl, fun W _ => by kernel_rfl⟩) rfl ?_
      try simp only [Act.put, List.setIfInBounds_toArray, List.set_cons_zero, List.set_cons_succ]
      refine wpList_yieldsC (S := fun W => W = w8) (v := .int .u32 (un32 a)) (Or.inl ⟨by rfl, fun W _ => by kernel_rfl⟩) rfl ?_
      try simp only [Act.put, List.setIfInBounds_toArray, List.set_cons_zero, List.set_cons_succ]
      refine wpList_yieldsC (S := fun W => W = w8) (v := .int .u32 (un32 b)) (Or.inl ⟨by rfl, fun W _ => by kernel_rfl⟩) rfl ?_
      try simp only [Act.put, List.setIfInBounds_toArray, List.set_cons_zero, List.set_cons_succ]
      refine wpList_yieldsC (S := fun W => W = w8) (v := .bool (un32 a == un32 b)) (Or.inl ⟨by rfl, fun W _ => by go_simp⟩) rfl ?_
      try simp only [Act.put, List.setIfInBounds_toArray, List.set_cons_zero, List.set_cons_succ]
      refine wpList_yieldsC (S := fun W => W = w8) (v := .agg IL.toArray) (yieldsIf_load_mid (by rfl) 23 _ rfl w.heap.size 0 rfl IL _ (fun W hS => by rw [hS]; exact hB.rI) hu rfl hsI.out) rfl ?_
      try simp only [Act.put, List.setIfInBounds_toArray, List.set_cons_zero, List.set_cons_succ]
      refine wpList_yieldsC (S := fun W => W = w8) (v := .agg OL.toArray) (yieldsIf_load_mid (by rfl) 23 _ rfl (w.heap.size + 1) 0 rfl OL _ (fun W hS => by rw [hS]; exact hB.rO) hu rfl hsO.out) rfl ?_
      try simp only [Act.put, List.setIfInBounds_toArray, List.set_cons_zero, List.set_cons_succ]
      refine wpList_yieldsC (S := fun W => W = w8) (v := .bool q) (yieldsIf_eql_insn (by rfl) _ _ _ rfl IL.toArray OL.toArray q rfl rfl hqO.out) rfl ?_
      try simp only [Act.put, List.setIfInBounds_toArray, List.set_cons_zero, List.set_cons_succ]
      refine wpList_yieldsC (S := fun W => W = w8) (v := .bool true) (Or.inl ⟨by rfl, fun W _ => by go_simp⟩) rfl ?_
      try simp only [Act.put, List.setIfInBounds_toArray, List.set_cons_zero, List.set_cons_succ]
      refine wpList_yieldsC (S := fun W => W = w8) (v := .bool true) (Or.inl ⟨by rfl, fun W _ => by go_simp⟩) rfl ?_
      try simp only [Act.put, List.setIfInBounds_toArray, List.set_cons_zero, List.set_cons_succ]
      refine wpList_yieldsC (S := fun W => W = w8) (v := .bool true) (Or.inl ⟨by rfl, fun W _ => by go_simp⟩) rfl ?_
      try simp only [Act.put, List.setIfInBounds_toArray, List.set_cons_zero, List.set_cons_succ]
      go_wp2_with fail
      go_ret
      exact ⟨rfl, hB.bl⟩
    · clear hsw
      refine wp_region_lit ?_
      refine wpList_yieldsC (S := fun W => W = w8) (v := .int .i64 0) (Or.inl ⟨by rfl, fun W _ => by kernel_rfl⟩) rfl ?_
      try simp only [Act.put, List.setIfInBounds_toArray, List.set_cons_zero, List.set_cons_succ]
      refine wpList_yieldsC (S := fun W => W = w8) (v := .bool true) (Or.inl ⟨by rfl, fun W _ => by go_simp⟩) rfl ?_
      try simp only [Act.put, List.setIfInBounds_toArray, List.set_cons_zero, List.set_cons_succ]
      refine wpList_yieldsC (S := fun W => W = w8) (v := .bool true) (Or.inl ⟨by rfl, fun W _ => by kernel_rfl⟩) rfl ?_
      try simp only [Act.put, List.setIfInBounds_toArray, List.set_cons_zero, List.set_cons_succ]
      refine wpList_yieldsC (S := fun W => W = w8) (v := .agg IL.toArray) (yieldsIf_load_mid (by rfl) 23 _ rfl w6.heap.size 0 rfl IL _ (fun W hS => by rw [hS]; exact hr7) hu rfl hsI.out) rfl ?_
      try simp only [Act.put, List.setIfInBounds_toArray, List.set_cons_zero, List.set_cons_succ]
      refine wpList_yieldsC (S := fun W => W = w8) (v := .agg IL.toArray) (yieldsIf_load_mid (by rfl) 23 _ rfl w.heap.size 0 rfl IL _ (fun W hS => by rw [hS]; exact hB.rI) hu rfl hsI.out) rfl ?_
      try simp only [Act.put, List.setIfInBounds_toArray, List.set_cons_zero, List.set_cons_succ]
      refine wpList_yieldsC (S := fun W => W = w8) (v := .bool true) (yieldsIf_eql_insn (by rfl) _ _ _ rfl IL.toArray IL.toArray true rfl rfl hqI.out) rfl ?_
      try simp only [Act.put, List.setIfInBounds_toArray, List.set_cons_zero, List.set_cons_succ]
      refine wpList_yieldsC (S := fun W => W = w8) (v := .bool true) (Or.inl ⟨by rfl, fun W _ => by go_simp⟩) rfl ?_
      try simp only [Act.put, List.setIfInBounds_toArray, List.set_cons_zero, List.set_cons_succ]
      refine wpList_yieldsC (S := fun W => W = w8) (v := .bool true) (Or.inl ⟨by rfl, fun W _ => by kernel_rfl⟩) rfl ?_
      try simp only [Act.put, List.setIfInBounds_toArray, List.set_cons_zero, List.set_cons_succ]
      refine wpList_yieldsC (S := fun W => W = w8) (v := .int .i64 2) (Or.inl ⟨by rfl, fun W _ => by kernel_rfl⟩) rfl ?_
      try simp only [Act.put, List.setIfInBounds_toArray, List.set_cons_zero, List.set_cons_succ]
      refine wpList_yieldsC (S := fun W => W = w8) (v := .bool true) (Or.inl ⟨by rfl, fun W _ => by go_simp⟩) rfl ?_
      try simp only [Act.put, List.setIfInBounds_toArray, List.set_cons_zero, List.set_cons_succ]
      refine wpList_yieldsC (S := fun W => W = w8) (v := .bool true) (Or.inl ⟨by rfl, fun W _ => by kernel_rfl⟩) rfl ?_
      try simp only [Act.put, List.setIfInBounds_toArray, List.set_cons_zero, List.set_cons_succ]
      go_wp2_with fail
      go_ret
      exact ⟨rfl, hB.bl⟩
  · have ta := hno.out (by simp)
    clear hIa hno hsw hWO
    go_wp2_with (first | (refine wpList_load_mid rfl 23 _ rfl w.heap.size 0 rfl IL _ hB.rI hu rfl hsI.out ?_) | (go_at_call 11; refine (hCI.out _).mono ?_; rintro e w9 ⟨rfl, hb9⟩))
    go_ret
    exact ⟨rfl, hB.bl.trans (hb9.mono hB.bl.size)⟩
end
theorem CodeBack_any (i o : InsnV) (x : BitVec 32) (w : World) (hlo : -9223372036854775808 ≤ i.op) (hop : i.op ≤ 9223372036854775807) (hlo2 : -9223372036854775808 ≤ o.op) (hop2 : o.op ≤ 9223372036854775807) (ht : Tabs w) (hfl : Flds w) :
    Calls Tryd.prog 5 #[.agg i.cells, .agg o.cells, .int .u32 (un32 x)] w fun e w' => e = .returned (.bool true) ∧ Below w.heap.size w w' := by
  rcases insnW_04 x with h | h
  · exact CodeBack_0 i o x w h hlo hop hlo2 hop2 ht hfl
  · exact CodeBack_4 i o x w h hlo hop hlo2 hop2 ht hfl
theorem exists_un32 {a : Int} (h : (Lit.int .u32 a).wf = true) : ∃ x, a = un32 x := by
  refine ⟨BitVec.ofInt 32 a, ?_⟩
  simp [Lit.wf, IntKind.min, IntKind.max, IntKind.signed, IntKind.bits] at h
  unfold un32
  rw [BitVec.toNat_ofInt]
  omega
theorem CodeBack_int (i o : InsnV) (a : Int) (w : World) (hlo : -9223372036854775808 ≤ i.op) (hop : i.op ≤ 9223372036854775807) (hlo2 : -9223372036854775808 ≤ o.op) (hop2 : o.op ≤ 9223372036854775807) (hw : (Lit.int .u32 a).wf = true) (ht : Tabs w) (hfl : Flds w) :
    Calls Tryd.prog 5 #[.agg i.cells, .agg o.cells, .int .u32 a] w fun e w' => e = .returned (.bool true) ∧ Below w.heap.size w w' := by
  obtain ⟨x, rfl⟩ := exists_un32 hw
  exact CodeBack_any i o x w hlo hop hlo2 hop2 ht hfl
end Go.Proofs.YtbdhjckpoabmlaaDoor
