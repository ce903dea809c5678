/- The walk of the law HartLocal. Conditions: the library's table of ASCII spaces lies as its initialiser lays it. -/
import Derived.Test.YtbglinhglnbfmaaGreatDoorHartMF
import Derived.Test.YtbglinhglnbfmaaGreatDoorHartQS
import Derived.Test.YtbglinhglnbfmaaGreatDoorPick
import Derived.Deep.DeepCutAuto
set_option linter.unusedVariables false
namespace Go.Proofs.YtbglinhglnbfmaaGreatDoor
open Go.RowKit
theorem stored_hart (s : World) (hh : HartV) (t : TypeId) : Below s.heap.size s (World.setCells (s.alloc (.cells #[.int .u64 0, .int .u64 0, .int .u64 0, .int .u64 0, .int .u64 0, .int .u64 0, .int .u64 0, .int .u64 0, .int .u64 0, .int .u64 0, .int .u64 0, .int .u64 0, .int .u64 0, .int .u64 0, .int .u64 0, .int .u64 0, .int .u64 0, .int .u64 0, .int .u64 0, .int .u64 0, .int .u64 0, .int .u64 0, .int .u64 0, .int .u64 0, .int .u64 0, .int .u64 0, .int .u64 0, .int .u64 0, .int .u64 0, .int .u64 0, .int .u64 0, .int .u64 0, .int .u64 0, .int .i64 0, .int .u64 0] t)) s.heap.size 0 (hartL hh)) ∧ HC s.heap.size hh (World.setCells (s.alloc (.cells #[.int .u64 0, .int .u64 0, .int .u64 0, .int .u64 0, .int .u64 0, .int .u64 0, .int .u64 0, .int .u64 0, .int .u64 0, .int .u64 0, .int .u64 0, .int .u64 0, .int .u64 0, .int .u64 0, .int .u64 0, .int .u64 0, .int .u64 0, .int .u64 0, .int .u64 0, .int .u64 0, .int .u64 0, .int .u64 0, .int .u64 0, .int .u64 0, .int .u64 0, .int .u64 0, .int .u64 0, .int .u64 0, .int .u64 0, .int .u64 0, .int .u64 0, .int .u64 0, .int .u64 0, .int .i64 0, .int .u64 0] t)) s.heap.size 0 (hartL hh)) ∧ s.heap.size < (World.setCells (s.alloc (.cells #[.int .u64 0, .int .u64 0, .int .u64 0, .int .u64 0, .int .u64 0, .int .u64 0, .int .u64 0, .int .u64 0, .int .u64 0, .int .u64 0, .int .u64 0, .int .u64 0, .int .u64 0, .int .u64 0, .int .u64 0, .int .u64 0, .int .u64 0, .int .u64 0, .int .u64 0, .int .u64 0, .int .u64 0, .int .u64 0, .int .u64 0, .int .u64 0, .int .u64 0, .int .u64 0, .int .u64 0, .int .u64 0, .int .u64 0, .int .u64 0, .int .u64 0, .int .u64 0, .int .u64 0, .int .i64 0, .int .u64 0] t)) s.heap.size 0 (hartL hh)).heap.size ∧ (World.setCells (s.alloc (.cells #[.int .u64 0, .int .u64 0, .int .u64 0, .int .u64 0, .int .u64 0, .int .u64 0, .int .u64 0, .int .u64 0, .int .u64 0, .int .u64 0, .int .u64 0, .int .u64 0, .int .u64 0, .int .u64 0, .int .u64 0, .int .u64 0, .int .u64 0, .int .u64 0, .int .u64 0, .int .u64 0, .int .u64 0, .int .u64 0, .int .u64 0, .int .u64 0, .int .u64 0, .int .u64 0, .int .u64 0, .int .u64 0, .int .u64 0, .int .u64 0, .int .u64 0, .int .u64 0, .int .u64 0, .int .i64 0, .int .u64 0] t)) s.heap.size 0 (hartL hh)).there s.heap.size 0 35 := by
  have hz := zeros_there s t
  have hal : Below s.heap.size s (s.alloc (.cells #[.int .u64 0, .int .u64 0, .int .u64 0, .int .u64 0, .int .u64 0, .int .u64 0, .int .u64 0, .int .u64 0, .int .u64 0, .int .u64 0, .int .u64 0, .int .u64 0, .int .u64 0, .int .u64 0, .int .u64 0, .int .u64 0, .int .u64 0, .int .u64 0, .int .u64 0, .int .u64 0, .int .u64 0, .int .u64 0, .int .u64 0, .int .u64 0, .int .u64 0, .int .u64 0, .int .u64 0, .int .u64 0, .int .u64 0, .int .u64 0, .int .u64 0, .int .u64 0, .int .u64 0, .int .i64 0, .int .u64 0] t)) := (Below.refl _ _).alloc (Nat.le_refl _) _
  refine ⟨below_setCells (Nat.le_refl s.heap.size) (hartL hh) 0 _ hal, HC.of_range (World.rangeAt_setCells_same _ s.heap.size 0 (hartL hh) (by rw [hartL_len]; exact hz)), Nat.lt_of_lt_of_le (show s.heap.size < (s.alloc (.cells #[.int .u64 0, .int .u64 0, .int .u64 0, .int .u64 0, .int .u64 0, .int .u64 0, .int .u64 0, .int .u64 0, .int .u64 0, .int .u64 0, .int .u64 0, .int .u64 0, .int .u64 0, .int .u64 0, .int .u64 0, .int .u64 0, .int .u64 0, .int .u64 0, .int .u64 0, .int .u64 0, .int .u64 0, .int .u64 0, .int .u64 0, .int .u64 0, .int .u64 0, .int .u64 0, .int .u64 0, .int .u64 0, .int .u64 0, .int .u64 0, .int .u64 0, .int .u64 0, .int .u64 0, .int .i64 0, .int .u64 0] t)).heap.size by simp) (below_setCells (Nat.zero_le _) (hartL hh) 0 _ (Below.refl 0 _)).size, World.there_setCells hz s.heap.size 0 (hartL hh)⟩
theorem fresh_ask (s : World) (t : TypeId) : (s.alloc (.cells #[.int .i64 0, .int .u64 0, .int .u64 0, .int .i64 0, .bool false, .bool false, .int .i64 0, .int .i64 0] t)).there s.heap.size 0 8 := there_fresh s _ t 8 (by decide)
theorem stored_ask (s : World) (a : AskV) (t : TypeId) : Below s.heap.size s (World.setCells (s.alloc (.cells #[.int .i64 0, .int .u64 0, .int .u64 0, .int .i64 0, .bool false, .bool false, .int .i64 0, .int .i64 0] t)) s.heap.size 0 a.cells.toList) ∧ (World.setCells (s.alloc (.cells #[.int .i64 0, .int .u64 0, .int .u64 0, .int .i64 0, .bool false, .bool false, .int .i64 0, .int .i64 0] t)) s.heap.size 0 a.cells.toList).rangeAt s.heap.size 0 a.cells.toList ∧ s.heap.size < (World.setCells (s.alloc (.cells #[.int .i64 0, .int .u64 0, .int .u64 0, .int .i64 0, .bool false, .bool false, .int .i64 0, .int .i64 0] t)) s.heap.size 0 a.cells.toList).heap.size := by
  have hal : Below s.heap.size s (s.alloc (.cells #[.int .i64 0, .int .u64 0, .int .u64 0, .int .i64 0, .bool false, .bool false, .int .i64 0, .int .i64 0] t)) := (Below.refl _ _).alloc (Nat.le_refl _) _
  exact ⟨below_setCells (Nat.le_refl s.heap.size) a.cells.toList 0 _ hal, World.rangeAt_setCells_same _ s.heap.size 0 a.cells.toList (fresh_ask s t), Nat.lt_of_lt_of_le (show s.heap.size < (s.alloc (.cells #[.int .i64 0, .int .u64 0, .int .u64 0, .int .i64 0, .bool false, .bool false, .int .i64 0, .int .i64 0] t)).heap.size by simp) (below_setCells (Nat.zero_le _) a.cells.toList 0 _ (Below.refl 0 _)).size⟩
theorem range_keep {w w' : World} {b o B : Nat} {cs : List Value} (hr : w.rangeAt b o cs) (hB : b < B) (hb : Below B w w') : w'.rangeAt b o cs := fun j v hv => by
  rw [hb.cell (p := ⟨b, o + j, none⟩) hB]; exact hr j v hv
theorem BK.keepB {w W W' : World} {h : HartV} {i : InsnV} {B : Nat} (hB : BK w h i W) (hb : Below B W W') (h2 : w.heap.size + 2 ≤ B) : BK w h i W' :=
  ⟨fun j hj => by rw [hb.cell (p := ⟨w.heap.size, j, none⟩) (by show w.heap.size < _; omega)]; exact hB.h j hj,
    fun j hj => by rw [hb.cell (p := ⟨w.heap.size + 1, j, none⟩) (by show w.heap.size + 1 < _; omega)]; exact hB.c j hj, hB.bl.trans (hb.mono (by omega)), Nat.le_trans hB.sz hb.size⟩
theorem call_zero (i : InsnV) (hc : checkE i = 0) (ho : i.op = 64) : i.rs1 = 0 ∧ i.rs2 = 0 := by
  have hok : checkOk i = true := by
    unfold checkE at hc
    cases hk : checkOk i with
    | true => rfl
    | false => rw [hk] at hc; cases hc
  unfold checkOk at hok
  have hf : (opOf i.op).form = 10 := by rw [ho]; decide +kernel
  rw [hf] at hok
  simp [formOk] at hok
  omega
theorem unread_of (i : InsnV) (hc : checkE i = 0) (r : Nat) (h1 : 1 ≤ r) (h2 : r < 32) (h : (r : Int) ∉ readsL i) : unread i r := by
  rcases readsL_mem i r h1 h2 h with ⟨h3, h4, h5⟩ | ⟨h3, h4, h5⟩
  · exact ⟨by omega, by omega, fun e => absurd e h3⟩
  · have := call_zero i hc h3
    exact ⟨by omega, by omega, fun _ => ⟨h4, h5⟩⟩
theorem readsL_len (i : InsnV) : (readsL i).length ≤ 31 := by
  unfold readsL
  split
  · decide
  · exact readsK_len i 31
theorem not_mem_of {l : List Int} {r : Int} (h : ∀ j, j < l.length → l.getD j 0 ≠ r) : r ∉ l := fun hm => by
  obtain ⟨j, hj, e⟩ := List.mem_iff_getElem.1 hm
  exact h j hj (by simp [List.getD, hj, e])
/-- A choice by what is false, by an operation that is wanted. -/
theorem wpList_pick_false {P : Program} {ops : Array Oper} {rest : List Oper} {op : Oper} {a : Act} {w : World} {Q : Exit → Act → World → Prop} (hw : Region.wanted op (yielded ops a.tmps) = true) (c x y : Operand) (ho : op.op = .pick c x y) (hc : a.eval c = .bool false)
    (h : wpList P ops Q rest (a.put op.dst (a.eval y)) w) : wpList P ops Q (op :: rest) a w :=
  wpList_step fun K hK => by
    rw [if_pos hw]
    unfold Oper.wp execOp
    simp [ho, hc, asBool]
    exact hK _ _ h
/-- '!=' on two asks that are one, by an operation that is wanted. -/
theorem wpList_neq_ask {ops : Array Oper} {rest : List Oper} {op : Oper} {a : Act} {w : World} {Q : Exit → Act → World → Prop} (hw : Region.wanted op (yielded ops a.tmps) = true) (x y : Operand) (t : TypeId) (ho : op.op = .binOp .neq 42 x y t) (A : Array Value)
    (hx : a.eval x = .agg A) (hy : a.eval y = .agg A) (hq : ∀ w, (binOp .neq 42 (.agg A) (.agg A)).run Tryz.prog w = .ok (.bool false) w)
    (h : wpList Tryz.prog ops Q rest (a.put op.dst (.bool false)) w) : wpList Tryz.prog ops Q (op :: rest) a w :=
  wpList_step fun K hK => by
    rw [if_pos hw]
    unfold Oper.wp execOp
    simp only [ho, hx, hy, Sem.run_bind, run_eqGuard_agg w .neq 42 x y A A Tryz.eqGuardType42, hq, Result.andThen_ok, Sem.run_pure]
    exact hK _ _ h
/-- An operation that only yields, in its place. -/
theorem wpList_yields {P : Program} {ops : Array Oper} {rest : List Oper} {op : Oper} {a : Act} {w : World} {Q : Exit → Act → World → Prop} {S : World → Prop} {v : Value} (hy : YieldsIf P ops S op v a) (hS : S w) (h : wpList P ops Q rest (a.put op.dst v) w) : wpList P ops Q (op :: rest) a w :=
  wpList_step fun K hK => by
    rcases hy with ⟨hw, hv⟩ | ⟨hw, rfl⟩
    · rw [if_pos hw]; unfold Oper.wp; simp only [hv w hS, Oper.upon]; exact hK _ _ h
    · rw [if_neg (by simp [hw])]; exact hK _ _ h
theorem yieldsIf_neq_ask {ops : Array Oper} {S : World → Prop} {op : Oper} {a : Act} (hw : Region.wanted op (yielded ops a.tmps) = true) (x y : Operand) (t : TypeId) (ho : op.op = .binOp .neq 42 x y t) (A : Array Value)
    (hx : a.eval x = .agg A) (hy : a.eval y = .agg A) (hq : ∀ w, (binOp .neq 42 (.agg A) (.agg A)).run Tryz.prog w = .ok (.bool false) w) : YieldsIf Tryz.prog ops S op (.bool false) a :=
  .inl ⟨hw, fun w _ => by
    unfold execOp
    simp only [ho, hx, hy, Sem.run_bind, run_eqGuard_agg w .neq 42 x y A A Tryz.eqGuardType42, hq, Result.andThen_ok, Sem.run_pure]⟩
theorem yieldsIf_eql_regs {ops : Array Oper} {S : World → Prop} {op : Oper} {a : Act} (hw : Region.wanted op (yielded ops a.tmps) = true) (x y : Operand) (t : TypeId) (ho : op.op = .binOp .eql 23 x y t) (f g : Nat → BitVec 64)
    (hx : a.eval x = .agg (regL f).toArray) (hy : a.eval y = .agg (regL g).toArray) (hq : ((List.range 32).all fun j => f j == g j) = true) : YieldsIf Tryz.prog ops S op (.bool true) a :=
  .inl ⟨hw, fun w _ => by
    unfold execOp
    simp only [ho, hx, hy, Sem.run_bind, run_eqGuard_agg w .eql 23 x y _ _ Tryz.eqGuardType23, regs_eql, hq, Result.andThen_ok, Sem.run_pure]⟩
set_option maxRecDepth 100000 in
theorem ask_neq (a : AskV) (w : World) : (binOp .neq 42 (.agg a.cells) (.agg a.cells)).run Tryz.prog w = .ok (.bool false) w := by
  obtain ⟨k, a1, v, o, b1, b2, p, s⟩ := a
  simp only [AskV.cells]
  simp [go_sem]
attribute [local go_sem] wrap_u64_bv bv_un bv_sn bv_add bv_mul bv_neg bv_sub mul_bvpow shr_min shl_min sshr_min bv_lit bv_0 bv_1 un_shr sn_shr wrap_i64_un bits_u64_and bits_u64_or bits_u64_xor bits_u64_andNot bv_max u64_unsigned
section
attribute [local irreducible] un sn hartL AskV.cells
set_option maxRecDepth 100000 in
set_option maxHeartbeats 16000000 in
theorem Local_bad (h : HartV) (op rd r1 r2 : Int) (imm : Int) (aq rl : Bool) (pred succ : Int) (found : BitVec 64) (won : Bool) (r0 : Int) (v : BitVec 64) (w : World) (ht : Tabs w) (hb : hartE h ≠ 0) :
    Calls Tryz.prog 4 #[.agg (hartArr h), .agg #[.int .i64 op, .int .i64 rd, .int .i64 r1, .int .i64 r2, .int .i64 imm, .bool aq, .bool rl, .int .i64 pred, .int .i64 succ], .int .u64 (un found), .bool won, .int .i64 r0, .int .u64 (un v)] w fun e w' => e = .returned (.bool true) ∧ Below w.heap.size w w' := by
  have hund : ∀ b : Bool, (some undef = some (Value.bool b)) = False := fun b => by simp [undef]
  have hB0 := BK.start w h ⟨op, rd, r1, r2, imm, aq, rl, pred, succ⟩ 25 27
  have hu := Tryz.underlying25
  have hE := Lib.hid (fun W => HCheck_any h W)
  have hR := Lib.hid (fun W => R2Check_any ⟨op, rd, r1, r2, imm, aq, rl, pred, succ⟩ W)
  have tb : (hartE h != 0) = true := by simpa using hb
  clear hb
  go_enter Tryz.func4, Tryz.ntmps4
  go_wp2_with (first | (refine wpList_load_mid rfl 25 _ rfl w.heap.size 0 rfl (hartL h) _ rh hu rfl (size_hart _) ?_) | (go_at_call 6; refine (lives_any _ (ht.later hB0.bl (Nat.le_refl _))).mono ?_; rintro e w1 ⟨rfl, hb1⟩; have hB := hB0.keep hb1; clear hB0 hb1; obtain ⟨rh, ri, x33, c0, c1, c2, c3, c4, c5, c6, c7, c8⟩ := hB.facts) | (go_at_call 7; refine (hE.out _).mono ?_; rintro e w2 ⟨rfl, hb2⟩; replace hB := hB.keep hb2; clear hb2 rh ri x33 c0 c1 c2 c3 c4 c5 c6 c7 c8; obtain ⟨rh, ri, x33, c0, c1, c2, c3, c4, c5, c6, c7, c8⟩ := hB.facts) | (go_at_call 8; refine (hR.out _).mono ?_; rintro e w3 ⟨rfl, hb3⟩; replace hB := hB.keep hb3; clear hb3 rh ri x33 c0 c1 c2 c3 c4 c5 c6 c7 c8; obtain ⟨rh, ri, x33, c0, c1, c2, c3, c4, c5, c6, c7, c8⟩ := hB.facts))
  go_ret
  exact ⟨rfl, hB.bl⟩
set_option maxRecDepth 100000 in
set_option maxHeartbeats 16000000 in
theorem Local_ended (h : HartV) (op rd r1 r2 : Int) (imm : Int) (aq rl : Bool) (pred succ : Int) (found : BitVec 64) (won : Bool) (r0 : Int) (v : BitVec 64) (w : World) (ht : Tabs w) (hb : hartE h = 0) (hf : h.fin ≠ 0) :
    Calls Tryz.prog 4 #[.agg (hartArr h), .agg #[.int .i64 op, .int .i64 rd, .int .i64 r1, .int .i64 r2, .int .i64 imm, .bool aq, .bool rl, .int .i64 pred, .int .i64 succ], .int .u64 (un found), .bool won, .int .i64 r0, .int .u64 (un v)] w fun e w' => e = .returned (.bool true) ∧ Below w.heap.size w w' := by
  have hund : ∀ b : Bool, (some undef = some (Value.bool b)) = False := fun b => by simp [undef]
  have hB0 := BK.start w h ⟨op, rd, r1, r2, imm, aq, rl, pred, succ⟩ 25 27
  have hu := Tryz.underlying25
  have hE := Lib.hid (fun W => HCheck_any h W)
  have hR := Lib.hid (fun W => R2Check_any ⟨op, rd, r1, r2, imm, aq, rl, pred, succ⟩ W)
  rw [hb] at hE
  have tf : (h.fin != 0) = true := by simpa using hf
  clear hb hf
  go_enter Tryz.func4, Tryz.ntmps4
  go_wp2_with (first | (refine wpList_load_mid rfl 25 _ rfl w.heap.size 0 rfl (hartL h) _ rh hu rfl (size_hart _) ?_) | (go_at_call 6; refine (lives_any _ (ht.later hB0.bl (Nat.le_refl _))).mono ?_; rintro e w1 ⟨rfl, hb1⟩; have hB := hB0.keep hb1; clear hB0 hb1; obtain ⟨rh, ri, x33, c0, c1, c2, c3, c4, c5, c6, c7, c8⟩ := hB.facts) | (go_at_call 7; refine (hE.out _).mono ?_; rintro e w2 ⟨rfl, hb2⟩; replace hB := hB.keep hb2; clear hb2 rh ri x33 c0 c1 c2 c3 c4 c5 c6 c7 c8; obtain ⟨rh, ri, x33, c0, c1, c2, c3, c4, c5, c6, c7, c8⟩ := hB.facts) | (go_at_call 8; refine (hR.out _).mono ?_; rintro e w3 ⟨rfl, hb3⟩; replace hB := hB.keep hb3; clear hb3 rh ri x33 c0 c1 c2 c3 c4 c5 c6 c7 c8; obtain ⟨rh, ri, x33, c0, c1, c2, c3, c4, c5, c6, c7, c8⟩ := hB.facts))
  go_ret
  exact ⟨rfl, hB.bl⟩
set_option maxRecDepth 100000 in
set_option maxHeartbeats 16000000 in
theorem Local_invalid (h : HartV) (op rd r1 r2 : Int) (imm : Int) (aq rl : Bool) (pred succ : Int) (found : BitVec 64) (won : Bool) (r0 : Int) (v : BitVec 64) (w : World) (ht : Tabs w) (hb : hartE h = 0) (hf : h.fin = 0) (hc : checkE ⟨op, rd, r1, r2, imm, aq, rl, pred, succ⟩ ≠ 0) :
    Calls Tryz.prog 4 #[.agg (hartArr h), .agg #[.int .i64 op, .int .i64 rd, .int .i64 r1, .int .i64 r2, .int .i64 imm, .bool aq, .bool rl, .int .i64 pred, .int .i64 succ], .int .u64 (un found), .bool won, .int .i64 r0, .int .u64 (un v)] w fun e w' => e = .returned (.bool true) ∧ Below w.heap.size w w' := by
  have hund : ∀ b : Bool, (some undef = some (Value.bool b)) = False := fun b => by simp [undef]
  have hB0 := BK.start w h ⟨op, rd, r1, r2, imm, aq, rl, pred, succ⟩ 25 27
  have hu := Tryz.underlying25
  have hE := Lib.hid (fun W => HCheck_any h W)
  have hR := Lib.hid (fun W => R2Check_any ⟨op, rd, r1, r2, imm, aq, rl, pred, succ⟩ W)
  rw [hb] at hE
  have tf : (h.fin != 0) = false := by rw [hf]; rfl
  have tc : (checkE ⟨op, rd, r1, r2, imm, aq, rl, pred, succ⟩ != 0) = true := by simpa using hc
  clear hb hf hc
  go_enter Tryz.func4, Tryz.ntmps4
  go_wp2_with (first | (refine wpList_load_mid rfl 25 _ rfl w.heap.size 0 rfl (hartL h) _ rh hu rfl (size_hart _) ?_) | (go_at_call 6; refine (lives_any _ (ht.later hB0.bl (Nat.le_refl _))).mono ?_; rintro e w1 ⟨rfl, hb1⟩; have hB := hB0.keep hb1; clear hB0 hb1; obtain ⟨rh, ri, x33, c0, c1, c2, c3, c4, c5, c6, c7, c8⟩ := hB.facts) | (go_at_call 7; refine (hE.out _).mono ?_; rintro e w2 ⟨rfl, hb2⟩; replace hB := hB.keep hb2; clear hb2 rh ri x33 c0 c1 c2 c3 c4 c5 c6 c7 c8; obtain ⟨rh, ri, x33, c0, c1, c2, c3, c4, c5, c6, c7, c8⟩ := hB.facts) | (go_at_call 8; refine (hR.out _).mono ?_; rintro e w3 ⟨rfl, hb3⟩; replace hB := hB.keep hb3; clear hb3 rh ri x33 c0 c1 c2 c3 c4 c5 c6 c7 c8; obtain ⟨rh, ri, x33, c0, c1, c2, c3, c4, c5, c6, c7, c8⟩ := hB.facts))
  go_ret
  exact ⟨rfl, hB.bl⟩
end
end Go.Proofs.YtbglinhglnbfmaaGreatDoor
