/- The walk of asm.may: which items may be. Conditions: the library's table of spaces lies as its initialiser lays it. -/
import Derived.Test.YtcgflnkgekkidaaGreatDoorAsmB
import Derived.Test.YtcgflnkgekkidaaGreatDoorInsnCheck
import Derived.Test.YtcgflnkgekkidaaGreatDoorRefFC
import Derived.OrdersHeld
import Derived.Maps.Own
import Derived.Maps.OwnOps
import Derived.Deep.RegionHeld
set_option linter.unusedSimpArgs false
set_option linter.unusedVariables false
namespace Go.Proofs.YtcgflnkgekkidaaGreatDoor
open Go.RowKit Go.Maps Go.ChangeMaps
/-- Which items may be. -/
def mayV (i : ItemV) : Bool :=
  if i.kind = 1 then checkE i.insn == 0 && (opOf i.insn.op).form != 6 && (opOf i.insn.op).form != 2 && i.insn.op != 2 && i.label == 0 && i.addr == 0#64
  else if i.kind = 2 then decide (i.insn = ⟨0, 0, 0, 0, 0, false, false, 0, 0⟩) && decide (0 ≤ i.label) && i.addr == 0#64
  else if i.kind = 3 then checkE i.insn == 0 && (opOf i.insn.op).form == 6 && i.insn.imm == 0 && decide (0 ≤ i.label) && i.addr == 0#64
  else if i.kind = 4 then checkE i.insn == 0 && (opOf i.insn.op).form == 2 && i.insn.imm == 0 && decide (0 ≤ i.label) && i.addr == 0#64
  else if i.kind = 5 then decide (1 ≤ i.insn.rd) && decide (i.insn.rd ≤ 31) && decide (i.insn = ⟨0, i.insn.rd, 0, 0, 0, false, false, 0, 0⟩) && i.label == 0
  else false
set_option maxRecDepth 100000 in
set_option maxHeartbeats 8000000 in
theorem item_eql (k i : ItemV) (w : World) : (binOp .eql 29 (.agg k.cells) (.agg i.cells)).run Tryz.prog w = .ok (.bool (decide (k = i))) w := by
  obtain ⟨a0, ⟨a1, a2, a3, a4, a5, a6, a7, a8, a9⟩, a10, a11⟩ := k
  obtain ⟨b0, ⟨b1, b2, b3, b4, b5, b6, b7, b8, b9⟩, b10, b11⟩ := i
  simp only [ItemV.cells]
  simp [go_sem, un_inj]
  repeat' split
  all_goals simp_all
theorem wpList_yieldsT {P : Program} {ops : Array Oper} {rest : List Oper} {op : Oper} {a : Act} {w : World} {Q : Exit → Act → World → Prop} {S : World → Prop} {v : Value} (hy : YieldsIf P ops S op v a) (hS : S w) (h : wpList P ops Q rest (a.put op.dst v) w) : wpList P ops Q (op :: rest) a w :=
  wpList_step fun K hK => by
    rcases hy with ⟨hw, hv⟩ | ⟨hw, rfl⟩
    · rw [if_pos hw]; unfold Oper.wp; simp only [hv w hS, Oper.upon]; exact hK _ _ h
    · rw [if_neg (by simp [hw])]; exact hK _ _ h
theorem wpList_eqlT {ops : Array Oper} {rest : List Oper} {op : Oper} {a : Act} {w : World} {Q : Exit → Act → World → Prop} (hw : Region.wanted op (yielded ops a.tmps) = true) (x y : Operand) (t : TypeId) (ho : op.op = .binOp .eql 29 x y t) (A B : Array Value) (b : Bool)
    (hx : a.eval x = .agg A) (hy : a.eval y = .agg B) (hq : ∀ w, (binOp .eql 29 (.agg A) (.agg B)).run Tryz.prog w = .ok (.bool b) w) (h : wpList Tryz.prog ops Q rest (a.put op.dst (.bool b)) w) : wpList Tryz.prog ops Q (op :: rest) a w :=
  wpList_yieldsT (S := fun W => W = w) (.inl ⟨hw, fun w _ => by
    unfold execOp
    simp only [ho, hx, hy, Sem.run_bind, run_eqGuard_agg w .eql 29 x y A B Tryz.eqGuardType29, hq, Result.andThen_ok, Sem.run_pure]⟩) rfl h
/-- The item that is wanted, in a box of its own that may be written. -/
structure WB (q : Nat) (k : ItemV) (W : World) : Prop where
  a : W.rangeAt q 0 [.int .i64 k.kind]
  m : W.rangeAt q 1 k.insn.cells.toList
  z : W.rangeAt q 10 [.int .i64 k.label, .int .u64 (un k.addr)]
  t : W.there q 0 12
  lt : q < W.heap.size
theorem WB.ib {q : Nat} {k : ItemV} {W : World} (h : WB q k W) : ItB q k W := by
  refine ⟨fun j v hv => ?_, h.lt⟩
  obtain ⟨kind, ⟨op, rd, r1, r2, imm, aq, rl, pred, succ⟩, label, addr⟩ := k
  rcases (show j = 0 ∨ j = 1 ∨ j = 2 ∨ j = 3 ∨ j = 4 ∨ j = 5 ∨ j = 6 ∨ j = 7 ∨ j = 8 ∨ j = 9 ∨ j = 10 ∨ j = 11 ∨ 12 ≤ j by omega) with rfl | rfl | rfl | rfl | rfl | rfl | rfl | rfl | rfl | rfl | rfl | rfl | hj
  · exact h.a 0 v hv
  · exact h.m 0 v hv
  · exact h.m 1 v hv
  · exact h.m 2 v hv
  · exact h.m 3 v hv
  · exact h.m 4 v hv
  · exact h.m 5 v hv
  · exact h.m 6 v hv
  · exact h.m 7 v hv
  · exact h.m 8 v hv
  · exact h.z 0 v hv
  · exact h.z 1 v hv
  · rw [Array.getElem?_eq_none (by exact hj)] at hv; cases hv
theorem WB.keep {q : Nat} {k : ItemV} {W W' : World} (h : WB q k W) (hb : Below W.heap.size W W') : WB q k W' := by
  have key : ∀ (o : Nat) (cs : List Value), W.rangeAt q o cs → W'.rangeAt q o cs := fun o cs hr j v hv => by rw [hb.cell (p := ⟨q, o + j, none⟩) h.lt]; exact hr j v hv
  exact ⟨key _ _ h.a, key _ _ h.m, key _ _ h.z, fun j hj => by rw [hb.cell (p := ⟨q, 0 + j, none⟩) h.lt, hb.frozen (p := ⟨q, 0 + j, none⟩) h.lt]; exact h.t j hj, Nat.lt_of_lt_of_le h.lt hb.size⟩
theorem WB.setInsn {q : Nat} {k : ItemV} {W : World} (h : WB q k W) (n : InsnV) : WB q { k with insn := n } (W.setCells q 1 n.cells.toList) :=
  ⟨World.rangeAt_setCells_apart h.a _ _ _ (.inr (.inl (by simp))), World.rangeAt_setCells_same _ _ _ _ (there_sub h.t 1 _ (by show 1 + 9 ≤ 12; omega)), World.rangeAt_setCells_apart h.z _ _ _ (.inr (.inr (by show 1 + 9 ≤ 10; omega))), World.there_setCells h.t _ _ _, by rw [size_setCells]; exact h.lt⟩
theorem WB.setLabel {q : Nat} {k : ItemV} {W : World} (h : WB q k W) (n : Int) : WB q { k with label := n } (W.setCell ⟨q, 10, none⟩ (.int .i64 n)) := by
  have e : W.setCell ⟨q, 10, none⟩ (.int .i64 n) = W.setCells q 10 [.int .i64 n] := rfl
  rw [e]
  refine ⟨World.rangeAt_setCells_apart h.a _ _ _ (.inr (.inl (by simp))), World.rangeAt_setCells_apart h.m _ _ _ (.inr (.inl (by show 1 + 9 ≤ 10; omega))), fun j v hv => ?_, World.there_setCells h.t _ _ _, by rw [size_setCells]; exact h.lt⟩
  have hs := World.rangeAt_setCells_same W q 10 [.int .i64 n] (there_sub h.t 10 1 (by omega))
  have hz : W.rangeAt q 11 [.int .u64 (un k.addr)] := fun j v hv => by have := h.z (j + 1) v (by simpa using hv); rwa [show 10 + (j + 1) = 11 + j by omega] at this
  have ho := World.rangeAt_setCells_apart hz q 10 [.int .i64 n] (.inr (.inr (by simp)))
  rcases j with _ | _ | j
  · exact hs 0 v hv
  · exact ho 0 v hv
  · simp at hv
theorem WB.setAddr {q : Nat} {k : ItemV} {W : World} (h : WB q k W) (x : BitVec 64) : WB q { k with addr := x } (W.setCell ⟨q, 11, none⟩ (.int .u64 (un x))) := by
  have e : W.setCell ⟨q, 11, none⟩ (.int .u64 (un x)) = W.setCells q 11 [.int .u64 (un x)] := rfl
  rw [e]
  refine ⟨World.rangeAt_setCells_apart h.a _ _ _ (.inr (.inl (by simp))), World.rangeAt_setCells_apart h.m _ _ _ (.inr (.inl (by show 1 + 9 ≤ 11; omega))), fun j v hv => ?_, World.there_setCells h.t _ _ _, by rw [size_setCells]; exact h.lt⟩
  have hs := World.rangeAt_setCells_same W q 11 [.int .u64 (un x)] (there_sub h.t 11 1 (by omega))
  have hz : W.rangeAt q 10 [.int .i64 k.label] := fun j v hv => by
    rcases j with _ | j
    · exact h.z 0 v hv
    · simp at hv
  have ho := World.rangeAt_setCells_apart hz q 11 [.int .u64 (un x)] (.inr (.inl (by simp)))
  rcases j with _ | _ | j
  · exact ho 0 v hv
  · exact hs 0 v hv
  · simp at hv
theorem WB.setRd {q : Nat} {k : ItemV} {W : World} (h : WB q k W) (n : Int) : WB q { k with insn := { k.insn with rd := n } } (W.setCell ⟨q, 2, none⟩ (.int .i64 n)) := by
  obtain ⟨kind, ⟨op, rd, r1, r2, imm, aq, rl, pred, succ⟩, label, addr⟩ := k
  have e : W.setCell ⟨q, 2, none⟩ (.int .i64 n) = W.setCells q 2 [.int .i64 n] := rfl
  rw [e]
  refine ⟨World.rangeAt_setCells_apart h.a _ _ _ (.inr (.inl (by simp))), fun j v hv => ?_, World.rangeAt_setCells_apart h.z _ _ _ (.inr (.inr (by simp))), World.there_setCells h.t _ _ _, by rw [size_setCells]; exact h.lt⟩
  have hs := World.rangeAt_setCells_same W q 2 [.int .i64 n] (there_sub h.t 2 1 (by omega))
  by_cases h1 : j = 1
  · subst h1; exact hs 0 v hv
  · have hj : (InsnV.cells ⟨op, rd, r1, r2, imm, aq, rl, pred, succ⟩).toList[j]? = some v := by
      rcases j with _ | _ | j
      · exact hv
      · exact absurd rfl h1
      · exact hv
    have hz : W.rangeAt q (1 + j) [v] := fun m u hu => by
      rcases m with _ | m
      · simp at hu; subst hu; exact h.m j v hj
      · simp at hu
    exact World.rangeAt_setCells_apart hz q 2 [.int .i64 n] (.inr (by simp; omega)) 0 v rfl
theorem WB.below {q : Nat} {B : Nat} {w W : World} (hq : B ≤ q) (h : Below B w W) (o : Nat) : ∀ (vs : List Value), Below B w (W.setCells q o vs) := fun vs => below_cells hq vs o _ h
theorem ItB.mid {b : Nat} {i : ItemV} {W : World} (h : ItB b i W) : W.rangeAt b 1 i.insn.cells.toList := fun j v hv => by
  obtain ⟨kind, ⟨op, rd, r1, r2, imm, aq, rl, pred, succ⟩, label, addr⟩ := i
  rcases (show j = 0 ∨ j = 1 ∨ j = 2 ∨ j = 3 ∨ j = 4 ∨ j = 5 ∨ j = 6 ∨ j = 7 ∨ j = 8 ∨ 9 ≤ j by omega) with rfl | rfl | rfl | rfl | rfl | rfl | rfl | rfl | rfl | hj
  · exact h.c 1 v hv
  · exact h.c 2 v hv
  · exact h.c 3 v hv
  · exact h.c 4 v hv
  · exact h.c 5 v hv
  · exact h.c 6 v hv
  · exact h.c 7 v hv
  · exact h.c 8 v hv
  · exact h.c 9 v hv
  · rw [List.getElem?_eq_none (by exact hj)] at hv; cases hv
/-- The box of the item that is wanted, just made. -/
theorem WB.new (w : World) (kind : Int) (Z : Array Value) (hZ : Z.size = 12) (t : TypeId) : WB w.heap.size ⟨kind, ⟨0, 0, 0, 0, 0, false, false, 0, 0⟩, 0, 0#64⟩ (World.setCells (w.alloc (.cells Z t)) w.heap.size 0 (ItemV.cells ⟨kind, ⟨0, 0, 0, 0, 0, false, false, 0, 0⟩, 0, 0#64⟩).toList) := by
  have ht : (w.alloc (.cells Z t)).there w.heap.size 0 12 := fun j hj => by
    refine ⟨?_, fresh_thawR w Z t _⟩
    rw [World.cell?_alloc_new, Nat.zero_add, Array.getElem?_eq_getElem (by omega)]; rfl
  have hr := World.rangeAt_setCells_same _ w.heap.size 0 (ItemV.cells ⟨kind, ⟨0, 0, 0, 0, 0, false, false, 0, 0⟩, 0, 0#64⟩).toList ht
  have sub : ∀ (o : Nat) (cs : List Value), (∀ j v, cs[j]? = some v → (ItemV.cells ⟨kind, ⟨0, 0, 0, 0, 0, false, false, 0, 0⟩, 0, 0#64⟩).toList[o + j]? = some v) → (World.setCells (w.alloc (.cells Z t)) w.heap.size 0 (ItemV.cells ⟨kind, ⟨0, 0, 0, 0, 0, false, false, 0, 0⟩, 0, 0#64⟩).toList).rangeAt w.heap.size o cs := fun o cs hc j v hv => by
    have := hr (o + j) v (hc j v hv); rwa [Nat.zero_add] at this
  refine ⟨sub 0 _ fun j v hv => ?_, sub 1 _ fun j v hv => ?_, sub 10 _ fun j v hv => ?_, World.there_setCells ht _ _ _, by rw [size_setCells]; simp⟩
  · rcases j with _ | j
    · exact hv
    · simp at hv
  · rcases j with _ | _ | _ | _ | _ | _ | _ | _ | _ | j
    all_goals first | exact hv | (simp [InsnV.cells] at hv)
  · rcases j with _ | _ | j
    · exact hv
    · exact hv
    · simp at hv
theorem WB.newE (w : World) (kind : Int) (Z : Array Value) (hZ : Z.size = 12) (t : TypeId) : WB w.heap.size ⟨kind, ⟨0, 0, 0, 0, 0, false, false, 0, 0⟩, 0, 0#64⟩ (World.setCells (w.alloc (.cells Z t)) w.heap.size 0 [.int .i64 kind, .int .i64 0, .int .i64 0, .int .i64 0, .int .i64 0, .int .i64 0, .bool false, .bool false, .int .i64 0, .int .i64 0, .int .i64 0, .int .u64 0]) := WB.new w kind Z hZ t
theorem may_1 (i : InsnV) (l : Int) (a : BitVec 64) : mayV ⟨1, i, l, a⟩ = ((checkE i == 0) && ((opOf i.op).form != 6) && ((opOf i.op).form != 2) && (i.op != 2) && (decide ((⟨1, i, 0, 0#64⟩ : ItemV) = ⟨1, i, l, a⟩) && decide (0 ≤ l))) := by
  rw [Bool.eq_iff_iff]
  simp only [mayV, ItemV.mk.injEq, Bool.and_eq_true, decide_eq_true_eq, beq_iff_eq, true_and, if_true, if_false]
  constructor
  · rintro ⟨⟨h, rfl⟩, rfl⟩; exact ⟨h, ⟨rfl, rfl⟩, Int.le_refl _⟩
  · rintro ⟨h, ⟨rfl, h2⟩, h3⟩; exact ⟨⟨h, rfl⟩, h2.symm⟩
theorem may_5 (i : InsnV) (l : Int) (a : BitVec 64) : mayV ⟨5, i, l, a⟩ = (decide (1 ≤ i.rd) && decide (i.rd ≤ 31) && (decide ((⟨5, ⟨0, i.rd, 0, 0, 0, false, false, 0, 0⟩, 0, a⟩ : ItemV) = ⟨5, i, l, a⟩) && decide (0 ≤ l))) := by
  rw [Bool.eq_iff_iff]
  have e1 : ((5 : Int) = 1) = False := by simp
  have e2 : ((5 : Int) = 2) = False := by simp
  have e3 : ((5 : Int) = 3) = False := by simp
  have e4 : ((5 : Int) = 4) = False := by simp
  simp only [mayV, ItemV.mk.injEq, Bool.and_eq_true, decide_eq_true_eq, beq_iff_eq, true_and, and_true, if_true, if_false, e1, e2, e3, e4]
  constructor
  · rintro ⟨⟨h, h2⟩, rfl⟩; exact ⟨h, ⟨h2.symm, rfl⟩, Int.le_refl _⟩
  · rintro ⟨h, ⟨h2, rfl⟩, h3⟩; exact ⟨⟨h, h2.symm⟩, rfl⟩
theorem may_2 (i : InsnV) (l : Int) (a : BitVec 64) : mayV ⟨2, i, l, a⟩ = (decide ((⟨2, ⟨0, 0, 0, 0, 0, false, false, 0, 0⟩, l, 0#64⟩ : ItemV) = ⟨2, i, l, a⟩) && decide (0 ≤ l)) := by
  rw [Bool.eq_iff_iff]
  simp only [mayV, ItemV.mk.injEq, Bool.and_eq_true, decide_eq_true_eq, beq_iff_eq, true_and, if_true, if_false, show ((2 : Int) = 1) = False by simp]
  constructor
  · rintro ⟨⟨rfl, h⟩, rfl⟩; exact ⟨⟨rfl, rfl⟩, h⟩
  · rintro ⟨⟨rfl, h2⟩, h⟩; exact ⟨⟨rfl, h⟩, h2.symm⟩
theorem may_3 (i : InsnV) (l : Int) (a : BitVec 64) : mayV ⟨3, i, l, a⟩ = ((checkE i == 0) && ((opOf i.op).form == 6) && (i.imm == 0) && (decide ((⟨3, i, l, 0#64⟩ : ItemV) = ⟨3, i, l, a⟩) && decide (0 ≤ l))) := by
  rw [Bool.eq_iff_iff]
  have e1 : ((3 : Int) = 1) = False := by simp
  have e2 : ((3 : Int) = 2) = False := by simp
  simp only [mayV, ItemV.mk.injEq, Bool.and_eq_true, decide_eq_true_eq, beq_iff_eq, true_and, if_true, if_false, e1, e2]
  constructor
  · rintro ⟨⟨h, h2⟩, rfl⟩; exact ⟨h, rfl, h2⟩
  · rintro ⟨h, rfl, h2⟩; exact ⟨⟨h, h2⟩, rfl⟩
theorem may_4 (i : InsnV) (l : Int) (a : BitVec 64) : mayV ⟨4, i, l, a⟩ = ((checkE i == 0) && ((opOf i.op).form == 2) && (i.imm == 0) && (decide ((⟨4, i, l, 0#64⟩ : ItemV) = ⟨4, i, l, a⟩) && decide (0 ≤ l))) := by
  rw [Bool.eq_iff_iff]
  have e1 : ((4 : Int) = 1) = False := by simp
  have e2 : ((4 : Int) = 2) = False := by simp
  have e3 : ((4 : Int) = 3) = False := by simp
  simp only [mayV, ItemV.mk.injEq, Bool.and_eq_true, decide_eq_true_eq, beq_iff_eq, true_and, if_true, if_false, e1, e2, e3]
  constructor
  · rintro ⟨⟨h, h2⟩, rfl⟩; exact ⟨h, rfl, h2⟩
  · rintro ⟨h, rfl, h2⟩; exact ⟨⟨h, h2⟩, rfl⟩
section
attribute [local irreducible] checkE un
set_option maxRecDepth 100000 in
set_option maxHeartbeats 8000000 in
theorem may_any (i : ItemV) (hop : i.insn.op ≤ 9223372036854775807) (w : World) (ht : Tabs w) : Calls Tryz.prog 54 #[.agg i.cells] w fun e w' => e = .returned (.bool (mayV i)) ∧ Below w.heap.size w w' := by
  obtain ⟨hI, hb0⟩ := ItB.new w i 29
  have hF : Hid (∀ W, Below w.heap.size w W → Calls Tryz.prog 89 #[.int .i64 i.insn.op] W fun e w' => e = .returned (.int .i64 (opOf i.insn.op).form) ∧ Below W.heap.size W w') := Lib.hid fun W hW => Form_any i.insn.op hop W (ht.later hW (Nat.le_refl _))
  have hK : Hid (∀ W, Below w.heap.size w W → Calls Tryz.prog 90 #[.agg i.insn.cells] W fun e w' => e = .returned (.int .i64 (checkE i.insn)) ∧ Below W.heap.size W w') := Lib.hid fun W hW => Check_any i.insn hop W (ht.later hW (Nat.le_refl _))
  have hQ : Hid (∀ (k : ItemV) W, (binOp .eql 29 (.agg k.cells) (.agg i.cells)).run Tryz.prog W = .ok (.bool (decide (k = i))) W) := Lib.hid fun k W => item_eql k i W
  clear ht hop
  replace hI := Lib.hid hI
  replace hb0 := Lib.hid hb0
  obtain ⟨kind, ⟨op, rd, r1, r2, imm, aq, rl, pred, succ⟩, label, addr⟩ := i
  simp only at hF hK
  generalize hFm : (opOf op).form = FM at hF
  have h12 : Hid (∀ Z : Array Value, Z.size = 12 → ((w.alloc (.cells (ItemV.cells ⟨kind, ⟨op, rd, r1, r2, imm, aq, rl, pred, succ⟩, label, addr⟩) 29)).alloc (.cells Z 29)).there (w.heap.size + 1) 0 12) := Lib.hid fun Z hZ => by
    have := fresh12 (w.alloc (.cells (ItemV.cells ⟨kind, ⟨op, rd, r1, r2, imm, aq, rl, pred, succ⟩, label, addr⟩) 29)) Z hZ 29
    rwa [show (w.alloc (.cells (ItemV.cells ⟨kind, ⟨op, rd, r1, r2, imm, aq, rl, pred, succ⟩, label, addr⟩) 29)).heap.size = w.heap.size + 1 by simp] at this
  have hWn : Hid (WB (w.heap.size + 1) ⟨kind, ⟨0, 0, 0, 0, 0, false, false, 0, 0⟩, 0, 0#64⟩ (World.setCells ((w.alloc (.cells (ItemV.cells ⟨kind, ⟨op, rd, r1, r2, imm, aq, rl, pred, succ⟩, label, addr⟩) 29)).alloc (.cells #[.int .i64 0, .int .i64 0, .int .i64 0, .int .i64 0, .int .i64 0, .int .i64 0, .bool false, .bool false, .int .i64 0, .int .i64 0, .int .i64 0, .int .u64 0] 29)) (w.heap.size + 1) 0 [.int .i64 kind, .int .i64 0, .int .i64 0, .int .i64 0, .int .i64 0, .int .i64 0, .bool false, .bool false, .int .i64 0, .int .i64 0, .int .i64 0, .int .u64 0])) := Lib.hid (by
    have := WB.newE (w.alloc (.cells (ItemV.cells ⟨kind, ⟨op, rd, r1, r2, imm, aq, rl, pred, succ⟩, label, addr⟩) 29)) kind #[.int .i64 0, .int .i64 0, .int .i64 0, .int .i64 0, .int .i64 0, .int .i64 0, .bool false, .bool false, .int .i64 0, .int .i64 0, .int .i64 0, .int .u64 0] rfl 29
    rwa [show (w.alloc (.cells (ItemV.cells ⟨kind, ⟨op, rd, r1, r2, imm, aq, rl, pred, succ⟩, label, addr⟩) 29)).heap.size = w.heap.size + 1 by simp] at this)
  have hIn := hI.out.keep ((Below.refl _ _).alloc (Nat.le_refl _) (.cells #[.int .i64 0, .int .i64 0, .int .i64 0, .int .i64 0, .int .i64 0, .int .i64 0, .bool false, .bool false, .int .i64 0, .int .i64 0, .int .i64 0, .int .u64 0] 29))
  replace hIn := Lib.hid (hIn.apart (q := w.heap.size + 1) (o := 0) (by omega) [.int .i64 kind, .int .i64 0, .int .i64 0, .int .i64 0, .int .i64 0, .int .i64 0, .bool false, .bool false, .int .i64 0, .int .i64 0, .int .i64 0, .int .u64 0])
  have hbn := Lib.hid (below_cells (B := w.heap.size) (a := w.heap.size + 1) (by omega) [.int .i64 kind, .int .i64 0, .int .i64 0, .int .i64 0, .int .i64 0, .int .i64 0, .bool false, .bool false, .int .i64 0, .int .i64 0, .int .i64 0, .int .u64 0] 0 _ (hb0.out.alloc hb0.out.size (.cells #[.int .i64 0, .int .i64 0, .int .i64 0, .int .i64 0, .int .i64 0, .int .i64 0, .bool false, .bool false, .int .i64 0, .int .i64 0, .int .i64 0, .int .u64 0] 29)))
  go_enter Tryz.func54, Tryz.ntmps54
  obtain ⟨c0, c1, c2, c3, c4, c5, c6, c7, c8, c9, c10, c11⟩ := hI.out.all
  go_upto_region 2 with (refine wpList_store_mid rfl 29 _ _ rfl (w.heap.size + 1) 0 #[.int .i64 kind, .int .i64 0, .int .i64 0, .int .i64 0, .int .i64 0, .int .i64 0, .bool false, .bool false, .int .i64 0, .int .i64 0, .int .i64 0, .int .u64 0] rfl rfl (fun j hj => h12.out _ rfl j hj) (by kernel_rfl) (by kernel_rfl) ?_)
  clear c0 c1 c2 c3 c4 c5 c6 c7 c8 c9 c10 c11
  generalize hW1 : World.setCells _ (w.heap.size + 1) 0 _ = W1 at hWn hIn hbn ⊢
  clear hW1 h12 hI hb0
  obtain ⟨c0, c1, c2, c3, c4, c5, c6, c7, c8, c9, c10, c11⟩ := hIn.out.all
  go_upto_region 3 with (go_at_call 89; (with_reducible refine (hF.out _ hbn.out).mono ?_); rintro e w2 ⟨rfl, hb⟩)
  clear c0 c1 c2 c3 c4 c5 c6 c7 c8 c9 c10 c11 hF
  replace hIn := Lib.hid (hIn.out.keep hb)
  replace hWn := Lib.hid (hWn.out.keep hb)
  replace hbn := Lib.hid (hbn.out.trans (hb.mono hbn.out.size))
  clear hb
  obtain ⟨c0, c1, c2, c3, c4, c5, c6, c7, c8, c9, c10, c11⟩ := hIn.out.all
  by_cases k2 : kind = 2
  · subst k2
    have d10 : w2.cell? ⟨w.heap.size + 1, 10, none⟩ = some (.int .i64 0) := hWn.out.ib.c 10 _ rfl
    have f10 : w2.frozen? ⟨w.heap.size + 1, 10, none⟩ = false := (hWn.out.t 10 (by decide)).2
    go_upto_region 21 with fail
    replace hWn := Lib.hid (hWn.out.setLabel label)
    replace hIn := Lib.hid (hIn.out.apart (q := w.heap.size + 1) (o := 10) (by omega) [.int .i64 label])
    replace hbn := Lib.hid (below_cells (B := w.heap.size) (a := w.heap.size + 1) (by omega) [.int .i64 label] 10 _ hbn.out)
    clear d10 f10 c0 c1 c2 c3 c4 c5 c6 c7 c8 c9 c10 c11
    change Hid (ItB _ _ (w2.setCell ⟨w.heap.size + 1, 10, none⟩ (.int .i64 label))) at hIn
    change Hid (Below _ _ (w2.setCell ⟨w.heap.size + 1, 10, none⟩ (.int .i64 label))) at hbn
    generalize World.setCell w2 ⟨w.heap.size + 1, 10, none⟩ _ = W3 at hWn hIn hbn ⊢
    obtain ⟨d0, d1, d2, d3, d4, d5, d6, d7, d8, d9, d10, d11⟩ := hWn.out.ib.all
    obtain ⟨c0, c1, c2, c3, c4, c5, c6, c7, c8, c9, c10, c11⟩ := hIn.out.all
    have hq := Lib.hid (hQ.out ⟨2, ⟨0, 0, 0, 0, 0, false, false, 0, 0⟩, label, 0#64⟩)
    have hm : Hid (mayV ⟨2, ⟨op, rd, r1, r2, imm, aq, rl, pred, succ⟩, label, addr⟩ = (decide ((⟨2, ⟨0, 0, 0, 0, 0, false, false, 0, 0⟩, label, 0#64⟩ : ItemV) = ⟨2, ⟨op, rd, r1, r2, imm, aq, rl, pred, succ⟩, label, addr⟩) && decide (0 ≤ label))) := Lib.hid (may_2 _ _ _)
    unfold ItemV.cells at hq
    simp only at hq
    clear hQ
    by_cases hk : (⟨2, ⟨0, 0, 0, 0, 0, false, false, 0, 0⟩, label, 0#64⟩ : ItemV) = ⟨2, ⟨op, rd, r1, r2, imm, aq, rl, pred, succ⟩, label, addr⟩
    · rw [decide_eq_true hk] at hq hm
      clear hk
      by_cases hl : 0 ≤ label
      · have tl : decide (label ≥ 0) = true := decide_eq_true hl
        have hd : Hid (decide (0 ≤ label) = true) := Lib.hid (decide_eq_true hl)
        go_wp2_with (refine wpList_eqlT (by first | rfl | kernel_rfl) _ _ _ rfl _ _ true rfl rfl hq.out ?_)
        go_ret
        exact ⟨by rw [hm.out, hd.out]; rfl, hbn.out⟩
      · have tl : decide (label ≥ 0) = false := decide_eq_false hl
        have hd : Hid (decide (0 ≤ label) = false) := Lib.hid (decide_eq_false hl)
        go_wp2_with (refine wpList_eqlT (by first | rfl | kernel_rfl) _ _ _ rfl _ _ true rfl rfl hq.out ?_)
        go_ret
        exact ⟨by rw [hm.out, hd.out]; rfl, hbn.out⟩
    · rw [decide_eq_false hk] at hq hm
      clear hk
      go_wp2_with (refine wpList_eqlT (by first | rfl | kernel_rfl) _ _ _ rfl _ _ false rfl rfl hq.out ?_)
      go_ret
      exact ⟨by rw [hm.out]; rfl, hbn.out⟩
  by_cases k1 : kind = 1
  · subst k1
    clear k2
    have hm : Hid (mayV ⟨1, ⟨op, rd, r1, r2, imm, aq, rl, pred, succ⟩, label, addr⟩ = ((checkE ⟨op, rd, r1, r2, imm, aq, rl, pred, succ⟩ == 0) && (FM != 6) && (FM != 2) && (op != 2) && (decide ((⟨1, ⟨op, rd, r1, r2, imm, aq, rl, pred, succ⟩, 0, 0#64⟩ : ItemV) = ⟨1, ⟨op, rd, r1, r2, imm, aq, rl, pred, succ⟩, label, addr⟩) && decide (0 ≤ label)))) := Lib.hid (by rw [← hFm]; exact may_1 ⟨op, rd, r1, r2, imm, aq, rl, pred, succ⟩ label addr)
    generalize checkE ⟨op, rd, r1, r2, imm, aq, rl, pred, succ⟩ = CE at hK hm
    unfold InsnV.cells at hK
    simp only at hK
    clear hFm
    go_upto_region 7 with (refine wpList_store_mid rfl 26 _ _ rfl (w.heap.size + 1) 1 #[.int .i64 op, .int .i64 rd, .int .i64 r1, .int .i64 r2, .int .i64 imm, .bool aq, .bool rl, .int .i64 pred, .int .i64 succ] rfl rfl (fun j hj => there_sub hWn.out.t 1 9 (by decide) j hj) (by kernel_rfl) (by kernel_rfl) ?_)
    replace hWn := hWn.out.setInsn ⟨op, rd, r1, r2, imm, aq, rl, pred, succ⟩
    replace hIn := Lib.hid (hIn.out.apart (q := w.heap.size + 1) (o := 1) (by omega) (InsnV.cells ⟨op, rd, r1, r2, imm, aq, rl, pred, succ⟩).toList)
    replace hbn := Lib.hid (below_cells (B := w.heap.size) (a := w.heap.size + 1) (by omega) (InsnV.cells ⟨op, rd, r1, r2, imm, aq, rl, pred, succ⟩).toList 1 _ hbn.out)
    clear c0 c1 c2 c3 c4 c5 c6 c7 c8 c9 c10 c11
    dsimp only [InsnV.cells] at hWn hIn hbn
    generalize World.setCells w2 (w.heap.size + 1) 1 _ = W3 at hWn hIn hbn ⊢
    replace hWn := Lib.hid hWn
    obtain ⟨c0, c1, c2, c3, c4, c5, c6, c7, c8, c9, c10, c11⟩ := hIn.out.all
    by_cases hCE : CE = 0
    · subst hCE
      by_cases h6 : FM = 6
      · subst h6
        go_wp2_with (go_at_call 90; (with_reducible refine (hK.out _ hbn.out).mono ?_); rintro e w4 ⟨rfl, hb⟩; replace hIn := Lib.hid (hIn.out.keep hb); replace hWn := Lib.hid (hWn.out.keep hb); replace hbn := Lib.hid (hbn.out.trans (hb.mono hbn.out.size)); clear hb; clear c0 c1 c2 c3 c4 c5 c6 c7 c8 c9 c10 c11; have c1 : _ = some (Value.int .i64 op) := hIn.out.c 1 _ rfl)
        go_ret
        exact ⟨by rw [hm.out]; simp, hbn.out⟩
      · have t6 : (FM == 6) = false := by simpa using h6
        by_cases h2 : FM = 2
        · subst h2
          go_wp2_with (go_at_call 90; (with_reducible refine (hK.out _ hbn.out).mono ?_); rintro e w4 ⟨rfl, hb⟩; replace hIn := Lib.hid (hIn.out.keep hb); replace hWn := Lib.hid (hWn.out.keep hb); replace hbn := Lib.hid (hbn.out.trans (hb.mono hbn.out.size)); clear hb; clear c0 c1 c2 c3 c4 c5 c6 c7 c8 c9 c10 c11; have c1 : _ = some (Value.int .i64 op) := hIn.out.c 1 _ rfl)
          go_ret
          exact ⟨by rw [hm.out]; simp, hbn.out⟩
        · have t2 : (FM == 2) = false := by simpa using h2
          by_cases ho : op = 2
          · have tq : (op == 2) = true := by simpa using ho
            replace ho := Lib.hid ho
            go_wp2_with (go_at_call 90; (with_reducible refine (hK.out _ hbn.out).mono ?_); rintro e w4 ⟨rfl, hb⟩; replace hIn := Lib.hid (hIn.out.keep hb); replace hWn := Lib.hid (hWn.out.keep hb); replace hbn := Lib.hid (hbn.out.trans (hb.mono hbn.out.size)); clear hb; clear c0 c1 c2 c3 c4 c5 c6 c7 c8 c9 c10 c11; have c1 : _ = some (Value.int .i64 op) := hIn.out.c 1 _ rfl)
            go_ret
            exact ⟨by rw [hm.out]; simp [ho.out], hbn.out⟩
          · have tq : (op == 2) = false := by simpa using ho
            replace hm : Hid (mayV ⟨1, ⟨op, rd, r1, r2, imm, aq, rl, pred, succ⟩, label, addr⟩ = (decide ((⟨1, ⟨op, rd, r1, r2, imm, aq, rl, pred, succ⟩, 0, 0#64⟩ : ItemV) = ⟨1, ⟨op, rd, r1, r2, imm, aq, rl, pred, succ⟩, label, addr⟩) && decide (0 ≤ label))) := Lib.hid (by rw [hm.out]; simp [h6, h2, ho])
            clear h6 h2
            go_upto_region 21 with (go_at_call 90; (with_reducible refine (hK.out _ hbn.out).mono ?_); rintro e w4 ⟨rfl, hb⟩; replace hIn := Lib.hid (hIn.out.keep hb); replace hWn := Lib.hid (hWn.out.keep hb); replace hbn := Lib.hid (hbn.out.trans (hb.mono hbn.out.size)); clear hb; clear c0 c1 c2 c3 c4 c5 c6 c7 c8 c9 c10 c11; have c1 : _ = some (Value.int .i64 op) := hIn.out.c 1 _ rfl)
            clear c1 hK
            obtain ⟨d0, d1, d2, d3, d4, d5, d6, d7, d8, d9, d10, d11⟩ := hWn.out.ib.all
            obtain ⟨c0, c1, c2, c3, c4, c5, c6, c7, c8, c9, c10, c11⟩ := hIn.out.all
            have hq := Lib.hid (hQ.out ⟨1, ⟨op, rd, r1, r2, imm, aq, rl, pred, succ⟩, 0, 0#64⟩)
            unfold ItemV.cells at hq
            simp only at hq
            clear hQ
            by_cases hk : (⟨1, ⟨op, rd, r1, r2, imm, aq, rl, pred, succ⟩, 0, 0#64⟩ : ItemV) = ⟨1, ⟨op, rd, r1, r2, imm, aq, rl, pred, succ⟩, label, addr⟩
            · rw [decide_eq_true hk] at hq hm
              clear hk
              by_cases hl : 0 ≤ label
              · have tl : decide (label ≥ 0) = true := decide_eq_true hl
                have hd : Hid (decide (0 ≤ label) = true) := Lib.hid (decide_eq_true hl)
                go_wp2_with (refine wpList_eqlT (by first | rfl | kernel_rfl) _ _ _ rfl _ _ true rfl rfl hq.out ?_)
                go_ret
                exact ⟨by rw [hm.out, hd.out]; rfl, hbn.out⟩
              · have tl : decide (label ≥ 0) = false := decide_eq_false hl
                have hd : Hid (decide (0 ≤ label) = false) := Lib.hid (decide_eq_false hl)
                go_wp2_with (refine wpList_eqlT (by first | rfl | kernel_rfl) _ _ _ rfl _ _ true rfl rfl hq.out ?_)
                go_ret
                exact ⟨by rw [hm.out, hd.out]; rfl, hbn.out⟩
            · rw [decide_eq_false hk] at hq hm
              clear hk
              go_wp2_with (refine wpList_eqlT (by first | rfl | kernel_rfl) _ _ _ rfl _ _ false rfl rfl hq.out ?_)
              go_ret
              exact ⟨by rw [hm.out]; rfl, hbn.out⟩
    · have tc : (CE != 0) = true := by simpa using hCE
      go_wp2_with (go_at_call 90; (with_reducible refine (hK.out _ hbn.out).mono ?_); rintro e w4 ⟨rfl, hb⟩; replace hIn := Lib.hid (hIn.out.keep hb); replace hWn := Lib.hid (hWn.out.keep hb); replace hbn := Lib.hid (hbn.out.trans (hb.mono hbn.out.size)); clear hb; clear c0 c1 c2 c3 c4 c5 c6 c7 c8 c9 c10 c11; have c1 : _ = some (Value.int .i64 op) := hIn.out.c 1 _ rfl)
      go_ret
      exact ⟨by rw [hm.out]; simp [hCE], hbn.out⟩
  by_cases k3 : kind = 3
  · subst k3
    go_upto_region 13 with fail
    have hWd := hWn.out.keep (Below.refl w2.heap.size w2).drew
    clear c0 c1 c2 c3 c4 c5 c6 c7 c8 c9 c10 c11
    refine wp_region_held_drew (S := fun W => ItB w.heap.size ⟨3, ⟨op, rd, r1, r2, imm, aq, rl, pred, succ⟩, label, addr⟩ W ∧ Below w.heap.size w W) (by kernel_rfl) ⟨hIn.out.keep (Below.refl _ _).drew, hbn.out.drew⟩ (fun hHeld => ?_)
    refine wpAnyH_take (i := 0) (v := .pointer (some ⟨w.heap.size, 1, none⟩)) rfl (by kernel_rfl) (by kernel_rfl) (by kernel_rfl) (fun _ _ _ h => h) (Or.inl ⟨by rfl, fun W _ => by kernel_rfl⟩) hHeld ?_
    try simp only [Act.put, List.getElem_toArray, List.getElem_cons_zero, List.setIfInBounds_toArray, List.set_cons_zero, List.set_cons_succ]
    generalize World.drew _ = W8 at hHeld hWd ⊢
    clear hWn hIn hbn
    refine wpAnyH_take (i := 1) rfl (by kernel_rfl) (by kernel_rfl) (by kernel_rfl) (fun _ _ _ h => h) (yieldsIf_load_mid (by kernel_rfl) 26 (.tmp 46) rfl w.heap.size 1 (by kernel_rfl) (InsnV.cells ⟨op, rd, r1, r2, imm, aq, rl, pred, succ⟩).toList _ (fun W hS => hS.1.mid) Tryz.underlying26 rfl (by kernel_rfl)) hHeld ?_
    try simp only [Act.put, List.getElem_toArray, List.getElem_cons_succ, List.getElem_cons_zero, List.setIfInBounds_toArray, List.set_cons_zero, List.set_cons_succ]
    refine wpAnyH_take (i := 2) (v := .pointer (some ⟨w.heap.size, 10, none⟩)) rfl (by kernel_rfl) (by kernel_rfl) (by kernel_rfl) (fun _ _ _ h => h) (Or.inl ⟨by rfl, fun W _ => by kernel_rfl⟩) hHeld ?_
    try simp only [Act.put, List.getElem_toArray, List.getElem_cons_succ, List.getElem_cons_zero, List.setIfInBounds_toArray, List.set_cons_zero, List.set_cons_succ]
    refine wpAnyH_take (i := 3) (v := .int .i64 label) rfl (by kernel_rfl) (by kernel_rfl) (by kernel_rfl) (fun _ _ _ h => h) (Or.inl ⟨by rfl, fun W hS => by (have k : W.cell? ⟨w.heap.size, 10, none⟩ = some (.int .i64 label) := hS.1.c 10 _ rfl); go_simp⟩) hHeld ?_
    try simp only [Act.put, List.getElem_toArray, List.getElem_cons_succ, List.getElem_cons_zero, List.setIfInBounds_toArray, List.set_cons_zero, List.set_cons_succ]
    refine wpAnyH_take (i := 4) (v := .pointer (some ⟨w.heap.size + 1, 1, none⟩)) rfl (by kernel_rfl) (by kernel_rfl) (by kernel_rfl) (fun _ _ _ h => h) (Or.inl ⟨by rfl, fun W _ => by kernel_rfl⟩) hHeld ?_
    try simp only [Act.put, List.getElem_toArray, List.getElem_cons_succ, List.getElem_cons_zero, List.setIfInBounds_toArray, List.set_cons_zero, List.set_cons_succ]
    refine wpAnyH_ready (rs := [5]) (by kernel_rfl) (by simp) (AllReadyH.cons rfl (fun K hK2 => ?_) AllReadyH.nil)
    rw [if_pos (by rfl)]
    simp only [List.getElem_toArray, List.getElem_cons_succ, List.getElem_cons_zero]
    refine wp_store_mid 26 _ _ rfl (w.heap.size + 1) 1 #[.int .i64 op, .int .i64 rd, .int .i64 r1, .int .i64 r2, .int .i64 imm, .bool aq, .bool rl, .int .i64 pred, .int .i64 succ] rfl rfl (fun j hj => there_sub hWd.t 1 9 (by decide) j hj) (by kernel_rfl) (by kernel_rfl) ?_
    replace hWd := hWd.setInsn ⟨op, rd, r1, r2, imm, aq, rl, pred, succ⟩
    refine hK2.out _ _ (⟨(hHeld.1.apart (q := w.heap.size + 1) (o := 1) (by omega) (InsnV.cells ⟨op, rd, r1, r2, imm, aq, rl, pred, succ⟩).toList), below_cells (B := w.heap.size) (a := w.heap.size + 1) (by omega) (InsnV.cells ⟨op, rd, r1, r2, imm, aq, rl, pred, succ⟩).toList 1 _ hHeld.2⟩) (fun hHeld2 => ?_)
    clear hK2 K hHeld
    have hHeld := hHeld2
    clear hHeld2
    try simp only [Act.put, List.getElem_toArray, List.getElem_cons_succ, List.getElem_cons_zero, List.setIfInBounds_toArray, List.set_cons_zero, List.set_cons_succ]
    dsimp only [InsnV.cells] at hWd hHeld
    generalize World.setCells W8 _ _ _ = W9 at hHeld hWd ⊢
    refine wpAnyH_take (i := 6) (v := .pointer (some ⟨w.heap.size + 1, 10, none⟩)) rfl (by kernel_rfl) (by kernel_rfl) (by kernel_rfl) (fun _ _ _ h => h) (Or.inl ⟨by rfl, fun W _ => by kernel_rfl⟩) hHeld ?_
    try simp only [Act.put, List.getElem_toArray, List.getElem_cons_succ, List.getElem_cons_zero, List.setIfInBounds_toArray, List.set_cons_zero, List.set_cons_succ]
    refine wpAnyH_ready (rs := [7]) (by kernel_rfl) (by simp) (AllReadyH.cons rfl (fun K hK2 => ?_) AllReadyH.nil)
    rw [if_pos (by rfl)]
    simp only [List.getElem_toArray, List.getElem_cons_succ, List.getElem_cons_zero]
    have cj : _ = some _ := hWd.ib.c 10 _ rfl
    have fj := (hWd.t 10 (by decide)).2
    rw [Nat.zero_add] at fj
    go_wp2_with fail
    replace hWd := hWd.setLabel label
    refine hK2.out _ _ (⟨(hHeld.1.apart (q := w.heap.size + 1) (o := 10) (by omega) [.int .i64 label]), below_cells (B := w.heap.size) (a := w.heap.size + 1) (by omega) [.int .i64 label] 10 _ hHeld.2⟩) (fun hHeld2 => ?_)
    clear hK2 K hHeld
    have hHeld := hHeld2
    clear hHeld2
    try simp only [Act.put, List.getElem_toArray, List.getElem_cons_succ, List.getElem_cons_zero, List.setIfInBounds_toArray, List.set_cons_zero, List.set_cons_succ]
    clear cj fj
    generalize World.setCell W9 _ _ = W10 at hHeld hWd ⊢
    refine wpAnyH_done (by kernel_rfl) ?_ _
    have hIn := Lib.hid hHeld.1
    have hbn := Lib.hid hHeld.2
    have hWn := Lib.hid hWd
    clear hHeld hWd
    obtain ⟨c0, c1, c2, c3, c4, c5, c6, c7, c8, c9, c10, c11⟩ := hIn.out.all
    have hmm := @run_makeMap Tryz.prog
    go_upto_region 15 with (first | (refine wpList_insM _ rfl _ _ _ 56 3 rfl (int_keyed Tryz.underlying3) Tryz.underlying56 Tryz.underlying3 W10.heap.size 1 _ rfl hownA (by decide) 4 2 rfl rfl rfl rfl ?_; intro wB hownB hgmB) | (refine wpList_insM _ rfl _ _ _ 56 3 rfl (int_keyed Tryz.underlying3) Tryz.underlying56 Tryz.underlying3 W10.heap.size 0 _ rfl (MapAt.made _ _) (by decide) 3 6 rfl rfl rfl rfl ?_; intro wA hownA hgmA))
    clear c0 c1 c2 c3 c4 c5 c6 c7 c8 c9 c10 c11
    have hbA := ((Below.refl W10.heap.size W10).alloc (Nat.le_refl _) _).grown hgmA (by simp) (fun j hj => by injection hj with hj; omega)
    have hbB := hbA.grown hgmB hbA.size (fun j hj => by injection hj with hj; omega)
    replace hIn := Lib.hid (hIn.out.keep hbB)
    replace hWn := Lib.hid (hWn.out.keep hbB)
    replace hbn := Lib.hid (hbn.out.trans (hbB.mono hbn.out.size))
    replace hownB := Lib.hid hownB
    clear hgmA hgmB hownA hbA hbB hmm
    generalize W10.heap.size = bm at hownB ⊢
    obtain ⟨c0, c1, c2, c3, c4, c5, c6, c7, c8, c9, c10, c11⟩ := hIn.out.all
    unfold InsnV.cells at hK
    simp only at hK
    have hm : Hid (mayV ⟨3, ⟨op, rd, r1, r2, imm, aq, rl, pred, succ⟩, label, addr⟩ = ((checkE ⟨op, rd, r1, r2, imm, aq, rl, pred, succ⟩ == 0) && (FM == 6) && (imm == 0) && (decide ((⟨3, ⟨op, rd, r1, r2, imm, aq, rl, pred, succ⟩, label, 0#64⟩ : ItemV) = ⟨3, ⟨op, rd, r1, r2, imm, aq, rl, pred, succ⟩, label, addr⟩) && decide (0 ≤ label)))) := Lib.hid (by rw [← hFm]; exact may_3 ⟨op, rd, r1, r2, imm, aq, rl, pred, succ⟩ label addr)
    generalize checkE ⟨op, rd, r1, r2, imm, aq, rl, pred, succ⟩ = CE at hK hm
    clear hFm
    by_cases hCE : CE = 0
    · subst hCE
      by_cases h6 : FM = 6
      · subst h6
        by_cases hi : imm = 0
        · have ti : (imm != 0) = false := by simpa using hi
          replace hm : Hid (mayV ⟨3, ⟨op, rd, r1, r2, imm, aq, rl, pred, succ⟩, label, addr⟩ = (decide ((⟨3, ⟨op, rd, r1, r2, imm, aq, rl, pred, succ⟩, label, 0#64⟩ : ItemV) = ⟨3, ⟨op, rd, r1, r2, imm, aq, rl, pred, succ⟩, label, addr⟩) && decide (0 ≤ label))) := Lib.hid (by rw [hm.out]; simp [hi])
          clear hi
          go_upto_region 21 with (first | (go_at_call 90; (with_reducible refine (hK.out _ hbn.out).mono ?_); rintro e w4 ⟨rfl, hb⟩; replace hIn := Lib.hid (hIn.out.keep hb); replace hWn := Lib.hid (hWn.out.keep hb); replace hbn := Lib.hid (hbn.out.trans (hb.mono hbn.out.size)); replace hownB := Lib.hid (hownB.out.keep hb); clear hb; clear c0 c1 c2 c3 c4 c5 c6 c7 c8 c9 c10 c11; have c0 : _ = some (Value.int .i64 3) := hIn.out.c 0 _ rfl; have c1 : _ = some (Value.int .i64 op) := hIn.out.c 1 _ rfl; have c5 : _ = some (Value.int .i64 imm) := hIn.out.c 5 _ rfl) | (refine wpList_lookM _ (by first | rfl | kernel_rfl) _ _ _ 3 rfl (int_keyed Tryz.underlying3) Tryz.underlying56 Tryz.underlying3 bm _ _ rfl hownB.out 3 rfl rfl ?_; rw [show (if (3 : Int) = 4 then (2 : Int) else if (3 : Int) = 3 then 6 else 0) = 6 from rfl]))
          clear c0 c1 c5 hK
          obtain ⟨d0, d1, d2, d3, d4, d5, d6, d7, d8, d9, d10, d11⟩ := hWn.out.ib.all
          obtain ⟨c0, c1, c2, c3, c4, c5, c6, c7, c8, c9, c10, c11⟩ := hIn.out.all
          have hq := Lib.hid (hQ.out ⟨3, ⟨op, rd, r1, r2, imm, aq, rl, pred, succ⟩, label, 0#64⟩)
          unfold ItemV.cells at hq
          simp only at hq
          clear hQ
          by_cases hk : (⟨3, ⟨op, rd, r1, r2, imm, aq, rl, pred, succ⟩, label, 0#64⟩ : ItemV) = ⟨3, ⟨op, rd, r1, r2, imm, aq, rl, pred, succ⟩, label, addr⟩
          · rw [decide_eq_true hk] at hq hm
            clear hk
            by_cases hl : 0 ≤ label
            · have tl : decide (label ≥ 0) = true := decide_eq_true hl
              have hd : Hid (decide (0 ≤ label) = true) := Lib.hid (decide_eq_true hl)
              go_wp2_with (refine wpList_eqlT (by first | rfl | kernel_rfl) _ _ _ rfl _ _ true rfl rfl hq.out ?_)
              go_ret
              exact ⟨by rw [hm.out, hd.out]; rfl, hbn.out⟩
            · have tl : decide (label ≥ 0) = false := decide_eq_false hl
              have hd : Hid (decide (0 ≤ label) = false) := Lib.hid (decide_eq_false hl)
              go_wp2_with (refine wpList_eqlT (by first | rfl | kernel_rfl) _ _ _ rfl _ _ true rfl rfl hq.out ?_)
              go_ret
              exact ⟨by rw [hm.out, hd.out]; rfl, hbn.out⟩
          · rw [decide_eq_false hk] at hq hm
            clear hk
            go_wp2_with (refine wpList_eqlT (by first | rfl | kernel_rfl) _ _ _ rfl _ _ false rfl rfl hq.out ?_)
            go_ret
            exact ⟨by rw [hm.out]; rfl, hbn.out⟩
        · have ti : (imm != 0) = true := by simpa using hi
          go_wp2_with (first | (go_at_call 90; (with_reducible refine (hK.out _ hbn.out).mono ?_); rintro e w4 ⟨rfl, hb⟩; replace hIn := Lib.hid (hIn.out.keep hb); replace hWn := Lib.hid (hWn.out.keep hb); replace hbn := Lib.hid (hbn.out.trans (hb.mono hbn.out.size)); replace hownB := Lib.hid (hownB.out.keep hb); clear hb; clear c0 c1 c2 c3 c4 c5 c6 c7 c8 c9 c10 c11; have c0 : _ = some (Value.int .i64 3) := hIn.out.c 0 _ rfl; have c1 : _ = some (Value.int .i64 op) := hIn.out.c 1 _ rfl; have c5 : _ = some (Value.int .i64 imm) := hIn.out.c 5 _ rfl) | (refine wpList_lookM _ (by first | rfl | kernel_rfl) _ _ _ 3 rfl (int_keyed Tryz.underlying3) Tryz.underlying56 Tryz.underlying3 bm _ _ rfl hownB.out 3 rfl rfl ?_; rw [show (if (3 : Int) = 4 then (2 : Int) else if (3 : Int) = 3 then 6 else 0) = 6 from rfl]))
          go_ret
          exact ⟨by rw [hm.out]; simp [hi], hbn.out⟩
      · have t6 : (FM != 6) = true := by simpa using h6
        go_wp2_with (first | (go_at_call 90; (with_reducible refine (hK.out _ hbn.out).mono ?_); rintro e w4 ⟨rfl, hb⟩; replace hIn := Lib.hid (hIn.out.keep hb); replace hWn := Lib.hid (hWn.out.keep hb); replace hbn := Lib.hid (hbn.out.trans (hb.mono hbn.out.size)); replace hownB := Lib.hid (hownB.out.keep hb); clear hb; clear c0 c1 c2 c3 c4 c5 c6 c7 c8 c9 c10 c11; have c0 : _ = some (Value.int .i64 3) := hIn.out.c 0 _ rfl; have c1 : _ = some (Value.int .i64 op) := hIn.out.c 1 _ rfl; have c5 : _ = some (Value.int .i64 imm) := hIn.out.c 5 _ rfl) | (refine wpList_lookM _ (by first | rfl | kernel_rfl) _ _ _ 3 rfl (int_keyed Tryz.underlying3) Tryz.underlying56 Tryz.underlying3 bm _ _ rfl hownB.out 3 rfl rfl ?_; rw [show (if (3 : Int) = 4 then (2 : Int) else if (3 : Int) = 3 then 6 else 0) = 6 from rfl]))
        go_ret
        exact ⟨by rw [hm.out]; simp [h6], hbn.out⟩
    · have tc : (CE != 0) = true := by simpa using hCE
      go_wp2_with (go_at_call 90; (with_reducible refine (hK.out _ hbn.out).mono ?_); rintro e w4 ⟨rfl, hb⟩; replace hIn := Lib.hid (hIn.out.keep hb); replace hWn := Lib.hid (hWn.out.keep hb); replace hbn := Lib.hid (hbn.out.trans (hb.mono hbn.out.size)); replace hownB := Lib.hid (hownB.out.keep hb); clear hb; clear c0 c1 c2 c3 c4 c5 c6 c7 c8 c9 c10 c11; have c0 : _ = some (Value.int .i64 3) := hIn.out.c 0 _ rfl; have c1 : _ = some (Value.int .i64 op) := hIn.out.c 1 _ rfl; have c5 : _ = some (Value.int .i64 imm) := hIn.out.c 5 _ rfl)
      go_ret
      exact ⟨by rw [hm.out]; simp [hCE], hbn.out⟩
  by_cases k4 : kind = 4
  · subst k4
    go_upto_region 13 with fail
    have hWd := hWn.out.keep (Below.refl w2.heap.size w2).drew
    clear c0 c1 c2 c3 c4 c5 c6 c7 c8 c9 c10 c11
    refine wp_region_held_drew (S := fun W => ItB w.heap.size ⟨4, ⟨op, rd, r1, r2, imm, aq, rl, pred, succ⟩, label, addr⟩ W ∧ Below w.heap.size w W) (by kernel_rfl) ⟨hIn.out.keep (Below.refl _ _).drew, hbn.out.drew⟩ (fun hHeld => ?_)
    refine wpAnyH_take (i := 0) (v := .pointer (some ⟨w.heap.size, 1, none⟩)) rfl (by kernel_rfl) (by kernel_rfl) (by kernel_rfl) (fun _ _ _ h => h) (Or.inl ⟨by rfl, fun W _ => by kernel_rfl⟩) hHeld ?_
    try simp only [Act.put, List.getElem_toArray, List.getElem_cons_zero, List.setIfInBounds_toArray, List.set_cons_zero, List.set_cons_succ]
    generalize World.drew _ = W8 at hHeld hWd ⊢
    clear hWn hIn hbn
    refine wpAnyH_take (i := 1) rfl (by kernel_rfl) (by kernel_rfl) (by kernel_rfl) (fun _ _ _ h => h) (yieldsIf_load_mid (by kernel_rfl) 26 (.tmp 46) rfl w.heap.size 1 (by kernel_rfl) (InsnV.cells ⟨op, rd, r1, r2, imm, aq, rl, pred, succ⟩).toList _ (fun W hS => hS.1.mid) Tryz.underlying26 rfl (by kernel_rfl)) hHeld ?_
    try simp only [Act.put, List.getElem_toArray, List.getElem_cons_succ, List.getElem_cons_zero, List.setIfInBounds_toArray, List.set_cons_zero, List.set_cons_succ]
    refine wpAnyH_take (i := 2) (v := .pointer (some ⟨w.heap.size, 10, none⟩)) rfl (by kernel_rfl) (by kernel_rfl) (by kernel_rfl) (fun _ _ _ h => h) (Or.inl ⟨by rfl, fun W _ => by kernel_rfl⟩) hHeld ?_
    try simp only [Act.put, List.getElem_toArray, List.getElem_cons_succ, List.getElem_cons_zero, List.setIfInBounds_toArray, List.set_cons_zero, List.set_cons_succ]
    refine wpAnyH_take (i := 3) (v := .int .i64 label) rfl (by kernel_rfl) (by kernel_rfl) (by kernel_rfl) (fun _ _ _ h => h) (Or.inl ⟨by rfl, fun W hS => by (have k : W.cell? ⟨w.heap.size, 10, none⟩ = some (.int .i64 label) := hS.1.c 10 _ rfl); go_simp⟩) hHeld ?_
    try simp only [Act.put, List.getElem_toArray, List.getElem_cons_succ, List.getElem_cons_zero, List.setIfInBounds_toArray, List.set_cons_zero, List.set_cons_succ]
    refine wpAnyH_take (i := 4) (v := .pointer (some ⟨w.heap.size + 1, 1, none⟩)) rfl (by kernel_rfl) (by kernel_rfl) (by kernel_rfl) (fun _ _ _ h => h) (Or.inl ⟨by rfl, fun W _ => by kernel_rfl⟩) hHeld ?_
    try simp only [Act.put, List.getElem_toArray, List.getElem_cons_succ, List.getElem_cons_zero, List.setIfInBounds_toArray, List.set_cons_zero, List.set_cons_succ]
    refine wpAnyH_ready (rs := [5]) (by kernel_rfl) (by simp) (AllReadyH.cons rfl (fun K hK2 => ?_) AllReadyH.nil)
    rw [if_pos (by rfl)]
    simp only [List.getElem_toArray, List.getElem_cons_succ, List.getElem_cons_zero]
    refine wp_store_mid 26 _ _ rfl (w.heap.size + 1) 1 #[.int .i64 op, .int .i64 rd, .int .i64 r1, .int .i64 r2, .int .i64 imm, .bool aq, .bool rl, .int .i64 pred, .int .i64 succ] rfl rfl (fun j hj => there_sub hWd.t 1 9 (by decide) j hj) (by kernel_rfl) (by kernel_rfl) ?_
    replace hWd := hWd.setInsn ⟨op, rd, r1, r2, imm, aq, rl, pred, succ⟩
    refine hK2.out _ _ (⟨(hHeld.1.apart (q := w.heap.size + 1) (o := 1) (by omega) (InsnV.cells ⟨op, rd, r1, r2, imm, aq, rl, pred, succ⟩).toList), below_cells (B := w.heap.size) (a := w.heap.size + 1) (by omega) (InsnV.cells ⟨op, rd, r1, r2, imm, aq, rl, pred, succ⟩).toList 1 _ hHeld.2⟩) (fun hHeld2 => ?_)
    clear hK2 K hHeld
    have hHeld := hHeld2
    clear hHeld2
    try simp only [Act.put, List.getElem_toArray, List.getElem_cons_succ, List.getElem_cons_zero, List.setIfInBounds_toArray, List.set_cons_zero, List.set_cons_succ]
    dsimp only [InsnV.cells] at hWd hHeld
    generalize World.setCells W8 _ _ _ = W9 at hHeld hWd ⊢
    refine wpAnyH_take (i := 6) (v := .pointer (some ⟨w.heap.size + 1, 10, none⟩)) rfl (by kernel_rfl) (by kernel_rfl) (by kernel_rfl) (fun _ _ _ h => h) (Or.inl ⟨by rfl, fun W _ => by kernel_rfl⟩) hHeld ?_
    try simp only [Act.put, List.getElem_toArray, List.getElem_cons_succ, List.getElem_cons_zero, List.setIfInBounds_toArray, List.set_cons_zero, List.set_cons_succ]
    refine wpAnyH_ready (rs := [7]) (by kernel_rfl) (by simp) (AllReadyH.cons rfl (fun K hK2 => ?_) AllReadyH.nil)
    rw [if_pos (by rfl)]
    simp only [List.getElem_toArray, List.getElem_cons_succ, List.getElem_cons_zero]
    have cj : _ = some _ := hWd.ib.c 10 _ rfl
    have fj := (hWd.t 10 (by decide)).2
    rw [Nat.zero_add] at fj
    go_wp2_with fail
    replace hWd := hWd.setLabel label
    refine hK2.out _ _ (⟨(hHeld.1.apart (q := w.heap.size + 1) (o := 10) (by omega) [.int .i64 label]), below_cells (B := w.heap.size) (a := w.heap.size + 1) (by omega) [.int .i64 label] 10 _ hHeld.2⟩) (fun hHeld2 => ?_)
    clear hK2 K hHeld
    have hHeld := hHeld2
    clear hHeld2
    try simp only [Act.put, List.getElem_toArray, List.getElem_cons_succ, List.getElem_cons_zero, List.setIfInBounds_toArray, List.set_cons_zero, List.set_cons_succ]
    clear cj fj
    generalize World.setCell W9 _ _ = W10 at hHeld hWd ⊢
    refine wpAnyH_done (by kernel_rfl) ?_ _
    have hIn := Lib.hid hHeld.1
    have hbn := Lib.hid hHeld.2
    have hWn := Lib.hid hWd
    clear hHeld hWd
    obtain ⟨c0, c1, c2, c3, c4, c5, c6, c7, c8, c9, c10, c11⟩ := hIn.out.all
    have hmm := @run_makeMap Tryz.prog
    go_upto_region 15 with (first | (refine wpList_insM _ rfl _ _ _ 56 3 rfl (int_keyed Tryz.underlying3) Tryz.underlying56 Tryz.underlying3 W10.heap.size 1 _ rfl hownA (by decide) 4 2 rfl rfl rfl rfl ?_; intro wB hownB hgmB) | (refine wpList_insM _ rfl _ _ _ 56 3 rfl (int_keyed Tryz.underlying3) Tryz.underlying56 Tryz.underlying3 W10.heap.size 0 _ rfl (MapAt.made _ _) (by decide) 3 6 rfl rfl rfl rfl ?_; intro wA hownA hgmA))
    clear c0 c1 c2 c3 c4 c5 c6 c7 c8 c9 c10 c11
    have hbA := ((Below.refl W10.heap.size W10).alloc (Nat.le_refl _) _).grown hgmA (by simp) (fun j hj => by injection hj with hj; omega)
    have hbB := hbA.grown hgmB hbA.size (fun j hj => by injection hj with hj; omega)
    replace hIn := Lib.hid (hIn.out.keep hbB)
    replace hWn := Lib.hid (hWn.out.keep hbB)
    replace hbn := Lib.hid (hbn.out.trans (hbB.mono hbn.out.size))
    replace hownB := Lib.hid hownB
    clear hgmA hgmB hownA hbA hbB hmm
    generalize W10.heap.size = bm at hownB ⊢
    obtain ⟨c0, c1, c2, c3, c4, c5, c6, c7, c8, c9, c10, c11⟩ := hIn.out.all
    unfold InsnV.cells at hK
    simp only at hK
    have hm : Hid (mayV ⟨4, ⟨op, rd, r1, r2, imm, aq, rl, pred, succ⟩, label, addr⟩ = ((checkE ⟨op, rd, r1, r2, imm, aq, rl, pred, succ⟩ == 0) && (FM == 2) && (imm == 0) && (decide ((⟨4, ⟨op, rd, r1, r2, imm, aq, rl, pred, succ⟩, label, 0#64⟩ : ItemV) = ⟨4, ⟨op, rd, r1, r2, imm, aq, rl, pred, succ⟩, label, addr⟩) && decide (0 ≤ label)))) := Lib.hid (by rw [← hFm]; exact may_4 ⟨op, rd, r1, r2, imm, aq, rl, pred, succ⟩ label addr)
    generalize checkE ⟨op, rd, r1, r2, imm, aq, rl, pred, succ⟩ = CE at hK hm
    clear hFm
    by_cases hCE : CE = 0
    · subst hCE
      by_cases h6 : FM = 2
      · subst h6
        by_cases hi : imm = 0
        · have ti : (imm != 0) = false := by simpa using hi
          replace hm : Hid (mayV ⟨4, ⟨op, rd, r1, r2, imm, aq, rl, pred, succ⟩, label, addr⟩ = (decide ((⟨4, ⟨op, rd, r1, r2, imm, aq, rl, pred, succ⟩, label, 0#64⟩ : ItemV) = ⟨4, ⟨op, rd, r1, r2, imm, aq, rl, pred, succ⟩, label, addr⟩) && decide (0 ≤ label))) := Lib.hid (by rw [hm.out]; simp [hi])
          clear hi
          go_upto_region 21 with (first | (go_at_call 90; (with_reducible refine (hK.out _ hbn.out).mono ?_); rintro e w4 ⟨rfl, hb⟩; replace hIn := Lib.hid (hIn.out.keep hb); replace hWn := Lib.hid (hWn.out.keep hb); replace hbn := Lib.hid (hbn.out.trans (hb.mono hbn.out.size)); replace hownB := Lib.hid (hownB.out.keep hb); clear hb; clear c0 c1 c2 c3 c4 c5 c6 c7 c8 c9 c10 c11; have c0 : _ = some (Value.int .i64 4) := hIn.out.c 0 _ rfl; have c1 : _ = some (Value.int .i64 op) := hIn.out.c 1 _ rfl; have c5 : _ = some (Value.int .i64 imm) := hIn.out.c 5 _ rfl) | (refine wpList_lookM _ (by first | rfl | kernel_rfl) _ _ _ 3 rfl (int_keyed Tryz.underlying3) Tryz.underlying56 Tryz.underlying3 bm _ _ rfl hownB.out 4 rfl rfl ?_; rw [show (if (4 : Int) = 4 then (2 : Int) else if (4 : Int) = 3 then 6 else 0) = 2 from rfl]))
          clear c0 c1 c5 hK
          obtain ⟨d0, d1, d2, d3, d4, d5, d6, d7, d8, d9, d10, d11⟩ := hWn.out.ib.all
          obtain ⟨c0, c1, c2, c3, c4, c5, c6, c7, c8, c9, c10, c11⟩ := hIn.out.all
          have hq := Lib.hid (hQ.out ⟨4, ⟨op, rd, r1, r2, imm, aq, rl, pred, succ⟩, label, 0#64⟩)
          unfold ItemV.cells at hq
          simp only at hq
          clear hQ
          by_cases hk : (⟨4, ⟨op, rd, r1, r2, imm, aq, rl, pred, succ⟩, label, 0#64⟩ : ItemV) = ⟨4, ⟨op, rd, r1, r2, imm, aq, rl, pred, succ⟩, label, addr⟩
          · rw [decide_eq_true hk] at hq hm
            clear hk
            by_cases hl : 0 ≤ label
            · have tl : decide (label ≥ 0) = true := decide_eq_true hl
              have hd : Hid (decide (0 ≤ label) = true) := Lib.hid (decide_eq_true hl)
              go_wp2_with (refine wpList_eqlT (by first | rfl | kernel_rfl) _ _ _ rfl _ _ true rfl rfl hq.out ?_)
              go_ret
              exact ⟨by rw [hm.out, hd.out]; rfl, hbn.out⟩
            · have tl : decide (label ≥ 0) = false := decide_eq_false hl
              have hd : Hid (decide (0 ≤ label) = false) := Lib.hid (decide_eq_false hl)
              go_wp2_with (refine wpList_eqlT (by first | rfl | kernel_rfl) _ _ _ rfl _ _ true rfl rfl hq.out ?_)
              go_ret
              exact ⟨by rw [hm.out, hd.out]; rfl, hbn.out⟩
          · rw [decide_eq_false hk] at hq hm
            clear hk
            go_wp2_with (refine wpList_eqlT (by first | rfl | kernel_rfl) _ _ _ rfl _ _ false rfl rfl hq.out ?_)
            go_ret
            exact ⟨by rw [hm.out]; rfl, hbn.out⟩
        · have ti : (imm != 0) = true := by simpa using hi
          go_wp2_with (first | (go_at_call 90; (with_reducible refine (hK.out _ hbn.out).mono ?_); rintro e w4 ⟨rfl, hb⟩; replace hIn := Lib.hid (hIn.out.keep hb); replace hWn := Lib.hid (hWn.out.keep hb); replace hbn := Lib.hid (hbn.out.trans (hb.mono hbn.out.size)); replace hownB := Lib.hid (hownB.out.keep hb); clear hb; clear c0 c1 c2 c3 c4 c5 c6 c7 c8 c9 c10 c11; have c0 : _ = some (Value.int .i64 4) := hIn.out.c 0 _ rfl; have c1 : _ = some (Value.int .i64 op) := hIn.out.c 1 _ rfl; have c5 : _ = some (Value.int .i64 imm) := hIn.out.c 5 _ rfl) | (refine wpList_lookM _ (by first | rfl | kernel_rfl) _ _ _ 3 rfl (int_keyed Tryz.underlying3) Tryz.underlying56 Tryz.underlying3 bm _ _ rfl hownB.out 4 rfl rfl ?_; rw [show (if (4 : Int) = 4 then (2 : Int) else if (4 : Int) = 3 then 6 else 0) = 2 from rfl]))
          go_ret
          exact ⟨by rw [hm.out]; simp [hi], hbn.out⟩
      · have t6 : (FM != 2) = true := by simpa using h6
        go_wp2_with (first | (go_at_call 90; (with_reducible refine (hK.out _ hbn.out).mono ?_); rintro e w4 ⟨rfl, hb⟩; replace hIn := Lib.hid (hIn.out.keep hb); replace hWn := Lib.hid (hWn.out.keep hb); replace hbn := Lib.hid (hbn.out.trans (hb.mono hbn.out.size)); replace hownB := Lib.hid (hownB.out.keep hb); clear hb; clear c0 c1 c2 c3 c4 c5 c6 c7 c8 c9 c10 c11; have c0 : _ = some (Value.int .i64 4) := hIn.out.c 0 _ rfl; have c1 : _ = some (Value.int .i64 op) := hIn.out.c 1 _ rfl; have c5 : _ = some (Value.int .i64 imm) := hIn.out.c 5 _ rfl) | (refine wpList_lookM _ (by first | rfl | kernel_rfl) _ _ _ 3 rfl (int_keyed Tryz.underlying3) Tryz.underlying56 Tryz.underlying3 bm _ _ rfl hownB.out 4 rfl rfl ?_; rw [show (if (4 : Int) = 4 then (2 : Int) else if (4 : Int) = 3 then 6 else 0) = 2 from rfl]))
        go_ret
        exact ⟨by rw [hm.out]; simp [h6], hbn.out⟩
    · have tc : (CE != 0) = true := by simpa using hCE
      go_wp2_with (go_at_call 90; (with_reducible refine (hK.out _ hbn.out).mono ?_); rintro e w4 ⟨rfl, hb⟩; replace hIn := Lib.hid (hIn.out.keep hb); replace hWn := Lib.hid (hWn.out.keep hb); replace hbn := Lib.hid (hbn.out.trans (hb.mono hbn.out.size)); replace hownB := Lib.hid (hownB.out.keep hb); clear hb; clear c0 c1 c2 c3 c4 c5 c6 c7 c8 c9 c10 c11; have c0 : _ = some (Value.int .i64 4) := hIn.out.c 0 _ rfl; have c1 : _ = some (Value.int .i64 op) := hIn.out.c 1 _ rfl; have c5 : _ = some (Value.int .i64 imm) := hIn.out.c 5 _ rfl)
      go_ret
      exact ⟨by rw [hm.out]; simp [hCE], hbn.out⟩
  by_cases k5 : kind = 5
  · subst k5
    clear k1 k2 k3 k4
    have hm : Hid (mayV ⟨5, ⟨op, rd, r1, r2, imm, aq, rl, pred, succ⟩, label, addr⟩ = (decide (1 ≤ rd) && decide (rd ≤ 31) && (decide ((⟨5, ⟨0, rd, 0, 0, 0, false, false, 0, 0⟩, 0, addr⟩ : ItemV) = ⟨5, ⟨op, rd, r1, r2, imm, aq, rl, pred, succ⟩, label, addr⟩) && decide (0 ≤ label)))) := Lib.hid (may_5 ⟨op, rd, r1, r2, imm, aq, rl, pred, succ⟩ label addr)
    go_upto_region 18 with fail
    have hWd := hWn.out.keep (Below.refl w2.heap.size w2).drew
    clear c0 c1 c2 c3 c4 c5 c6 c7 c8 c9 c10 c11
    refine wp_region_held_drew (S := fun W => ItB w.heap.size ⟨5, ⟨op, rd, r1, r2, imm, aq, rl, pred, succ⟩, label, addr⟩ W ∧ Below w.heap.size w W) (by kernel_rfl) ⟨hIn.out.keep (Below.refl _ _).drew, hbn.out.drew⟩ (fun hHeld => ?_)
    refine wpAnyH_take (i := 0) (v := .pointer (some ⟨w.heap.size, 1, none⟩)) rfl (by kernel_rfl) (by kernel_rfl) (by kernel_rfl) (fun _ _ _ h => h) (Or.inl ⟨by rfl, fun W _ => by kernel_rfl⟩) hHeld ?_
    try simp only [Act.put, List.getElem_toArray, List.getElem_cons_zero, List.setIfInBounds_toArray, List.set_cons_zero, List.set_cons_succ]
    generalize World.drew _ = W8 at hHeld hWd ⊢
    clear hWn hIn hbn
    refine wpAnyH_take (i := 1) (v := .pointer (some ⟨w.heap.size, 2, none⟩)) rfl (by kernel_rfl) (by kernel_rfl) (by kernel_rfl) (fun _ _ _ h => h) (Or.inl ⟨by rfl, fun W _ => by kernel_rfl⟩) hHeld ?_
    try simp only [Act.put, List.getElem_toArray, List.getElem_cons_succ, List.getElem_cons_zero, List.setIfInBounds_toArray, List.set_cons_zero, List.set_cons_succ]
    refine wpAnyH_take (i := 2) (v := .int .i64 rd) rfl (by kernel_rfl) (by kernel_rfl) (by kernel_rfl) (fun _ _ _ h => h) (Or.inl ⟨by rfl, fun W hS => by (have k : W.cell? ⟨w.heap.size, 2, none⟩ = some (.int .i64 rd) := hS.1.c 2 _ rfl); go_simp⟩) hHeld ?_
    try simp only [Act.put, List.getElem_toArray, List.getElem_cons_succ, List.getElem_cons_zero, List.setIfInBounds_toArray, List.set_cons_zero, List.set_cons_succ]
    refine wpAnyH_take (i := 3) (v := .pointer (some ⟨w.heap.size, 11, none⟩)) rfl (by kernel_rfl) (by kernel_rfl) (by kernel_rfl) (fun _ _ _ h => h) (Or.inl ⟨by rfl, fun W _ => by kernel_rfl⟩) hHeld ?_
    try simp only [Act.put, List.getElem_toArray, List.getElem_cons_succ, List.getElem_cons_zero, List.setIfInBounds_toArray, List.set_cons_zero, List.set_cons_succ]
    refine wpAnyH_take (i := 4) (v := .int .u64 (un addr)) rfl (by kernel_rfl) (by kernel_rfl) (by kernel_rfl) (fun _ _ _ h => h) (Or.inl ⟨by rfl, fun W hS => by (have k : W.cell? ⟨w.heap.size, 11, none⟩ = some (.int .u64 (un addr)) := hS.1.c 11 _ rfl); go_simp⟩) hHeld ?_
    try simp only [Act.put, List.getElem_toArray, List.getElem_cons_succ, List.getElem_cons_zero, List.setIfInBounds_toArray, List.set_cons_zero, List.set_cons_succ]
    refine wpAnyH_take (i := 5) (v := .pointer (some ⟨w.heap.size + 1, 1, none⟩)) rfl (by kernel_rfl) (by kernel_rfl) (by kernel_rfl) (fun _ _ _ h => h) (Or.inl ⟨by rfl, fun W _ => by kernel_rfl⟩) hHeld ?_
    try simp only [Act.put, List.getElem_toArray, List.getElem_cons_succ, List.getElem_cons_zero, List.setIfInBounds_toArray, List.set_cons_zero, List.set_cons_succ]
    refine wpAnyH_take (i := 6) (v := .pointer (some ⟨w.heap.size + 1, 2, none⟩)) rfl (by kernel_rfl) (by kernel_rfl) (by kernel_rfl) (fun _ _ _ h => h) (Or.inl ⟨by rfl, fun W _ => by kernel_rfl⟩) hHeld ?_
    try simp only [Act.put, List.getElem_toArray, List.getElem_cons_succ, List.getElem_cons_zero, List.setIfInBounds_toArray, List.set_cons_zero, List.set_cons_succ]
    refine wpAnyH_ready (rs := [7]) (by kernel_rfl) (by simp) (AllReadyH.cons rfl (fun K hK2 => ?_) AllReadyH.nil)
    rw [if_pos (by rfl)]
    simp only [List.getElem_toArray, List.getElem_cons_succ, List.getElem_cons_zero]
    have cj : _ = some _ := hWd.ib.c 2 _ rfl
    have fj := (hWd.t 2 (by decide)).2
    rw [Nat.zero_add] at fj
    go_wp2_with fail
    replace hWd := hWd.setRd rd
    refine hK2.out _ _ (⟨(hHeld.1.apart (q := w.heap.size + 1) (o := 2) (by omega) [.int .i64 rd]), below_cells (B := w.heap.size) (a := w.heap.size + 1) (by omega) [.int .i64 rd] 2 _ hHeld.2⟩) (fun hHeld2 => ?_)
    clear hK2 K hHeld
    have hHeld := hHeld2
    clear hHeld2
    try simp only [Act.put, List.getElem_toArray, List.getElem_cons_succ, List.getElem_cons_zero, List.setIfInBounds_toArray, List.set_cons_zero, List.set_cons_succ]
    clear cj fj
    generalize World.setCell W8 _ _ = W9 at hHeld hWd ⊢
    refine wpAnyH_take (i := 8) (v := .pointer (some ⟨w.heap.size + 1, 11, none⟩)) rfl (by kernel_rfl) (by kernel_rfl) (by kernel_rfl) (fun _ _ _ h => h) (Or.inl ⟨by rfl, fun W _ => by kernel_rfl⟩) hHeld ?_
    try simp only [Act.put, List.getElem_toArray, List.getElem_cons_succ, List.getElem_cons_zero, List.setIfInBounds_toArray, List.set_cons_zero, List.set_cons_succ]
    refine wpAnyH_ready (rs := [9]) (by kernel_rfl) (by simp) (AllReadyH.cons rfl (fun K hK2 => ?_) AllReadyH.nil)
    rw [if_pos (by rfl)]
    simp only [List.getElem_toArray, List.getElem_cons_succ, List.getElem_cons_zero]
    have cj : _ = some _ := hWd.ib.c 11 _ rfl
    have fj := (hWd.t 11 (by decide)).2
    rw [Nat.zero_add] at fj
    go_wp2_with fail
    replace hWd := hWd.setAddr addr
    refine hK2.out _ _ (⟨(hHeld.1.apart (q := w.heap.size + 1) (o := 11) (by omega) [.int .u64 (un addr)]), below_cells (B := w.heap.size) (a := w.heap.size + 1) (by omega) [.int .u64 (un addr)] 11 _ hHeld.2⟩) (fun hHeld2 => ?_)
    clear hK2 K hHeld
    have hHeld := hHeld2
    clear hHeld2
    try simp only [Act.put, List.getElem_toArray, List.getElem_cons_succ, List.getElem_cons_zero, List.setIfInBounds_toArray, List.set_cons_zero, List.set_cons_succ]
    clear cj fj
    generalize World.setCell W9 _ _ = W10 at hHeld hWd ⊢
    refine wpAnyH_done (by kernel_rfl) ?_ _
    have hIn := Lib.hid hHeld.1
    have hbn := Lib.hid hHeld.2
    have hWn := Lib.hid hWd
    clear hHeld hWd hK
    have c2 : _ = some (Value.int .i64 rd) := hIn.out.c 2 _ rfl
    by_cases h1 : rd < 1
    · have t1 : decide (rd < 1) = true := decide_eq_true h1
      replace hm : Hid (mayV ⟨5, ⟨op, rd, r1, r2, imm, aq, rl, pred, succ⟩, label, addr⟩ = false) := Lib.hid (by rw [hm.out, decide_eq_false (show ¬ 1 ≤ rd by omega)]; rfl)
      go_wp2_with fail
      go_ret
      exact ⟨by rw [hm.out]; rfl, hbn.out⟩
    have t1 : decide (rd < 1) = false := decide_eq_false h1
    by_cases h2 : 31 < rd
    · have t2 : decide (rd > 31) = true := decide_eq_true h2
      replace hm : Hid (mayV ⟨5, ⟨op, rd, r1, r2, imm, aq, rl, pred, succ⟩, label, addr⟩ = false) := Lib.hid (by rw [hm.out, decide_eq_false (show ¬ rd ≤ 31 by omega), Bool.and_false]; rfl)
      go_wp2_with fail
      go_ret
      exact ⟨by rw [hm.out]; rfl, hbn.out⟩
    have t2 : decide (rd > 31) = false := decide_eq_false h2
    replace hm : Hid (mayV ⟨5, ⟨op, rd, r1, r2, imm, aq, rl, pred, succ⟩, label, addr⟩ = (decide ((⟨5, ⟨0, rd, 0, 0, 0, false, false, 0, 0⟩, 0, addr⟩ : ItemV) = ⟨5, ⟨op, rd, r1, r2, imm, aq, rl, pred, succ⟩, label, addr⟩) && decide (0 ≤ label))) := Lib.hid (by rw [hm.out, decide_eq_true (show 1 ≤ rd by omega), decide_eq_true (show rd ≤ 31 by omega)]; rfl)
    go_upto_region 21 with fail
    clear c2 h1 h2 t1 t2
    obtain ⟨d0, d1, d2, d3, d4, d5, d6, d7, d8, d9, d10, d11⟩ := hWn.out.ib.all
    obtain ⟨c0, c1, c2, c3, c4, c5, c6, c7, c8, c9, c10, c11⟩ := hIn.out.all
    have hq := Lib.hid (hQ.out ⟨5, ⟨0, rd, 0, 0, 0, false, false, 0, 0⟩, 0, addr⟩)
    unfold ItemV.cells at hq
    simp only at hq
    clear hQ
    by_cases hk : (⟨5, ⟨0, rd, 0, 0, 0, false, false, 0, 0⟩, 0, addr⟩ : ItemV) = ⟨5, ⟨op, rd, r1, r2, imm, aq, rl, pred, succ⟩, label, addr⟩
    · rw [decide_eq_true hk] at hq hm
      clear hk
      by_cases hl : 0 ≤ label
      · have tl : decide (label ≥ 0) = true := decide_eq_true hl
        have hd : Hid (decide (0 ≤ label) = true) := Lib.hid (decide_eq_true hl)
        go_wp2_with (refine wpList_eqlT (by first | rfl | kernel_rfl) _ _ _ rfl _ _ true rfl rfl hq.out ?_)
        go_ret
        exact ⟨by rw [hm.out, hd.out]; rfl, hbn.out⟩
      · have tl : decide (label ≥ 0) = false := decide_eq_false hl
        have hd : Hid (decide (0 ≤ label) = false) := Lib.hid (decide_eq_false hl)
        go_wp2_with (refine wpList_eqlT (by first | rfl | kernel_rfl) _ _ _ rfl _ _ true rfl rfl hq.out ?_)
        go_ret
        exact ⟨by rw [hm.out, hd.out]; rfl, hbn.out⟩
    · rw [decide_eq_false hk] at hq hm
      clear hk
      go_wp2_with (refine wpList_eqlT (by first | rfl | kernel_rfl) _ _ _ rfl _ _ false rfl rfl hq.out ?_)
      go_ret
      exact ⟨by rw [hm.out]; rfl, hbn.out⟩
  · have t1 : (kind == 1) = false := by simpa using k1
    have t2 : (kind == 2) = false := by simpa using k2
    have t3 : (kind == 3) = false := by simpa using k3
    have t4 : (kind == 4) = false := by simpa using k4
    have t5 : (kind == 5) = false := by simpa using k5
    have hm : Hid (mayV ⟨kind, ⟨op, rd, r1, r2, imm, aq, rl, pred, succ⟩, label, addr⟩ = false) := Lib.hid (by simp [mayV, k1, k2, k3, k4, k5])
    go_wp2_with fail
    go_ret
    exact ⟨by rw [hm.out]; rfl, hbn.out⟩
end
end Go.Proofs.YtcgflnkgekkidaaGreatDoor
