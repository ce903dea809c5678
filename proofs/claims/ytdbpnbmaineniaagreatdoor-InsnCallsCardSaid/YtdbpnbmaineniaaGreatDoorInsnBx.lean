/- Instructions that lie in boxes, two of them compared; insn.Name; are two lists of numbers the same? Conditions: the library's table of spaces lies as its initialiser lays it. -/
import Derived.Test.YtdbpnbmaineniaaGreatDoorRdWc
import Derived.Test.YtdbpnbmaineniaaGreatDoorInsnLw
import Derived.Test.YtdbpnbmaineniaaGreatDoorInsnEq
import Derived.Test.YtdbpnbmaineniaaGreatDoorRlB
import Derived.OrdersHeld
import Derived.Deep.MidRow
import Derived.Deep.QuietTactic
import Derived.BigQuiet
set_option linter.unusedSimpArgs false
set_option linter.unusedVariables false
namespace Go.Proofs.YtdbpnbmaineniaaGreatDoor
open Go.RowKit
section
attribute [local go_sem] Instr.field asAgg run_part_plain
theorem IName_any (n : Int) (hn : n ≤ 9223372036854775807) (w : World) (ht : Tabs w) :
    Calls Tryz.prog 32 #[.int .i64 n] w fun e w' => e = .returned (.string ⟨(opOf n).name.toArray⟩) ∧ Below w.heap.size w w' := by
  have hof := Lib.hid (fun w ht => of_any n hn w ht)
  go_enter Tryz.func32, Tryz.ntmps32
  go_wp2_with (go_at_call 75; refine (hof.out _ ht).mono ?_; rintro e w1 ⟨rfl, hb⟩)
  go_ret
  exact ⟨rfl, hb⟩
end
def Quiet (w : World) (v : Value) (e : Ending) (w' : World) : Prop := e = .returned v ∧ ∃ q, w' = w.drewN q
theorem drew_ex (w : World) (q n : Nat) : ∃ q', (w.drewN q).drewN n = w.drewN q' := ⟨q + n, by simp [World.drewN, Nat.add_assoc]⟩
set_option maxRecDepth 100000 in
set_option maxHeartbeats 4000000 in
theorem Same_any (v1 v2 : Value) (l1 l2 : List Int) (B1 B2 : Nat) (w : World) (h1 : RL w B1 v1 l1) (h2 : RL w B2 v2 l2) :
    Calls Tryz.prog 34 #[v1, v2] w (Quiet w (.bool (l1 == l2))) := by
  obtain ⟨A1, c1, rfl, a1, a2, a3⟩ := h1.form
  obtain ⟨A2, c2, rfl, b1, b2, b3⟩ := h2.form
  unfold maxLen at a2 b2
  by_cases hl : l1.length = l2.length
  · obtain ⟨R, hR⟩ : ∃ R, (l1 == l2) = R := ⟨_, rfl⟩
    rw [hR]
    replace hR := Lib.hid hR
    rw [← hl] at b1 ⊢
    have a4 := Lib.hid a3
    have b4 := Lib.hid b3
    replace hl := Lib.hid hl
    clear a3 b3 h1 h2
    go_enter Tryz.func34, Tryz.ntmps34
    go_wp2_with fail
    go_loopw [5] (fun i wr => ∃ k : Nat, k ≤ l1.length ∧ i = .int .i64 k ∧ (∃ q, wr = w.drewN q) ∧ Hid (∀ j, j < k → l1[j]? = l2[j]?)) (fun i _ => l1.length - (intOf i).toNat)
    case atStart => exact ⟨0, Nat.zero_le _, rfl, ⟨0, rfl⟩, Lib.hid fun j hj => absurd hj (Nat.not_lt_zero _)⟩
    case round =>
      obtain ⟨k, hk, rfl, ⟨q, rfl⟩, hsm⟩ := hrel
      by_cases hlt : k < l1.length
      · obtain ⟨x, hx, -⟩ := drop_at hlt
        obtain ⟨y, hy, -⟩ := drop_at (l := l2) (k := k) (by rw [← hl.out]; exact hlt)
        obtain ⟨p1, o1, rfl, -, hc1⟩ := a4.out.resolve_left (fun e => by rw [e] at hlt; exact absurd hlt (Nat.not_lt_zero _))
        obtain ⟨p2, o2, rfl, -, hc2⟩ := b4.out.resolve_left (fun e => by rw [hl.out, e] at hlt; exact absurd hlt (Nat.not_lt_zero _))
        have m1 : w.cell? ⟨p1, o1 + k, none⟩ = some (.int .i64 x) := hc1 k x hx
        have m2 : w.cell? ⟨p2, o2 + k, none⟩ = some (.int .i64 y) := hc2 k y hy
        have n0 : (0 : Int) ≤ (k : Int) ∧ (k : Int) < (l1.length : Int) := by omega
        obtain ⟨n1, n2⟩ := n0
        have n3 : k < c1 := by omega
        have n4 : k < c2 := by omega
        replace hc1 := Lib.hid hc1
        replace hc2 := Lib.hid hc2
        by_cases hxy : x = y
        · have hne : (x != y) = false := by rw [hxy]; simp
          have hsm2 : Hid (∀ j, j < k + 1 → l1[j]? = l2[j]?) := Lib.hid fun j hj => by
            by_cases e : j = k
            · subst e; rw [hx, hy, hxy]
            · exact hsm.out j (by omega)
          clear hx hy hxy
          go_upto_region 6 with fail
          go_quiet (fail)
          go_wp2_with fail
          go_roundw
          case rel => exact ⟨k + 1, by omega, by go_num, ⟨_, rfl⟩, hsm2⟩
          case measure => simp [intOf]; omega
        · have hne : (x != y) = true := by simpa using hxy
          have hRf : Hid (R = false) := Lib.hid (by
            rw [← hR.out, beq_eq_false_iff_ne]
            intro e
            rw [e, hy] at hx
            exact hxy (Option.some.inj hx).symm)
          clear hx hy hxy
          go_upto_region 6 with fail
          go_quiet (fail)
          go_wp2_with fail
          go_ret
          exact ⟨by rw [hRf.out]; rfl, drew_ex _ _ _⟩
      · obtain rfl : k = l1.length := by omega
        have hRt : Hid (R = true) := Lib.hid (by
          rw [← hR.out, beq_iff_eq]
          refine List.ext_getElem? fun j => ?_
          by_cases hj : j < l1.length
          · exact hsm.out j hj
          · rw [List.getElem?_eq_none (by omega), List.getElem?_eq_none (by rw [← hl.out]; omega)])
        go_wp2_with fail
        go_ret
        exact ⟨by rw [hRt.out]; rfl, q, rfl⟩
  · have hf : (l1 == l2) = false := by rw [beq_eq_false_iff_ne]; intro e; exact hl (by rw [e])
    rw [hf]
    have hne : ((l1.length : Int) != (l2.length : Int)) = true := by simp; omega
    have hne2 : (l1.length != l2.length) = true := by simpa using hl
    clear hf a3 b3 h1 h2
    go_enter Tryz.func34, Tryz.ntmps34
    go_wp2_with fail
    go_ret
    exact ⟨rfl, 0, rfl⟩
theorem wpList_yieldsN {P : Program} {ops : Array Oper} {rest : List Oper} {op : Oper} {a : Act} {w : World} {Q : Exit → Act → World → Prop} {S : World → Prop} {v : Value} (hy : YieldsIf P ops S op v a) (hS : S w) (h : wpList P ops Q rest (a.put op.dst v) w) : wpList P ops Q (op :: rest) a w :=
  wpList_step fun K hK => by
    rcases hy with ⟨hw, hv⟩ | ⟨hw, rfl⟩
    · rw [if_pos hw]; unfold Oper.wp; simp only [hv w hS, Oper.upon]; exact hK _ _ h
    · rw [if_neg (by simp [hw])]; exact hK _ _ h
theorem yieldsIf_eql_insnN {ops : Array Oper} {S : World → Prop} {op : Oper} {a : Act} (hw : Region.wanted op (yielded ops a.tmps) = true) (x y : Operand) (t : TypeId) (ho : op.op = .binOp .eql 23 x y t) (A B : Array Value) (b : Bool)
    (hx : a.eval x = .agg A) (hy : a.eval y = .agg B) (hq : ∀ w, (binOp .eql 23 (.agg A) (.agg B)).run Tryz.prog w = .ok (.bool b) w) : YieldsIf Tryz.prog ops S op (.bool b) a :=
  .inl ⟨hw, fun w _ => by
    unfold execOp
    simp only [ho, hx, hy, Sem.run_bind, run_eqGuard_agg w .eql 23 x y A B Tryz.eqGuardType23, hq, Result.andThen_ok, Sem.run_pure]⟩
theorem wpList_eqlG {ops : Array Oper} {rest : List Oper} {op : Oper} {a : Act} {w : World} {Q : Exit → Act → World → Prop} (hw : Region.wanted op (yielded ops a.tmps) = true) (x y : Operand) (t : TypeId) (ho : op.op = .binOp .eql 23 x y t) (A B : Array Value) (b : Bool)
    (hx : a.eval x = .agg A) (hy : a.eval y = .agg B) (hq : ∀ w, (binOp .eql 23 (.agg A) (.agg B)).run Tryz.prog w = .ok (.bool b) w) (h : wpList Tryz.prog ops Q rest (a.put op.dst (.bool b)) w) : wpList Tryz.prog ops Q (op :: rest) a w :=
  wpList_yieldsN (S := fun W => W = w) (yieldsIf_eql_insnN hw x y t ho A B b hx hy hq) rfl h
theorem stored9 (s : World) (cs : List Value) (hl : cs.length = 9) (Z : Array Value) (hZ : Z.size = 9) (t : TypeId) : Below s.heap.size s (World.setCells (s.alloc (.cells Z t)) s.heap.size 0 cs) ∧ (World.setCells (s.alloc (.cells Z t)) s.heap.size 0 cs).rangeAt s.heap.size 0 cs ∧ s.heap.size < (World.setCells (s.alloc (.cells Z t)) s.heap.size 0 cs).heap.size := by
  have hal : Below s.heap.size s (s.alloc (.cells Z t)) := (Below.refl _ _).alloc (Nat.le_refl _) _
  refine ⟨below_cellsX (Nat.le_refl s.heap.size) cs 0 _ hal, World.rangeAt_setCells_same _ s.heap.size 0 cs (by rw [hl]; exact cells_freshX s Z t 9 (by omega)), ?_⟩
  have h2 := below_cellsX (B := s.heap.size) (w := s.alloc (.cells Z t)) (Nat.le_refl s.heap.size) cs 0 _ (Below.refl _ _)
  exact Nat.lt_of_lt_of_le (show s.heap.size < (s.alloc (.cells Z t)).heap.size by simp) h2.size
theorem drewN_below {B : Nat} {a w : World} (h : Below B a w) : ∀ q, Below B a (w.drewN q)
  | q => ⟨h.os, h.tape, h.output, h.size, h.block⟩
/-- An instruction's box. -/
structure BX (b : Nat) (cs : List Value) (W : World) : Prop where
  c : W.rangeAt b 0 cs
  lt : b < W.heap.size
theorem BX.keep {b : Nat} {cs : List Value} {W W' : World} (h : BX b cs W) (hb : Below W.heap.size W W') : BX b cs W' :=
  ⟨fun j v hv => by rw [hb.cell (p := ⟨b, 0 + j, none⟩) h.lt]; exact h.c j v hv, Nat.lt_of_lt_of_le h.lt hb.size⟩
theorem BX.at {b : Nat} {cs : List Value} {W : World} (h : BX b cs W) (j : Nat) (v : Value) (hv : cs[j]? = some v) : W.cell? ⟨b, j, none⟩ = some v := by
  have := h.c j v hv; rw [Nat.zero_add] at this; exact this
theorem BX.all9 {b : Nat} {W : World} {op rd r1 r2 imm : Int} {aq rl : Bool} {pred succ : Int} (h : BX b (InsnV.cells ⟨op, rd, r1, r2, imm, aq, rl, pred, succ⟩).toList W) : W.cell? ⟨b, 0, none⟩ = some (.int .i64 op) ∧ W.cell? ⟨b, 1, none⟩ = some (.int .i64 rd) ∧ W.cell? ⟨b, 2, none⟩ = some (.int .i64 r1) ∧ W.cell? ⟨b, 3, none⟩ = some (.int .i64 r2) ∧ W.cell? ⟨b, 4, none⟩ = some (.int .i64 imm) ∧ W.cell? ⟨b, 5, none⟩ = some (.bool aq) ∧ W.cell? ⟨b, 6, none⟩ = some (.bool rl) ∧ W.cell? ⟨b, 7, none⟩ = some (.int .i64 pred) ∧ W.cell? ⟨b, 8, none⟩ = some (.int .i64 succ) :=
  ⟨h.at 0 _ rfl, h.at 1 _ rfl, h.at 2 _ rfl, h.at 3 _ rfl, h.at 4 _ rfl, h.at 5 _ rfl, h.at 6 _ rfl, h.at 7 _ rfl, h.at 8 _ rfl⟩
theorem BX.new (w : World) (i : InsnV) (t : TypeId) : BX w.heap.size i.cells.toList (w.alloc (.cells i.cells t)) ∧ Below w.heap.size w (w.alloc (.cells i.cells t)) :=
  ⟨⟨fun j v hv => by rw [World.cell?_alloc_new, Nat.zero_add]; simpa using hv, by simp⟩, (Below.refl _ _).alloc (Nat.le_refl _) _⟩
theorem BX.put (s : World) (cs : List Value) (hl : cs.length = 9) (Z : Array Value) (hZ : Z.size = 9) (t : TypeId) : BX s.heap.size cs (World.setCells (s.alloc (.cells Z t)) s.heap.size 0 cs) ∧ Below s.heap.size s (World.setCells (s.alloc (.cells Z t)) s.heap.size 0 cs) := by
  obtain ⟨h1, h2, h3⟩ := stored9 s cs hl Z hZ t
  exact ⟨⟨h2, h3⟩, h1⟩
theorem BX.all9L {b : Nat} {W : World} {cs : List Value} {op rd r1 r2 imm : Int} {aq rl : Bool} {pred succ : Int} (e : (InsnV.cells ⟨op, rd, r1, r2, imm, aq, rl, pred, succ⟩).toList = cs) (h : BX b cs W) : W.cell? ⟨b, 0, none⟩ = some (.int .i64 op) ∧ W.cell? ⟨b, 1, none⟩ = some (.int .i64 rd) ∧ W.cell? ⟨b, 2, none⟩ = some (.int .i64 r1) ∧ W.cell? ⟨b, 3, none⟩ = some (.int .i64 r2) ∧ W.cell? ⟨b, 4, none⟩ = some (.int .i64 imm) ∧ W.cell? ⟨b, 5, none⟩ = some (.bool aq) ∧ W.cell? ⟨b, 6, none⟩ = some (.bool rl) ∧ W.cell? ⟨b, 7, none⟩ = some (.int .i64 pred) ∧ W.cell? ⟨b, 8, none⟩ = some (.int .i64 succ) := by
  subst e; exact h.all9
theorem insn_one {i : InsnV} {l : List Value} (h : i.cells.toList = l) : l.toArray.all (·.oneCell') = true := by
  subst h; obtain ⟨op, rd, r1, r2, imm, aq, rl, pred, succ⟩ := i; kernel_rfl
theorem insn_len {i : InsnV} {l : List Value} (h : i.cells.toList = l) : l.length = 9 := by subst h; rfl
theorem insn_size {i : InsnV} {l : List Value} (h : i.cells.toList = l) : (Tryz.prog.info? 23).map (·.size) = some l.length := by
  rw [insn_len h]; kernel_rfl
theorem insn_same (i : InsnV) (W : World) : (binOp .eql 23 (.agg i.cells) (.agg i.cells)).run Tryz.prog W = .ok (.bool true) W := by
  have := insn_eql i i W
  simpa using this
end Go.Proofs.YtdbpnbmaineniaaGreatDoor
