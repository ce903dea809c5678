/- The walk of the document's Text. Conditions: none. -/
import Derived.Test.YtbdhjckpoabmlaaDoorTextAB
import Derived.Test.YtbdhjckpoabmlaaDoorInsnOk
import Derived.Test.YtbdhjckpoabmlaaDoorRefCheck
import Derived.Test.YtbdhjckpoabmlaaDoorRefName
import Derived.Deep.MidRow
import Derived.Deep.RegionHeld
import Derived.Deep.DeepCutAuto
namespace Go.Proofs.YtbdhjckpoabmlaaDoor
open Go.RowKit
/-- '+' on two texts yields their text. -/
theorem yieldsIf_cat {P : Program} {ops : Array Oper} {S : World → Prop} {op : Oper} {a : Act} (hw : Region.wanted op (yielded ops a.tmps) = true) (x y : Operand) (ty t : TypeId) (ho : op.op = .binOp .add ty x y t) (l m : List UInt8)
    (hx : a.eval x = .string ⟨l.toArray⟩) (hy : a.eval y = .string ⟨m.toArray⟩) (hl : l.length + m.length ≤ 8388608) : YieldsIf P ops S op (.string ⟨(l ++ m).toArray⟩) a :=
  .inl ⟨hw, fun w _ => by
    have hq : ∀ w, (binOp .add ty (.string ⟨l.toArray⟩) (.string ⟨m.toArray⟩)).run P w = .ok (.string ⟨(l ++ m).toArray⟩) w := fun w => by
      rw [binOp_string_add]; exact run_string_add_lists w l m (by omega) (by omega)
    unfold execOp
    simp only [ho, hx, hy, Sem.run_bind, hq, Sem.run_pure]
    rfl⟩
/-- An instruction's box. -/
structure TB (w : World) (cs : List Value) (W : World) : Prop where
  c : W.rangeAt w.heap.size 0 cs
  bl : Below w.heap.size w W
  lt : w.heap.size < W.heap.size
theorem TB.start (w : World) (cs : List Value) (t : TypeId) : TB w cs (w.alloc (.cells cs.toArray t)) :=
  ⟨fun j v hv => by rw [World.cell?_alloc_new, Nat.zero_add]; simpa using hv, (Below.refl _ _).alloc (Nat.le_refl _) _, by simp⟩
theorem TB.keep {w W W' : World} {cs : List Value} (h : TB w cs W) (hb : Below W.heap.size W W') : TB w cs W' :=
  ⟨fun j v hv => by rw [hb.cell (p := ⟨w.heap.size, 0 + j, none⟩) h.lt]; exact h.c j v hv, h.bl.trans (hb.mono (Nat.le_of_lt h.lt)), Nat.lt_of_lt_of_le h.lt hb.size⟩
theorem TB.at {w W : World} {cs : List Value} (h : TB w cs W) (j : Nat) (v : Value) (hv : cs[j]? = some v) : W.cell? ⟨w.heap.size, j, none⟩ = some v := by
  have := h.c j v hv; rw [Nat.zero_add] at this; exact this
theorem TB.drewN {w W : World} {cs : List Value} (h : TB w cs W) (n : Nat) : TB w cs (W.drewN n) := h.keep ⟨rfl, rfl, rfl, Nat.le_refl _, fun _ _ => rfl⟩
theorem regT_len (n : Int) : (regT n).length ≤ 22 := by unfold regT; have := digN_len n.toNat; simp; omega
theorem signL_len (n : Int) : (signL n).length ≤ 22 := by
  unfold signL; have := digN_len n.natAbs
  split
  · simp; omega
  · omega
theorem partT_len (n : Nat) : (partT n).length ≤ 4 := by
  unfold partT; have := partK_len n 4
  split
  · simp
  · omega
theorem names_short : ((List.range 88).all fun n => decide ((opOf (n : Int)).name.length ≤ 12)) = true := by decide +kernel
theorem nameT_len (n : Int) : (opOf n).name.length ≤ 12 := by
  by_cases h : n < 1 ∨ 87 < n
  · rw [name_none n h]; decide
  · obtain ⟨m, rfl⟩ := Int.eq_ofNat_of_zero_le (show 0 ≤ n by omega)
    have := List.all_eq_true.1 names_short m (List.mem_range.2 (by omega))
    simpa using this
set_option maxRecDepth 100000 in
set_option maxHeartbeats 8000000 in
theorem Text_no (op rd r1 r2 imm : Int) (aq rl : Bool) (pred succ : Int) (w : World) (hc : checkE ⟨op, rd, r1, r2, imm, aq, rl, pred, succ⟩ ≠ 0) :
    Calls Tryd.prog 46 #[.agg #[.int .i64 op, .int .i64 rd, .int .i64 r1, .int .i64 r2, .int .i64 imm, .bool aq, .bool rl, .int .i64 pred, .int .i64 succ]] w fun e w' => e = .returned (.tuple #[.string ⟨([] : List UInt8).toArray⟩, .int .i64 2]) ∧ Below w.heap.size w w' := by
  have hB := TB.start w (InsnV.cells ⟨op, rd, r1, r2, imm, aq, rl, pred, succ⟩).toList 23
  rw [Array.toArray_toList] at hB
  have hu := Tryd.underlying23
  have hi : (Tryd.prog.info? 23).map (·.size) = some (InsnV.cells ⟨op, rd, r1, r2, imm, aq, rl, pred, succ⟩).toList.length := by kernel_rfl
  have hK := Lib.hid (fun W => R2Check_any ⟨op, rd, r1, r2, imm, aq, rl, pred, succ⟩ W)
  have c0 : _ = some (Value.int .i64 op) := hB.at 0 _ rfl
  have c1 : _ = some (Value.int .i64 rd) := hB.at 1 _ rfl
  have c2 : _ = some (Value.int .i64 r1) := hB.at 2 _ rfl
  have c3 : _ = some (Value.int .i64 r2) := hB.at 3 _ rfl
  have c4 : _ = some (Value.int .i64 imm) := hB.at 4 _ rfl
  have c5 : _ = some (Value.bool aq) := hB.at 5 _ rfl
  have c6 : _ = some (Value.bool rl) := hB.at 6 _ rfl
  have c7 : _ = some (Value.int .i64 pred) := hB.at 7 _ rfl
  have c8 : _ = some (Value.int .i64 succ) := hB.at 8 _ rfl
  have tc : (checkE ⟨op, rd, r1, r2, imm, aq, rl, pred, succ⟩ != 0) = true := by simpa using hc
  clear hc
  go_enter Tryd.func46, Tryd.ntmps46
  go_wp2_with (first | (refine wpList_load_mid rfl 23 _ rfl w.heap.size 0 rfl (InsnV.cells ⟨op, rd, r1, r2, imm, aq, rl, pred, succ⟩).toList _ hB.c hu rfl hi ?_) | (go_at_call 11; refine (hK.out _).mono ?_; rintro e w1 ⟨rfl, hb1⟩; replace hB := hB.keep hb1; clear hb1 c0 c1 c2 c3 c4 c5 c6 c7 c8; have c0 : _ = some (Value.int .i64 op) := hB.at 0 _ rfl; have c1 : _ = some (Value.int .i64 rd) := hB.at 1 _ rfl; have c2 : _ = some (Value.int .i64 r1) := hB.at 2 _ rfl; have c3 : _ = some (Value.int .i64 r2) := hB.at 3 _ rfl; have c4 : _ = some (Value.int .i64 imm) := hB.at 4 _ rfl; have c5 : _ = some (Value.bool aq) := hB.at 5 _ rfl; have c6 : _ = some (Value.bool rl) := hB.at 6 _ rfl; have c7 : _ = some (Value.int .i64 pred) := hB.at 7 _ rfl; have c8 : _ = some (Value.int .i64 succ) := hB.at 8 _ rfl))
  go_ret2
  exact ⟨rfl, hB.bl⟩
end Go.Proofs.YtbdhjckpoabmlaaDoor
