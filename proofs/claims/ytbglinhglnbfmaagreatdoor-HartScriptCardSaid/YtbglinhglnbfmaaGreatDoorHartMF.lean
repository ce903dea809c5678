/- Whole registers compared; loads of rows by operations that are wanted. Conditions: none. -/
import Derived.Test.YtbglinhglnbfmaaGreatDoorHartL
import Derived.Test.YtbglinhglnbfmaaGreatDoorRefCheck
import Derived.Test.YtbglinhglnbfmaaGreatDoorAluRf
import Derived.Stop.BytesEq
set_option linter.unusedVariables false
namespace Go.Proofs.YtbglinhglnbfmaaGreatDoor
open Go.RowKit
/-- A hart's registers. -/
def regL (f : Nat → BitVec 64) : List Value := (List.range 32).map fun j => .int .u64 (un (f j))
theorem regL_len (f : Nat → BitVec 64) : (regL f).length = 32 := by unfold regL; simp
theorem regL_at (f : Nat → BitVec 64) (j : Nat) (hj : j < 32) : (regL f)[j]? = some (.int .u64 (un (f j))) := by unfold regL; simp [hj]
theorem regs_equalIn (d : Nat) (f g : Nat → BitVec 64) (w : World) : (Op.equalIn (d + 2) 23 (.agg (regL f).toArray) (.agg (regL g).toArray)).run Tryz.prog w = .ok ((List.range 32).all fun j => f j == g j) w := by
  have hsz : ∀ w, (sizeOf 22).run Tryz.prog w = .ok 1 w := fun w => by kernel_rfl
  have he := Tryz.underlying22
  rw [Op.equalIn]
  simp only [Sem.run_bind, run_underlying Tryz.underlying23, Result.andThen_ok, hsz, Std.Legacy.Range.forIn_eq_forIn_range', Std.Legacy.Range.size, Nat.sub_zero, Nat.add_sub_cancel, Nat.div_one]
  rw [List.range_eq_range']
  have hl : ∀ i ∈ List.range' 0 32 1, i < 32 := fun i hi => by simpa using (List.mem_range'_1.1 hi).2
  generalize List.range' 0 32 1 = l at hl ⊢
  induction l with
  | nil => simp
  | cons i l ih =>
    have hi : i < 32 := hl i (by simp)
    have px : ∀ q : Nat → BitVec 64, (part 22 (regL q).toArray (i * 1)).run Tryz.prog w = .ok (.int .u64 (un (q i))) w := fun q => by
      simp [part, isAgg, run_underlying he, regL_at q i hi]
    have pe : (Op.equalIn (d + 1) 22 (.int .u64 (un (f i))) (.int .u64 (un (g i)))).run Tryz.prog w = .ok (f i == g i) w := by
      rw [run_equalIn_int w d 22 .u64 .u64 _ _ he]
      rw [← un_beq]
    simp only [List.forIn_cons, Sem.run_bind, px, pe, Result.andThen_ok, List.all_cons]
    cases hb : (f i == g i)
    · simp
    · simp only [Bool.not_true, Bool.false_eq_true, if_false, Sem.run_pure, Result.andThen_ok, Bool.true_and]
      exact ih fun j hj => hl j (by simp [hj])
set_option maxRecDepth 100000 in
theorem regs_eql (f g : Nat → BitVec 64) (w : World) : (binOp .eql 23 (.agg (regL f).toArray) (.agg (regL g).toArray)).run Tryz.prog w = .ok (.bool ((List.range 32).all fun j => f j == g j)) w := by
  have hq := regs_equalIn 9998 f g w
  rw [show (9998 + 2 : Nat) = 10000 from rfl] at hq
  rw [run_eql_struct, hq]
  rfl
theorem regs_same (f : Nat → BitVec 64) (w : World) : (binOp .eql 23 (.agg (regL f).toArray) (.agg (regL f).toArray)).run Tryz.prog w = .ok (.bool true) w := by
  rw [regs_eql]; simp
theorem HC.regs {a : Nat} {h : HartV} {W : World} (hc : HC a h W) : W.rangeAt a 1 (regL h.x) := fun j v hv => by
  rcases Nat.lt_or_ge j 32 with hj | hj
  · rw [regL_at h.x j hj] at hv; rw [hc (1 + j) (by omega), hartCell_x h j hj]; exact hv
  · rw [List.getElem?_eq_none (by rw [regL_len]; exact hj)] at hv; cases hv
theorem size_regs (f : Nat → BitVec 64) : (Tryz.prog.info? 23).map (·.size) = some (regL f).length := by rw [regL_len]; kernel_rfl
theorem rangeAt_drewN {u : World} {b o : Nat} {cs : List Value} (h : u.rangeAt b o cs) (n : Nat) : (u.drewN n).rangeAt b o cs := fun j v hv => h j v hv
/-- A load of a row by an operation that is wanted. -/
theorem wpList_load_want {P : Program} {ops : Array Oper} {rest : List Oper} {op : Oper} {a : Act} {w : World} {Q : Exit → Act → World → Prop} (hw : Region.wanted op (yielded ops a.tmps) = true) (ty : TypeId) (x : Operand) (ho : op.op = .load ty x)
    (b o : Nat) (hx : a.eval x = .pointer (some ⟨b, o, none⟩)) (cs : List Value) (d : TypeDesc) (hc : w.rangeAt b o cs)
    (hu : P.underlying ty = some d) (hd : d.isRow = true) (hi : (P.info? ty).map (·.size) = some cs.length)
    (h : wpList P ops Q rest (a.put op.dst (.agg cs.toArray)) w) : wpList P ops Q (op :: rest) a w :=
  wpList_step fun _ hK => by rw [if_pos hw]; exact wp_load_mid ty x ho b o hx cs d hc hu hd hi (hK _ _ h)
end Go.Proofs.YtbglinhglnbfmaaGreatDoor
