/- Whether two instructions are the same, as the program asks it. Conditions: none. -/
import Derived.Test.YtcgflnkgekkidaaGreatDoorInsnDf
import Derived.Test.YtcgflnkgekkidaaGreatDoorInsnKn
import Derived.WalkSpells
namespace Go.Proofs.YtcgflnkgekkidaaGreatDoor
open Go.RowKit
set_option maxRecDepth 100000 in
theorem insn_eql (k i : InsnV) (w : World) : (binOp .eql 26 (.agg k.cells) (.agg i.cells)).run Tryz.prog w = .ok (.bool (decide (k = i))) w := by
  obtain ⟨a0, a1, a2, a3, a4, a5, a6, a7, a8⟩ := k
  obtain ⟨b0, b1, b2, b3, b4, b5, b6, b7, b8⟩ := i
  simp only [InsnV.cells]
  simp [go_sem]
  repeat' split
  all_goals simp_all
set_option maxRecDepth 100000 in
theorem insn_neq (k i : InsnV) (w : World) : (binOp .neq 26 (.agg k.cells) (.agg i.cells)).run Tryz.prog w = .ok (.bool (decide (k ≠ i))) w := by
  obtain ⟨a0, a1, a2, a3, a4, a5, a6, a7, a8⟩ := k
  obtain ⟨b0, b1, b2, b3, b4, b5, b6, b7, b8⟩ := i
  simp only [InsnV.cells]
  simp [go_sem]
  repeat' split
  all_goals simp_all
end Go.Proofs.YtcgflnkgekkidaaGreatDoor
