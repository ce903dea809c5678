/- The walk of insn.Check at whatever instruction. Conditions: the library's table of ASCII spaces lies as its initialiser lays it. -/
import Derived.Test.YtcgflnkgekkidaaGreatDoorInsnCkA
import Derived.Test.YtcgflnkgekkidaaGreatDoorInsnCk1
import Derived.Test.YtcgflnkgekkidaaGreatDoorInsnCk2
import Derived.Test.YtcgflnkgekkidaaGreatDoorInsnCk3
import Derived.Test.YtcgflnkgekkidaaGreatDoorInsnDf
namespace Go.Proofs.YtcgflnkgekkidaaGreatDoor
open Go.RowKit
theorem Check_any (i : InsnV) (hop : i.op ≤ 9223372036854775807) (w : World) (ht : Tabs w) :
    Calls Tryz.prog 90 #[.agg i.cells] w fun e w' => e = .returned (.int .i64 (checkE i)) ∧ Below w.heap.size w w' := by
  obtain ⟨op, rd, rs1, rs2, imm, aq, rl, pred, succ⟩ := i
  obtain ⟨h0, h1, h2⟩ := info_op op
  obtain ⟨O, hO⟩ : ∃ O, opOf op = O := ⟨_, rfl⟩
  rw [hO] at h0 h1 h2
  obtain ⟨nm, f, l, s, z⟩ := O
  simp only at h0 h1 h2
  rcases (show f = 0 ∨ f = 1 ∨ f = 2 ∨ f = 3 ∨ f = 4 ∨ f = 5 ∨ f = 6 ∨ f = 7 ∨ f = 8 ∨ f = 9 ∨ f = 10 ∨ f = 11 ∨ f = 12 by omega) with rfl | rfl | rfl | rfl | rfl | rfl | rfl | rfl | rfl | rfl | rfl | rfl | rfl
  · exact Check_0 op rd rs1 rs2 imm aq rl pred succ hop nm z l s (Lib.hid hO) w ht
  · exact Check_1 op rd rs1 rs2 imm aq rl pred succ hop nm z l s (Lib.hid hO) w ht
  · exact Check_2 op rd rs1 rs2 imm aq rl pred succ hop nm z l s (Lib.hid hO) w ht
  · exact Check_3 op rd rs1 rs2 imm aq rl pred succ hop nm z l s (Lib.hid hO) w ht
  · exact Check_4 op rd rs1 rs2 imm aq rl pred succ hop nm z l s (Lib.hid hO) w ht
  · exact Check_5 op rd rs1 rs2 imm aq rl pred succ hop nm z l s (Lib.hid hO) w ht
  · exact Check_6 op rd rs1 rs2 imm aq rl pred succ hop nm z l s (Lib.hid hO) w ht
  · exact Check_7 op rd rs1 rs2 imm aq rl pred succ hop nm z l s (by omega) (Lib.hid hO) w ht
  · exact Check_8 op rd rs1 rs2 imm aq rl pred succ hop nm z l s (Lib.hid hO) w ht
  · exact Check_9 op rd rs1 rs2 imm aq rl pred succ hop nm z l s (Lib.hid hO) w ht
  · exact Check_10 op rd rs1 rs2 imm aq rl pred succ hop nm z l s (Lib.hid hO) w ht
  · exact Check_11 op rd rs1 rs2 imm aq rl pred succ hop nm z l s (Lib.hid hO) w ht
  · exact Check_12 op rd rs1 rs2 imm aq rl pred succ hop nm z l s (Lib.hid hO) w ht
end Go.Proofs.YtcgflnkgekkidaaGreatDoor
