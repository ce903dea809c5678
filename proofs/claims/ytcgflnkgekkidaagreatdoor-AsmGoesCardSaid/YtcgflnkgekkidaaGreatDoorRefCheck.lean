/- The walk of the document's Check at whatever instruction: it is the program's. Conditions: none. -/
import Derived.Test.YtcgflnkgekkidaaGreatDoorRefCk1
import Derived.Test.YtcgflnkgekkidaaGreatDoorRefCk2
import Derived.Test.YtcgflnkgekkidaaGreatDoorRefCk3
import Derived.Test.YtcgflnkgekkidaaGreatDoorRefCk4
import Derived.Test.YtcgflnkgekkidaaGreatDoorInsnDf
namespace Go.Proofs.YtcgflnkgekkidaaGreatDoor
open Go.RowKit
theorem short_all : ((List.range 88).all fun n => decide ((opOf (n : Int)).form = 7) == false || shortName (opOf (n : Int)).name == decide (32 ≤ (n : Int))) = true := by decide +kernel
theorem short_op (n : Int) (h : (opOf n).form = 7) : shortName (opOf n).name = decide (32 ≤ n) := by
  have h0 : 1 ≤ n := by
    by_cases h0 : n < 1
    · unfold opOf at h; rw [if_pos h0] at h; exact absurd h (by decide)
    · omega
  have h1 : n ≤ 87 := by
    by_cases h1 : 87 < n
    · rw [opOf_big n h1] at h; exact absurd h (by decide)
    · omega
  obtain ⟨m, rfl⟩ := Int.eq_ofNat_of_zero_le (show 0 ≤ n by omega)
  have := List.all_eq_true.1 short_all m (List.mem_range.2 (by omega))
  rw [decide_eq_true h] at this
  simpa using this
theorem checkE_at {op f : Int} (hf : (opOf op).form = f) (rd rs1 rs2 imm : Int) (aq rl : Bool) (pred succ : Int) :
    checkE ⟨op, rd, rs1, rs2, imm, aq, rl, pred, succ⟩ = if formOk f (shortName (opOf op).name) ⟨op, rd, rs1, rs2, imm, aq, rl, pred, succ⟩ then 0 else 2 := by
  unfold checkE checkOk; rw [hf]
theorem R2Check_any (i : InsnV) (w : World) :
    Calls Tryz.prog 65 #[.agg i.cells] w fun e w' => e = .returned (.int .i64 (checkE i)) ∧ Below w.heap.size w w' := by
  obtain ⟨op, rd, rs1, rs2, imm, aq, rl, pred, succ⟩ := i
  obtain ⟨h0, h1, _⟩ := info_op op
  obtain ⟨f, hf⟩ : ∃ f, (opOf op).form = f := ⟨_, rfl⟩
  rw [hf] at h0 h1
  have hr : rform op = f := by rw [← rform_eq]; exact hf
  have hE := Lib.hid (checkE_at hf)
  rcases (show f = 0 ∨ f = 1 ∨ f = 2 ∨ f = 3 ∨ f = 4 ∨ f = 5 ∨ f = 6 ∨ f = 7 ∨ f = 8 ∨ f = 9 ∨ f = 10 ∨ f = 11 ∨ f = 12 by omega) with rfl | rfl | rfl | rfl | rfl | rfl | rfl | rfl | rfl | rfl | rfl | rfl | rfl
  · exact R2Check_0 op rd rs1 rs2 imm aq rl pred succ hr _ hE w
  · exact R2Check_1 op rd rs1 rs2 imm aq rl pred succ hr _ hE w
  · exact R2Check_2 op rd rs1 rs2 imm aq rl pred succ hr _ hE w
  · exact R2Check_3 op rd rs1 rs2 imm aq rl pred succ hr _ hE w
  · exact R2Check_4 op rd rs1 rs2 imm aq rl pred succ hr _ hE w
  · exact R2Check_5 op rd rs1 rs2 imm aq rl pred succ hr _ hE w
  · exact R2Check_6 op rd rs1 rs2 imm aq rl pred succ hr _ hE w
  · exact R2Check_7 op rd rs1 rs2 imm aq rl pred succ hr _ (short_op op hf) hE w
  · exact R2Check_8 op rd rs1 rs2 imm aq rl pred succ hr _ hE w
  · exact R2Check_9 op rd rs1 rs2 imm aq rl pred succ hr _ hE w
  · exact R2Check_10 op rd rs1 rs2 imm aq rl pred succ hr _ hE w
  · exact R2Check_11 op rd rs1 rs2 imm aq rl pred succ hr _ hE w
  · exact R2Check_12 op rd rs1 rs2 imm aq rl pred succ hr _ hE w
end Go.Proofs.YtcgflnkgekkidaaGreatDoor
