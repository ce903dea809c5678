/- The document's Text of whatever instruction. Conditions: none. -/
import Derived.Test.YtbdhjckpoabmlaaDoorTextCA
import Derived.Test.YtbdhjckpoabmlaaDoorTextCB
namespace Go.Proofs.YtbdhjckpoabmlaaDoor
open Go.RowKit
theorem R2Text_any (i : InsnV) (him : -9223372036854775808 ≤ i.imm ∧ i.imm ≤ 9223372036854775807) (w : World) :
    Calls Tryd.prog 46 #[.agg i.cells] w fun e w' => e = .returned (.tuple #[.string ⟨(textT i).toArray⟩, .int .i64 (checkE i)]) ∧ Below w.heap.size w w' := by
  by_cases hc : checkE i = 0
  · have ht : textT i = bodyT i := if_pos hc
    rw [ht, hc]
    obtain ⟨-, -, -, -, -, -, h1, h2⟩ := ok_facts i hc
    obtain ⟨op, rd, r1, r2, imm, aq, rl, pred, succ⟩ := i
    simp only at him h1 h2
    rcases (show (opOf op).form = 1 ∨ (opOf op).form = 2 ∨ (opOf op).form = 3 ∨ (opOf op).form = 4 ∨ (opOf op).form = 5 ∨ (opOf op).form = 6 ∨ (opOf op).form = 7 ∨ (opOf op).form = 8 ∨ (opOf op).form = 9 ∨ (opOf op).form = 10 ∨ (opOf op).form = 11 ∨ (opOf op).form = 12 by omega) with hf | hf | hf | hf | hf | hf | hf | hf | hf | hf | hf | hf
    · exact Text_1 op rd r1 r2 imm _ _ pred succ w hc hf him
    · exact Text_2 op rd r1 r2 imm _ _ pred succ w hc hf him
    · by_cases hj : op = 4
      · exact Text_3j op rd r1 r2 imm _ _ pred succ w hc hf him hj
      · exact Text_3n op rd r1 r2 imm _ _ pred succ w hc hf him hj
    · exact Text_4 op rd r1 r2 imm _ _ pred succ w hc hf him
    · exact Text_5 op rd r1 r2 imm _ _ pred succ w hc hf him
    · exact Text_6 op rd r1 r2 imm _ _ pred succ w hc hf him
    · exact Text_7n op rd r1 r2 imm _ _ pred succ w hc hf him (fun e => by rw [e] at hf; revert hf; decide +kernel)
    · exact Text_8 op rd r1 r2 imm _ _ pred succ w hc hf him
    · exact Text_9 op rd r1 r2 imm _ _ pred succ w hc hf him
    · exact Text_10 op rd r1 r2 imm _ _ pred succ w hc hf him
    · cases aq <;> cases rl
      · exact Text_11_ff op rd r1 r2 imm _ _ pred succ w rfl rfl hc hf him
      · exact Text_11_ft op rd r1 r2 imm _ _ pred succ w rfl rfl hc hf him
      · exact Text_11_tf op rd r1 r2 imm _ _ pred succ w rfl rfl hc hf him
      · exact Text_11_tt op rd r1 r2 imm _ _ pred succ w rfl rfl hc hf him
    · cases aq <;> cases rl
      · exact Text_12_ff op rd r1 r2 imm _ _ pred succ w rfl rfl hc hf him
      · exact Text_12_ft op rd r1 r2 imm _ _ pred succ w rfl rfl hc hf him
      · exact Text_12_tf op rd r1 r2 imm _ _ pred succ w rfl rfl hc hf him
      · exact Text_12_tt op rd r1 r2 imm _ _ pred succ w rfl rfl hc hf him
  · have ht : textT i = [] := if_neg hc
    have h2 : checkE i = 2 := by unfold checkE at hc ⊢; cases hk : checkOk i <;> simp_all
    rw [ht, h2]
    obtain ⟨op, rd, r1, r2, imm, aq, rl, pred, succ⟩ := i
    exact Text_no op rd r1 r2 imm aq rl pred succ w hc
end Go.Proofs.YtbdhjckpoabmlaaDoor
