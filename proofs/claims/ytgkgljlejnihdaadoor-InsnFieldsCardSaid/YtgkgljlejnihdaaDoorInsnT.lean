/- insn.Text of whatever instruction. Conditions: the library's tables of spaces and of powers of ten lie as its initialisers lay them. -/
import Derived.Test.YtgkgljlejnihdaaDoorInsnT1
import Derived.Test.YtgkgljlejnihdaaDoorInsnT2
import Derived.Test.YtgkgljlejnihdaaDoorInsnT3
import Derived.Test.YtgkgljlejnihdaaDoorInsnT4
import Derived.Test.YtgkgljlejnihdaaDoorInsnT5
set_option linter.unusedVariables false
set_option linter.unusedSimpArgs false
namespace Go.Proofs.YtgkgljlejnihdaaDoor
open Go.RowKit
theorem IText_any (i : InsnV) (hop : i.op ≤ 9223372036854775807) (him : -9223372036854775808 ≤ i.imm ∧ i.imm ≤ 9223372036854775807) (w : World) (ht : Tabs w) (hp : P10 w) :
    Calls Tryd.prog 47 #[.agg i.cells] w fun e w' => e = .returned (.tuple #[.string ⟨(textT i).toArray⟩, .int .i64 (checkE i)]) ∧ Below w.heap.size w w' := by
  by_cases hc : checkE i = 0
  · have htt : textT i = bodyT i := if_pos hc
    rw [htt, hc]
    obtain ⟨-, -, -, -, -, -, h1, h2⟩ := ok_facts i hc
    obtain ⟨op, rd, r1, r2, imm, aq, rl, pred, succ⟩ := i
    simp only at him h1 h2 hop
    rcases (show (opOf op).form = 1 ∨ (opOf op).form = 2 ∨ (opOf op).form = 3 ∨ (opOf op).form = 4 ∨ (opOf op).form = 5 ∨ (opOf op).form = 6 ∨ (opOf op).form = 7 ∨ (opOf op).form = 8 ∨ (opOf op).form = 9 ∨ (opOf op).form = 10 ∨ (opOf op).form = 11 ∨ (opOf op).form = 12 by omega) with hf | hf | hf | hf | hf | hf | hf | hf | hf | hf | hf | hf
    · exact IText_1 op rd r1 r2 imm _ _ pred succ w ht hp hop hc hf him
    · exact IText_2 op rd r1 r2 imm _ _ pred succ w ht hp hop hc hf him
    · by_cases hj : op = 4
      · exact IText_3j op rd r1 r2 imm _ _ pred succ w ht hp hop hc hf him hj
      · exact IText_3n op rd r1 r2 imm _ _ pred succ w ht hp hop hc hf him hj
    · exact IText_4 op rd r1 r2 imm _ _ pred succ w ht hp hop hc hf him
    · exact IText_5 op rd r1 r2 imm _ _ pred succ w ht hp hop hc hf him
    · exact IText_6 op rd r1 r2 imm _ _ pred succ w ht hp hop hc hf him
    · exact IText_7n op rd r1 r2 imm _ _ pred succ w ht hp hop hc hf him (fun e => by rw [e] at hf; revert hf; decide +kernel)
    · exact IText_8 op rd r1 r2 imm _ _ pred succ w ht hp hop hc hf him
    · exact IText_9 op rd r1 r2 imm _ _ pred succ w ht hp hop hc hf him
    · exact IText_10 op rd r1 r2 imm _ _ pred succ w ht hp hop hc hf him
    · cases aq <;> cases rl
      · exact IText_11_ff op rd r1 r2 imm _ _ pred succ w ht hp hop rfl rfl hc hf him
      · exact IText_11_ft op rd r1 r2 imm _ _ pred succ w ht hp hop rfl rfl hc hf him
      · exact IText_11_tf op rd r1 r2 imm _ _ pred succ w ht hp hop rfl rfl hc hf him
      · exact IText_11_tt op rd r1 r2 imm _ _ pred succ w ht hp hop rfl rfl hc hf him
    · cases aq <;> cases rl
      · exact IText_12_ff op rd r1 r2 imm _ _ pred succ w ht hp hop rfl rfl hc hf him
      · exact IText_12_ft op rd r1 r2 imm _ _ pred succ w ht hp hop rfl rfl hc hf him
      · exact IText_12_tf op rd r1 r2 imm _ _ pred succ w ht hp hop rfl rfl hc hf him
      · exact IText_12_tt op rd r1 r2 imm _ _ pred succ w ht hp hop rfl rfl hc hf him
  · have htt : textT i = [] := if_neg hc
    have h2 : checkE i = 2 := by unfold checkE at hc ⊢; cases hk : checkOk i <;> simp_all
    rw [htt, h2]
    obtain ⟨op, rd, r1, r2, imm, aq, rl, pred, succ⟩ := i
    exact IText_no op rd r1 r2 imm aq rl pred succ w ht hp hop hc
end Go.Proofs.YtgkgljlejnihdaaDoor
