/- The document's Read of whatever text that is not long. Conditions: none. -/
import Derived.Test.YtbdhjckpoabmlaaDoorReadC1
import Derived.Test.YtbdhjckpoabmlaaDoorReadC2
import Derived.Test.YtbdhjckpoabmlaaDoorReadC3
set_option linter.unusedSimpArgs false
namespace Go.Proofs.YtbdhjckpoabmlaaDoor
open Go.RowKit
theorem rform_range (n : Int) : 0 ≤ rform n ∧ rform n ≤ 12 := by
  unfold rform
  repeat' split
  all_goals omega
theorem R2Read_any (s : ByteArray) (hs : s.size ≤ 1000) (w : World) :
    Calls Tryd.prog 20 #[.string s] w fun e w' => e = .returned (.tuple #[.agg (readB s).1.cells, .int .i64 (readB s).2]) ∧ Below w.heap.size w w' := by
  obtain ⟨op, aq, rl, ho⟩ : ∃ op aq rl, opB (s.extract 0 (stopB spB s)) 4 = (op, aq, rl) := ⟨_, _, _, rfl⟩
  obtain ⟨h0, h12⟩ := rform_range op
  by_cases h1 : rform op = 1 ∨ rform op = 2 ∨ rform op = 0 ∨ (rform op = 3 ∧ op = 4) ∨ (rform op = 3 ∧ op ≠ 4)
  · exact Read_g1 s hs op aq rl ho h1 w
  by_cases h2 : rform op = 10 ∨ rform op = 4 ∨ rform op = 5 ∨ rform op = 6 ∨ (rform op = 7 ∧ op ≠ 4)
  · exact Read_g2 s hs op aq rl ho h2 w
  by_cases h3 : rform op = 8 ∨ rform op = 9 ∨ rform op = 11 ∨ rform op = 12
  · exact Read_g3 s hs op aq rl ho h3 w
  exfalso
  have h7 : rform op = 7 → op ≠ 4 := fun h e => by rw [e] at h; revert h; decide
  by_cases e4 : op = 4
  · by_cases e7 : rform op = 7
    · exact h7 e7 e4
    · simp only [e4, ne_eq, not_true_eq_false, and_false, and_true, or_false] at h1 h2 h3
      rw [e4] at h0 h12 e7
      omega
  · simp only [e4, ne_eq, not_false_eq_true, and_false, and_true, or_false] at h1 h2 h3
    omega
end Go.Proofs.YtbdhjckpoabmlaaDoor
