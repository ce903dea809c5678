/- Plain: what is read is written as exactly that; an instruction's text with one more blank is read as none; different instructions have different texts. No program in sight. Conditions: none. -/
import Derived.Test.YtdbpnbmaineniaaGreatDoorRdPm
import Derived.Test.YtdbpnbmaineniaaGreatDoorShapePl
set_option linter.unusedSimpArgs false
set_option linter.unusedVariables false
namespace Go.Proofs.YtdbpnbmaineniaaGreatDoor
theorem readR_cases (s : ByteArray) : ((readR s).2 = 0 ∧ checkE (readR s).1 = 0 ∧ textT (readR s).1 = s.toList) ∨ readR s = (zeroI, 4) := by
  unfold readR
  split
  · rename_i h; exact .inl ⟨rfl, h⟩
  · exact .inr rfl
theorem readR_bad {s : ByteArray} (h : ∀ i, checkE i = 0 → textT i ≠ s.toList) : readR s = (zeroI, 4) := by
  rcases readR_cases s with ⟨-, h1, h2⟩ | h1
  · exact absurd h2 (h _ h1)
  · exact h1
theorem text_ends (i : InsnV) (h : checkE i = 0) : EndsOk (textT i) ∧ (textT i).headD 32 ≠ 32 := by
  rw [show textT i = bodyT i from if_pos h]; exact body_ends i h
theorem readR_post (l : List UInt8) : readR (bs (l ++ [32])) = (zeroI, 4) := readR_bad fun i hi e => by
  rw [bs_toList] at e
  obtain ⟨⟨c, h1, h2⟩, -⟩ := text_ends i hi
  rw [e] at h1
  simp at h1
  exact h2 h1.symm
theorem readR_pre (l : List UInt8) : readR (bs (32 :: l)) = (zeroI, 4) := readR_bad fun i hi e => by
  rw [bs_toList] at e
  have := (text_ends i hi).2
  rw [e] at this
  exact this rfl
theorem text_size (i : InsnV) : (textT i).length ≤ 60 := by
  unfold textT
  split
  · rename_i h; exact body_len i h
  · simp
theorem text_iff (i o : InsnV) (hi : checkE i = 0) (ho : checkE o = 0) : textT i = textT o ↔ i = o := ⟨text_inj i o hi ho, fun h => by rw [h]⟩
end Go.Proofs.YtdbpnbmaineniaaGreatDoor
