/- Plain: what is valid has fields that are ones. No program in sight. Conditions: none. -/
import Derived.Test.YtdbpnbmaineniaaGreatDoorInsnDf
namespace Go.Proofs.YtdbpnbmaineniaaGreatDoor
theorem ok_facts (i : InsnV) (h : checkE i = 0) : (0 ≤ i.rd ∧ i.rd ≤ 31) ∧ (0 ≤ i.rs1 ∧ i.rs1 ≤ 31) ∧ (0 ≤ i.rs2 ∧ i.rs2 ≤ 31) ∧ (0 ≤ i.pred ∧ i.pred ≤ 15) ∧ (0 ≤ i.succ ∧ i.succ ≤ 15) ∧ ((opOf i.op).form = 11 ∨ (opOf i.op).form = 12 ∨ (i.aq = false ∧ i.rl = false)) ∧ 1 ≤ (opOf i.op).form ∧ (opOf i.op).form ≤ 12 := by
  replace h : checkOk i = true := by
    unfold checkE at h
    cases hk : checkOk i with
    | true => rfl
    | false => rw [hk] at h; cases h
  unfold checkOk at h
  generalize (opOf i.op).form = f at h ⊢
  generalize shortName (opOf i.op).name = s at h
  unfold formOk at h
  have key : ∀ r : Int, regBad r = false → 0 ≤ r ∧ r ≤ 31 := fun r hr => by unfold regBad at hr; simp at hr; omega
  by_cases h1 : f = 1
  · rw [if_pos h1] at h; simp [badIn] at h; have krd := key i.rd (by simp [h])
    exact ⟨by omega, by omega, by omega, by omega, by omega, .inr (.inr ⟨by simp [h], by simp [h]⟩), by omega, by omega⟩
  rw [if_neg h1] at h
  by_cases h2 : f = 2
  · rw [if_pos h2] at h; simp [badIn] at h; have krd := key i.rd (by simp [h])
    exact ⟨by omega, by omega, by omega, by omega, by omega, .inr (.inr ⟨by simp [h], by simp [h]⟩), by omega, by omega⟩
  rw [if_neg h2] at h
  by_cases h3 : f = 3
  · rw [if_pos h3] at h; simp [badIn] at h; have krd := key i.rd (by simp [h]); have krs1 := key i.rs1 (by simp [h])
    exact ⟨by omega, by omega, by omega, by omega, by omega, .inr (.inr ⟨by simp [h], by simp [h]⟩), by omega, by omega⟩
  rw [if_neg h3] at h
  by_cases h4 : f = 4
  · rw [if_pos h4] at h; simp [badIn] at h; have krd := key i.rd (by simp [h]); have krs1 := key i.rs1 (by simp [h])
    exact ⟨by omega, by omega, by omega, by omega, by omega, .inr (.inr ⟨by simp [h], by simp [h]⟩), by omega, by omega⟩
  rw [if_neg h4] at h
  by_cases h5 : f = 5
  · rw [if_pos h5] at h; simp [badIn] at h; have krs1 := key i.rs1 (by simp [h]); have krs2 := key i.rs2 (by simp [h])
    exact ⟨by omega, by omega, by omega, by omega, by omega, .inr (.inr ⟨by simp [h], by simp [h]⟩), by omega, by omega⟩
  rw [if_neg h5] at h
  by_cases h6 : f = 6
  · rw [if_pos h6] at h; simp [badIn] at h; have krs1 := key i.rs1 (by simp [h]); have krs2 := key i.rs2 (by simp [h])
    exact ⟨by omega, by omega, by omega, by omega, by omega, .inr (.inr ⟨by simp [h], by simp [h]⟩), by omega, by omega⟩
  rw [if_neg h6] at h
  by_cases h7 : f = 7
  · rw [if_pos h7] at h; simp [badIn] at h; have krd := key i.rd (by simp [h]); have krs1 := key i.rs1 (by simp [h])
    exact ⟨by omega, by omega, by omega, by omega, by omega, .inr (.inr ⟨by simp [h], by simp [h]⟩), by omega, by omega⟩
  rw [if_neg h7] at h
  by_cases h8 : f = 8
  · rw [if_pos h8] at h; simp [badIn] at h; have krd := key i.rd (by simp [h]); have krs1 := key i.rs1 (by simp [h]); have krs2 := key i.rs2 (by simp [h])
    exact ⟨by omega, by omega, by omega, by omega, by omega, .inr (.inr ⟨by simp [h], by simp [h]⟩), by omega, by omega⟩
  rw [if_neg h8] at h
  by_cases h9 : f = 9
  · rw [if_pos h9] at h; simp [badIn] at h
    exact ⟨by omega, by omega, by omega, by omega, by omega, .inr (.inr ⟨by simp [h], by simp [h]⟩), by omega, by omega⟩
  rw [if_neg h9] at h
  by_cases h10 : f = 10
  · rw [if_pos h10] at h; simp [badIn] at h
    exact ⟨by omega, by omega, by omega, by omega, by omega, .inr (.inr ⟨by simp [h], by simp [h]⟩), by omega, by omega⟩
  rw [if_neg h10] at h
  by_cases h11 : f = 11
  · rw [if_pos h11] at h; simp [badIn] at h; have krd := key i.rd (by simp [h]); have krs1 := key i.rs1 (by simp [h])
    exact ⟨by omega, by omega, by omega, by omega, by omega, .inl h11, by omega, by omega⟩
  rw [if_neg h11] at h
  by_cases h12 : f = 12
  · rw [if_pos h12] at h; simp [badIn] at h; have krd := key i.rd (by simp [h]); have krs1 := key i.rs1 (by simp [h]); have krs2 := key i.rs2 (by simp [h])
    exact ⟨by omega, by omega, by omega, by omega, by omega, .inr (.inl h12), by omega, by omega⟩
  rw [if_neg h12] at h
  cases h
end Go.Proofs.YtdbpnbmaineniaaGreatDoor
