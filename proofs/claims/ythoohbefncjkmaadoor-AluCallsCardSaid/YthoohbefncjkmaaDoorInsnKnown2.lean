/- insn.known at a name and a form: one contract for all of them. Conditions: where there is a size, the name has two letters and its letter is one of bhwd. -/
import Derived.Test.YthoohbefncjkmaaDoorInsnKnown
namespace Go.Proofs.YthoohbefncjkmaaDoor
open Go.RowKit
theorem str_ext {a b : ByteArray} (h : a.data.toList = b.data.toList) : a = b := by
  obtain ⟨⟨x⟩⟩ := a; obtain ⟨⟨y⟩⟩ := b; simp at h; rw [h]
theorem bhwd_le (c : UInt8) : Lib.indexByte bhwd c ≤ 3 := by
  unfold bhwd; simp only [Lib.indexByte]
  repeat' split
  all_goals omega
theorem ext_12 (s : List UInt8) (h : 2 ≤ s.length) : (⟨s.toArray⟩ : ByteArray).extract 1 2 = ⟨#[s.getD 1 0]⟩ := by
  apply str_ext
  rw [Lib.extract_data]
  rcases s with _ | ⟨a, _ | ⟨b, s⟩⟩ <;> simp at h ⊢
theorem ext_last (s : List UInt8) (h : 2 ≤ s.length) : (⟨s.toArray⟩ : ByteArray).extract ((⟨s.toArray⟩ : ByteArray).size - 1) (⟨s.toArray⟩ : ByteArray).size = ⟨#[lastLetter s]⟩ := by
  apply str_ext
  rw [Lib.extract_to_end]
  have e : (⟨s.toArray⟩ : ByteArray).size = s.length := rfl
  rw [e]
  have hne : s ≠ [] := by intro h0; rw [h0] at h; simp at h
  show s.drop (s.length - 1) = [lastLetter s]
  have e3 : (s.dropLast ++ [s.getLast hne]).drop (s.length - 1) = [s.getLast hne] := by
    rw [List.drop_append_of_le_length (by simp), List.drop_of_length_le (by simp)]; rfl
  rw [List.dropLast_concat_getLast] at e3
  rw [e3]
  unfold lastLetter
  rw [List.getLastD_eq_getLast?, List.getLast?_eq_some_getLast hne]
  rfl
theorem known_any (s : List UInt8) (f : Int) (hok : knownOk s f = true) (hl : s.length ≤ 1000) (w : World) :
    Calls Tryd.prog 87 #[.string ⟨s.toArray⟩, .int .i64 f] w fun e w' => e = .returned (.agg #[.string ⟨s.toArray⟩, .int .i64 f, .bool (knownL s f), .bool (knownS f), .int .i64 (knownSize s f)]) ∧ Below w.heap.size w w' := by
  have hsz : (⟨s.toArray⟩ : ByteArray).size = s.length := rfl
  have hdt : (⟨s.toArray⟩ : ByteArray).data.toList = s := by simp
  by_cases hany : (knownL s f || knownS f) = true
  · have hok' := hok
    unfold knownOk at hok'
    rw [if_pos hany] at hok'
    simp only [Bool.and_eq_true, decide_eq_true_eq] at hok'
    obtain ⟨h2, hi0⟩ := hok'
    obtain ⟨i, hi, hix⟩ : ∃ i : Nat, i ≤ 3 ∧ Lib.indexByte bhwd (opLetter s f) = (i : Int) := by
      refine ⟨(Lib.indexByte bhwd (opLetter s f)).toNat, ?_, by omega⟩
      have := bhwd_le (opLetter s f)
      omega
    have hS : knownSize s f = 2 ^ i := by unfold knownSize; rw [if_pos hany, hix]; rfl
    rw [hS]
    by_cases h4 : f = 4
    · subst h4
      have hext := ext_12 s h2
      have hL : opLetter s 4 = s.getD 1 0 := by unfold opLetter; rw [if_pos rfl]
      rw [hL] at hix
      have := known_f4 ⟨s.toArray⟩ (s.getD 1 0) i w (by rw [hsz]; exact hl) (by rw [hsz]; exact h2) hi hix hext
      rw [show knownL s 4 = true from rfl, show knownS 4 = false from rfl]; exact this
    · have hext := ext_last s h2
      have hL : opLetter s f = lastLetter s := by unfold opLetter; rw [if_neg h4]
      rw [hL] at hix
      by_cases h11 : f = 11
      · subst h11
        have := known_f11 ⟨s.toArray⟩ (lastLetter s) i w (by rw [hsz]; exact hl) (by rw [hsz]; exact h2) hi hix hext
        rw [show knownL s 11 = true from rfl, show knownS 11 = false from rfl]; exact this
      · rcases hP : Lib.hasPrefix s [97, 109, 111] with _ | _
        · have hLd : knownL s f = false := by unfold knownL; rw [hP]; simp [h4, h11]
          rw [hLd] at hany ⊢
          have h5 : f = 5 ∨ f = 12 := by unfold knownS at hany; simp at hany; omega
          rcases h5 with rfl | rfl
          · have := known_f5 ⟨s.toArray⟩ (lastLetter s) i w (by rw [hdt]; exact hP) (by rw [hsz]; exact hl) (by rw [hsz]; exact h2) hi hix hext
            exact this
          · have := known_f12 ⟨s.toArray⟩ (lastLetter s) i w (by rw [hdt]; exact hP) (by rw [hsz]; exact hl) (by rw [hsz]; exact h2) hi hix hext
            exact this
        · have hLd : knownL s f = true := by unfold knownL; rw [hP]; simp
          rw [hLd]
          by_cases h5 : f = 5
          · subst h5
            have := known_f5p ⟨s.toArray⟩ (lastLetter s) i w (by rw [hdt]; exact hP) (by rw [hsz]; exact hl) (by rw [hsz]; exact h2) hi hix hext
            exact this
          · by_cases h12 : f = 12
            · subst h12
              have := known_f12p ⟨s.toArray⟩ (lastLetter s) i w (by rw [hdt]; exact hP) (by rw [hsz]; exact hl) (by rw [hsz]; exact h2) hi hix hext
              exact this
            · have := known_pre ⟨s.toArray⟩ f (lastLetter s) i w (by simpa using h4) (by simpa using h11) (by simpa using h5) (by simpa using h12) (by rw [hdt]; exact hP) (by rw [hsz]; exact hl) (by rw [hsz]; exact h2) hi hix hext
              rw [show knownS f = false by unfold knownS; simp [h5, h12]]
              exact this
  · have hany' : (knownL s f || knownS f) = false := by simpa using hany
    have hS : knownSize s f = 0 := by unfold knownSize; rw [if_neg hany]
    simp only [Bool.or_eq_false_iff] at hany'
    rw [hS, hany'.1, hany'.2]
    have h1 := hany'.1
    have h2 := hany'.2
    unfold knownL at h1
    unfold knownS at h2
    simp only [Bool.or_eq_false_iff] at h1 h2
    exact known_none ⟨s.toArray⟩ f w h1.1.1 h1.1.2 h2.1 h2.2 (by rw [hdt]; exact h1.2)
end Go.Proofs.YthoohbefncjkmaaDoor
