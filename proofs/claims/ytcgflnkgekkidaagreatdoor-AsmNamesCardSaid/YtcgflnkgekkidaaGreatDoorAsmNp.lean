/- Plain: a branch over so many instructions: it is long, or not; its words, its places. No program in sight. Conditions: none. -/
import Derived.Test.YtcgflnkgekkidaaGreatDoorAsmLv
import Derived.Test.YtcgflnkgekkidaaGreatDoorAsmPl
set_option linter.unusedSimpArgs false
set_option linter.unusedVariables false
namespace Go.Proofs.YtcgflnkgekkidaaGreatDoor
/-- A branch over m instructions that do nothing. -/
def farF (m k : Nat) : ItemV := if k = 0 then brV 0 else if k ≤ m then nopV else if k = m + 1 then lbV 0 else ⟨0, ⟨0, 0, 0, 0, 0, false, false, 0, 0⟩, 0, 0#64⟩
theorem far_0 (m : Nat) : farF m 0 = brV 0 := if_pos rfl
theorem far_n {m k : Nat} (h1 : 0 < k) (h2 : k ≤ m) : farF m k = nopV := by unfold farF; rw [if_neg (by omega), if_pos h2]
theorem far_l (m : Nat) : farF m (m + 1) = lbV 0 := by unfold farF; rw [if_neg (by omega), if_neg (by omega), if_pos rfl]
theorem far_cases {m k : Nat} (h : k < m + 2) : k = 0 ∨ (0 < k ∧ k ≤ m) ∨ k = m + 1 := by omega
theorem far_fit (m : Nat) : FitF (farF m) (m + 2) := fun k hk => by
  rcases far_cases hk with rfl | ⟨h1, h2⟩ | rfl
  · rw [far_0]; decide +kernel
  · rw [far_n h1 h2]; decide +kernel
  · rw [far_l]; decide +kernel
theorem far_lo (m : Nat) : ∀ k, k < m + 2 → -9223372036854775808 ≤ (farF m k).insn.op := fun k hk => by
  rcases far_cases hk with rfl | ⟨h1, h2⟩ | rfl
  · rw [far_0]; decide +kernel
  · rw [far_n h1 h2]; decide +kernel
  · rw [far_l]; decide +kernel
theorem far_may {m k : Nat} (hk : k < m + 2) : mayV (farF m k) = true := by
  rcases far_cases hk with rfl | ⟨h1, h2⟩ | rfl
  · rw [far_0]; decide +kernel
  · rw [far_n h1 h2]; decide +kernel
  · rw [far_l]; decide +kernel
theorem far_stand (m : Nat) : ∀ k, k ≤ m + 1 → standsF (farF m) k 0 = 0
  | 0, _ => rfl
  | k + 1, h => by
    show (if (farF m k).kind = 2 ∧ (0 : Int) = (farF m k).label then (1 : Int) else standsF (farF m) k 0) = 0
    have e : ¬ (farF m k).kind = 2 := by
      rcases Nat.eq_zero_or_pos k with rfl | h0
      · rw [far_0]; decide
      · rw [far_n h0 (by omega)]; decide
    rw [if_neg (fun hh => e hh.1)]
    exact far_stand m k (by omega)
theorem far_stands (m : Nat) : standsF (farF m) (m + 2) 0 = 1 := by
  show (if (farF m (m + 1)).kind = 2 ∧ (0 : Int) = (farF m (m + 1)).label then (1 : Int) else standsF (farF m) (m + 1) 0) = 1
  rw [far_l]; exact if_pos ⟨rfl, rfl⟩
theorem far_check (m : Nat) (hm : m + 2 ≤ 16384) : checkV (farF m) (m + 2) = 0 := by
  unfold checkV
  rw [if_neg (by omega), anyB_false (fun k hk => by rw [far_may hk]; rfl), if_neg (by decide), anyB_false (fun k hk => ?_), if_neg (by decide), anyB_false (fun k hk => ?_), if_neg (by decide)]
  · rcases far_cases hk with rfl | ⟨h1, h2⟩ | rfl
    · rw [far_0]
      show (_ && decide (standsF (farF m) (m + 2) 0 = 0)) = false
      rw [far_stands]; rfl
    · rw [far_n h1 h2]; rfl
    · rw [far_l]; rfl
  · rcases far_cases hk with rfl | ⟨h1, h2⟩ | rfl
    · rw [far_0]; rfl
    · rw [far_n h1 h2]; rfl
    · rw [far_l]
      show (_ && decide (standsF (farF m) (m + 1) 0 ≠ 0)) = false
      rw [far_stand m (m + 1) (Nat.le_refl _)]; rfl
theorem far_place (m : Nat) (L : Nat → Bool) (hL : ∀ k, 0 < k → L k = false) : ∀ k, k ≤ m → placeF (farF m) L (k + 1) = (k : Int) + 1 + (if L 0 = true then 1 else 0)
  | 0, _ => by
    show (0 : Int) + sizeW (farF m 0) (L 0) = _
    rw [far_0]
    unfold sizeW
    rw [show lenV (brV 0) false = 1 by decide]
    omega
  | k + 1, h => by
    show placeF (farF m) L (k + 1) + sizeW (farF m (k + 1)) (L (k + 1)) = _
    rw [far_place m L hL k (by omega), far_n (by omega) h, hL (k + 1) (by omega), show sizeW nopV false = 1 by decide]
    omega
theorem far_end (m : Nat) (L : Nat → Bool) (hL : ∀ k, 0 < k → L k = false) : placeF (farF m) L (m + 2) = (m : Int) + 1 + (if L 0 = true then 1 else 0) := by
  show placeF (farF m) L (m + 1) + sizeW (farF m (m + 1)) (L (m + 1)) = _
  rw [far_place m L hL m (Nat.le_refl _), far_l, hL (m + 1) (by omega), show sizeW (lbV 0) false = 0 by decide]
  omega
theorem far_lab (m : Nat) (L : Nat → Bool) (hL : ∀ k, 0 < k → L k = false) : labV (farF m) L (m + 2) 0 = (m : Int) + 1 + (if L 0 = true then 1 else 0) := by
  show (if (farF m (m + 1)).kind = 2 ∧ (0 : Int) = (farF m (m + 1)).label then placeF (farF m) L (m + 1) else labF (farF m) L (fun _ => 0) (m + 1) 0) = _
  rw [far_l, if_pos ⟨rfl, rfl⟩, far_place m L hL m (Nat.le_refl _)]
theorem far_way (m : Nat) (L : Nat → Bool) (hL : ∀ k, 0 < k → L k = false) (b : Int) : wayF (farF m) L (labV (farF m) L (m + 2)) 0 b = 4 * ((m : Int) + 1 + (if L 0 = true then 1 else 0) - b) := by
  unfold wayF
  rw [far_0]
  show 4 * (labV (farF m) L (m + 2) 0 - placeF (farF m) L 0 - b) = _
  rw [far_lab m L hL]
  show 4 * (_ - (0 : Int) - b) = _
  rw [Int.sub_zero]
theorem far_cond (m : Nat) (L : Nat → Bool) (hL : ∀ k, 0 < k → L k = false) (k : Nat) (hk : k < m + 2) : condF (farF m) (m + 2) L k = (decide (k = 0) && !L 0 && !Fits (4 * ((m : Int) + 1)) 13) := by
  unfold condF
  rcases far_cases hk with rfl | ⟨h1, h2⟩ | rfl
  · have hw := far_way m L hL 0
    rw [hw, far_0]
    cases h0 : L 0 with
    | true => simp
    | false =>
      rw [if_neg (by decide), Int.add_zero, Int.sub_zero]
      generalize Fits (4 * ((m : Int) + 1)) 13 = B
      cases B <;> rfl
  · rw [far_n h1 h2, decide_eq_false (show ¬ k = 0 by omega), show decide (nopV.kind = 3) = false from rfl]; simp only [Bool.false_and]
  · rw [far_l, decide_eq_false (show ¬ m + 1 = 0 by omega), show decide ((lbV 0).kind = 3) = false from rfl]; simp only [Bool.false_and]
theorem long_none (F : Nat → ItemV) (n : Nat) (h : anyB (condF F n (fun _ => false)) n = false) : longV F n = fun _ => false := by
  unfold longV
  rw [growF, if_neg (by rw [h]; decide)]
theorem long_one (F : Nat → ItemV) (n : Nat) (h1 : anyB (condF F n (fun _ => false)) n = true) (h2 : anyB (condF F n (stepF F n (fun _ => false))) n = false) (hn : 0 < n) : longV F n = stepF F n (fun _ => false) := by
  unfold longV
  obtain ⟨q, rfl⟩ : ∃ q, n = q + 1 := ⟨n - 1, by omega⟩
  rw [growF, if_pos h1, growF, if_neg (by rw [h2]; decide)]
theorem far_short : longV (farF 1022) 1024 = fun _ => false := by
  refine long_none _ _ (anyB_false fun k hk => ?_)
  · rw [far_cond 1022 _ (fun _ _ => rfl) k hk, show Fits (4 * (((1022 : Nat) : Int) + 1)) 13 = true by decide +kernel]; simp
theorem far_long : (∀ k, 0 < k → longV (farF 1023) 1025 k = false) ∧ longV (farF 1023) 1025 0 = true := by
  have hc : ∀ k, k < 1025 → condF (farF 1023) 1025 (fun _ => false) k = decide (k = 0) := fun k hk => by
    rw [far_cond 1023 _ (fun _ _ => rfl) k hk, show Fits (4 * (((1023 : Nat) : Int) + 1)) 13 = false by decide +kernel]; simp
  have hz : ∀ k, 0 < k → stepF (farF 1023) 1025 (fun _ => false) k = false := fun k h0 => by
    unfold stepF
    rw [Bool.false_or]
    rcases Nat.lt_or_ge k 1025 with h | h
    · rw [hc k h, decide_eq_false (by omega)]
    · unfold condF
      rw [show farF 1023 k = ⟨0, ⟨0, 0, 0, 0, 0, false, false, 0, 0⟩, 0, 0#64⟩ by unfold farF; rw [if_neg (by omega), if_neg (by omega), if_neg (by omega)]]
      rfl
  have h1 : stepF (farF 1023) 1025 (fun _ => false) 0 = true := by
    unfold stepF; rw [Bool.false_or, hc 0 (by decide)]; rfl
  have e : longV (farF 1023) 1025 = stepF (farF 1023) 1025 (fun _ => false) := by
    refine long_one _ _ (anyB_true (k := 0) (by decide) (by rw [hc 0 (by decide)]; rfl)) (anyB_false fun k hk => ?_) (by decide)
    · rw [far_cond 1023 _ hz k hk, h1]; simp
  rw [e]
  exact ⟨hz, h1⟩
theorem far_insns : insnsV (farF 1023) 1025 (longV (farF 1023) 1025) 0 = [⟨6, 0, 1, 2, 8, false, false, 0, 0⟩, ⟨3, 0, 0, 0, 4096, false, false, 0, 0⟩] := by
  unfold insnsV
  have hw := far_way 1023 (longV (farF 1023) 1025) far_long.1 1
  rw [if_pos far_long.2] at hw
  rw [if_pos far_long.2, show (1025 : Nat) = 1023 + 2 from rfl, hw, far_0]
  rfl
/-- What is built at a branch over 1,023 instructions. -/
theorem far_built : (outW (farF 1023) 1025).length = 1025 ∧ (outW (farF 1023) 1025).getD 0 0#32 = 0x00209463#32 ∧ (outW (farF 1023) 1025).getD 1 0#32 = 0x0000106f#32 ∧ placeF (farF 1023) (longV (farF 1023) 1025) 1 = 2 := by
  have e : outW (farF 1023) 1025 = wordsF (farF 1023) 1025 (longV (farF 1023) 1025) 1025 := if_pos (far_check 1023 (by decide))
  have hk : ∀ k, longV (farF 1023) 1025 k = true → (farF 1023 k).kind = 3 := fun k => longV_kind _ _ k
  refine ⟨?_, ?_, ?_, ?_⟩
  · have h := words_len (farF 1023) 1025 _ hk 1025
    have h2 := far_end 1023 _ far_long.1
    rw [if_pos far_long.2] at h2
    rw [e]
    have h3 : placeF (farF 1023) (longV (farF 1023) 1025) 1025 = ((1023 : Nat) : Int) + 1 + 1 := h2
    rw [h3] at h
    omega
  · have h := words_at (farF 1023) 1025 (longV (farF 1023) 1025) 0 0 ⟨6, 0, 1, 2, 8, false, false, 0, 0⟩ (by rw [far_insns]; rfl) 1025 (by decide)
    rw [e, List.getD_eq_getElem?_getD]
    rw [show (wordsF (farF 1023) 1025 (longV (farF 1023) 1025) 0).length + 0 = 0 from rfl] at h
    rw [h]; decide +kernel
  · have h := words_at (farF 1023) 1025 (longV (farF 1023) 1025) 0 1 ⟨3, 0, 0, 0, 4096, false, false, 0, 0⟩ (by rw [far_insns]; rfl) 1025 (by decide)
    rw [e, List.getD_eq_getElem?_getD]
    rw [show (wordsF (farF 1023) 1025 (longV (farF 1023) 1025) 0).length + 1 = 1 from rfl] at h
    rw [h]; decide +kernel
  · have h := far_place 1023 _ far_long.1 0 (by decide)
    rw [if_pos far_long.2] at h
    exact h
theorem far_outN (m : Nat) (hm : m + 2 ≤ 16384) : outN (farF m) (m + 2) = m + 2 := if_pos (far_check m hm)
theorem nm_none : checkV (itemsF [brV 1]) 1 = 6 := by decide +kernel
theorem nm_there : checkV (itemsF [lbV 1, lbV 1]) 2 = 8 := by decide +kernel
theorem nm_arg : checkV (itemsF [⟨0, ⟨0, 0, 0, 0, 0, false, false, 0, 0⟩, 0, 0#64⟩]) 1 = 2 := by decide +kernel
theorem nm_d0 : dumpT 0x00209463#32 = [98, 110, 101, 32, 120, 49, 44, 32, 120, 50, 44, 32, 56] := by decide +kernel
theorem nm_d1 : dumpT 0x0000106f#32 = [106, 97, 108, 32, 120, 48, 44, 32, 52, 48, 57, 54] := by decide +kernel
end Go.Proofs.YtcgflnkgekkidaaGreatDoor
