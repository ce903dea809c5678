/- Plain: sizes, places and words of a layout. No program in sight. Conditions: none. -/
import Derived.Test.YtcgflnkgekkidaaGreatDoorAsmC
set_option linter.unusedSimpArgs false
set_option linter.unusedVariables false
namespace Go.Proofs.YtcgflnkgekkidaaGreatDoor
theorem growF_kind (F : Nat → ItemV) (n : Nat) : ∀ (f : Nat) (L : Nat → Bool), (∀ k, L k = true → (F k).kind = 3) → ∀ k, growF F n f L k = true → (F k).kind = 3
  | 0, L, h, k, hk => h k hk
  | f + 1, L, h, k, hk => by
    unfold growF at hk
    split at hk
    · refine growF_kind F n f _ (fun j hj => ?_) k hk
      unfold stepF at hj
      rcases Bool.or_eq_true_iff.1 hj with hj | hj
      · exact h j hj
      · unfold condF at hj; simp at hj; exact hj.1.1
    · exact h k hk
theorem longV_kind (F : Nat → ItemV) (n k : Nat) (h : longV F n k = true) : (F k).kind = 3 := growF_kind F n (n + 1) _ (fun j hj => by cases hj) k h
theorem lenV_long (i : ItemV) (l : Bool) (h : l = true → i.kind = 3) : lenV i l = sizeW i l := by
  unfold sizeW lenV
  cases l with
  | false => simp
  | true =>
    have h3 := h rfl
    rw [if_neg (by rw [h3]; decide), if_neg (by rw [h3]; decide), if_pos ⟨h3, rfl⟩, if_neg (by rw [h3]; decide), if_neg (by rw [h3]; decide), if_neg (by simp)]
    rfl
theorem insns_size (F : Nat → ItemV) (n : Nat) (L : Nat → Bool) (k : Nat) (h : L k = true → (F k).kind = 3) : ((insnsV F n L k).length : Int) = sizeW (F k) (L k) := by
  rw [← lenV_long _ _ h]
  unfold insnsV lenV
  by_cases k2 : (F k).kind = 2
  · rw [if_pos k2, if_pos k2]; rfl
  rw [if_neg k2, if_neg k2]
  by_cases k5 : (F k).kind = 5
  · rw [if_pos k5, if_pos k5]
  rw [if_neg k5, if_neg k5]
  by_cases hL : L k = true
  · have k3 := h hL
    rw [if_pos (.inl k3), if_pos hL, if_pos ⟨k3, hL⟩]; rfl
  · rw [if_neg (c := (F k).kind = 3 ∧ L k = true) (fun hh => hL hh.2)]
    split
    · rfl
    · rfl
theorem words_len (F : Nat → ItemV) (n : Nat) (L : Nat → Bool) (h : ∀ k, L k = true → (F k).kind = 3) : ∀ k, ((wordsF F n L k).length : Int) = placeF F L k
  | 0 => rfl
  | k + 1 => by
    have ih := words_len F n L h k
    have hs := insns_size F n L k (h k)
    show (((wordsF F n L k ++ (insnsV F n L k).map wordV).length : Nat) : Int) = placeF F L k + sizeW (F k) (L k)
    rw [List.length_append, List.length_map]; omega
theorem words_at (F : Nat → ItemV) (n : Nat) (L : Nat → Bool) (k j : Nat) (i : InsnV) (hi : (insnsV F n L k)[j]? = some i) : ∀ m, k < m → (wordsF F n L m)[(wordsF F n L k).length + j]? = some (wordV i)
  | 0, h => absurd h (Nat.not_lt_zero _)
  | m + 1, h => by
    have hj : j < (insnsV F n L k).length := (List.getElem?_eq_some_iff.1 hi).1
    show (wordsF F n L m ++ (insnsV F n L m).map wordV)[_]? = _
    by_cases e : k = m
    · subst e
      rw [List.getElem?_append_right (Nat.le_add_right _ _), Nat.add_sub_cancel_left, List.getElem?_map, hi]; rfl
    · have ih := words_at F n L k j i hi m (by omega)
      rw [List.getElem?_append_left (List.getElem?_eq_some_iff.1 ih).1]; exact ih
theorem placeF_mono (F : Nat → ItemV) (L : Nat → Bool) (k : Nat) : ∀ m, k ≤ m → placeF F L k ≤ placeF F L m
  | 0, h => by obtain rfl : k = 0 := by omega
               exact Int.le_refl _
  | m + 1, h => by
    by_cases e : k = m + 1
    · rw [e]; exact Int.le_refl _
    · have ih := placeF_mono F L k m (by omega)
      have := (lenV_bd (F m) false).1
      show placeF F L k ≤ placeF F L m + sizeW (F m) (L m)
      unfold sizeW
      split <;> omega
theorem numF_pos (f : Nat) (rd : Int) (x : BitVec 64) : 1 ≤ (numF (f + 1) rd x).length := by
  unfold numF
  repeat' split
  all_goals simp only [List.length_append, List.length_cons, List.length_nil]
  all_goals omega
theorem size_pos (i : ItemV) (l : Bool) (h2 : i.kind ≠ 2) : 1 ≤ sizeW i l := by
  unfold sizeW lenV
  rw [if_neg h2]
  have hp : 1 ≤ (numV i.insn.rd i.addr).length := numF_pos 5 _ _
  split
  · split <;> omega
  · rw [if_neg (by simp)]; split <;> omega
theorem check_may {F : Nat → ItemV} {n : Nat} (h : checkV F n = 0) (k : Nat) (hk : k < n) : mayV (F k) = true := by
  unfold checkV at h
  rw [if_neg (by have := check_n (F := F) (n := n) (by unfold checkV; exact h); omega)] at h
  by_cases e : anyB (fun k => !mayV (F k)) n = true
  · rw [if_pos e] at h; cases h
  · have := anyB_no (p := fun k => !mayV (F k)) (n := n) (by simpa using e) k hk
    simpa using this
theorem may_insn {i : ItemV} (h : mayV i = true) (hk : i.kind = 1) : checkE i.insn = 0 := by
  unfold mayV at h
  rw [if_pos hk] at h
  simp only [Bool.and_eq_true, beq_iff_eq] at h
  exact h.1.1.1.1.1
theorem may_num {i : ItemV} (h : mayV i = true) (hk : i.kind = 5) : 1 ≤ i.insn.rd ∧ i.insn.rd ≤ 31 := by
  unfold mayV at h
  rw [if_neg (by rw [hk]; decide), if_neg (by rw [hk]; decide), if_neg (by rw [hk]; decide), if_neg (by rw [hk]; decide), if_pos hk] at h
  simp only [Bool.and_eq_true, decide_eq_true_eq] at h
  exact h.1.1
theorem reg_ok {r : Int} (h0 : 0 ≤ r) (h1 : r ≤ 31) : regBad r = false := by
  unfold regBad
  rw [decide_eq_false (by omega), decide_eq_false (by omega)]; rfl
theorem ck_addi (rd r imm : Int) (h : Fits imm 12 = true) (d0 : 0 ≤ rd) (d1 : rd ≤ 31) (r0 : 0 ≤ r) (r1 : r ≤ 31) : checkE ⟨22, rd, r, 0, imm, false, false, 0, 0⟩ = 0 := by
  have hf : (opOf 22).form = 3 := by decide +kernel
  unfold checkE checkOk
  rw [if_pos]
  show formOk (opOf 22).form _ _ = true
  rw [hf]
  show ((0 : Int) == 0 && !false && !false && (0 : Int) == 0 && (0 : Int) == 0 && Fits imm 12 && !badIn [rd, r]) = true
  rw [h]
  simp [badIn, reg_ok d0 d1, reg_ok r0 r1]
theorem ck_addiw (rd r imm : Int) (h : Fits imm 12 = true) (d0 : 0 ≤ rd) (d1 : rd ≤ 31) (r0 : 0 ≤ r) (r1 : r ≤ 31) : checkE ⟨31, rd, r, 0, imm, false, false, 0, 0⟩ = 0 := by
  have hf : (opOf 31).form = 3 := by decide +kernel
  unfold checkE checkOk
  rw [if_pos]
  show formOk (opOf 31).form _ _ = true
  rw [hf]
  show ((0 : Int) == 0 && !false && !false && (0 : Int) == 0 && (0 : Int) == 0 && Fits imm 12 && !badIn [rd, r]) = true
  rw [h]
  simp [badIn, reg_ok d0 d1, reg_ok r0 r1]
theorem ck_lui (rd imm : Int) (h : Fits imm 20 = true) (d0 : 0 ≤ rd) (d1 : rd ≤ 31) : checkE ⟨1, rd, 0, 0, imm, false, false, 0, 0⟩ = 0 := by
  have hf : (opOf 1).form = 1 := by decide +kernel
  unfold checkE checkOk
  rw [if_pos]
  show formOk (opOf 1).form _ _ = true
  rw [hf]
  show ((0 : Int) == 0 && (0 : Int) == 0 && !false && !false && (0 : Int) == 0 && (0 : Int) == 0 && Fits imm 20 && !badIn [rd]) = true
  rw [h]
  simp [badIn, reg_ok d0 d1]
theorem ck_slli (rd : Int) (d0 : 0 ≤ rd) (d1 : rd ≤ 31) : checkE ⟨28, rd, rd, 0, 12, false, false, 0, 0⟩ = 0 := by
  have hf : (opOf 28).form = 7 := by decide +kernel
  have hs : shortName (opOf 28).name = false := by decide +kernel
  unfold checkE checkOk
  rw [if_pos]
  show formOk (opOf 28).form (shortName (opOf 28).name) _ = true
  rw [hf, hs]
  show (decide ((0 : Int) ≤ 12) && decide ((12 : Int) ≤ 63) && (!false || decide ((12 : Int) ≤ 31)) && (0 : Int) == 0 && !false && !false && (0 : Int) == 0 && (0 : Int) == 0 && !badIn [rd, rd]) = true
  simp [badIn, reg_ok d0 d1]
theorem numF_ok (rd : Int) (d0 : 0 ≤ rd) (d1 : rd ≤ 31) : ∀ (f : Nat) (x : BitVec 64), ∀ i ∈ numF f rd x, checkE i = 0
  | 0, _, i, h => by cases h
  | f + 1, x, i, h => by
    have ih := numF_ok rd d0 d1 f (upV x)
    have hr := rest_bd x
    have hfr := fits12 (restV x) hr.1 hr.2
    unfold numF at h
    by_cases h1 : Fits (sn x) 12 = true
    · rw [if_pos h1] at h
      rw [List.mem_singleton] at h; subst h
      exact ck_addi rd 0 _ h1 d0 d1 (by decide) (by decide)
    · rw [if_neg h1] at h
      by_cases h2 : (Fits (sn x) 32 && Fits (sn (upV x)) 20) = true
      · rw [if_pos h2] at h
        have h3 := (Bool.and_eq_true_iff.1 h2).2
        split at h
        · rw [List.mem_singleton] at h; subst h
          exact ck_lui rd _ h3 d0 d1
        · rcases List.mem_cons.1 h with h | h
          · subst h; exact ck_lui rd _ h3 d0 d1
          · rw [List.mem_singleton] at h; subst h
            exact ck_addiw rd rd _ hfr d0 d1 d0 d1
      · rw [if_neg h2] at h
        split at h
        · rcases List.mem_append.1 h with h | h
          · exact ih i h
          · rw [List.mem_singleton] at h; subst h; exact ck_slli rd d0 d1
        · rcases List.mem_append.1 h with h | h
          · rcases List.mem_append.1 h with h | h
            · exact ih i h
            · rw [List.mem_singleton] at h; subst h; exact ck_slli rd d0 d1
          · rw [List.mem_singleton] at h; subst h
            exact ck_addi rd rd _ hfr d0 d1 d0 d1
theorem numV_ok (rd : Int) (x : BitVec 64) (h : 1 ≤ rd ∧ rd ≤ 31) : ∀ i ∈ numV rd x, checkE i = 0 := numF_ok rd (by omega) h.2 6 x
end Go.Proofs.YtcgflnkgekkidaaGreatDoor
