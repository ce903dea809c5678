/- Plain: sizes, places and words of a layout. No program in sight. Plain: where branches and jumps go; none is long without need; what is built for them may be. No program in sight. Conditions: as each theorem says. -/
import Derived.Test.YtcgflnkgekkidaaGreatDoorAsmC
set_option linter.unusedSimpArgs false
set_option linter.unusedVariables false
namespace Go.Proofs.YtcgflnkgekkidaaGreatDoor
theorem growF_kind (F : Nat → ItemV) (n : Nat) : ∀ (f : Nat) (L : Nat → Bool), (∀ k, L k = true → (F k).kind = 3) → ∀ k, growF F n f L k = true → (F k).kind = 3
  | 0, L, h, k, hk => h k hk
  | f + 1, L, h, k, hk => by
    unfold growF at hk
    split at hk
    · refine growF_kind F n f _ (fun j hj => ?_) k hk
      unfold stepF at hj
      rcases Bool.or_eq_true_iff.1 hj with hj | hj
      · exact h j hj
      · unfold condF at hj; simp at hj; exact hj.1.1
    · exact h k hk
theorem longV_kind (F : Nat → ItemV) (n k : Nat) (h : longV F n k = true) : (F k).kind = 3 := growF_kind F n (n + 1) _ (fun j hj => by cases hj) k h
theorem lenV_long (i : ItemV) (l : Bool) (h : l = true → i.kind = 3) : lenV i l = sizeW i l := by
  unfold sizeW lenV
  cases l with
  | false => simp
  | true =>
    have h3 := h rfl
    rw [if_neg (by rw [h3]; decide), if_neg (by rw [h3]; decide), if_pos ⟨h3, rfl⟩, if_neg (by rw [h3]; decide), if_neg (by rw [h3]; decide), if_neg (by simp)]
    rfl
theorem insns_size (F : Nat → ItemV) (n : Nat) (L : Nat → Bool) (k : Nat) (h : L k = true → (F k).kind = 3) : ((insnsV F n L k).length : Int) = sizeW (F k) (L k) := by
  rw [← lenV_long _ _ h]
  unfold insnsV lenV
  by_cases k2 : (F k).kind = 2
  · rw [if_pos k2, if_pos k2]; rfl
  rw [if_neg k2, if_neg k2]
  by_cases k5 : (F k).kind = 5
  · rw [if_pos k5, if_pos k5]
  rw [if_neg k5, if_neg k5]
  by_cases hL : L k = true
  · have k3 := h hL
    rw [if_pos (.inl k3), if_pos hL, if_pos ⟨k3, hL⟩]; rfl
  · rw [if_neg (c := (F k).kind = 3 ∧ L k = true) (fun hh => hL hh.2)]
    split
    · rfl
    · rfl
theorem words_len (F : Nat → ItemV) (n : Nat) (L : Nat → Bool) (h : ∀ k, L k = true → (F k).kind = 3) : ∀ k, ((wordsF F n L k).length : Int) = placeF F L k
  | 0 => rfl
  | k + 1 => by
    have ih := words_len F n L h k
    have hs := insns_size F n L k (h k)
    show (((wordsF F n L k ++ (insnsV F n L k).map wordV).length : Nat) : Int) = placeF F L k + sizeW (F k) (L k)
    rw [List.length_append, List.length_map]; omega
theorem words_at (F : Nat → ItemV) (n : Nat) (L : Nat → Bool) (k j : Nat) (i : InsnV) (hi : (insnsV F n L k)[j]? = some i) : ∀ m, k < m → (wordsF F n L m)[(wordsF F n L k).length + j]? = some (wordV i)
  | 0, h => absurd h (Nat.not_lt_zero _)
  | m + 1, h => by
    have hj : j < (insnsV F n L k).length := (List.getElem?_eq_some_iff.1 hi).1
    show (wordsF F n L m ++ (insnsV F n L m).map wordV)[_]? = _
    by_cases e : k = m
    · subst e
      rw [List.getElem?_append_right (Nat.le_add_right _ _), Nat.add_sub_cancel_left, List.getElem?_map, hi]; rfl
    · have ih := words_at F n L k j i hi m (by omega)
      rw [List.getElem?_append_left (List.getElem?_eq_some_iff.1 ih).1]; exact ih
theorem placeF_mono (F : Nat → ItemV) (L : Nat → Bool) (k : Nat) : ∀ m, k ≤ m → placeF F L k ≤ placeF F L m
  | 0, h => by obtain rfl : k = 0 := by omega
               exact Int.le_refl _
  | m + 1, h => by
    by_cases e : k = m + 1
    · rw [e]; exact Int.le_refl _
    · have ih := placeF_mono F L k m (by omega)
      have := (lenV_bd (F m) false).1
      show placeF F L k ≤ placeF F L m + sizeW (F m) (L m)
      unfold sizeW
      split <;> omega
theorem numF_pos (f : Nat) (rd : Int) (x : BitVec 64) : 1 ≤ (numF (f + 1) rd x).length := by
  unfold numF
  repeat' split
  all_goals simp only [List.length_append, List.length_cons, List.length_nil]
  all_goals omega
theorem size_pos (i : ItemV) (l : Bool) (h2 : i.kind ≠ 2) : 1 ≤ sizeW i l := by
  unfold sizeW lenV
  rw [if_neg h2]
  have hp : 1 ≤ (numV i.insn.rd i.addr).length := numF_pos 5 _ _
  split
  · split <;> omega
  · rw [if_neg (by simp)]; split <;> omega
theorem check_may {F : Nat → ItemV} {n : Nat} (h : checkV F n = 0) (k : Nat) (hk : k < n) : mayV (F k) = true := by
  unfold checkV at h
  rw [if_neg (by have := check_n (F := F) (n := n) (by unfold checkV; exact h); omega)] at h
  by_cases e : anyB (fun k => !mayV (F k)) n = true
  · rw [if_pos e] at h; cases h
  · have := anyB_no (p := fun k => !mayV (F k)) (n := n) (by simpa using e) k hk
    simpa using this
theorem may_insn {i : ItemV} (h : mayV i = true) (hk : i.kind = 1) : checkE i.insn = 0 := by
  unfold mayV at h
  rw [if_pos hk] at h
  simp only [Bool.and_eq_true, beq_iff_eq] at h
  exact h.1.1.1.1.1
theorem may_num {i : ItemV} (h : mayV i = true) (hk : i.kind = 5) : 1 ≤ i.insn.rd ∧ i.insn.rd ≤ 31 := by
  unfold mayV at h
  rw [if_neg (by rw [hk]; decide), if_neg (by rw [hk]; decide), if_neg (by rw [hk]; decide), if_neg (by rw [hk]; decide), if_pos hk] at h
  simp only [Bool.and_eq_true, decide_eq_true_eq] at h
  exact h.1.1
theorem reg_ok {r : Int} (h0 : 0 ≤ r) (h1 : r ≤ 31) : regBad r = false := by
  unfold regBad
  rw [decide_eq_false (by omega), decide_eq_false (by omega)]; rfl
theorem ck_addi (rd r imm : Int) (h : Fits imm 12 = true) (d0 : 0 ≤ rd) (d1 : rd ≤ 31) (r0 : 0 ≤ r) (r1 : r ≤ 31) : checkE ⟨22, rd, r, 0, imm, false, false, 0, 0⟩ = 0 := by
  have hf : (opOf 22).form = 3 := by decide +kernel
  unfold checkE checkOk
  rw [if_pos]
  show formOk (opOf 22).form _ _ = true
  rw [hf]
  show ((0 : Int) == 0 && !false && !false && (0 : Int) == 0 && (0 : Int) == 0 && Fits imm 12 && !badIn [rd, r]) = true
  rw [h]
  simp [badIn, reg_ok d0 d1, reg_ok r0 r1]
theorem ck_addiw (rd r imm : Int) (h : Fits imm 12 = true) (d0 : 0 ≤ rd) (d1 : rd ≤ 31) (r0 : 0 ≤ r) (r1 : r ≤ 31) : checkE ⟨31, rd, r, 0, imm, false, false, 0, 0⟩ = 0 := by
  have hf : (opOf 31).form = 3 := by decide +kernel
  unfold checkE checkOk
  rw [if_pos]
  show formOk (opOf 31).form _ _ = true
  rw [hf]
  show ((0 : Int) == 0 && !false && !false && (0 : Int) == 0 && (0 : Int) == 0 && Fits imm 12 && !badIn [rd, r]) = true
  rw [h]
  simp [badIn, reg_ok d0 d1, reg_ok r0 r1]
theorem ck_lui (rd imm : Int) (h : Fits imm 20 = true) (d0 : 0 ≤ rd) (d1 : rd ≤ 31) : checkE ⟨1, rd, 0, 0, imm, false, false, 0, 0⟩ = 0 := by
  have hf : (opOf 1).form = 1 := by decide +kernel
  unfold checkE checkOk
  rw [if_pos]
  show formOk (opOf 1).form _ _ = true
  rw [hf]
  show ((0 : Int) == 0 && (0 : Int) == 0 && !false && !false && (0 : Int) == 0 && (0 : Int) == 0 && Fits imm 20 && !badIn [rd]) = true
  rw [h]
  simp [badIn, reg_ok d0 d1]
theorem ck_slli (rd : Int) (d0 : 0 ≤ rd) (d1 : rd ≤ 31) : checkE ⟨28, rd, rd, 0, 12, false, false, 0, 0⟩ = 0 := by
  have hf : (opOf 28).form = 7 := by decide +kernel
  have hs : shortName (opOf 28).name = false := by decide +kernel
  unfold checkE checkOk
  rw [if_pos]
  show formOk (opOf 28).form (shortName (opOf 28).name) _ = true
  rw [hf, hs]
  show (decide ((0 : Int) ≤ 12) && decide ((12 : Int) ≤ 63) && (!false || decide ((12 : Int) ≤ 31)) && (0 : Int) == 0 && !false && !false && (0 : Int) == 0 && (0 : Int) == 0 && !badIn [rd, rd]) = true
  simp [badIn, reg_ok d0 d1]
theorem numF_ok (rd : Int) (d0 : 0 ≤ rd) (d1 : rd ≤ 31) : ∀ (f : Nat) (x : BitVec 64), ∀ i ∈ numF f rd x, checkE i = 0
  | 0, _, i, h => by cases h
  | f + 1, x, i, h => by
    have ih := numF_ok rd d0 d1 f (upV x)
    have hr := rest_bd x
    have hfr := fits12 (restV x) hr.1 hr.2
    unfold numF at h
    by_cases h1 : Fits (sn x) 12 = true
    · rw [if_pos h1] at h
      rw [List.mem_singleton] at h; subst h
      exact ck_addi rd 0 _ h1 d0 d1 (by decide) (by decide)
    · rw [if_neg h1] at h
      by_cases h2 : (Fits (sn x) 32 && Fits (sn (upV x)) 20) = true
      · rw [if_pos h2] at h
        have h3 := (Bool.and_eq_true_iff.1 h2).2
        split at h
        · rw [List.mem_singleton] at h; subst h
          exact ck_lui rd _ h3 d0 d1
        · rcases List.mem_cons.1 h with h | h
          · subst h; exact ck_lui rd _ h3 d0 d1
          · rw [List.mem_singleton] at h; subst h
            exact ck_addiw rd rd _ hfr d0 d1 d0 d1
      · rw [if_neg h2] at h
        split at h
        · rcases List.mem_append.1 h with h | h
          · exact ih i h
          · rw [List.mem_singleton] at h; subst h; exact ck_slli rd d0 d1
        · rcases List.mem_append.1 h with h | h
          · rcases List.mem_append.1 h with h | h
            · exact ih i h
            · rw [List.mem_singleton] at h; subst h; exact ck_slli rd d0 d1
          · rw [List.mem_singleton] at h; subst h
            exact ck_addi rd rd _ hfr d0 d1 d0 d1
theorem numV_ok (rd : Int) (x : BitVec 64) (h : 1 ≤ rd ∧ rd ≤ 31) : ∀ i ∈ numV rd x, checkE i = 0 := numF_ok rd (by omega) h.2 6 x
end Go.Proofs.YtcgflnkgekkidaaGreatDoor
namespace Go.Proofs.YtcgflnkgekkidaaGreatDoor
/-- A label that stands has one place, however the items are laid. -/
theorem lab_idx (F : Nat → ItemV) (x : Int) : ∀ n, standsF F n x ≠ 0 → ∃ k, k < n ∧ (F k).kind = 2 ∧ (F k).label = x ∧ ∀ L m, labF F L m n x = placeF F L k
  | 0, h => absurd rfl h
  | n + 1, h => by
    by_cases e : (F n).kind = 2 ∧ x = (F n).label
    · exact ⟨n, Nat.lt_succ_self n, e.1, e.2.symm, fun L m => if_pos e⟩
    · have h2 : standsF F n x ≠ 0 := by
        have hs : standsF F (n + 1) x = standsF F n x := if_neg e
        rwa [hs] at h
      obtain ⟨k, h3, h4, h5, h6⟩ := lab_idx F x n h2
      exact ⟨k, by omega, h4, h5, fun L m => (if_neg e).trans (h6 L m)⟩
theorem size_mono (i : ItemV) {a b : Bool} (h : a = true → b = true) : sizeW i a ≤ sizeW i b := by
  unfold sizeW
  cases a <;> cases b <;> simp_all <;> omega
/-- Places lie no nearer where more branches are long. -/
theorem place_apart (F : Nat → ItemV) (L L' : Nat → Bool) (h : ∀ j, L j = true → L' j = true) (a : Nat) : ∀ b, a ≤ b → placeF F L b - placeF F L a ≤ placeF F L' b - placeF F L' a
  | 0, hb => by
    obtain rfl : a = 0 := by omega
    simp
  | b + 1, hb => by
    rcases Nat.lt_or_ge b a with h2 | h2
    · obtain rfl : a = b + 1 := by omega
      simp
    · have ih := place_apart F L L' h a b h2
      have hs := size_mono (F b) (h b)
      show placeF F L b + sizeW (F b) (L b) - placeF F L a ≤ placeF F L' b + sizeW (F b) (L' b) - placeF F L' a
      omega
theorem size_long (i : ItemV) : sizeW i true = sizeW i false + 1 := by unfold sizeW; simp
/-- A branch that has become long is a word more. -/
theorem place_apart1 (F : Nat → ItemV) (L L' : Nat → Bool) (h : ∀ j, L j = true → L' j = true) (a : Nat) (h0 : L a = false) (h1 : L' a = true) : ∀ b, a < b → placeF F L b - placeF F L a + 1 ≤ placeF F L' b - placeF F L' a
  | 0, hb => absurd hb (Nat.not_lt_zero _)
  | b + 1, hb => by
    show placeF F L b + sizeW (F b) (L b) - placeF F L a + 1 ≤ placeF F L' b + sizeW (F b) (L' b) - placeF F L' a
    rcases Nat.lt_or_ge a b with h2 | h2
    · have ih := place_apart1 F L L' h a h0 h1 b h2
      have hs := size_mono (F b) (h b)
      omega
    · obtain rfl : a = b := by omega
      rw [h0, h1, size_long]
      omega
theorem fits13 (v : Int) (h1 : -4096 ≤ v) (h2 : v ≤ 4095) : Fits v 13 = true := by
  unfold Fits Sign sn
  rw [show (64 - cl 13) = 51 by decide, BitVec.toInt_sshiftRight, beq_iff_eq, BitVec.toInt_shiftLeft]
  have e : (bv v).toNat = (v % 18446744073709551616).toNat := by
    unfold bv
    simp
  rw [e, Int.shiftRight_eq_div_pow]
  simp only [Int.bmod_def, Nat.shiftLeft_eq]
  omega
theorem fits13_bd (v : Int) (h : Fits v 13 = true) : -4096 ≤ v ∧ v ≤ 4095 := by
  unfold Fits Sign sn at h
  rw [show (64 - cl 13) = 51 by decide, BitVec.toInt_sshiftRight, beq_iff_eq] at h
  have h1 := BitVec.le_toInt (bv v <<< 51)
  have h2 := BitVec.toInt_lt (x := bv v <<< 51)
  simp only [Int.shiftRight_eq_div_pow] at *
  omega
/-- How far branch k is from its label, at least, if it is long. -/
def FarF (F : Nat → ItemV) (n : Nat) (L : Nat → Bool) (k : Nat) : Prop := (0 < labV F L n (F k).label - placeF F L k → 4096 ≤ 4 * (labV F L n (F k).label - placeF F L k - 1)) ∧ (labV F L n (F k).label - placeF F L k ≤ 0 → 4 * (labV F L n (F k).label - placeF F L k) < -4096)
def InvF (F : Nat → ItemV) (n : Nat) (L : Nat → Bool) : Prop := ∀ k, k < n → L k = true → (F k).kind = 3 ∧ FarF F n L k
theorem far_mono (F : Nat → ItemV) (n : Nat) (L L' : Nat → Bool) (h : ∀ j, L j = true → L' j = true) (k : Nat) (hk3 : (F k).kind = 3) (hs : standsF F n (F k).label ≠ 0) (hf : FarF F n L k) : FarF F n L' k := by
  obtain ⟨j, hj, h2, -, hl⟩ := lab_idx F _ n hs
  have e1 : labV F L n (F k).label = placeF F L j := hl L _
  have e2 : labV F L' n (F k).label = placeF F L' j := hl L' _
  unfold FarF at *
  rw [e1] at hf
  rw [e2]
  have hne : j ≠ k := fun e => by rw [e, hk3] at h2; cases h2
  rcases Nat.lt_or_ge k j with h5 | h5
  · have a1 := place_apart F L L' h k j (Nat.le_of_lt h5)
    have a2 := placeF_mono F L (k + 1) j h5
    have a3 := size_pos (F k) (L k) (by rw [hk3]; decide)
    have a4 : placeF F L (k + 1) = placeF F L k + sizeW (F k) (L k) := rfl
    omega
  · have a1 := place_apart F L L' h j k h5
    have a2 := placeF_mono F L j k h5
    have a5 := placeF_mono F L' j k h5
    omega
theorem far_new (F : Nat → ItemV) (n : Nat) (L L' : Nat → Bool) (h : ∀ j, L j = true → L' j = true) (k : Nat) (hk3 : (F k).kind = 3) (hs : standsF F n (F k).label ≠ 0) (h0 : L k = false) (h1 : L' k = true) (hf : Fits (wayF F L (labV F L n) k 0) 13 = false) : FarF F n L' k := by
  obtain ⟨j, hj, h2, -, hl⟩ := lab_idx F _ n hs
  have e1 : labV F L n (F k).label = placeF F L j := hl L _
  have e2 : labV F L' n (F k).label = placeF F L' j := hl L' _
  unfold wayF at hf
  unfold FarF
  rw [e1, Int.sub_zero] at hf
  rw [e2]
  have hb : ¬ (-4096 ≤ 4 * (placeF F L j - placeF F L k) ∧ 4 * (placeF F L j - placeF F L k) ≤ 4095) := fun hh => by
    rw [fits13 _ hh.1 hh.2] at hf; cases hf
  have hne : j ≠ k := fun e => by rw [e, hk3] at h2; cases h2
  rcases Nat.lt_or_ge k j with h5 | h5
  · have a1 := place_apart1 F L L' h k h0 h1 j h5
    have a2 := placeF_mono F L (k + 1) j h5
    have a3 := size_pos (F k) (L k) (by rw [hk3]; decide)
    have a4 : placeF F L (k + 1) = placeF F L k + sizeW (F k) (L k) := rfl
    omega
  · have a1 := place_apart F L L' h j k h5
    have a2 := placeF_mono F L j k h5
    have a5 := placeF_mono F L' j k h5
    omega
theorem inv_step (F : Nat → ItemV) (n : Nat) (L : Nat → Bool) (hs : ∀ k, k < n → (F k).kind = 3 → standsF F n (F k).label ≠ 0) (h : InvF F n L) : InvF F n (stepF F n L) := fun k hk hk1 => by
  have hm : ∀ j, L j = true → stepF F n L j = true := fun j hj => by unfold stepF; rw [hj]; rfl
  cases h0 : L k with
  | true =>
    obtain ⟨h3, hf⟩ := h k hk h0
    exact ⟨h3, far_mono F n L _ hm k h3 (hs k hk h3) hf⟩
  | false =>
    have hc : condF F n L k = true := by unfold stepF at hk1; rwa [h0, Bool.false_or] at hk1
    unfold condF at hc
    simp only [Bool.and_eq_true, decide_eq_true_eq, Bool.not_eq_true'] at hc
    exact ⟨hc.1.1, far_new F n L _ hm k hc.1.1 (hs k hk hc.1.1) h0 hk1 hc.2⟩
theorem inv_grow (F : Nat → ItemV) (n : Nat) (hs : ∀ k, k < n → (F k).kind = 3 → standsF F n (F k).label ≠ 0) : ∀ (f : Nat) (L : Nat → Bool), InvF F n L → InvF F n (growF F n f L)
  | 0, L, h => h
  | f + 1, L, h => by
    rw [growF]
    by_cases e : anyB (condF F n L) n = true
    · rw [if_pos e]; exact inv_grow F n hs f _ (inv_step F n L hs h)
    · rw [if_neg e]; exact h
theorem grow_fix (F : Nat → ItemV) (n : Nat) : ∀ (f : Nat) (L : Nat → Bool), n < f + cntF L n → anyB (condF F n (growF F n f L)) n = false
  | 0, L, h => by have := cntF_le L n; omega
  | f + 1, L, h => by
    rw [growF]
    by_cases e : anyB (condF F n L) n = true
    · rw [if_pos e]
      have := cntF_step F n L e
      exact grow_fix F n f _ (by omega)
    · rw [if_neg e]; simpa using e
theorem check_stands {F : Nat → ItemV} {n : Nat} (h : checkV F n = 0) (k : Nat) (hk : k < n) (hg : (F k).kind = 3 ∨ (F k).kind = 4) : standsF F n (F k).label ≠ 0 := fun h0 => by
  have hn := check_n h
  unfold checkV at h
  rw [if_neg (by omega)] at h
  by_cases e1 : anyB (fun k => !mayV (F k)) n = true
  · rw [if_pos e1] at h; cases h
  rw [if_neg e1] at h
  by_cases e2 : anyB (fun k => decide ((F k).kind = 2) && decide (standsF F k (F k).label ≠ 0)) n = true
  · rw [if_pos e2] at h; cases h
  rw [if_neg e2, if_pos (anyB_true hk (by
    rw [decide_eq_true h0, Bool.and_true]
    unfold goesV
    rcases hg with hg | hg <;> rw [hg] <;> rfl))] at h
  cases h
/-- A branch is long just where it would not reach its label. -/
theorem long_need (F : Nat → ItemV) (n : Nat) (h : checkV F n = 0) (k : Nat) (hk : k < n) (hk3 : (F k).kind = 3) : (longV F n k = true → FarF F n (longV F n) k) ∧ (longV F n k = false → -4096 ≤ 4 * (labV F (longV F n) n (F k).label - placeF F (longV F n) k) ∧ 4 * (labV F (longV F n) n (F k).label - placeF F (longV F n) k) ≤ 4092) := by
  constructor
  · intro hl
    exact (inv_grow F n (fun j hj h3 => check_stands h j hj (.inl h3)) (n + 1) (fun _ => false) (fun j _ hj => by cases hj) k hk hl).2
  · intro hl
    have hf := anyB_no (grow_fix F n (n + 1) (fun _ => false) (by omega)) k hk
    have hf2 : condF F n (longV F n) k = false := hf
    unfold condF at hf2
    rw [hl, decide_eq_true hk3] at hf2
    have hft : Fits (wayF F (longV F n) (labV F (longV F n) n) k 0) 13 = true := by simpa using hf2
    have hb := fits13_bd _ hft
    unfold wayF at hb
    omega
theorem even4 (x : Int) : ((4 * x).tmod 2 != 0) = false := by
  have : (4 * x).tmod 2 = 0 := by
    rw [show 4 * x = 2 * (2 * x) by omega]
    exact Int.mul_tmod_right 2 (2 * x)
  rw [this]; rfl
/-- A branch, its way put in, may be. -/
theorem ck_branch {i : InsnV} (h : checkE i = 0) (hf : (opOf i.op).form = 6) (x : Int) (hx : Fits (4 * x) 13 = true) : checkE { i with imm := 4 * x } = 0 := by
  have hok : checkOk i = true := by
    unfold checkE at h
    cases hk : checkOk i with
    | true => rfl
    | false => rw [hk] at h; cases h
  unfold checkOk at hok
  rw [hf] at hok
  unfold checkE checkOk
  rw [if_pos]
  show formOk (opOf i.op).form _ _ = true
  rw [hf]
  simp only [formOk, show ((6 : Int) = 1) = False by simp, show ((6 : Int) = 2) = False by simp, show ((6 : Int) = 3) = False by simp, show ((6 : Int) = 4) = False by simp, show ((6 : Int) = 5) = False by simp, if_false, if_true, Bool.and_eq_true] at hok ⊢
  obtain ⟨⟨⟨⟨⟨⟨⟨h1, h2⟩, h3⟩, h4⟩, h5⟩, h6⟩, h7⟩, h8⟩ := hok
  exact ⟨⟨⟨⟨⟨⟨⟨h1, h2⟩, h3⟩, h4⟩, h5⟩, hx⟩, by rw [even4]; rfl⟩, h8⟩
theorem ck_jump {i : InsnV} (h : checkE i = 0) (hf : (opOf i.op).form = 2) (x : Int) (hx : Fits (4 * x) 21 = true) : checkE { i with imm := 4 * x } = 0 := by
  have hok : checkOk i = true := by
    unfold checkE at h
    cases hk : checkOk i with
    | true => rfl
    | false => rw [hk] at h; cases h
  unfold checkOk at hok
  rw [hf] at hok
  unfold checkE checkOk
  rw [if_pos]
  show formOk (opOf i.op).form _ _ = true
  rw [hf]
  simp only [formOk, show ((2 : Int) = 1) = False by simp, if_false, if_true, Bool.and_eq_true] at hok ⊢
  obtain ⟨⟨⟨⟨⟨⟨⟨⟨h1, h2⟩, h3⟩, h4⟩, h5⟩, h6⟩, h7⟩, h8⟩, h9⟩ := hok
  exact ⟨⟨⟨⟨⟨⟨⟨⟨h1, h2⟩, h3⟩, h4⟩, h5⟩, h6⟩, hx⟩, by rw [even4]; rfl⟩, h9⟩
theorem form6_ops : ((List.range 88).all fun n => !decide ((opOf (n : Int)).form = 6) || (decide (5 ≤ n) && decide (n ≤ 10))) = true := by decide +kernel
theorem form2_ops : ((List.range 88).all fun n => !decide ((opOf (n : Int)).form = 2) || decide (n = 3)) = true := by decide +kernel
theorem op_range (op : Int) (f : Int) (hf : f ≠ 0) (h : (opOf op).form = f) : ∃ m : Nat, op = m ∧ m < 88 := by
  by_cases h1 : op < 1
  · unfold opOf at h; rw [if_pos h1] at h; exact absurd h.symm hf
  · by_cases h2 : 87 < op
    · rw [opOf_big op h2] at h; exact absurd h.symm hf
    · exact ⟨op.toNat, by omega, by omega⟩
theorem form6_op {op : Int} (h : (opOf op).form = 6) : 5 ≤ op ∧ op ≤ 10 := by
  obtain ⟨m, rfl, hm⟩ := op_range op 6 (by decide) h
  have := List.all_eq_true.1 form6_ops m (List.mem_range.2 hm)
  rw [decide_eq_true h] at this
  simp only [Bool.not_true, Bool.false_or, Bool.and_eq_true, decide_eq_true_eq] at this
  omega
theorem form2_op {op : Int} (h : (opOf op).form = 2) : op = 3 := by
  obtain ⟨m, rfl, hm⟩ := op_range op 2 (by decide) h
  have := List.all_eq_true.1 form2_ops m (List.mem_range.2 hm)
  rw [decide_eq_true h] at this
  simp only [Bool.not_true, Bool.false_or, decide_eq_true_eq] at this
  omega
/-- The other branch may be, too. -/
theorem ck_turned {i : InsnV} (h : checkE i = 0) (hf : (opOf i.op).form = 6) : checkE { i with op := turnedV i.op, imm := 8 } = 0 := by
  obtain ⟨h1, h2⟩ := form6_op hf
  have hok : checkOk i = true := by
    unfold checkE at h
    cases hk : checkOk i with
    | true => rfl
    | false => rw [hk] at h; cases h
  unfold checkOk at hok
  rw [hf] at hok
  have hf2 : (opOf (turnedV i.op)).form = 6 := by
    have hx : i.op = 5 ∨ i.op = 6 ∨ i.op = 7 ∨ i.op = 8 ∨ i.op = 9 ∨ i.op = 10 := by omega
    rcases hx with e | e | e | e | e | e <;> rw [e] <;> decide +kernel
  unfold checkE checkOk
  rw [if_pos]
  show formOk (opOf (turnedV i.op)).form _ _ = true
  rw [hf2]
  simp only [formOk, show ((6 : Int) = 1) = False by simp, show ((6 : Int) = 2) = False by simp, show ((6 : Int) = 3) = False by simp, show ((6 : Int) = 4) = False by simp, show ((6 : Int) = 5) = False by simp, if_false, if_true, Bool.and_eq_true] at hok ⊢
  obtain ⟨⟨⟨⟨⟨⟨⟨h1, h2⟩, h3⟩, h4⟩, h5⟩, h6⟩, h7⟩, h8⟩ := hok
  exact ⟨⟨⟨⟨⟨⟨⟨h1, h2⟩, h3⟩, h4⟩, h5⟩, by decide +kernel⟩, by decide⟩, h8⟩
theorem ck_far (x : Int) (hx : Fits (4 * x) 21 = true) : checkE ⟨3, 0, 0, 0, 4 * x, false, false, 0, 0⟩ = 0 :=
  ck_jump (i := ⟨3, 0, 0, 0, 0, false, false, 0, 0⟩) (by decide +kernel) (by decide +kernel) x hx
end Go.Proofs.YtcgflnkgekkidaaGreatDoor
