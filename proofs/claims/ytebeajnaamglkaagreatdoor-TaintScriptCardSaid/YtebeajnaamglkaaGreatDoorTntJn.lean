/- Plain: what two rising lists give as one. No program in sight. Conditions: none. -/
import Derived.Test.YtebeajnaamglkaaGreatDoorTntMw
set_option linter.unusedSimpArgs false
set_option linter.unusedVariables false
namespace Go.Proofs.YtebeajnaamglkaaGreatDoor
theorem risingF_cons {c x : Int} {l : List Int} : risingF c (x :: l) = true ↔ c < x ∧ risingF x l = true := by simp [risingF]
theorem risingF_lo : ∀ {l : List Int} {c x : Int}, risingF c l = true → x ∈ l → c < x
  | [], _, _, _, hx => absurd hx (by simp)
  | y :: l, c, x, h, hx => by
    rw [risingF_cons] at h
    rcases List.mem_cons.1 hx with rfl | hx
    · exact h.1
    · have := risingF_lo h.2 hx; omega
theorem risingF_mono {l : List Int} {c d : Int} (h : risingF c l = true) (hd : d ≤ c) : risingF d l = true := by
  cases l with
  | nil => rfl
  | cons x l => rw [risingF_cons] at h ⊢; exact ⟨by omega, h.2⟩
theorem mem_mergeF : ∀ (n : Nat) (a b : List Int) (x : Int), a.length + b.length ≤ n → (x ∈ mergeF n a b ↔ x ∈ a ∨ x ∈ b)
  | 0, a, b, x, _ => by simp [mergeF]
  | n + 1, [], b, x, _ => by simp [mergeF]
  | n + 1, y :: a, [], x, _ => by simp [mergeF]
  | n + 1, y :: a, z :: b, x, h => by
    simp only [List.length_cons] at h
    rcases Int.lt_trichotomy y z with e | e | e
    · rw [mergeF_lt e, List.mem_cons, mem_mergeF n a (z :: b) x (by simp only [List.length_cons]; omega)]; simp [or_assoc]
    · rw [mergeF_eq e, List.mem_cons, mem_mergeF n a b x (by omega), e]; simp only [List.mem_cons]
      constructor
      · rintro (h | h | h) <;> simp [h]
      · rintro ((h | h) | (h | h)) <;> simp [h]
    · rw [mergeF_gt e, List.mem_cons, mem_mergeF n (y :: a) b x (by simp only [List.length_cons]; omega)]
      simp only [List.mem_cons]
      constructor
      · rintro (h | (h | h) | h) <;> simp [h]
      · rintro ((h | h) | (h | h)) <;> simp [h]
theorem rising_mergeF : ∀ (n : Nat) (a b : List Int) (c : Int), a.length + b.length ≤ n → risingF c a = true → risingF c b = true → risingF c (mergeF n a b) = true
  | 0, a, b, c, h, ha, hb => by
    obtain rfl := List.eq_nil_of_length_eq_zero (by omega : a.length = 0)
    exact hb
  | n + 1, [], b, c, _, _, hb => hb
  | n + 1, y :: a, [], c, _, ha, _ => ha
  | n + 1, y :: a, z :: b, c, h, ha, hb => by
    simp only [List.length_cons] at h
    rw [risingF_cons] at ha hb
    rcases Int.lt_trichotomy y z with e | e | e
    · rw [mergeF_lt e, risingF_cons]; exact ⟨ha.1, rising_mergeF n a (z :: b) y (by simp only [List.length_cons]; omega) ha.2 (risingF_cons.2 ⟨e, hb.2⟩)⟩
    · rw [mergeF_eq e, risingF_cons]; exact ⟨ha.1, rising_mergeF n a b y (by omega) ha.2 (by rw [e]; exact hb.2)⟩
    · rw [mergeF_gt e, risingF_cons]; exact ⟨hb.1, rising_mergeF n (y :: a) b z (by simp only [List.length_cons]; omega) (risingF_cons.2 ⟨e, ha.2⟩) hb.2⟩
theorem rising_ext : ∀ (l m : List Int) (c : Int), risingF c l = true → risingF c m = true → (∀ x, x ∈ l ↔ x ∈ m) → l = m
  | [], [], _, _, _, _ => rfl
  | [], y :: m, _, _, _, h => absurd ((h y).2 (by simp)) (by simp)
  | y :: l, [], _, _, _, h => absurd ((h y).1 (by simp)) (by simp)
  | y :: l, z :: m, c, hl, hm, h => by
    rw [risingF_cons] at hl hm
    have e : y = z := by
      have h1 := (h y).1 (by simp)
      have h2 := (h z).2 (by simp)
      rcases List.mem_cons.1 h1 with h1 | h1
      · exact h1
      · rcases List.mem_cons.1 h2 with h2 | h2
        · exact h2.symm
        · have := risingF_lo hl.2 h2; have := risingF_lo hm.2 h1; omega
    subst e
    rw [rising_ext l m y hl.2 hm.2 fun x => ⟨fun hx => ?_, fun hx => ?_⟩]
    · have := risingF_lo hl.2 hx
      rcases List.mem_cons.1 ((h x).1 (by simp [hx])) with e | e
      · omega
      · exact e
    · have := risingF_lo hm.2 hx
      rcases List.mem_cons.1 ((h x).2 (by simp [hx])) with e | e
      · omega
      · exact e
theorem mem_mergeL (a b : List Int) (x : Int) : x ∈ mergeL a b ↔ x ∈ a ∨ x ∈ b := mem_mergeF _ a b x (Nat.le_refl _)
theorem rising_mergeL {a b : List Int} {c : Int} (ha : risingF c a = true) (hb : risingF c b = true) : risingF c (mergeL a b) = true := rising_mergeF _ a b c (Nat.le_refl _) ha hb
theorem mergeL_comm {a b : List Int} {c : Int} (ha : risingF c a = true) (hb : risingF c b = true) : mergeL b a = mergeL a b :=
  rising_ext _ _ c (rising_mergeL hb ha) (rising_mergeL ha hb) fun x => by rw [mem_mergeL, mem_mergeL, or_comm]
theorem mergeL_assoc {a b d : List Int} {c : Int} (ha : risingF c a = true) (hb : risingF c b = true) (hd : risingF c d = true) : mergeL (mergeL a b) d = mergeL a (mergeL b d) :=
  rising_ext _ _ c (rising_mergeL (rising_mergeL ha hb) hd) (rising_mergeL ha (rising_mergeL hb hd)) fun x => by simp only [mem_mergeL, or_assoc]
theorem mergeL_self {a : List Int} {c : Int} (ha : risingF c a = true) : mergeL a a = a :=
  rising_ext _ _ c (rising_mergeL ha ha) ha fun x => by rw [mem_mergeL, or_self]
theorem mergeL_nil2 (a : List Int) : mergeL a [] = a := mergeF_nil2 _ a
theorem mergeL_nil1 (a : List Int) : mergeL [] a = a := mergeF_nil1 _ a
theorem mergeL_took {a b : List Int} {c : Int} (ha : risingF c a = true) (hb : risingF c b = true) : mergeL (mergeL a b) a = mergeL a b :=
  rising_ext _ _ c (rising_mergeL (rising_mergeL ha hb) ha) (rising_mergeL ha hb) fun x => by
    simp only [mem_mergeL]
    constructor
    · rintro ((h | h) | h)
      · exact .inl h
      · exact .inr h
      · exact .inl h
    · exact .inl
def joinL (a b : List Int) : List Int := if risingB a && risingB b then mergeL a b else []
theorem joinL_yes {a b : List Int} (ha : risingB a = true) (hb : risingB b = true) : joinL a b = mergeL a b := by unfold joinL; rw [ha, hb]; rfl
theorem rising_nodup : ∀ {l : List Int} {c : Int}, risingF c l = true → l.Nodup
  | [], _, _ => List.nodup_nil
  | x :: l, c, h => by
    rw [risingF_cons] at h
    exact List.nodup_cons.2 ⟨fun hx => by have := risingF_lo h.2 hx; omega, rising_nodup h.2⟩
/-- As many numbers as the first list, and those of the second that it lacks. -/
theorem nodup_len_le : ∀ (l m : List Int), l.Nodup → (∀ x ∈ l, x ∈ m) → l.length ≤ m.length
  | [], _, _, _ => Nat.zero_le _
  | x :: l, m, h, hm => by
    have h2 := List.nodup_cons.1 h
    have hx := hm x (by simp)
    have := nodup_len_le l (m.erase x) h2.2 fun y hy => (List.mem_erase_of_ne (fun e : y = x => h2.1 (by rw [← e]; exact hy))).2 (hm y (by simp [hy]))
    rw [List.length_erase_of_mem hx] at this
    have := List.length_pos_of_mem hx
    simp only [List.length_cons]; omega
theorem nodup_len (l m : List Int) (hl : l.Nodup) (hm : m.Nodup) (h : ∀ x, x ∈ l ↔ x ∈ m) : l.length = m.length :=
  Nat.le_antisymm (nodup_len_le l m hl fun x hx => (h x).1 hx) (nodup_len_le m l hm fun x hx => (h x).2 hx)
end Go.Proofs.YtebeajnaamglkaaGreatDoor
