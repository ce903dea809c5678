/- Plain: what a layout is when its labels are moved by a number and one label more stands in it. No program in sight. Conditions: none. -/
import Derived.Test.YtcgflnkgekkidaaGreatDoorAsmC
set_option linter.unusedSimpArgs false
set_option linter.unusedVariables false
namespace Go.Proofs.YtcgflnkgekkidaaGreatDoor
/-- An item whose label is moved. -/
def mvI (by' : Int) (x : ItemV) : ItemV := if 0 ≤ x.label ∧ (x.kind = 2 ∨ x.kind = 3 ∨ x.kind = 4) then { x with label := x.label + by' } else x
/-- Items with one label more. -/
def moreI (by' : Int) (at' : Nat) (F : Nat → ItemV) (k : Nat) : ItemV := if k < at' then mvI by' (F k) else if k = at' then ⟨2, ⟨0, 0, 0, 0, 0, false, false, 0, 0⟩, 1099511627776, 0#64⟩ else mvI by' (F (k - 1))
def sig (at' k : Nat) : Nat := if k < at' then k else k + 1
def sigP (at' k : Nat) : Nat := if k ≤ at' then k else k + 1
theorem more_sig (by' : Int) (at' : Nat) (F : Nat → ItemV) (k : Nat) : moreI by' at' F (sig at' k) = mvI by' (F k) := by
  unfold moreI sig
  by_cases h : k < at'
  · rw [if_pos h, if_pos h]
  · rw [if_neg h, if_neg (by omega), if_neg (by omega), Nat.add_sub_cancel]
theorem mv_kind (by' : Int) (x : ItemV) : (mvI by' x).kind = x.kind := by unfold mvI; split <;> rfl
theorem mv_insn (by' : Int) (x : ItemV) : (mvI by' x).insn = x.insn := by unfold mvI; split <;> rfl
theorem mv_addr (by' : Int) (x : ItemV) : (mvI by' x).addr = x.addr := by unfold mvI; split <;> rfl
theorem mv_len (by' : Int) (x : ItemV) (l : Bool) : lenV (mvI by' x) l = lenV x l := by unfold lenV; rw [mv_kind, mv_insn, mv_addr]
/-- One more item: the bounded question over it. -/
theorem anyB_more (p : Nat → Bool) (at' : Nat) (ha : p at' = false) (n : Nat) (hn : at' ≤ n) : anyB p (n + 1) = anyB (fun k => p (sig at' k)) n := by
  rw [Bool.eq_iff_iff]
  constructor
  · intro h
    obtain ⟨k, hk, hp⟩ := anyB_yes h
    by_cases h1 : k < at'
    · exact anyB_true (k := k) (by omega) (by unfold sig; rw [if_pos h1]; exact hp)
    · by_cases h2 : k = at'
      · rw [h2, ha] at hp; cases hp
      · exact anyB_true (k := k - 1) (by omega) (by unfold sig; rw [if_neg (by omega), Nat.sub_add_cancel (by omega)]; exact hp)
  · intro h
    obtain ⟨k, hk, hp⟩ := anyB_yes h
    exact anyB_true (k := sig at' k) (by unfold sig; split <;> omega) hp
/-- More fuel than long branches can grow changes nothing. -/
theorem growF_more (F : Nat → ItemV) (n : Nat) : ∀ (f : Nat) (L : Nat → Bool), n < f + cntF L n → growF F n (f + 1) L = growF F n f L
  | 0, L, h => by have := cntF_le L n; omega
  | f + 1, L, h => by
    by_cases e : anyB (condF F n L) n = true
    · have h1 := cntF_step F n L e
      show (if _ then _ else _) = (if _ then _ else _)
      rw [if_pos e, if_pos e]
      exact growF_more F n f _ (by omega)
    · show (if _ then _ else _) = (if _ then _ else _)
      rw [if_neg e, if_neg e]
theorem mv_may (by' : Int) (hb : 0 ≤ by') (x : ItemV) : mayV (mvI by' x) = mayV x := by
  unfold mvI
  split
  · rename_i h
    obtain ⟨h0, hk⟩ := h
    have e : decide (0 ≤ x.label + by') = decide (0 ≤ x.label) := by rw [decide_eq_true h0, decide_eq_true (by omega)]
    unfold mayV
    simp only
    rcases hk with hk | hk | hk <;> simp only [hk, e] <;> rfl
  · rfl
/-- The label of an item that goes, or stands, moved. -/
theorem mv_label (by' : Int) (x : ItemV) (h0 : 0 ≤ x.label) (hk : x.kind = 2 ∨ x.kind = 3 ∨ x.kind = 4) : (mvI by' x).label = x.label + by' := by
  unfold mvI; rw [if_pos ⟨h0, hk⟩]
theorem more_lab (by' : Int) (at' : Nat) (F : Nat → ItemV) : moreI by' at' F at' = ⟨2, ⟨0, 0, 0, 0, 0, false, false, 0, 0⟩, 1099511627776, 0#64⟩ := by
  unfold moreI; rw [if_neg (Nat.lt_irrefl _), if_pos rfl]
/-- A prefix of the items with one label more. -/
theorem stands_more (by' : Int) (at' : Nat) (F : Nat → ItemV) (hl : ∀ k, (F k).label < 1073741824) (h0 : ∀ k, (F k).kind = 2 → 0 ≤ (F k).label) (hb : 0 ≤ by') (hb2 : by' ≤ 1000) (x : Int) (hx : x < 1073741824) :
    ∀ k, standsF (moreI by' at' F) k (x + by') = standsF F (if k ≤ at' then k else k - 1) x
  | 0 => by simp [standsF]
  | k + 1 => by
    have ih := stands_more by' at' F hl h0 hb hb2 x hx k
    show (if (moreI by' at' F k).kind = 2 ∧ x + by' = (moreI by' at' F k).label then (1 : Int) else standsF (moreI by' at' F) k (x + by')) = _
    rcases Nat.lt_trichotomy k at' with h | h | h
    · have e : moreI by' at' F k = mvI by' (F k) := by unfold moreI; rw [if_pos h]
      rw [if_pos (show k ≤ at' by omega)] at ih
      rw [if_pos (show k + 1 ≤ at' by omega), e, mv_kind, ih]
      show _ = (if (F k).kind = 2 ∧ x = (F k).label then (1 : Int) else standsF F k x)
      by_cases hk : (F k).kind = 2
      · rw [mv_label by' (F k) (h0 k hk) (.inl hk)]
        by_cases hxl : x = (F k).label
        · rw [if_pos ⟨hk, by omega⟩, if_pos ⟨hk, hxl⟩]
        · rw [if_neg (fun hh => hxl (by omega)), if_neg (fun hh => hxl hh.2)]
      · rw [if_neg (fun hh => hk hh.1), if_neg (fun hh => hk hh.1)]
    · subst h
      rw [if_pos (Nat.le_refl k)] at ih
      rw [more_lab, if_neg (show ¬ k + 1 ≤ k by omega), Nat.add_sub_cancel, ih, if_neg (fun hh => by have := hh.2; simp only at this; omega)]
    · have e : moreI by' at' F k = mvI by' (F (k - 1)) := by unfold moreI; rw [if_neg (by omega), if_neg (by omega)]
      rw [if_neg (show ¬ k ≤ at' by omega)] at ih
      rw [if_neg (show ¬ k + 1 ≤ at' by omega), e, mv_kind, ih, Nat.add_sub_cancel]
      obtain ⟨q, rfl⟩ : ∃ q, k = q + 1 := ⟨k - 1, by omega⟩
      rw [Nat.add_sub_cancel]
      show _ = (if (F q).kind = 2 ∧ x = (F q).label then (1 : Int) else standsF F q x)
      by_cases hk : (F q).kind = 2
      · rw [mv_label by' (F q) (h0 q hk) (.inl hk)]
        by_cases hxl : x = (F q).label
        · rw [if_pos ⟨hk, by omega⟩, if_pos ⟨hk, hxl⟩]
        · rw [if_neg (fun hh => hxl (by omega)), if_neg (fun hh => hxl hh.2)]
      · rw [if_neg (fun hh => hk hh.1), if_neg (fun hh => hk hh.1)]
theorem sig_lt {at' k : Nat} (h : k < at') : sig at' k = k := if_pos h
theorem sig_ge {at' k : Nat} (h : at' < k) : sig at' (k - 1) = k := by unfold sig; rw [if_neg (by omega)]; omega
theorem place_more (by' : Int) (at' : Nat) (F : Nat → ItemV) (L L' : Nat → Bool) (hL : ∀ k, L' (sig at' k) = L k) (ha : L' at' = false) :
    ∀ k, placeF (moreI by' at' F) L' k = placeF F L (if k ≤ at' then k else k - 1)
  | 0 => by simp [placeF]
  | k + 1 => by
    have ih := place_more by' at' F L L' hL ha k
    show placeF (moreI by' at' F) L' k + sizeW (moreI by' at' F k) (L' k) = _
    rcases Nat.lt_trichotomy k at' with h | h | h
    · have e : moreI by' at' F k = mvI by' (F k) := by unfold moreI; rw [if_pos h]
      have e2 : L' k = L k := by have := hL k; rwa [sig_lt h] at this
      rw [if_pos (show k ≤ at' by omega)] at ih
      rw [if_pos (show k + 1 ≤ at' by omega), e, e2, ih]
      unfold sizeW; rw [mv_len]; rfl
    · subst h
      rw [if_pos (Nat.le_refl k)] at ih
      rw [more_lab, if_neg (show ¬ k + 1 ≤ k by omega), Nat.add_sub_cancel, ih, ha]
      show _ + ((0 : Int) + 0) = _
      omega
    · have e : moreI by' at' F k = mvI by' (F (k - 1)) := by unfold moreI; rw [if_neg (by omega), if_neg (by omega)]
      have e2 : L' k = L (k - 1) := by have := hL (k - 1); rwa [sig_ge h] at this
      rw [if_neg (show ¬ k ≤ at' by omega)] at ih
      rw [if_neg (show ¬ k + 1 ≤ at' by omega), e, e2, ih, Nat.add_sub_cancel]
      obtain ⟨q, rfl⟩ : ∃ q, k = q + 1 := ⟨k - 1, by omega⟩
      rw [Nat.add_sub_cancel]
      unfold sizeW; rw [mv_len]; rfl
theorem lab_more (by' : Int) (at' : Nat) (F : Nat → ItemV) (L L' : Nat → Bool) (hL : ∀ k, L' (sig at' k) = L k) (ha : L' at' = false) (hl : ∀ k, (F k).label < 1073741824) (h0 : ∀ k, (F k).kind = 2 → 0 ≤ (F k).label) (hb : 0 ≤ by') (hb2 : by' ≤ 1000) (x : Int) (hx : x < 1073741824) :
    ∀ k, labF (moreI by' at' F) L' (fun _ => 0) k (x + by') = labF F L (fun _ => 0) (if k ≤ at' then k else k - 1) x
  | 0 => by simp [labF]
  | k + 1 => by
    have ih := lab_more by' at' F L L' hL ha hl h0 hb hb2 x hx k
    have ip := place_more by' at' F L L' hL ha k
    show (if (moreI by' at' F k).kind = 2 ∧ x + by' = (moreI by' at' F k).label then placeF (moreI by' at' F) L' k else labF (moreI by' at' F) L' (fun _ => 0) k (x + by')) = _
    rcases Nat.lt_trichotomy k at' with h | h | h
    · have e : moreI by' at' F k = mvI by' (F k) := by unfold moreI; rw [if_pos h]
      rw [if_pos (show k ≤ at' by omega)] at ih ip
      rw [if_pos (show k + 1 ≤ at' by omega), e, mv_kind, ih, ip]
      show _ = (if (F k).kind = 2 ∧ x = (F k).label then placeF F L k else labF F L (fun _ => 0) k x)
      by_cases hk : (F k).kind = 2
      · rw [mv_label by' (F k) (h0 k hk) (.inl hk)]
        by_cases hxl : x = (F k).label
        · rw [if_pos ⟨hk, by omega⟩, if_pos ⟨hk, hxl⟩]
        · rw [if_neg (fun hh => hxl (by omega)), if_neg (fun hh => hxl hh.2)]
      · rw [if_neg (fun hh => hk hh.1), if_neg (fun hh => hk hh.1)]
    · subst h
      rw [if_pos (Nat.le_refl k)] at ih
      rw [more_lab, if_neg (show ¬ k + 1 ≤ k by omega), Nat.add_sub_cancel, ih, if_neg (fun hh => by have := hh.2; simp only at this; omega)]
    · have e : moreI by' at' F k = mvI by' (F (k - 1)) := by unfold moreI; rw [if_neg (by omega), if_neg (by omega)]
      rw [if_neg (show ¬ k ≤ at' by omega)] at ih ip
      rw [if_neg (show ¬ k + 1 ≤ at' by omega), e, mv_kind, ih, ip, Nat.add_sub_cancel]
      obtain ⟨q, rfl⟩ : ∃ q, k = q + 1 := ⟨k - 1, by omega⟩
      rw [Nat.add_sub_cancel]
      show _ = (if (F q).kind = 2 ∧ x = (F q).label then placeF F L q else labF F L (fun _ => 0) q x)
      by_cases hk : (F q).kind = 2
      · rw [mv_label by' (F q) (h0 q hk) (.inl hk)]
        by_cases hxl : x = (F q).label
        · rw [if_pos ⟨hk, by omega⟩, if_pos ⟨hk, hxl⟩]
        · rw [if_neg (fun hh => hxl (by omega)), if_neg (fun hh => hxl hh.2)]
      · rw [if_neg (fun hh => hk hh.1), if_neg (fun hh => hk hh.1)]
theorem anyB_congr {p q : Nat → Bool} : ∀ {n : Nat}, (∀ k, k < n → p k = q k) → anyB p n = anyB q n
  | 0, _ => rfl
  | n + 1, h => by unfold anyB; rw [anyB_congr fun k hk => h k (by omega), h n (by omega)]
theorem stands_zero (by' : Int) (at' : Nat) (F : Nat → ItemV) (hl : ∀ k, (F k).label < 1073741824) (hb2 : by' ≤ 1000) : ∀ k, k ≤ at' → standsF (moreI by' at' F) k 1099511627776 = 0
  | 0, _ => rfl
  | k + 1, h => by
    have ih := stands_zero by' at' F hl hb2 k (by omega)
    have e : moreI by' at' F k = mvI by' (F k) := by unfold moreI; rw [if_pos (by omega)]
    show (if (moreI by' at' F k).kind = 2 ∧ (1099511627776 : Int) = (moreI by' at' F k).label then (1 : Int) else standsF (moreI by' at' F) k 1099511627776) = 0
    rw [e, ih]
    have h1 := hl k
    have h2 : (mvI by' (F k)).label < 1099511627776 := by unfold mvI; split <;> (try simp only) <;> omega
    rw [if_neg (fun hh => by omega)]
theorem may_label {i : ItemV} (h : mayV i = true) (hk : i.kind = 2 ∨ i.kind = 3 ∨ i.kind = 4) : 0 ≤ i.label := by
  unfold mayV at h
  rcases hk with hk | hk | hk
  · rw [if_neg (by rw [hk]; decide), if_pos hk] at h
    simp only [Bool.and_eq_true, decide_eq_true_eq] at h
    exact h.1.2
  · rw [if_neg (by rw [hk]; decide), if_neg (by rw [hk]; decide), if_pos hk] at h
    simp only [Bool.and_eq_true, decide_eq_true_eq] at h
    exact h.1.2
  · rw [if_neg (by rw [hk]; decide), if_neg (by rw [hk]; decide), if_neg (by rw [hk]; decide), if_pos hk] at h
    simp only [Bool.and_eq_true, decide_eq_true_eq] at h
    exact h.1.2
theorem sig_pre (at' k : Nat) : (if sig at' k ≤ at' then sig at' k else sig at' k - 1) = k := by
  unfold sig
  by_cases h : k < at'
  · rw [if_pos h, if_pos (by omega)]
  · rw [if_neg h, if_neg (by omega), Nat.add_sub_cancel]
/-- The same items may be laid. -/
theorem check_more (by' : Int) (at' : Nat) (F : Nat → ItemV) (n : Nat) (hn : n ≤ 60) (hat : at' ≤ n) (hl : ∀ k, (F k).label < 1073741824) (hd : ∀ k, n ≤ k → (F k).kind = 0) (hb : 0 ≤ by') (hb2 : by' ≤ 1000) :
    checkV (moreI by' at' F) (n + 1) = checkV F n := by
  have hm : anyB (fun k => !mayV (moreI by' at' F k)) (n + 1) = anyB (fun k => !mayV (F k)) n := by
    rw [anyB_more _ at' (by simp only [more_lab]; decide) n hat]
    exact anyB_congr fun k _ => by simp only [more_sig, mv_may by' hb]
  unfold checkV
  rw [if_neg (by omega), if_neg (show ¬ 16384 < n by omega), hm]
  by_cases hany : anyB (fun k => !mayV (F k)) n = true
  · rw [if_pos hany, if_pos hany]
  rw [if_neg hany, if_neg hany]
  have hmay : ∀ k, k < n → mayV (F k) = true := fun k hk => by
    have := anyB_no (p := fun k => !mayV (F k)) (n := n) (by simpa using hany) k hk
    simpa using this
  have h0 : ∀ k, (F k).kind = 2 → 0 ≤ (F k).label := fun k hk => by
    rcases Nat.lt_or_ge k n with h | h
    · exact may_label (hmay k h) (.inl hk)
    · rw [hd k h] at hk; cases hk
  have hdup : anyB (fun k => decide ((moreI by' at' F k).kind = 2) && decide (standsF (moreI by' at' F) k (moreI by' at' F k).label ≠ 0)) (n + 1) = anyB (fun k => decide ((F k).kind = 2) && decide (standsF F k (F k).label ≠ 0)) n := by
    rw [anyB_more _ at' (by simp only [more_lab]; rw [stands_zero by' at' F hl hb2 at' (Nat.le_refl _)]; decide) n hat]
    refine anyB_congr fun k _ => ?_
    simp only [more_sig, mv_kind]
    by_cases hk : (F k).kind = 2
    · rw [mv_label by' (F k) (h0 k hk) (.inl hk), stands_more by' at' F hl h0 hb hb2 _ (hl k), sig_pre]
    · rw [decide_eq_false hk, Bool.false_and, Bool.false_and]
  rw [hdup]
  have hgo : anyB (fun k => goesV (moreI by' at' F k) && decide (standsF (moreI by' at' F) (n + 1) (moreI by' at' F k).label = 0)) (n + 1) = anyB (fun k => goesV (F k) && decide (standsF F n (F k).label = 0)) n := by
    rw [anyB_more _ at' (by simp only [more_lab]; rfl) n hat]
    refine anyB_congr fun k hk => ?_
    simp only [more_sig]
    have e : goesV (mvI by' (F k)) = goesV (F k) := by unfold goesV; rw [mv_kind]
    rw [e]
    cases hg : goesV (F k) with
    | false => rw [Bool.false_and, Bool.false_and]
    | true =>
      have hk3 : (F k).kind = 2 ∨ (F k).kind = 3 ∨ (F k).kind = 4 := by
        unfold goesV at hg; simp at hg; exact .inr hg
      rw [mv_label by' (F k) (may_label (hmay k hk) hk3) hk3, stands_more by' at' F hl h0 hb hb2 _ (hl k), if_neg (by omega), Nat.add_sub_cancel]
  rw [hgo]
/-- What is asked of the items that are moved. -/
structure MvOk (by' : Int) (at' : Nat) (F : Nat → ItemV) (n : Nat) : Prop where
  n60 : n ≤ 60
  at' : at' ≤ n
  hl : ∀ k, (F k).label < 1073741824
  h0 : ∀ k, (F k).kind = 2 ∨ (F k).kind = 3 ∨ (F k).kind = 4 → 0 ≤ (F k).label
  b0 : 0 ≤ by'
  b1 : by' ≤ 1000
section
variable {by' : Int} {at' : Nat} {F : Nat → ItemV} {n : Nat} {L L' : Nat → Bool}
theorem way_more (h : MvOk by' at' F n) (hL : ∀ k, L' (sig at' k) = L k) (ha : L' at' = false) (k : Nat) (hk : (F k).kind = 3 ∨ (F k).kind = 4) (b : Int) :
    wayF (moreI by' at' F) L' (labV (moreI by' at' F) L' (n + 1)) (sig at' k) b = wayF F L (labV F L n) k b := by
  unfold wayF labV
  rw [more_sig, mv_label by' (F k) (h.h0 k (.inr hk)) (.inr hk), lab_more by' at' F L L' hL ha h.hl (fun j hj => h.h0 j (.inl hj)) h.b0 h.b1 _ (h.hl k), place_more by' at' F L L' hL ha, sig_pre, if_neg (by have := h.at'; omega), Nat.add_sub_cancel]
theorem cond_more (h : MvOk by' at' F n) (hL : ∀ k, L' (sig at' k) = L k) (ha : L' at' = false) (k : Nat) : condF (moreI by' at' F) (n + 1) L' (sig at' k) = condF F n L k := by
  unfold condF
  rw [more_sig, mv_kind, hL]
  by_cases hk : (F k).kind = 3
  · rw [way_more h hL ha k (.inl hk)]
  · rw [decide_eq_false hk]; simp
theorem cond_at : condF (moreI by' at' F) (n + 1) L' at' = false := by
  unfold condF; rw [more_lab]; rfl
theorem grow_more (h : MvOk by' at' F n) : ∀ (f : Nat) (L L' : Nat → Bool), (∀ k, L' (sig at' k) = L k) → L' at' = false → (∀ k, growF (moreI by' at' F) (n + 1) f L' (sig at' k) = growF F n f L k) ∧ growF (moreI by' at' F) (n + 1) f L' at' = false
  | 0, L, L', hL, ha => ⟨hL, ha⟩
  | f + 1, L, L', hL, ha => by
    have e : anyB (condF (moreI by' at' F) (n + 1) L') (n + 1) = anyB (condF F n L) n := by
      rw [anyB_more _ at' cond_at n h.at']
      exact anyB_congr fun k _ => cond_more h hL ha k
    have ih := grow_more h f (stepF F n L) (stepF (moreI by' at' F) (n + 1) L') (fun k => by unfold stepF; rw [hL, cond_more h hL ha]) (by unfold stepF; rw [ha, cond_at]; rfl)
    by_cases e2 : anyB (condF F n L) n = true
    · have e1 := e.trans e2
      refine ⟨fun k => ?_, ?_⟩
      · show (if _ then _ else _ : Nat → Bool) _ = (if _ then _ else _ : Nat → Bool) _
        rw [if_pos e1, if_pos e2]; exact ih.1 k
      · show (if _ then _ else _ : Nat → Bool) _ = _
        rw [if_pos e1]; exact ih.2
    · have e1 : ¬ anyB (condF (moreI by' at' F) (n + 1) L') (n + 1) = true := by rw [e]; exact e2
      refine ⟨fun k => ?_, ?_⟩
      · show (if _ then _ else _ : Nat → Bool) _ = (if _ then _ else _ : Nat → Bool) _
        rw [if_neg e1, if_neg e2]; exact hL k
      · show (if _ then _ else _ : Nat → Bool) _ = _
        rw [if_neg e1]; exact ha
theorem long_more (h : MvOk by' at' F n) : (∀ k, longV (moreI by' at' F) (n + 1) (sig at' k) = longV F n k) ∧ longV (moreI by' at' F) (n + 1) at' = false := by
  have hg := grow_more h (n + 1 + 1) (fun _ => false) (fun _ => false) (fun _ => rfl) rfl
  have he : growF F n (n + 1 + 1) (fun _ => false) = growF F n (n + 1) (fun _ => false) := growF_more F n (n + 1) _ (by omega)
  rw [he] at hg
  exact hg
theorem insns_more (h : MvOk by' at' F n) (hL : ∀ k, L' (sig at' k) = L k) (ha : L' at' = false) (k : Nat) : insnsV (moreI by' at' F) (n + 1) L' (sig at' k) = insnsV F n L k := by
  unfold insnsV
  rw [more_sig, mv_kind, mv_insn, mv_addr, hL]
  by_cases hk : (F k).kind = 3 ∨ (F k).kind = 4
  · rw [way_more h hL ha k hk, way_more h hL ha k hk]
  · rw [if_neg hk, if_neg hk]
theorem words_more (h : MvOk by' at' F n) (hL : ∀ k, L' (sig at' k) = L k) (ha : L' at' = false) : ∀ k, wordsF (moreI by' at' F) (n + 1) L' k = wordsF F n L (if k ≤ at' then k else k - 1)
  | 0 => by simp [wordsF]
  | k + 1 => by
    have ih := words_more h hL ha k
    show wordsF (moreI by' at' F) (n + 1) L' k ++ (insnsV (moreI by' at' F) (n + 1) L' k).map wordV = _
    rcases Nat.lt_trichotomy k at' with h1 | h1 | h1
    · have e := insns_more h hL ha k
      rw [sig_lt h1] at e
      rw [if_pos (show k ≤ at' by omega)] at ih
      rw [if_pos (show k + 1 ≤ at' by omega), e, ih]; rfl
    · subst h1
      rw [if_pos (Nat.le_refl k)] at ih
      have e : insnsV (moreI by' k F) (n + 1) L' k = [] := by unfold insnsV; rw [more_lab]; rfl
      rw [if_neg (show ¬ k + 1 ≤ k by omega), Nat.add_sub_cancel, e, ih, List.map_nil, List.append_nil]
    · have e := insns_more h hL ha (k - 1)
      rw [sig_ge h1] at e
      rw [if_neg (show ¬ k ≤ at' by omega)] at ih
      rw [if_neg (show ¬ k + 1 ≤ at' by omega), e, ih, Nat.add_sub_cancel]
      obtain ⟨q, rfl⟩ : ∃ q, k = q + 1 := ⟨k - 1, by omega⟩
      rw [Nat.add_sub_cancel]; rfl
end
theorem check_mayL {F : Nat → ItemV} {n : Nat} (h : checkV F n = 0) (k : Nat) (hk : k < n) : mayV (F k) = true := by
  have hn := check_n h
  unfold checkV at h
  rw [if_neg (by omega)] at h
  by_cases e : anyB (fun k => !mayV (F k)) n = true
  · rw [if_pos e] at h; cases h
  · have := anyB_no (p := fun k => !mayV (F k)) (n := n) (by simpa using e) k hk
    simpa using this
/-- Labels moved, and one label more: the same words, each place as it was. -/
theorem labels_law (by' : Int) (at' : Nat) (F : Nat → ItemV) (n : Nat) (hn : n ≤ 60) (hat : at' ≤ n) (hl : ∀ k, (F k).label < 1073741824) (hd : ∀ k, n ≤ k → (F k).kind = 0) (hb : 0 ≤ by') (hb2 : by' ≤ 1000) :
    checkV (moreI by' at' F) (n + 1) = checkV F n ∧ outW (moreI by' at' F) (n + 1) = outW F n ∧ (checkV F n = 0 → ∀ k, placeF (moreI by' at' F) (longV (moreI by' at' F) (n + 1)) (sig at' k) = placeF F (longV F n) k) := by
  have hc := check_more by' at' F n hn hat hl hd hb hb2
  by_cases hz : checkV F n = 0
  · have h : MvOk by' at' F n := ⟨hn, hat, hl, fun k hk => by
      rcases Nat.lt_or_ge k n with h | h
      · exact may_label (check_mayL hz k h) hk
      · have := hd k h; omega, hb, hb2⟩
    obtain ⟨hL, ha⟩ := long_more h
    refine ⟨hc, ?_, fun _ k => ?_⟩
    · unfold outW
      rw [hc, if_pos hz, if_pos hz, words_more h hL ha, if_neg (by omega), Nat.add_sub_cancel]
    · rw [place_more by' at' F _ _ hL ha, sig_pre]
  · refine ⟨hc, ?_, fun h => absurd h hz⟩
    unfold outW
    rw [hc, if_neg hz, if_neg hz]
end Go.Proofs.YtcgflnkgekkidaaGreatDoor
