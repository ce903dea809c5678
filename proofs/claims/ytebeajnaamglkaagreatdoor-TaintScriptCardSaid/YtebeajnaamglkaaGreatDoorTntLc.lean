/- Plain: what taint.Step computes is a taint, grows, and hangs on what is read alone. No program in sight. Conditions: none. -/
import Derived.Test.YtebeajnaamglkaaGreatDoorTntSd
import Derived.Test.YtebeajnaamglkaaGreatDoorTntJn
set_option linter.unusedSimpArgs false
set_option linter.unusedVariables false
namespace Go.Proofs.YtebeajnaamglkaaGreatDoor
theorem taintE_zero {T : List (List Int)} (hl : T.length = 33) : taintE T = 0 ↔ T.getD 0 [] = [] ∧ ∀ l ∈ T, risingB l = true := by
  unfold taintE
  have e : (∀ l ∈ T, risingB l = true) ↔ (risingB (T.getD 32 []) = true ∧ ∀ l ∈ T.take 32, risingB l = true) := by
    have h32 : T = T.take 32 ++ [T.getD 32 []] := by
      have h1 : T.drop 32 = [T.getD 32 []] := by
        rw [List.drop_eq_getElem_cons (by omega), List.drop_of_length_le (by omega)]
        simp [List.getD, List.getElem?_eq_getElem (show 32 < T.length by omega)]
      have := (List.take_append_drop 32 T).symm
      rw [h1] at this; exact this
    constructor
    · intro h
      exact ⟨h _ (by rw [List.getD, List.getElem?_eq_getElem (show 32 < T.length by omega)]; exact List.getElem_mem _), fun l hm => h l (List.mem_of_mem_take hm)⟩
    · rintro ⟨h1, h2⟩ l hm
      rw [h32] at hm
      rcases List.mem_append.1 hm with hm | hm
      · exact h2 l hm
      · rw [List.mem_singleton.1 hm]; exact h1
  rw [e]
  have e2 : ((T.take 32).any fun l => !risingB l) = false ↔ ∀ l ∈ T.take 32, risingB l = true := by
    rw [List.any_eq_false]; simp
  cases h1 : (T.getD 0 []).isEmpty
  · have : T.getD 0 [] ≠ [] := fun q => by rw [q] at h1; cases h1
    exact ⟨fun q => absurd q (by simp), fun q => absurd q.1 this⟩
  · have h1' : T.getD 0 [] = [] := List.isEmpty_iff.1 h1
    cases h2 : risingB (T.getD 32 [])
    · simp
    · cases h3 : ((T.take 32).any fun l => !risingB l)
      · rw [h1']; simp only [Bool.and_self, Bool.not_false, if_true, true_and, true_iff]; exact e2.1 h3
      · simp only [Bool.and_self, Bool.not_true, Bool.and_false]
        constructor
        · intro q; exact absurd q (by simp)
        · rintro ⟨-, -, q⟩; rw [e2.2 q] at h3; cases h3
theorem onF_rising {T : List (List Int)} (h : ∀ l ∈ T, risingB l = true) : ∀ (rs acc : List Int), risingB acc = true → risingB (onF T acc rs) = true
  | [], _, ha => ha
  | r :: rs, acc, ha => by
    unfold onF
    rw [List.foldl_cons]
    refine onF_rising h rs _ (rising_mergeL ha ?_)
    rw [List.getD]
    cases hr : T[r.toNat]? with
    | none => rfl
    | some l => exact h l (List.mem_of_getElem? hr)
theorem getD_rising {T : List (List Int)} (h : ∀ l ∈ T, risingB l = true) (k : Nat) : risingB (T.getD k []) = true := by
  rw [List.getD]
  cases hr : T[k]? with
  | none => rfl
  | some l => exact h l (List.mem_of_getElem? hr)
theorem wayT_rising {T : List (List Int)} (h : ∀ l ∈ T, risingB l = true) (i : InsnV) : risingB (wayT T i) = true := by
  unfold wayT
  split
  · exact rising_mergeL (getD_rising h 32) (onF_rising h _ _ rfl)
  · exact getD_rising h 32
theorem outT_rising {T : List (List Int)} (h : ∀ l ∈ T, risingB l = true) (i : InsnV) (ev : Int) : risingB (outT T i ev) = true := by
  unfold outT
  split
  · split
    · rename_i h0
      unfold risingB risingF risingF
      rw [decide_eq_true (by omega)]; rfl
    · rfl
  · split
    · rfl
    · exact onF_rising h _ _ rfl
theorem mem_set_of {α : Type} {l : List α} {k : Nat} {x y : α} (h : y ∈ l.set k x) : y ∈ l ∨ y = x := List.mem_or_eq_of_mem_set h
theorem stepT_rising {T : List (List Int)} (h : ∀ l ∈ T, risingB l = true) (i : InsnV) (ev : Int) : ∀ l ∈ stepT T i ev, risingB l = true := by
  intro l hm
  have key : ∀ l ∈ T.set 32 (wayT T i), risingB l = true := fun l hm => by
    rcases mem_set_of hm with hm | rfl
    · exact h l hm
    · exact wayT_rising h i
  unfold stepT at hm
  split at hm
  · rcases mem_set_of hm with hm | rfl
    · exact key l hm
    · exact outT_rising h i ev
  · exact key l hm
theorem stepT_len (T : List (List Int)) (i : InsnV) (ev : Int) : (stepT T i ev).length = T.length := by unfold stepT; split <;> simp
theorem getD_set_ne {α : Type} {l : List α} {k j : Nat} {x d : α} (h : k ≠ j) : (l.set k x).getD j d = l.getD j d := by rw [List.getD, List.getD, List.getElem?_set_ne h]
theorem getD_set_self {α : Type} {l : List α} {k : Nat} {x d : α} (h : k < l.length) : (l.set k x).getD k d = x := by rw [List.getD, List.getElem?_set_self h]; rfl
theorem stepT_other {T : List (List Int)} {i : InsnV} {ev : Int} {k : Nat} (hk : k < 32) (hw : (k : Int) ≠ i.rd ∨ k = 0) : (stepT T i ev).getD k [] = T.getD k [] := by
  unfold stepT
  split
  · rw [getD_set_ne (by omega), getD_set_ne (by omega)]
  · rw [getD_set_ne (by omega)]
theorem stepT_way {T : List (List Int)} {i : InsnV} {ev : Int} (hl : T.length = 33) (hr : i.rd ≤ 31) : (stepT T i ev).getD 32 [] = wayT T i := by
  unfold stepT
  split
  · rw [getD_set_ne (by omega), getD_set_self (by omega)]
  · rw [getD_set_self (by omega)]
theorem stepT_self {T : List (List Int)} {i : InsnV} {ev : Int} (hl : T.length = 33) (h0 : 0 < i.rd) (hr : i.rd ≤ 31) : (stepT T i ev).getD i.rd.toNat [] = outT T i ev := by
  unfold stepT
  rw [if_pos h0, getD_set_self (by rw [List.length_set]; omega)]
theorem stepT_ok {T : List (List Int)} {i : InsnV} {ev : Int} (hl : T.length = 33) (h : taintE T = 0) : taintE (stepT T i ev) = 0 := by
  rw [taintE_zero hl] at h
  rw [taintE_zero (by rw [stepT_len, hl])]
  exact ⟨by rw [stepT_other (by decide) (.inr rfl)]; exact h.1, stepT_rising h.2 i ev⟩
theorem way_grows {T : List (List Int)} {i : InsnV} {ev : Int} (hl : T.length = 33) (h : taintE T = 0) (hr : i.rd ≤ 31) : joinL ((stepT T i ev).getD 32 []) (T.getD 32 []) = (stepT T i ev).getD 32 [] := by
  rw [taintE_zero hl] at h
  rw [stepT_way hl hr, joinL_yes (wayT_rising h.2 i) (getD_rising h.2 32)]
  unfold wayT
  split
  · exact mergeL_took (getD_rising h.2 32) (onF_rising h.2 _ _ rfl)
  · exact mergeL_self (getD_rising h.2 32)
theorem onF_set {T : List (List Int)} {r : Nat} {o : List Int} : ∀ (rs acc : List Int), (∀ x ∈ rs, x.toNat ≠ r) → onF (T.set r o) acc rs = onF T acc rs
  | [], _, _ => rfl
  | x :: rs, acc, h => by
    unfold onF
    rw [List.foldl_cons, List.foldl_cons, getD_set_ne (fun e => h x (by simp) e.symm)]
    exact onF_set rs _ fun y hy => h y (by simp [hy])
theorem set_ok {T : List (List Int)} {r : Nat} {o : List Int} (hl : T.length = 33) (h : taintE T = 0) (hr : 1 ≤ r) (ho : risingB o = true) : taintE (T.set r o) = 0 := by
  rw [taintE_zero hl] at h
  rw [taintE_zero (by rw [List.length_set, hl])]
  refine ⟨by rw [getD_set_ne (by omega)]; exact h.1, fun l hm => ?_⟩
  rcases mem_set_of hm with hm | rfl
  · exact h.2 l hm
  · exact ho
theorem readT_set {T : List (List Int)} {i : InsnV} {r : Nat} {o : List Int} (h : ∀ x ∈ readsP i, x.toNat ≠ r) : readT (T.set r o) i = readT T i := onF_set _ _ h
theorem wayT_set {T : List (List Int)} {i : InsnV} {r : Nat} {o : List Int} (h : ∀ x ∈ readsP i, x.toNat ≠ r) (hr : r < 32) : wayT (T.set r o) i = wayT T i := by
  unfold wayT; rw [readT_set h, getD_set_ne (by omega)]
theorem outT_set {T : List (List Int)} {i : InsnV} {ev : Int} {r : Nat} {o : List Int} (h : ∀ x ∈ readsP i, x.toNat ≠ r) : outT (T.set r o) i ev = outT T i ev := by
  unfold outT; rw [readT_set h]
theorem addrT_set {T : List (List Int)} {i : InsnV} {r : Nat} {o : List Int} (h : i.rs1.toNat ≠ r) : addrT (T.set r o) i = addrT T i := by
  unfold addrT onL; rw [onF_set [i.rs1] [] (by simpa using h)]
theorem dataT_set {T : List (List Int)} {i : InsnV} {r : Nat} {o : List Int} (h : i.rs2.toNat ≠ r) : dataT (T.set r o) i = dataT T i := by
  unfold dataT onL; rw [onF_set [i.rs2] [] (by simpa using h)]
theorem stepT_kept {T : List (List Int)} {i : InsnV} {ev : Int} {r : Nat} {o : List Int} (hl : T.length = 33) (hr : r < 32) (hw : (r : Int) ≠ i.rd ∨ r = 0) : (stepT (T.set r o) i ev).getD r [] = o := by
  rw [stepT_other hr hw, getD_set_self (by omega)]
end Go.Proofs.YtebeajnaamglkaaGreatDoor
