/- Plain: the numbers in a taint's lists, step by step. No program in sight. Conditions: none. -/
import Derived.Test.YtebeajnaamglkaaGreatDoorTntLc
import Derived.Test.YtebeajnaamglkaaGreatDoorTntLw
namespace Go.Proofs.YtebeajnaamglkaaGreatDoor
/-- Every number of a taint's lists lies below m. -/
def ltT (m : Int) (T : List (List Int)) : Prop := ∀ l ∈ T, ∀ x ∈ l, x < m
theorem ltT.mono {m n : Int} {T : List (List Int)} (h : ltT m T) (hn : m ≤ n) : ltT n T := fun l hl x hx => Int.lt_of_lt_of_le (h l hl x hx) hn
theorem ltT_getD {m : Int} {T : List (List Int)} (h : ltT m T) (k : Nat) : ∀ x ∈ T.getD k [], x < m := by
  rw [List.getD]
  cases hr : T[k]? with
  | none => intro x hx; cases hx
  | some l => exact h l (List.mem_of_getElem? hr)
theorem lt_onF {m : Int} {T : List (List Int)} (h : ltT m T) : ∀ (rs acc : List Int), (∀ x ∈ acc, x < m) → ∀ x ∈ onF T acc rs, x < m
  | [], _, ha => ha
  | r :: rs, acc, ha => by
    unfold onF
    rw [List.foldl_cons]
    refine lt_onF h rs _ (fun x hx => ?_)
    rcases (mem_mergeL _ _ x).1 hx with h1 | h1
    · exact ha x h1
    · exact ltT_getD h _ x h1
theorem nil_lt (m : Int) : ∀ x ∈ ([] : List Int), x < m := fun x hx => by cases hx
theorem wayT_lt {m : Int} {T : List (List Int)} (h : ltT m T) (i : InsnV) : ∀ x ∈ wayT T i, x < m := by
  unfold wayT
  split
  · intro x hx
    rcases (mem_mergeL _ _ x).1 hx with h1 | h1
    · exact ltT_getD h _ x h1
    · exact lt_onF h _ _ (nil_lt m) x h1
  · exact ltT_getD h 32
theorem outT_lt {m : Int} {T : List (List Int)} (h : ltT m T) (i : InsnV) {ev : Int} (he : ev < m) : ∀ x ∈ outT T i ev, x < m := by
  unfold outT
  split
  · split
    · intro x hx; rw [List.mem_singleton] at hx; omega
    · exact nil_lt m
  · split
    · exact nil_lt m
    · exact lt_onF h _ _ (nil_lt m)
theorem stepT_lt {m : Int} {T : List (List Int)} (h : ltT m T) (i : InsnV) {ev : Int} (he : ev < m) : ltT m (stepT T i ev) := by
  intro l hm
  have key : ∀ l ∈ T.set 32 (wayT T i), ∀ x ∈ l, x < m := fun l hm => by
    rcases mem_set_of hm with hm | rfl
    · exact h l hm
    · exact wayT_lt h i
  unfold stepT at hm
  split at hm
  · rcases mem_set_of hm with hm | rfl
    · exact key l hm
    · exact outT_lt h i he
  · exact key l hm
theorem rising_small {l : List Int} {n : Nat} (h : risingB l = true) (hx : ∀ x ∈ l, x < (n : Int)) : l.length ≤ n := by
  have := nodup_len_le l ((List.range n).map fun j : Nat => (j : Int)) (rising_nodup h) (fun x hm => by
    have h1 := risingF_lo h hm
    have h2 := hx x hm
    rw [List.mem_map]
    exact ⟨x.toNat, List.mem_range.2 (by omega), by omega⟩)
  simpa using this
/-- What holds of the taint ahead of each step of a script: it may be, and its numbers are events that were. -/
structure ST (m : Nat) (T : List (List Int)) : Prop where
  ln : T.length = 33
  ok : taintE T = 0
  sm : ltT m T
theorem ST.len {m : Nat} {T : List (List Int)} (h : ST m T) : ∀ l ∈ T, l.length ≤ m := fun l hl => rising_small (((taintE_zero h.ln).1 h.ok).2 l hl) (h.sm l hl)
theorem ST.zero : ST 0 zeroT := ⟨by decide, by decide +kernel, fun l hl => by
  rw [zeroT, List.mem_replicate] at hl
  rw [hl.2]
  exact nil_lt _⟩
theorem ST.mono {m n : Nat} {T : List (List Int)} (h : ST m T) (hn : m ≤ n) : ST n T := ⟨h.ln, h.ok, h.sm.mono (by omega)⟩
theorem ST.step {m : Nat} {T : List (List Int)} (h : ST m T) (i : InsnV) {ev : Int} (he : ev < m) : ST m (stepT T i ev) := ⟨by rw [stepT_len]; exact h.ln, stepT_ok h.ln h.ok, stepT_lt h.sm i he⟩
end Go.Proofs.YtebeajnaamglkaaGreatDoor
