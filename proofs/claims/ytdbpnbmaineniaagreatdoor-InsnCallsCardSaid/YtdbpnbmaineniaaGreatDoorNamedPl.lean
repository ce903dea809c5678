/- Plain: the table of all ops and the number of a name. No program in sight. Conditions: none. -/
import Derived.Test.YtdbpnbmaineniaaGreatDoorInsnDefs
import Derived.Lib.SlBy
import Derived.Deep.MidRow
set_option linter.unusedSimpArgs false
set_option linter.unusedVariables false
namespace Go.Proofs.YtdbpnbmaineniaaGreatDoor
/-- The cells of what there is to know of an op. -/
def OpInfo.cells (O : OpInfo) : List Value := [.string ⟨O.name.toArray⟩, .int .i64 O.form, .bool O.loads, .bool O.stores, .int .i64 O.size]
/-- The table, filled to op k. -/
def tabK (k : Nat) : List OpInfo := (List.range 88).map fun n => if n ≤ k then opOf (n : Int) else noOp
instance : Inhabited OpInfo := ⟨noOp⟩
theorem tabK_len (k : Nat) : (tabK k).length = 88 := by simp [tabK]
theorem tabK_get (k n : Nat) (h : n < 88) : (tabK k)[n]? = some (if n ≤ k then opOf (n : Int) else noOp) := by
  simp [tabK, h]
/-- The cells of a list of ops, one behind the other. -/
def opsCells (l : List OpInfo) : List Value := l.flatMap OpInfo.cells
theorem opsCells_len (l : List OpInfo) : (opsCells l).length = 5 * l.length := by
  induction l with
  | nil => rfl
  | cons x r ih => unfold opsCells at *; rw [List.flatMap_cons, List.length_append, ih]; simp [OpInfo.cells]; omega
theorem opsCells_get : ∀ (l : List OpInfo) (n j : Nat) (O : OpInfo), l[n]? = some O → j < 5 → (opsCells l)[n * 5 + j]? = O.cells[j]?
  | [], n, j, O, h, _ => by simp at h
  | x :: r, 0, j, O, h, hj => by
    simp at h; subst h
    unfold opsCells
    rw [List.flatMap_cons, List.getElem?_append_left (by simp [OpInfo.cells]; omega)]; simp
  | x :: r, n + 1, j, O, h, hj => by
    have := opsCells_get r n j O (by simpa using h) hj
    unfold opsCells at *
    rw [List.flatMap_cons, List.getElem?_append_right (by simp [OpInfo.cells]; omega)]
    rw [show (n + 1) * 5 + j - x.cells.length = n * 5 + j by simp [OpInfo.cells]; omega]
    exact this
theorem opsCells_one (l : List OpInfo) : ∀ v ∈ opsCells l, v.oneCell' = true := by
  intro v hv
  obtain ⟨O, -, h⟩ := List.mem_flatMap.1 hv
  simp [OpInfo.cells] at h
  rcases h with rfl | rfl | rfl | rfl | rfl <;> rfl
theorem opCells_one (O : OpInfo) : ∀ v ∈ O.cells, v.oneCell' = true := by
  intro v h
  simp [OpInfo.cells] at h
  rcases h with rfl | rfl | rfl | rfl | rfl <;> rfl
theorem rows_op : ((List.range 15).all fun r => decide (rowCum r + rowCnt r ≤ 87) && (List.range (rowCnt r)).all fun j => decide (known (rowName r j) (rowForm r) = opOf ((rowCum r + j + 1 : Nat) : Int))) = true := by decide +kernel
theorem row_cum (r : Nat) (h : r < 15) : rowCum r + rowCnt r ≤ 87 := by
  have := List.all_eq_true.1 rows_op r (List.mem_range.2 h)
  simp only [Bool.and_eq_true, decide_eq_true_eq] at this; exact this.1
theorem row_op (r j : Nat) (h : r < 15) (hj : j < rowCnt r) : known (rowName r j) (rowForm r) = opOf ((rowCum r + j + 1 : Nat) : Int) := by
  have := List.all_eq_true.1 rows_op r (List.mem_range.2 h)
  simp only [Bool.and_eq_true, decide_eq_true_eq] at this
  have := List.all_eq_true.1 this.2 j (List.mem_range.2 hj)
  simpa using this
/-- The table stands in a block. -/
theorem tab_store {W : World} {b k : Nat} (hk : k < 87) (hr : W.rangeAt b 0 (opsCells (tabK k))) (ht : W.there b 0 440) :
    (W.setCells b ((k + 1) * 5) (opOf ((k + 1 : Nat) : Int)).cells).rangeAt b 0 (opsCells (tabK (k + 1))) := fun j v hv => by
  have hj : j < 440 := by have := (List.getElem?_eq_some_iff.1 hv).1; rw [opsCells_len, tabK_len] at this; omega
  rw [Nat.zero_add]
  have hlen : (opOf ((k + 1 : Nat) : Int)).cells.length = 5 := rfl
  obtain ⟨n, i, hi, rfl⟩ : ∃ n i, i < 5 ∧ j = n * 5 + i := ⟨j / 5, j % 5, Nat.mod_lt _ (by decide), by omega⟩
  have hn : n < 88 := by omega
  rw [opsCells_get _ n i _ (tabK_get _ n hn) hi] at hv
  by_cases e : n = k + 1
  · subst e
    rw [if_pos (Nat.le_refl _)] at hv
    rw [World.cell?_setCells_in b _ _ W (fun q hq => by
      have := (ht ((k + 1) * 5 + q) (by rw [hlen] at hq; omega)).1
      rw [Nat.zero_add] at this; exact this) i (by rw [hlen]; exact hi)]
    rw [← hv, List.getElem?_eq_getElem (by rw [hlen]; exact hi)]
  · rw [World.cell?_setCells_out b _ _ W ⟨b, n * 5 + i, none⟩ (fun _ _ => by
      show n * 5 + i < (k + 1) * 5 ∨ (k + 1) * 5 + _ ≤ n * 5 + i
      rw [hlen]; omega)]
    have h0 := hr (n * 5 + i) v (by
      rw [opsCells_get _ n i _ (tabK_get _ n hn) hi, ← hv]
      by_cases h1 : n ≤ k
      · rw [if_pos h1, if_pos (by omega)]
      · rw [if_neg h1, if_neg (by omega)])
    rw [Nat.zero_add] at h0; exact h0
/-- The number of a name: 0 where it is none. -/
def namedOf (s : List UInt8) : Int := if s = [] then 0 else max 0 (Lib.idxBy (fun _ (y : OpInfo) => y.name == s) (tabK 87) default)
theorem named_rt : ((List.range 88).all fun n => decide (namedOf (opOf (n : Int)).name = n)) = true := by decide +kernel
theorem named_name (n : Nat) (h : n ≤ 87) : namedOf (opOf (n : Int)).name = n := by
  have := List.all_eq_true.1 named_rt n (List.mem_range.2 (by omega))
  simpa using this
theorem idxByF_spec {α : Type} [Inhabited α] (eq : α → α → Bool) (x : α) : ∀ (l : List α) (i : Nat), Lib.idxByFrom eq x l i = -1 ∨ ∃ k y, l[k]? = some y ∧ Lib.idxByFrom eq x l i = ((i + k : Nat) : Int) ∧ eq x y = true
  | [], i => .inl rfl
  | z :: r, i => by
    unfold Lib.idxByFrom
    by_cases h : eq x z = true
    · rw [if_pos h]; exact .inr ⟨0, z, rfl, rfl, h⟩
    · rw [if_neg h]
      rcases idxByF_spec eq x r (i + 1) with e | ⟨k, y, h1, h2, h3⟩
      · exact .inl e
      · exact .inr ⟨k + 1, y, by simpa using h1, by rw [h2]; omega, h3⟩
/-- What is found has that name. -/
theorem named_spec (s : List UInt8) : namedOf s = 0 ∨ (1 ≤ namedOf s ∧ namedOf s ≤ 87 ∧ (opOf (namedOf s)).name = s) := by
  unfold namedOf
  by_cases h : s = []
  · rw [if_pos h]; exact .inl rfl
  · rw [if_neg h]
    unfold Lib.idxBy
    rcases idxByF_spec (fun _ (y : OpInfo) => y.name == s) default (tabK 87) 0 with e | ⟨k, y, h1, h2, h3⟩
    · rw [e]; exact .inl rfl
    · rw [h2, Nat.zero_add]
      have hk : k < 88 := by have := (List.getElem?_eq_some_iff.1 h1).1; rw [tabK_len] at this; exact this
      rw [tabK_get _ k hk, if_pos (by omega)] at h1
      have h3' : y.name = s := by simpa using h3
      have h1' : opOf (k : Int) = y := by simpa using h1
      rcases Nat.eq_zero_or_pos k with h0 | h0
      · subst h0; exact .inl rfl
      · refine .inr ?_
        rw [show max (0 : Int) (k : Int) = k by omega]
        exact ⟨by omega, by omega, by rw [h1']; exact h3'⟩
end Go.Proofs.YtdbpnbmaineniaaGreatDoor
