/- Lists of ints, a taint, and pairs of ints that come by value, opened to their cells. Conditions: none. -/
import Derived.Test.YtebeajnaamglkaaGreatDoorInsnOp
import Derived.Test.YtebeajnaamglkaaGreatDoorTntSe
import Derived.ChangeSlices
import Derived.Deep.Slices
set_option linter.unusedVariables false
namespace Go.Proofs.YtebeajnaamglkaaGreatDoor
open Go.ChangeShapes Go.WideShapes Go.RowKit
section
variable {H : Type} {enc : TypeId × Value → H} {w : World} {base : Nat} {spare : Nat → Bool} {held : Bool}
set_option maxRecDepth 100000 in
theorem openT_ints1 {fuel : Nat} {v : Value} {x : DataW H × List MemPlace} (hf : DataW.trod enc Tryz.prog w base spare held fuel 25 [v] = some x) : ∃ l, RL w w.heap.size v l := by
  rcases open_ints Tryz.underlying25 Tryz.underlying3 (by kernel_rfl) hf with ⟨hcs, _⟩ | ⟨a, l, c, zs, hcs, _, hl, hm, hz, _, hcell, hwz⟩
  · simp at hcs
    subst hcs
    exact ⟨[], RL.nil _ _⟩
  · simp at hcs
    subst hcs
    have hlz : l ≤ zs.length := by rw [hz]; split <;> omega
    have hlen : (zs.take l).length = l := by rw [List.length_take]; omega
    refine ⟨zs.take l, ⟨some a, c, by rw [hlen], by rw [hlen]; exact hl, hm, ?_⟩⟩
    by_cases h0 : l = 0
    · left; rw [h0]; rfl
    · obtain ⟨b, off, rfl, hc⟩ := ints_at hcell (show 0 < zs.length by omega)
      right
      refine ⟨b, off, rfl, World.block_lt_of_cell? w _ (hc 0 (by omega)), fun j y hy => ?_⟩
      have hj : j < l := by have := (List.getElem?_eq_some_iff.1 hy).1; omega
      rw [List.getElem?_take_of_lt hj] at hy
      rw [hc j (by omega)]
      have : zs.getD j 0 = y := by rw [List.getD, hy]; rfl
      rw [this]
set_option maxRecDepth 100000 in
theorem openT_ints {v : Value} {d : DataW H} {p : List MemPlace} (h : DataW.Trod enc Tryz.prog w base spare held 25 v d p)
    {r : Reach} {b0 : Nat} (hv : Value.okWide Tryz.prog w r b0 25 v) : ∃ l, RL w w.heap.size v l := by
  obtain ⟨ao, n, c, rfl⟩ := okWide_slice Tryz.underlying25 hv
  obtain ⟨fuel, hf⟩ := h
  exact openT_ints1 hf
theorem sizeT_taint : Tryz.prog.cellsOf 28 = 33 := by kernel_rfl
theorem sizeT_rows : Tryz.prog.cellsOf 26 = 32 := by kernel_rfl
theorem sizeT_ints : Tryz.prog.cellsOf 25 = 1 := by kernel_rfl
theorem take_one' {l : List Value} {k : Nat} (hk : k < l.length) : (l.drop k).take 1 = [l[k]] := by
  rw [List.drop_eq_getElem_cons hk]; rfl
set_option maxRecDepth 100000 in
theorem openT_taint {v : Value} {d : DataW H} {p : List MemPlace} (h : DataW.Trod enc Tryz.prog w base spare held 28 v d p)
    {r : Reach} {b0 : Nat} (hv : Value.okWide Tryz.prog w r b0 28 v) : ∃ cs T, v = .agg cs.toArray ∧ TS w (fun b => b < w.heap.size) cs T := by
  obtain ⟨cs, rfl, hsz⟩ := okWide_struct Tryz.underlying28 hv
  rw [sizeT_taint] at hsz
  obtain ⟨fuel, hf⟩ := h
  obtain ⟨xs, n, _, _, hl, hlen, hg⟩ := DataW.trod_struct Tryz.underlying28 hf
  obtain ⟨y0, e0⟩ := some_atI hlen (show 0 < 2 by decide)
  obtain ⟨y1, e1⟩ := some_atI hlen (show 1 < 2 by decide)
  have g0 : DataW.trod enc Tryz.prog w base spare held n 26 ((cs.toList.drop 0).take (Tryz.prog.cellsOf 26)) = some y0 := (hg 0 _ rfl).trans e0
  have g1 : DataW.trod enc Tryz.prog w base spare held n 25 ((cs.toList.drop 32).take (Tryz.prog.cellsOf 25)) = some y1 := (hg 1 _ rfl).trans e1
  rw [sizeT_ints] at g1
  rw [sizeT_rows, List.drop_zero] at g0
  have hL : cs.toList.length = 33 := by simpa using hsz
  obtain ⟨ys, m, _, _, _, hyl, hy⟩ := DataW.trod_array Tryz.underlying26 g0
  have key : ∀ i, ∃ l, ∀ hi : i < 33, RL w w.heap.size (cs.toList[i]'(by omega)) l := fun i => by
    by_cases hi : i < 32
    · obtain ⟨y, ey⟩ := some_atI hyl hi
      have gi := (hy i hi).trans ey
      rw [sizeT_ints, Nat.mul_one, take_one' (by rw [List.length_take]; omega), List.getElem_take] at gi
      obtain ⟨l, hl⟩ := openT_ints1 gi
      exact ⟨l, fun _ => hl⟩
    · by_cases h2 : i = 32
      · subst h2
        rw [take_one' (by omega)] at g1
        obtain ⟨l, hl⟩ := openT_ints1 g1
        exact ⟨l, fun _ => hl⟩
      · exact ⟨[], fun hh => absurd hh (by omega)⟩
  obtain ⟨F, hF⟩ := Classical.skolem.1 key
  refine ⟨cs.toList, (List.range 33).map F, by simp, ⟨hL, by simp, fun j u l h1 h2 => ?_⟩⟩
  have hj : j < 33 := by have := (List.getElem?_eq_some_iff.1 h1).1; omega
  rw [List.getElem?_map, List.getElem?_range hj] at h2
  rw [List.getElem?_eq_getElem (by omega)] at h1
  obtain rfl := Option.some.inj h1
  obtain rfl : F j = l := Option.some.inj h2
  exact (hF j hj).rp (Nat.le_refl _)
end
end Go.Proofs.YtebeajnaamglkaaGreatDoor
