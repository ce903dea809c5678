/- Copies of instructions in the world's blocks, for the laws of words. Conditions: none. -/
import Derived.Test.YtcgflnkgekkidaaGreatDoorCodeA
import Derived.Test.YtcgflnkgekkidaaGreatDoorCodeWC
import Derived.Test.YtcgflnkgekkidaaGreatDoorCellF
set_option linter.unusedSimpArgs false
set_option linter.unusedVariables false
namespace Go.Proofs.YtcgflnkgekkidaaGreatDoor
open Go.RowKit
theorem checkE_02 (i : InsnV) : checkE i = 0 ∨ checkE i = 2 := by unfold checkE; split <;> simp
theorem cells_fresh (w : World) (cs : Array Value) (t : TypeId) (n : Nat) (hn : n ≤ cs.size) : (w.alloc (.cells cs t)).there w.heap.size 0 n := fun j hj => by
  refine ⟨?_, fresh_thawR w cs t _⟩
  rw [World.cell?_alloc_new, Nat.zero_add, Array.getElem?_eq_getElem (by omega)]; rfl
theorem stored_insn (s : World) (cs : List Value) (hl : cs.length = 9) (Z : Array Value) (hZ : Z.size = 9) (t : TypeId) : Below s.heap.size s (World.setCells (s.alloc (.cells Z t)) s.heap.size 0 cs) ∧ (World.setCells (s.alloc (.cells Z t)) s.heap.size 0 cs).rangeAt s.heap.size 0 cs ∧ s.heap.size < (World.setCells (s.alloc (.cells Z t)) s.heap.size 0 cs).heap.size := by
  have hal : Below s.heap.size s (s.alloc (.cells Z t)) := (Below.refl _ _).alloc (Nat.le_refl _) _
  exact ⟨below_cells (Nat.le_refl s.heap.size) cs 0 _ hal, World.rangeAt_setCells_same _ s.heap.size 0 cs (by rw [hl]; exact cells_fresh s Z t 9 (by omega)), Nat.lt_of_lt_of_le (show s.heap.size < (s.alloc (.cells Z t)).heap.size by simp) (below_cells (Nat.zero_le _) cs 0 _ (Below.refl 0 _)).size⟩
theorem there_on {w w' : World} {b n B : Nat} (h : w.there b 0 n) (hB : b < B) (hb : Below B w w') : w'.there b 0 n := fun j hj => by
  rw [hb.cell (p := ⟨b, 0 + j, none⟩) hB, hb.frozen (p := ⟨b, 0 + j, none⟩) hB]; exact h j hj
theorem range_set {w : World} {b : Nat} {cs : List Value} (h : w.rangeAt b 0 cs) (o : Nat) (v : Value) : (w.setCell ⟨b, o, none⟩ v).rangeAt b 0 (cs.set o v) := fun j u hj => by
  rw [List.getElem?_set] at hj
  by_cases e : o = j
  · subst e
    rw [if_pos rfl] at hj
    split at hj
    · rename_i hl
      rw [Nat.zero_add]
      cases hj
      exact World.cell?_setCell_same _ _ _ (by have := h o _ (List.getElem?_eq_getElem hl); rwa [Nat.zero_add] at this)
    · cases hj
  · rw [if_neg e] at hj
    rw [World.cell?_setCell_other _ _ _ _ (fun q => e ((congrArg Addr.off q).trans (Nat.zero_add j)))]
    exact h j u hj
theorem range_on {w w' : World} {b B : Nat} {cs : List Value} (hr : w.rangeAt b 0 cs) (hB : b < B) (hb : Below B w w') : w'.rangeAt b 0 cs := fun j v hv => by
  rw [hb.cell (p := ⟨b, 0 + j, none⟩) hB]; exact hr j v hv
theorem range_apart {w w' : World} {b B : Nat} {cs : List Value} (hr : w.rangeAt b 0 cs) (hlt : b < w.heap.size) (hne : b ≠ B) (hg : w.grownBy w' (some B)) : w'.rangeAt b 0 cs := fun j v hv => by
  rw [far_cell hg ⟨b, 0 + j, none⟩ hlt (fun e => hne (Option.some.inj e))]; exact hr j v hv
theorem range_cell {w : World} {b : Nat} {cs : List Value} (h : w.rangeAt b 0 cs) (j : Nat) (v : Value) (hj : cs[j]? = some v) : w.cell? ⟨b, j, none⟩ = some v := by have := h j v hj; rwa [Nat.zero_add] at this
/-- A copy of an instruction, just laid. -/
theorem copied {s : World} {cs : List Value} (hl : cs.length = 9) (Z : Array Value) (hZ : Z.size = 9) (t : TypeId) : Below s.heap.size s (World.setCells (s.alloc (.cells Z t)) s.heap.size 0 cs) ∧ (World.setCells (s.alloc (.cells Z t)) s.heap.size 0 cs).rangeAt s.heap.size 0 cs ∧ s.heap.size < (World.setCells (s.alloc (.cells Z t)) s.heap.size 0 cs).heap.size ∧ (World.setCells (s.alloc (.cells Z t)) s.heap.size 0 cs).there s.heap.size 0 9 := by
  obtain ⟨a, b, c⟩ := stored_insn s cs hl Z hZ t
  exact ⟨a, b, c, World.there_setCells (cells_fresh s Z t 9 (by omega)) _ _ _⟩
theorem there_thaw {w : World} {b n : Nat} (h : w.there b 0 n) (j : Nat) (hj : j < n) : w.frozen? ⟨b, j, none⟩ = false := by have := (h j hj).2; rwa [Nat.zero_add] at this
theorem InsnV.list_len (i : InsnV) : i.cells.toList.length = 9 := rfl
theorem size_insn (i : InsnV) : (Tryz.prog.info? 26).map (·.size) = some i.cells.toList.length := by rw [i.list_len]; kernel_rfl
theorem InsnV.list_one (i : InsnV) : i.cells.toList.toArray.all (·.oneCell') = true := by rw [Array.toArray_toList]; exact i.one
/-- A box that has just been made. -/
theorem boxed (w : World) (i : InsnV) (t : TypeId) : Below w.heap.size w (w.alloc (.cells i.cells t)) ∧ (w.alloc (.cells i.cells t)).rangeAt w.heap.size 0 i.cells.toList ∧ w.heap.size < (w.alloc (.cells i.cells t)).heap.size := ⟨(Below.refl _ _).alloc (Nat.le_refl _) _, cellR w i.cells t, by simp⟩
/-- Word at a list of cells. -/
theorem word_list (i : InsnV) (hlo : -9223372036854775808 ≤ i.op) (hop : i.op ≤ 9223372036854775807) (W : World) (ht : Tabs W) (hfl : Flds W) : Calls Tryz.prog 42 #[.agg i.cells.toList.toArray] W fun e w' => e = .returned (.tuple #[.int .u32 (un32 (wordV i)), .int .i64 (checkE i)]) ∧ Below W.heap.size W w' := by
  rw [Array.toArray_toList]; exact CodeWord_any i W hlo hop ht hfl
end Go.Proofs.YtcgflnkgekkidaaGreatDoor
