/- An instruction that lies in a box of its own. Conditions: none. -/
import Derived.Test.YtdbpnbmaineniaaGreatDoorInsnDf
import Derived.Deep.MidRow
import Derived.WalkKit
set_option linter.unusedVariables false
set_option linter.unusedSimpArgs false
namespace Go.Proofs.YtdbpnbmaineniaaGreatDoor
open Go.RowKit
/-- An instruction's box. -/
structure XB (w : World) (cs : List Value) (W : World) : Prop where
  c : W.rangeAt w.heap.size 0 cs
  bl : Below w.heap.size w W
  lt : w.heap.size < W.heap.size
theorem XB.start (w : World) (cs : List Value) (t : TypeId) : XB w cs (w.alloc (.cells cs.toArray t)) :=
  ⟨fun j v hv => by rw [World.cell?_alloc_new, Nat.zero_add]; simpa using hv, (Below.refl _ _).alloc (Nat.le_refl _) _, by simp⟩
theorem XB.keep {w W W' : World} {cs : List Value} (h : XB w cs W) (hb : Below W.heap.size W W') : XB w cs W' :=
  ⟨fun j v hv => by rw [hb.cell (p := ⟨w.heap.size, 0 + j, none⟩) h.lt]; exact h.c j v hv, h.bl.trans (hb.mono (Nat.le_of_lt h.lt)), Nat.lt_of_lt_of_le h.lt hb.size⟩
theorem XB.at {w W : World} {cs : List Value} (h : XB w cs W) (j : Nat) (v : Value) (hv : cs[j]? = some v) : W.cell? ⟨w.heap.size, j, none⟩ = some v := by
  have := h.c j v hv; rw [Nat.zero_add] at this; exact this
end Go.Proofs.YtdbpnbmaineniaaGreatDoor
