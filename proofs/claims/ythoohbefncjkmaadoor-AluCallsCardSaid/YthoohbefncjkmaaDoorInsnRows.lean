/- The walk of insn.rows: the ops' rows in new memory. Conditions: none. -/
import Derived.Test.YthoohbefncjkmaaDoorProg
import Derived.Test.YthoohbefncjkmaaDoorInsnDefs
import Derived.ProofKit
import Derived.Lib.Hide
import Derived.WalkSpells
namespace Go.Proofs.YthoohbefncjkmaaDoor
open Go.RowKit
/-- The rows in a block of their own. -/
structure RowsPost (w : World) (e : Ending) (w' : World) : Prop where
  ret : e = .returned (.slice (some ⟨w.heap.size, 0, none⟩) 15 15)
  text : ∀ k, k < 15 → w'.cell? ⟨w.heap.size, 2 * k, none⟩ = some (.string (rowStr k))
  form : ∀ k, k < 15 → w'.cell? ⟨w.heap.size, 2 * k + 1, none⟩ = some (.int .i64 (rowForm k))
  below : Below w.heap.size w w'
  size : w'.heap.size = w.heap.size + 1
set_option maxRecDepth 100000 in
set_option maxHeartbeats 2000000 in
theorem rows_any (w : World) : Calls Tryd.prog 85 #[] w (RowsPost w) := by
  go_enter Tryd.func85, Tryd.ntmps85
  go_wp2_with fail
  go_ret
  refine ⟨rfl, fun k hk => ?_, fun k hk => ?_, (Below.refl _ _).alloc (Nat.le_refl _) _, by simp⟩
  · rw [World.cell?_alloc_new]
    rcases k with _ | _ | _ | _ | _ | _ | _ | _ | _ | _ | _ | _ | _ | _ | _ | k <;> first | rfl | omega
  · rw [World.cell?_alloc_new]
    rcases k with _ | _ | _ | _ | _ | _ | _ | _ | _ | _ | _ | _ | _ | _ | _ | k <;> first | rfl | omega
end Go.Proofs.YthoohbefncjkmaaDoor
