/- The walks of alu.does and alu.amos: which function stands at an op's place. Conditions: a place that the table has. -/
import Derived.Test.YtbglinhglnbfmaaGreatDoorProg
import Derived.Test.YtbglinhglnbfmaaGreatDoorBase
import Derived.ProofKit
import Derived.WalkSpells
import Derived.WalkLawsBesides
import Derived.Lib.Hide
namespace Go.Proofs.YtbglinhglnbfmaaGreatDoor
open Go.RowKit
attribute [local go_sem] run_index_array' run_part_plain
/-- A function with a body is entered. -/
theorem callFunc_body {P : Program} {f : FuncId} {fn : Func} (hf : P.funcs[f]? = some fn) (hname : (fn.name == "runtime.NumGoroutine") = false) (hb : fn.body.isNone = false) (args : Array Value) (w : World) :
    Sem.run P (callFunc f args) w = .ok (.enter f args) w := by
  have h1 : fn.name ≠ "runtime.NumGoroutine" := by simpa using hname
  obtain ⟨c, hc⟩ : ∃ c, fn.body = some c := by
    cases h : fn.body with
    | none => rw [h] at hb; simp at hb
    | some c => exact ⟨c, rfl⟩
  simp [callFunc, hf, h1, hc]
def doesFn : Nat → FuncId
  | 35 => 79
  | 36 => 80
  | 37 => 81
  | 38 => 82
  | 39 => 84
  | 40 => 85
  | 41 => 86
  | 42 => 87
  | 43 => 88
  | 44 => 89
  | 45 => 90
  | 46 => 91
  | 47 => 92
  | 48 => 93
  | 49 => 95
  | 50 => 96
  | 51 => 97
  | 52 => 99
  | 53 => 100
  | 54 => 101
  | 55 => 102
  | 56 => 103
  | 57 => 104
  | 58 => 105
  | 59 => 101
  | 60 => 106
  | 61 => 103
  | 62 => 107
  | _ => 0
set_option maxRecDepth 100000 in
set_option maxHeartbeats 4000000 in
theorem does_any (p : Nat) (h1 : 35 ≤ p) (h2 : p ≤ 62) (w : World) : Calls Tryz.prog 62 #[.int .i64 p] w fun e w' => e = .returned (.func (Fn.func (doesFn p)) #[] #[]) ∧ w = w' := by
  have h1' : Hid (35 ≤ p) := h1
  have h2' : Hid (p ≤ 62) := h2
  clear h1 h2
  go_enter Tryz.func62, Tryz.ntmps62
  go_wp2
  have h1 := h1'.out
  have h2 := h2'.out
  clear h1' h2'
  have hp : p = 35 ∨ p = 36 ∨ p = 37 ∨ p = 38 ∨ p = 39 ∨ p = 40 ∨ p = 41 ∨ p = 42 ∨ p = 43 ∨ p = 44 ∨ p = 45 ∨ p = 46 ∨ p = 47 ∨ p = 48 ∨ p = 49 ∨ p = 50 ∨ p = 51 ∨ p = 52 ∨ p = 53 ∨ p = 54 ∨ p = 55 ∨ p = 56 ∨ p = 57 ∨ p = 58 ∨ p = 59 ∨ p = 60 ∨ p = 61 ∨ p = 62 := by omega
  rcases hp with rfl | rfl | rfl | rfl | rfl | rfl | rfl | rfl | rfl | rfl | rfl | rfl | rfl | rfl | rfl | rfl | rfl | rfl | rfl | rfl | rfl | rfl | rfl | rfl | rfl | rfl | rfl | rfl
  all_goals
    go_simp
    go_wp2
    go_ret
    exact ⟨rfl, rfl⟩
theorem does_call (p : Nat) (h1 : 35 ≤ p) (h2 : p ≤ 62) (args : Array Value) (w : World) : Sem.run Tryz.prog (callFunc (doesFn p) args) w = .ok (.enter (doesFn p) args) w := by
  have hp : p = 35 ∨ p = 36 ∨ p = 37 ∨ p = 38 ∨ p = 39 ∨ p = 40 ∨ p = 41 ∨ p = 42 ∨ p = 43 ∨ p = 44 ∨ p = 45 ∨ p = 46 ∨ p = 47 ∨ p = 48 ∨ p = 49 ∨ p = 50 ∨ p = 51 ∨ p = 52 ∨ p = 53 ∨ p = 54 ∨ p = 55 ∨ p = 56 ∨ p = 57 ∨ p = 58 ∨ p = 59 ∨ p = 60 ∨ p = 61 ∨ p = 62 := by omega
  rcases hp with rfl | rfl | rfl | rfl | rfl | rfl | rfl | rfl | rfl | rfl | rfl | rfl | rfl | rfl | rfl | rfl | rfl | rfl | rfl | rfl | rfl | rfl | rfl | rfl | rfl | rfl | rfl | rfl
  · exact callFunc_body Tryz.func79 (by kernel_rfl) (by kernel_rfl) args w
  · exact callFunc_body Tryz.func80 (by kernel_rfl) (by kernel_rfl) args w
  · exact callFunc_body Tryz.func81 (by kernel_rfl) (by kernel_rfl) args w
  · exact callFunc_body Tryz.func82 (by kernel_rfl) (by kernel_rfl) args w
  · exact callFunc_body Tryz.func84 (by kernel_rfl) (by kernel_rfl) args w
  · exact callFunc_body Tryz.func85 (by kernel_rfl) (by kernel_rfl) args w
  · exact callFunc_body Tryz.func86 (by kernel_rfl) (by kernel_rfl) args w
  · exact callFunc_body Tryz.func87 (by kernel_rfl) (by kernel_rfl) args w
  · exact callFunc_body Tryz.func88 (by kernel_rfl) (by kernel_rfl) args w
  · exact callFunc_body Tryz.func89 (by kernel_rfl) (by kernel_rfl) args w
  · exact callFunc_body Tryz.func90 (by kernel_rfl) (by kernel_rfl) args w
  · exact callFunc_body Tryz.func91 (by kernel_rfl) (by kernel_rfl) args w
  · exact callFunc_body Tryz.func92 (by kernel_rfl) (by kernel_rfl) args w
  · exact callFunc_body Tryz.func93 (by kernel_rfl) (by kernel_rfl) args w
  · exact callFunc_body Tryz.func95 (by kernel_rfl) (by kernel_rfl) args w
  · exact callFunc_body Tryz.func96 (by kernel_rfl) (by kernel_rfl) args w
  · exact callFunc_body Tryz.func97 (by kernel_rfl) (by kernel_rfl) args w
  · exact callFunc_body Tryz.func99 (by kernel_rfl) (by kernel_rfl) args w
  · exact callFunc_body Tryz.func100 (by kernel_rfl) (by kernel_rfl) args w
  · exact callFunc_body Tryz.func101 (by kernel_rfl) (by kernel_rfl) args w
  · exact callFunc_body Tryz.func102 (by kernel_rfl) (by kernel_rfl) args w
  · exact callFunc_body Tryz.func103 (by kernel_rfl) (by kernel_rfl) args w
  · exact callFunc_body Tryz.func104 (by kernel_rfl) (by kernel_rfl) args w
  · exact callFunc_body Tryz.func105 (by kernel_rfl) (by kernel_rfl) args w
  · exact callFunc_body Tryz.func101 (by kernel_rfl) (by kernel_rfl) args w
  · exact callFunc_body Tryz.func106 (by kernel_rfl) (by kernel_rfl) args w
  · exact callFunc_body Tryz.func103 (by kernel_rfl) (by kernel_rfl) args w
  · exact callFunc_body Tryz.func107 (by kernel_rfl) (by kernel_rfl) args w
end Go.Proofs.YtbglinhglnbfmaaGreatDoor
