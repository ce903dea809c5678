/- The walks of alu.does and alu.amos: which function stands at an op's place. Conditions: a place that the table has. -/
import Derived.Test.YthoohbefncjkmaaDoorProg
import Derived.Test.YthoohbefncjkmaaDoorBase
import Derived.ProofKit
import Derived.WalkSpells
import Derived.WalkLawsBesides
import Derived.Lib.Hide
namespace Go.Proofs.YthoohbefncjkmaaDoor
open Go.RowKit
attribute [local go_sem] run_index_array' run_part_plain
/-- A function with a body is entered. -/
theorem callFunc_body {P : Program} {f : FuncId} {fn : Func} (hf : P.funcs[f]? = some fn) (hname : (fn.name == "runtime.NumGoroutine") = false) (hb : fn.body.isNone = false) (args : Array Value) (w : World) :
    Sem.run P (callFunc f args) w = .ok (.enter f args) w := by
  have h1 : fn.name ≠ "runtime.NumGoroutine" := by simpa using hname
  obtain ⟨c, hc⟩ : ∃ c, fn.body = some c := by
    cases h : fn.body with
    | none => rw [h] at hb; simp at hb
    | some c => exact ⟨c, rfl⟩
  simp [callFunc, hf, h1, hc]
def doesFn : Nat → FuncId
  | 35 => 40
  | 36 => 41
  | 37 => 42
  | 38 => 43
  | 39 => 45
  | 40 => 46
  | 41 => 47
  | 42 => 48
  | 43 => 49
  | 44 => 50
  | 45 => 51
  | 46 => 52
  | 47 => 53
  | 48 => 54
  | 49 => 55
  | 50 => 56
  | 51 => 57
  | 52 => 59
  | 53 => 60
  | 54 => 61
  | 55 => 62
  | 56 => 63
  | 57 => 64
  | 58 => 65
  | 59 => 61
  | 60 => 66
  | 61 => 63
  | 62 => 67
  | _ => 0
set_option maxRecDepth 100000 in
set_option maxHeartbeats 4000000 in
theorem does_any (p : Nat) (h1 : 35 ≤ p) (h2 : p ≤ 62) (w : World) : Calls Tryd.prog 30 #[.int .i64 p] w fun e w' => e = .returned (.func (Fn.func (doesFn p)) #[] #[]) ∧ w = w' := by
  have h1' : Hid (35 ≤ p) := h1
  have h2' : Hid (p ≤ 62) := h2
  clear h1 h2
  go_enter Tryd.func30, Tryd.ntmps30
  go_wp2
  have h1 := h1'.out
  have h2 := h2'.out
  clear h1' h2'
  have hp : p = 35 ∨ p = 36 ∨ p = 37 ∨ p = 38 ∨ p = 39 ∨ p = 40 ∨ p = 41 ∨ p = 42 ∨ p = 43 ∨ p = 44 ∨ p = 45 ∨ p = 46 ∨ p = 47 ∨ p = 48 ∨ p = 49 ∨ p = 50 ∨ p = 51 ∨ p = 52 ∨ p = 53 ∨ p = 54 ∨ p = 55 ∨ p = 56 ∨ p = 57 ∨ p = 58 ∨ p = 59 ∨ p = 60 ∨ p = 61 ∨ p = 62 := by omega
  rcases hp with rfl | rfl | rfl | rfl | rfl | rfl | rfl | rfl | rfl | rfl | rfl | rfl | rfl | rfl | rfl | rfl | rfl | rfl | rfl | rfl | rfl | rfl | rfl | rfl | rfl | rfl | rfl | rfl
  all_goals
    go_simp
    go_wp2
    go_ret
    exact ⟨rfl, rfl⟩
theorem does_call (p : Nat) (h1 : 35 ≤ p) (h2 : p ≤ 62) (args : Array Value) (w : World) : Sem.run Tryd.prog (callFunc (doesFn p) args) w = .ok (.enter (doesFn p) args) w := by
  have hp : p = 35 ∨ p = 36 ∨ p = 37 ∨ p = 38 ∨ p = 39 ∨ p = 40 ∨ p = 41 ∨ p = 42 ∨ p = 43 ∨ p = 44 ∨ p = 45 ∨ p = 46 ∨ p = 47 ∨ p = 48 ∨ p = 49 ∨ p = 50 ∨ p = 51 ∨ p = 52 ∨ p = 53 ∨ p = 54 ∨ p = 55 ∨ p = 56 ∨ p = 57 ∨ p = 58 ∨ p = 59 ∨ p = 60 ∨ p = 61 ∨ p = 62 := by omega
  rcases hp with rfl | rfl | rfl | rfl | rfl | rfl | rfl | rfl | rfl | rfl | rfl | rfl | rfl | rfl | rfl | rfl | rfl | rfl | rfl | rfl | rfl | rfl | rfl | rfl | rfl | rfl | rfl | rfl
  · exact callFunc_body Tryd.func40 (by kernel_rfl) (by kernel_rfl) args w
  · exact callFunc_body Tryd.func41 (by kernel_rfl) (by kernel_rfl) args w
  · exact callFunc_body Tryd.func42 (by kernel_rfl) (by kernel_rfl) args w
  · exact callFunc_body Tryd.func43 (by kernel_rfl) (by kernel_rfl) args w
  · exact callFunc_body Tryd.func45 (by kernel_rfl) (by kernel_rfl) args w
  · exact callFunc_body Tryd.func46 (by kernel_rfl) (by kernel_rfl) args w
  · exact callFunc_body Tryd.func47 (by kernel_rfl) (by kernel_rfl) args w
  · exact callFunc_body Tryd.func48 (by kernel_rfl) (by kernel_rfl) args w
  · exact callFunc_body Tryd.func49 (by kernel_rfl) (by kernel_rfl) args w
  · exact callFunc_body Tryd.func50 (by kernel_rfl) (by kernel_rfl) args w
  · exact callFunc_body Tryd.func51 (by kernel_rfl) (by kernel_rfl) args w
  · exact callFunc_body Tryd.func52 (by kernel_rfl) (by kernel_rfl) args w
  · exact callFunc_body Tryd.func53 (by kernel_rfl) (by kernel_rfl) args w
  · exact callFunc_body Tryd.func54 (by kernel_rfl) (by kernel_rfl) args w
  · exact callFunc_body Tryd.func55 (by kernel_rfl) (by kernel_rfl) args w
  · exact callFunc_body Tryd.func56 (by kernel_rfl) (by kernel_rfl) args w
  · exact callFunc_body Tryd.func57 (by kernel_rfl) (by kernel_rfl) args w
  · exact callFunc_body Tryd.func59 (by kernel_rfl) (by kernel_rfl) args w
  · exact callFunc_body Tryd.func60 (by kernel_rfl) (by kernel_rfl) args w
  · exact callFunc_body Tryd.func61 (by kernel_rfl) (by kernel_rfl) args w
  · exact callFunc_body Tryd.func62 (by kernel_rfl) (by kernel_rfl) args w
  · exact callFunc_body Tryd.func63 (by kernel_rfl) (by kernel_rfl) args w
  · exact callFunc_body Tryd.func64 (by kernel_rfl) (by kernel_rfl) args w
  · exact callFunc_body Tryd.func65 (by kernel_rfl) (by kernel_rfl) args w
  · exact callFunc_body Tryd.func61 (by kernel_rfl) (by kernel_rfl) args w
  · exact callFunc_body Tryd.func66 (by kernel_rfl) (by kernel_rfl) args w
  · exact callFunc_body Tryd.func63 (by kernel_rfl) (by kernel_rfl) args w
  · exact callFunc_body Tryd.func67 (by kernel_rfl) (by kernel_rfl) args w
def amosFn : Nat → FuncId
  | 0 => 69
  | 1 => 70
  | 2 => 71
  | 3 => 72
  | 4 => 73
  | 5 => 74
  | 6 => 75
  | 7 => 76
  | 8 => 77
  | _ => 0
set_option maxRecDepth 100000 in
set_option maxHeartbeats 4000000 in
theorem amos_any (p : Nat) (h1 : 0 ≤ p) (h2 : p ≤ 8) (w : World) : Calls Tryd.prog 32 #[.int .i64 p] w fun e w' => e = .returned (.func (Fn.func (amosFn p)) #[] #[]) ∧ w = w' := by
  have h1' : Hid (0 ≤ p) := h1
  have h2' : Hid (p ≤ 8) := h2
  clear h1 h2
  go_enter Tryd.func32, Tryd.ntmps32
  go_wp2
  have h1 := h1'.out
  have h2 := h2'.out
  clear h1' h2'
  have hp : p = 0 ∨ p = 1 ∨ p = 2 ∨ p = 3 ∨ p = 4 ∨ p = 5 ∨ p = 6 ∨ p = 7 ∨ p = 8 := by omega
  rcases hp with rfl | rfl | rfl | rfl | rfl | rfl | rfl | rfl | rfl
  all_goals
    go_simp
    go_wp2
    go_ret
    exact ⟨rfl, rfl⟩
theorem amos_call (p : Nat) (h1 : 0 ≤ p) (h2 : p ≤ 8) (args : Array Value) (w : World) : Sem.run Tryd.prog (callFunc (amosFn p) args) w = .ok (.enter (amosFn p) args) w := by
  have hp : p = 0 ∨ p = 1 ∨ p = 2 ∨ p = 3 ∨ p = 4 ∨ p = 5 ∨ p = 6 ∨ p = 7 ∨ p = 8 := by omega
  rcases hp with rfl | rfl | rfl | rfl | rfl | rfl | rfl | rfl | rfl
  · exact callFunc_body Tryd.func69 (by kernel_rfl) (by kernel_rfl) args w
  · exact callFunc_body Tryd.func70 (by kernel_rfl) (by kernel_rfl) args w
  · exact callFunc_body Tryd.func71 (by kernel_rfl) (by kernel_rfl) args w
  · exact callFunc_body Tryd.func72 (by kernel_rfl) (by kernel_rfl) args w
  · exact callFunc_body Tryd.func73 (by kernel_rfl) (by kernel_rfl) args w
  · exact callFunc_body Tryd.func74 (by kernel_rfl) (by kernel_rfl) args w
  · exact callFunc_body Tryd.func75 (by kernel_rfl) (by kernel_rfl) args w
  · exact callFunc_body Tryd.func76 (by kernel_rfl) (by kernel_rfl) args w
  · exact callFunc_body Tryd.func77 (by kernel_rfl) (by kernel_rfl) args w
end Go.Proofs.YthoohbefncjkmaaDoor
