/- The walks of hart.try and of its deferred closure: what is thrown is caught, and told. Conditions: the closure that it does ends in one of two ways. -/
import Derived.Test.YtbglinhglnbfmaaGreatDoorBase
import Derived.Test.YtbglinhglnbfmaaGreatDoorProg
import Derived.Test.YtbglinhglnbfmaaGreatDoorChecked
import Derived.Defers
import Derived.Recover
import Derived.Lib.Hide
set_option linter.unusedVariables false
namespace Go.Proofs.YtbglinhglnbfmaaGreatDoor
open Go.RowKit
/-- How a hart's instruction is thrown off. -/
def thrown (k : Int) : List PanicEntry := [{ v := .iface 74 (.int .i64 k), recovered := false }]
theorem stop_yes (v : Value) (W : World) : (Instr.typeAssert (.iface 74 v) 20 74 true).run Tryz.prog W = .ok (.tuple #[v, .bool true]) W := by kernel_rfl
theorem stop_nil (W : World) : (Instr.typeAssert .nilIface 20 74 true).run Tryz.prog W = .ok (.tuple #[.int .i64 0, .bool false]) W := by kernel_rfl
set_option maxRecDepth 100000 in
theorem catch_panicking (p : Addr) (x k : Int) (w : World) (hc : w.cell? p = some (.int .i64 x)) (hz : w.frozen? p = false) :
    CallsD Tryz.prog 36 #[.pointer (some p)] (.panicking ({ v := .iface 74 (.int .i64 k), recovered := false } :: [])) w fun e u' w' =>
      e = .returned (.tuple #[]) ∧ u' = .panicking ({ v := .iface 74 (.int .i64 k), recovered := true } :: []) ∧ w' = w.setCell p (.int .i64 k) := by
  refine callsD_of_wpS Tryz.func36 rfl fun c₀ cs hu => ?_
  apply wpS_seq
  apply wpS_region
  simp [wpOpsS, go_sem, recoverD, hu, Tryz.ntmps36, Exit.thenS, stop_yes]
  apply wpS_seq
  apply wpS_region
  simp [wpOpsS, go_sem, Exit.thenS]
  refine wpS_cond (t := true) (by simp [Act.eval, Array.replicate]) ?_
  simp only [if_true]
  apply wpS_region
  simp [wpOpsS, go_sem, hc, hz, bodyPostS, results, Tryz.results36]
set_option maxRecDepth 100000 in
theorem catch_idle (p : Addr) (w : World) :
    CallsD Tryz.prog 36 #[.pointer (some p)] .returning w fun e u' w' => e = .returned (.tuple #[]) ∧ u' = .returning ∧ w' = w := by
  refine callsD_of_wpS Tryz.func36 rfl fun c₀ cs hu => ?_
  apply wpS_seq
  apply wpS_region
  simp [wpOpsS, go_sem, recoverD, hu, Tryz.ntmps36, Exit.thenS, stop_nil]
  apply wpS_seq
  apply wpS_region
  simp [wpOpsS, go_sem, Exit.thenS]
  refine wpS_cond (t := false) (by simp [Act.eval, Array.replicate]) ?_
  simp only [Bool.false_eq_true, if_false]
  refine wpS_of_wp (wp_skip ?_)
  cases c₀
  simp_all [bodyPostS, results, Tryz.results36]
/-- What a closure does under try: it ends, or it is thrown off. The cell of try's result is as it was. -/
structure Does (F : FuncId) (caps : Array Value) (w : World) (R : World → Prop) (S : Int → World → Prop) : Prop where
  call : Calls Tryz.prog F caps (w.alloc (.cells #[.int .i64 0] 3)) fun e w' => ((e = .returned (.tuple #[]) ∧ R w') ∨ (∃ k, e = .panicked (thrown k) ∧ S k w')) ∧ w'.cell? ⟨w.heap.size, 0, none⟩ = some (.int .i64 0) ∧ w'.frozen? ⟨w.heap.size, 0, none⟩ = false
set_option maxRecDepth 100000 in
theorem try_step (caps : Array Value) (w : World) (R : World → Prop) (S : Int → World → Prop) (h : Does 22 caps w R S) :
    Calls Tryz.prog 21 #[.func (Fn.func 22) #[] caps] w fun e w' => ∃ w1, (e = .returned (.int .i64 0) ∧ R w1 ∧ w' = w1.setCell ⟨w.heap.size, 0, none⟩ (.int .i64 0)) ∨ (∃ k, e = .returned (.int .i64 k) ∧ S k w1 ∧ w' = w1.setCell ⟨w.heap.size, 0, none⟩ (.int .i64 k)) := by
  have hmf : ∀ (fn : Fn) (first cap : Array Value) (w : World), (Instr.makeFunc fn first cap).run Tryz.prog w = .ok (.func fn first cap) w := fun _ _ _ _ => rfl
  have h := Lib.hid h
  go_enter_defers Tryz.func21, Tryz.ntmps21
  go_wp2_with (go_at_call 22; refine h.out.call.mono ?_; rintro e w1 ⟨⟨rfl, hR⟩ | ⟨k, rfl, hS⟩, hc, hz⟩)
  · refine leaves_cons (f := 36) (args := #[.pointer (some ⟨w.heap.size, 0, none⟩)]) (by simp) (by simp [go_sem]) ?_
    refine (catch_idle ⟨w.heap.size, 0, none⟩ _).mono ?_
    rintro e u' w'' ⟨rfl, rfl, rfl⟩
    simp [Leaves, settle, results, Tryz.results21, go_sem, hc]
    exact ⟨w1, .inl ⟨hR, rfl⟩⟩
  · refine leaves_cons (f := 36) (args := #[.pointer (some ⟨w.heap.size, 0, none⟩)]) (by simp) (by simp [go_sem]) ?_
    refine (catch_panicking ⟨w.heap.size, 0, none⟩ 0 k _ hc hz).mono ?_
    rintro e u' w'' ⟨rfl, rfl, rfl⟩
    simp [Leaves, settle, results, Tryz.results21, go_sem, hc]
    exact ⟨w1, .inr ⟨hS, rfl⟩⟩
set_option maxRecDepth 100000 in
theorem try_ask (caps : Array Value) (w : World) (R : World → Prop) (S : Int → World → Prop) (h : Does 27 caps w R S) :
    Calls Tryz.prog 21 #[.func (Fn.func 27) #[] caps] w fun e w' => ∃ w1, (e = .returned (.int .i64 0) ∧ R w1 ∧ w' = w1.setCell ⟨w.heap.size, 0, none⟩ (.int .i64 0)) ∨ (∃ k, e = .returned (.int .i64 k) ∧ S k w1 ∧ w' = w1.setCell ⟨w.heap.size, 0, none⟩ (.int .i64 k)) := by
  have hmf : ∀ (fn : Fn) (first cap : Array Value) (w : World), (Instr.makeFunc fn first cap).run Tryz.prog w = .ok (.func fn first cap) w := fun _ _ _ _ => rfl
  have h := Lib.hid h
  go_enter_defers Tryz.func21, Tryz.ntmps21
  go_wp2_with (go_at_call 27; refine h.out.call.mono ?_; rintro e w1 ⟨⟨rfl, hR⟩ | ⟨k, rfl, hS⟩, hc, hz⟩)
  · refine leaves_cons (f := 36) (args := #[.pointer (some ⟨w.heap.size, 0, none⟩)]) (by simp) (by simp [go_sem]) ?_
    refine (catch_idle ⟨w.heap.size, 0, none⟩ _).mono ?_
    rintro e u' w'' ⟨rfl, rfl, rfl⟩
    simp [Leaves, settle, results, Tryz.results21, go_sem, hc]
    exact ⟨w1, .inl ⟨hR, rfl⟩⟩
  · refine leaves_cons (f := 36) (args := #[.pointer (some ⟨w.heap.size, 0, none⟩)]) (by simp) (by simp [go_sem]) ?_
    refine (catch_panicking ⟨w.heap.size, 0, none⟩ 0 k _ hc hz).mono ?_
    rintro e u' w'' ⟨rfl, rfl, rfl⟩
    simp [Leaves, settle, results, Tryz.results21, go_sem, hc]
    exact ⟨w1, .inr ⟨hS, rfl⟩⟩
end Go.Proofs.YtbglinhglnbfmaaGreatDoor
