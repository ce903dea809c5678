/- The walks of the law's own functions over an instruction's text: text, count. Conditions: the library's tables lie as its initialisers lay them. -/
import Derived.Test.YtdbpnbmaineniaaGreatDoorInsnT
set_option linter.unusedVariables false
set_option linter.unusedSimpArgs false
namespace Go.Proofs.YtdbpnbmaineniaaGreatDoor
open Go.RowKit
set_option maxRecDepth 100000 in
set_option maxHeartbeats 2000000 in
theorem LText_any (i : InsnV) (hop : i.op ≤ 9223372036854775807) (him : -9223372036854775808 ≤ i.imm ∧ i.imm ≤ 9223372036854775807) (w : World) (ht : Tabs w) (hp : P10 w) :
    Calls Tryz.prog 28 #[.agg i.cells] w fun e w' => e = .returned (.string ⟨(textT i).toArray⟩) ∧ Below w.heap.size w w' := by
  have hB := XB.start w i.cells.toList 23
  rw [Array.toArray_toList] at hB
  have hu := Tryz.underlying23
  have hi : (Tryz.prog.info? 23).map (·.size) = some i.cells.toList.length := by kernel_rfl
  have ht1 := ht.later ((Below.refl _ w).alloc (Nat.le_refl _) (.cells i.cells 23)) (Nat.le_refl _)
  have hp1 := hp.later ((Below.refl _ w).alloc (Nat.le_refl _) (.cells i.cells 23)) (Nat.le_refl _)
  have hT := Lib.hid (fun W h1 h2 => IText_any i hop him W h1 h2)
  clear hop him ht hp
  generalize textT i = t at hT ⊢
  generalize checkE i = e0 at hT
  generalize i.cells = cs at *
  go_enter Tryz.func28, Tryz.ntmps28
  go_wp2_with (first | (refine wpList_load_mid rfl 23 _ rfl w.heap.size 0 rfl cs.toList _ hB.c hu rfl hi ?_) | (go_at_call 29; refine (hT.out _ ht1 hp1).mono ?_; rintro e w1 ⟨rfl, hb1⟩; replace hB := hB.keep hb1))
  go_ret
  exact ⟨rfl, hB.bl⟩
theorem live_1 : textT ⟨22, 5, 6, 0, -3, false, false, 0, 0⟩ = [97, 100, 100, 105, 32, 120, 53, 44, 32, 120, 54, 44, 32, 45, 51] := by decide +kernel
theorem live_2 : textT ⟨21, 0, 2, 7, 8, false, false, 0, 0⟩ = [115, 100, 32, 120, 55, 44, 32, 56, 40, 120, 50, 41] := by decide +kernel
theorem live_3 : textT ⟨63, 0, 0, 0, 0, false, false, 3, 1⟩ = [102, 101, 110, 99, 101, 32, 114, 119, 44, 32, 119] := by decide +kernel
theorem live_4 : textT ⟨69, 1, 2, 3, 0, true, true, 0, 0⟩ = [115, 99, 46, 100, 46, 97, 113, 114, 108, 32, 120, 49, 44, 32, 120, 51, 44, 32, 40, 120, 50, 41] := by decide +kernel
set_option maxRecDepth 100000 in
set_option maxHeartbeats 4000000 in
theorem Lives2_any (w : World) (ht : Tabs w) (hp : P10 w) :
    Calls Tryz.prog 25 #[] w fun e w' => e = .returned (.bool true) ∧ Below w.heap.size w w' := by
  have h1 : Hid (∀ W, Tabs W → P10 W → Calls Tryz.prog 28 #[.agg #[.int .i64 22, .int .i64 5, .int .i64 6, .int .i64 0, .int .i64 (-3), .bool false, .bool false, .int .i64 0, .int .i64 0]] W fun e w' => e = .returned (.string { data := #[97, 100, 100, 105, 32, 120, 53, 44, 32, 120, 54, 44, 32, 45, 51] }) ∧ Below W.heap.size W w') := Lib.hid fun W a b => by have := LText_any ⟨22, 5, 6, 0, -3, false, false, 0, 0⟩ (by decide) (by decide) W a b; rw [live_1] at this; exact this
  have h2 : Hid (∀ W, Tabs W → P10 W → Calls Tryz.prog 28 #[.agg #[.int .i64 21, .int .i64 0, .int .i64 2, .int .i64 7, .int .i64 8, .bool false, .bool false, .int .i64 0, .int .i64 0]] W fun e w' => e = .returned (.string { data := #[115, 100, 32, 120, 55, 44, 32, 56, 40, 120, 50, 41] }) ∧ Below W.heap.size W w') := Lib.hid fun W a b => by have := LText_any ⟨21, 0, 2, 7, 8, false, false, 0, 0⟩ (by decide) (by decide) W a b; rw [live_2] at this; exact this
  have h3 : Hid (∀ W, Tabs W → P10 W → Calls Tryz.prog 28 #[.agg #[.int .i64 63, .int .i64 0, .int .i64 0, .int .i64 0, .int .i64 0, .bool false, .bool false, .int .i64 3, .int .i64 1]] W fun e w' => e = .returned (.string { data := #[102, 101, 110, 99, 101, 32, 114, 119, 44, 32, 119] }) ∧ Below W.heap.size W w') := Lib.hid fun W a b => by have := LText_any ⟨63, 0, 0, 0, 0, false, false, 3, 1⟩ (by decide) (by decide) W a b; rw [live_3] at this; exact this
  have h4 : Hid (∀ W, Tabs W → P10 W → Calls Tryz.prog 28 #[.agg #[.int .i64 69, .int .i64 1, .int .i64 2, .int .i64 3, .int .i64 0, .bool true, .bool true, .int .i64 0, .int .i64 0]] W fun e w' => e = .returned (.string { data := #[115, 99, 46, 100, 46, 97, 113, 114, 108, 32, 120, 49, 44, 32, 120, 51, 44, 32, 40, 120, 50, 41] }) ∧ Below W.heap.size W w') := Lib.hid fun W a b => by have := LText_any ⟨69, 1, 2, 3, 0, true, true, 0, 0⟩ (by decide) (by decide) W a b; rw [live_4] at this; exact this
  have hbw : Below w.heap.size w w := Below.refl _ _
  go_enter Tryz.func25, Tryz.ntmps25
  go_wp2_with (go_at_call 28; (first | (with_reducible refine (h1.out _ ht hp).mono ?_) | (with_reducible refine (h2.out _ ht hp).mono ?_) | (with_reducible refine (h3.out _ ht hp).mono ?_) | (with_reducible refine (h4.out _ ht hp).mono ?_)); rintro e w1 ⟨rfl, hb1⟩; have ht1 := ht.later hb1 (Nat.le_refl _); have hp1 := hp.later hb1 (Nat.le_refl _); have hbw1 := hbw.trans (hb1.mono hbw.size); clear ht hp hbw hb1; have ht := ht1; have hp := hp1; have hbw := hbw1; clear ht1 hp1 hbw1)
  go_ret
  exact ⟨rfl, hbw⟩
end Go.Proofs.YtdbpnbmaineniaaGreatDoor
