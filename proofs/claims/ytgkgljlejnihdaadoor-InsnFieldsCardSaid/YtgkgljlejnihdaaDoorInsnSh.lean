/- The walk of InsnShapes. Conditions: the library's tables lie as their initialisers lay them. -/
import Derived.Test.YtgkgljlejnihdaaDoorInsnLv
set_option linter.unusedSimpArgs false
set_option linter.unusedVariables false
namespace Go.Proofs.YtgkgljlejnihdaaDoor
open Go.RowKit
section
attribute [local go_sem] Instr.field asAgg run_part_plain
theorem IName_any (n : Int) (hn : n ≤ 9223372036854775807) (w : World) (ht : Tabs w) :
    Calls Tryd.prog 13 #[.int .i64 n] w fun e w' => e = .returned (.string ⟨(opOf n).name.toArray⟩) ∧ Below w.heap.size w w' := by
  have hof := Lib.hid (fun w ht => of_any n hn w ht)
  go_enter Tryd.func13, Tryd.ntmps13
  go_wp2_with (go_at_call 38; refine (hof.out _ ht).mono ?_; rintro e w1 ⟨rfl, hb⟩)
  go_ret
  exact ⟨rfl, hb⟩
end
set_option maxRecDepth 100000 in
set_option maxHeartbeats 8000000 in
theorem Shapes_no (i : InsnV) (hop : i.op ≤ 9223372036854775807) (him : -9223372036854775808 ≤ i.imm ∧ i.imm ≤ 9223372036854775807) (hc : checkE i ≠ 0) (w : World) (ht : Tabs w) (hp : P10 w) :
    Calls Tryd.prog 3 #[.agg i.cells] w fun e w' => e = .returned (.bool true) ∧ Below w.heap.size w w' := by
  have h2 : checkE i = 2 := by unfold checkE at hc ⊢; cases hk : checkOk i <;> simp_all
  have htt : textT i = [] := if_neg hc
  have hB := XB.start w i.cells.toList 23
  rw [Array.toArray_toList] at hB
  have hu := Tryd.underlying23
  have hi : (Tryd.prog.info? 23).map (·.size) = some i.cells.toList.length := by kernel_rfl
  have ht1 := ht.later ((Below.refl _ w).alloc (Nat.le_refl _) (.cells i.cells 23)) (Nat.le_refl _)
  have hp1 := hp.later ((Below.refl _ w).alloc (Nat.le_refl _) (.cells i.cells 23)) (Nat.le_refl _)
  have hL := Lib.hid (fun W h1 h2 => Lives2_any W h1 h2)
  have hT := Lib.hid (fun W h1 h2 => LText_any i hop him W h1 h2)
  have hK := Lib.hid (fun W hW => Check_any i hop W hW)
  rw [htt] at hT
  rw [h2] at hK
  clear hop him ht hp hc h2 htt
  generalize i.cells = cs at *
  go_enter Tryd.func3, Tryd.ntmps3
  go_wp2_with (first | (refine wpList_load_mid rfl 23 _ rfl w.heap.size 0 rfl cs.toList _ hB.c hu rfl hi ?_) | (go_at_call 10; refine (hL.out _ ht1 hp1).mono ?_; rintro e w1 ⟨rfl, hb1⟩; replace hB := hB.keep hb1; replace ht1 := ht1.later hb1 (Nat.le_refl _); replace hp1 := hp1.later hb1 (Nat.le_refl _); clear hb1) | (go_at_call 11; refine (hK.out _ ht1).mono ?_; rintro e w1 ⟨rfl, hb1⟩; replace hB := hB.keep hb1; replace ht1 := ht1.later hb1 (Nat.le_refl _); replace hp1 := hp1.later hb1 (Nat.le_refl _); clear hb1) | (go_at_call 12; refine (hT.out _ ht1 hp1).mono ?_; rintro e w1 ⟨rfl, hb1⟩; replace hB := hB.keep hb1))
  go_ret
  exact ⟨rfl, hB.bl⟩
end Go.Proofs.YtgkgljlejnihdaaDoor
