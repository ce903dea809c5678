/- Small laws of an instruction's cells. Conditions: none. -/
import Derived.Test.YtcgflnkgekkidaaGreatDoorInsnDf
import Derived.Test.YtcgflnkgekkidaaGreatDoorOwn
import Derived.Test.YtcgflnkgekkidaaGreatDoorRefFC
import Derived.Deep.MidRow
import Derived.WalkKit
import Derived.OwnWalk
set_option linter.unusedVariables false
namespace Go.Proofs.YtcgflnkgekkidaaGreatDoor
open Go.RowKit
theorem fresh_thawR (w : World) (cs : Array Value) (t : TypeId) (j : Nat) : (w.alloc (.cells cs t)).frozen? ⟨w.heap.size, j, none⟩ = false := by
  rw [frozen?_alloc_cells]; unfold World.frozen?; rw [Array.getElem?_eq_none (Nat.le_refl _)]
theorem result_insn (W : World) (a : Nat) (cs : List Value) (hr : W.rangeAt a 0 cs) (h9 : cs.length = 9) : (loadVar 26 ⟨a, 0, none⟩).run Tryz.prog W = .ok (.agg cs.toArray) W := run_loadVar_mid W a 0 26 cs _ hr Tryz.underlying26 rfl (by rw [h9]; kernel_rfl)
theorem below_cells {B a : Nat} {w : World} (ha : B ≤ a) : ∀ (vs : List Value) (o : Nat) (W : World), Below B w W → Below B w (W.setCells a o vs)
  | [], _, _, h => h
  | v :: vs, o, _, h => below_cells ha vs (o + 1) _ (h.setCell ha v)
theorem InsnV.one (i : InsnV) : i.cells.all (·.oneCell') = true := by
  obtain ⟨op, rd, r1, r2, imm, aq, rl, pred, succ⟩ := i; kernel_rfl
theorem far_cell {w w' : World} {row : Option Nat} (hg : w.grownBy w' row) (a : Addr) (hlt : a.block < w.heap.size) (hne : some a.block ≠ row) : w'.cell? a = w.cell? a := World.cell?_of_block (hg.block a.block hlt hne)
/-- Only that block is another. -/
structure KE (g : Nat) (w w' : World) : Prop where
  bl : Below g w w'
  block : ∀ k, k < w.heap.size → k ≠ g → w'.heap[k]? = w.heap[k]?
theorem KE.of_below {g : Nat} {w w' : World} (h : Below w.heap.size w w') (hg : g ≤ w.heap.size) : KE g w w' := ⟨h.mono hg, fun k hk _ => h.block k hk⟩
theorem KE.refl (g : Nat) (w : World) : KE g w w := ⟨Below.refl _ _, fun _ _ _ => rfl⟩
theorem KE.trans {g : Nat} {u v w : World} (h : KE g u v) (k : KE g v w) : KE g u w :=
  ⟨h.bl.trans k.bl, fun j hj hb => (k.block j (Nat.lt_of_lt_of_le hj h.bl.size) hb).trans (h.block j hj hb)⟩
theorem KE.setCell {g : Nat} {u w : World} (h : KE g u w) (o : Nat) (v : Value) : KE g u (w.setCell ⟨g, o, none⟩ v) :=
  ⟨h.bl.setCell (Nat.le_refl g) v, fun j hj hb => (Below.heap_setCell w ⟨g, o, none⟩ v j hb).trans (h.block j hj hb)⟩
theorem KE.drewN {g : Nat} {u w : World} (h : KE g u w) (n : Nat) : KE g u (w.drewN n) := ⟨h.bl.trans ⟨rfl, rfl, rfl, Nat.le_refl _, fun _ _ => rfl⟩, fun j hj hb => h.block j hj hb⟩
theorem KE.cell {g : Nat} {w w' : World} (h : KE g w w') {x : Nat} (j : Nat) (hx : x < w.heap.size) (hb : x ≠ g) : w'.cell? ⟨x, j, none⟩ = w.cell? ⟨x, j, none⟩ := World.cell?_of_block (w := w) (h.block x hx hb)
theorem KE.frozen {g : Nat} {w w' : World} (h : KE g w w') {x : Nat} (j : Nat) (hx : x < w.heap.size) (hb : x ≠ g) : w'.frozen? ⟨x, j, none⟩ = w.frozen? ⟨x, j, none⟩ := World.frozen?_of_block (w := w) (h.block x hx hb)
theorem setCell_froz (W : World) (b o j : Nat) (v : Value) : (W.setCell ⟨b, o, none⟩ v).frozen? ⟨b, j, none⟩ = W.frozen? ⟨b, j, none⟩ := World.frozen?_setCells b [v] o W ⟨b, j, none⟩
theorem setCell_in {W : World} {b o j : Nat} {v u : Value} (h : W.cell? ⟨b, o, none⟩ = some u) : (W.setCell ⟨b, o, none⟩ v).cell? ⟨b, j, none⟩ = if j = o then some v else W.cell? ⟨b, j, none⟩ := by
  split
  · rename_i e; subst e; exact World.cell?_setCell_same _ _ _ h
  · rename_i e; exact World.cell?_setCell_other _ _ _ _ (fun h => e (by injection h with _ h2 _; exact h2.symm))
theorem rform_range (n : Int) : 0 ≤ rform n ∧ rform n ≤ 12 := by
  unfold rform
  repeat' split
  all_goals omega
end Go.Proofs.YtcgflnkgekkidaaGreatDoor
