/- Slices of instructions and of truths that come by value, opened to their cells. Conditions: none. -/
import Derived.Test.YtebeajnaamglkaaGreatDoorInsnOp
import Derived.Test.YtebeajnaamglkaaGreatDoorTntSd
import Derived.ChangeSlices
import Derived.Deep.Slices
set_option linter.unusedVariables false
namespace Go.Proofs.YtebeajnaamglkaaGreatDoor
open Go.ChangeShapes Go.WideShapes Go.RowKit
def InsnsAt (w : World) (ao : Option Addr) (n : Nat) (L : Nat → InsnV) : Prop := 0 < n → ∃ b off, ao = some ⟨b, off, none⟩ ∧ b < w.heap.size ∧ ∀ k, k < n → ∀ j, j < 9 → w.cell? ⟨b, off + k * 9 + j, none⟩ = (L k).cells[j]?
def BoolsAt (w : World) (ao : Option Addr) (n : Nat) (G : Nat → Bool) : Prop := 0 < n → ∃ b off, ao = some ⟨b, off, none⟩ ∧ b < w.heap.size ∧ ∀ k, k < n → w.cell? ⟨b, off + k, none⟩ = some (.bool (G k))
theorem InsnsAt.keep {w w' : World} {ao : Option Addr} {n : Nat} {L : Nat → InsnV} (h : InsnsAt w ao n L) (hb : Below w.heap.size w w') : InsnsAt w' ao n L := fun hn => by
  obtain ⟨b, off, e, hlt, hc⟩ := h hn
  exact ⟨b, off, e, Nat.lt_of_lt_of_le hlt hb.size, fun k hk j hj => by rw [hb.cell (p := ⟨b, off + k * 9 + j, none⟩) hlt]; exact hc k hk j hj⟩
theorem BoolsAt.keep {w w' : World} {ao : Option Addr} {n : Nat} {G : Nat → Bool} (h : BoolsAt w ao n G) (hb : Below w.heap.size w w') : BoolsAt w' ao n G := fun hn => by
  obtain ⟨b, off, e, hlt, hc⟩ := h hn
  exact ⟨b, off, e, Nat.lt_of_lt_of_le hlt hb.size, fun k hk => by rw [hb.cell (p := ⟨b, off + k, none⟩) hlt]; exact hc k hk⟩
theorem insns_range {w W : World} {b o : Nat} {cs : Array Value} (hc : ∀ j, j < 9 → w.cell? ⟨b, o + j, none⟩ = cs[j]?) (h9 : cs.size = 9) (hl : b < w.heap.size) (hb : Below w.heap.size w W) : W.rangeAt b o cs.toList := fun j v hv => by
  have hj : j < 9 := by
    rcases Nat.lt_or_ge j 9 with hj | hj
    · exact hj
    · rw [List.getElem?_eq_none (by simpa [h9] using hj)] at hv; cases hv
  rw [hb.cell (p := ⟨b, o + j, none⟩) hl, hc j hj]
  simpa using hv
section
variable {H : Type} {enc : TypeId × Value → H} {w : World} {base : Nat} {spare : Nat → Bool} {held : Bool}
set_option maxRecDepth 100000 in
theorem openI_insns {ao : Option Addr} {len cap : Nat} {d : DataW H} {p : List MemPlace} (h : DataW.Trod enc Tryz.prog w base spare held 22 (.slice ao len cap) d p) :
    ∃ L : Nat → InsnV, InsnsAt w ao len L ∧ ∀ k, (L k).op ≤ 9223372036854775807 := by
  obtain ⟨fuel, hf⟩ := h
  have hf : DataW.trod enc Tryz.prog w base spare held fuel 22 [.slice ao len cap] = some (d, p) := hf
  have hz : ((⟨0, 0, 0, 0, 0, false, false, 0, 0⟩ : InsnV).op) ≤ 9223372036854775807 := by decide
  rcases DataW.trod_slice Tryz.underlying22 hf with ⟨hcs, _⟩ | ⟨a, len', cap', elems, rest, n, _, hcs, _, _, _, _, hlen, hel, _⟩
  · simp at hcs
    obtain ⟨rfl, rfl, rfl⟩ := hcs
    exact ⟨fun _ => ⟨0, 0, 0, 0, 0, false, false, 0, 0⟩, fun hh => absurd hh (Nat.lt_irrefl 0), fun _ => hz⟩
  · simp at hcs
    obtain ⟨rfl, rfl, rfl⟩ := hcs
    rw [sizeI_insn] at hel
    have key : ∀ i, ∃ v : InsnV, v.op ≤ 9223372036854775807 ∧ (i < len → ∀ j, j < 9 → w.cell? ((a.add (i * 9)).add j) = v.cells[j]?) := fun i => by
      by_cases hi : i < len
      · obtain ⟨y, ey⟩ := some_atI hlen hi
        have e1 := (hel i hi).trans ey
        rw [Option.bind_eq_some_iff] at e1
        obtain ⟨cs, hc1, hc2⟩ := e1
        obtain ⟨_, hl9, hcell⟩ := World.cells?_some hc1
        obtain ⟨v, hv, hop0, -⟩ := openI_insnL (cs := cs.toArray) (by simpa using hl9) hc2
        refine ⟨v, hop0.2, fun _ j hj => ?_⟩
        rw [hcell j hj, ← hv]
        simp
      · exact ⟨⟨0, 0, 0, 0, 0, false, false, 0, 0⟩, hz, fun hh => absurd hh hi⟩
    obtain ⟨L, hL⟩ := Classical.skolem.1 key
    refine ⟨L, fun hn => ?_, fun k => (hL k).1⟩
    obtain ⟨b, off, spot⟩ := a
    have h00 : w.cell? ⟨b, off, spot⟩ = some (.int .i64 (L 0).op) := by
      have := (hL 0).2 hn 0 (by decide)
      simp only [Addr.add, Nat.zero_mul, if_true] at this
      exact this
    have hspot : spot = none := by simpa using World.cell?_spot h00
    subst hspot
    refine ⟨b, off, rfl, World.block_lt_of_cell? w _ h00, fun k hk j hj => ?_⟩
    have e := (hL k).2 hk j hj
    rw [Go.WideShapes.add_plain, Go.WideShapes.add_plain] at e
    exact e
theorem openI_bools {ao : Option Addr} {len cap : Nat} {d : DataW H} {p : List MemPlace} (h : DataW.Trod enc Tryz.prog w base spare held 23 (.slice ao len cap) d p) :
    ∃ G : Nat → Bool, BoolsAt w ao len G := by
  obtain ⟨fuel, hf⟩ := h
  have hf : DataW.trod enc Tryz.prog w base spare held fuel 23 [.slice ao len cap] = some (d, p) := hf
  rcases DataW.trod_slice Tryz.underlying23 hf with ⟨hcs, _⟩ | ⟨a, len', cap', elems, rest, n, _, hcs, _, _, _, _, hlen, hel, _⟩
  · simp at hcs
    obtain ⟨rfl, rfl, rfl⟩ := hcs
    exact ⟨fun _ => false, fun hh => absurd hh (Nat.lt_irrefl 0)⟩
  · simp at hcs
    obtain ⟨rfl, rfl, rfl⟩ := hcs
    rw [sizeI_bool] at hel
    have key : ∀ i, ∃ v : Bool, i < len → w.cell? (a.add i) = some (.bool v) := fun i => by
      by_cases hi : i < len
      · obtain ⟨y, ey⟩ := some_atI hlen hi
        have e1 := (hel i hi).trans ey
        rw [Option.bind_eq_some_iff, Nat.mul_one] at e1
        obtain ⟨cs, hc1, hc2⟩ := e1
        obtain ⟨v, rfl, _⟩ := DataW.trod_bool Tryz.underlying4 hc2
        exact ⟨v, fun _ => cell_of_cells?_one hc1⟩
      · exact ⟨false, fun hh => absurd hh hi⟩
    obtain ⟨G, hG⟩ := Classical.skolem.1 key
    refine ⟨G, fun hn => ?_⟩
    obtain ⟨b, off, spot⟩ := a
    have h00 : w.cell? ⟨b, off, spot⟩ = some (.bool (G 0)) := by
      have := hG 0 hn
      simpa [Addr.add] using this
    have hspot : spot = none := by simpa using World.cell?_spot h00
    subst hspot
    refine ⟨b, off, rfl, World.block_lt_of_cell? w _ h00, fun k hk => ?_⟩
    have e := hG k hk
    rw [Go.WideShapes.add_plain] at e
    exact e
end
end Go.Proofs.YtebeajnaamglkaaGreatDoor
