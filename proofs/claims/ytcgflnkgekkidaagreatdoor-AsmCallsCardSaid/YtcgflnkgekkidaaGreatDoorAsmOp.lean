/- Slices of items that come by value, opened to their cells. Conditions: none. -/
import Derived.Test.YtcgflnkgekkidaaGreatDoorCodeOp
import Derived.Test.YtcgflnkgekkidaaGreatDoorAsmB
import Derived.ChangeSlices
import Derived.Deep.Slices
set_option linter.unusedVariables false
namespace Go.Proofs.YtcgflnkgekkidaaGreatDoor
open Go.ChangeShapes Go.WideShapes Go.RowKit
theorem sizeI_u64 : Tryz.prog.cellsOf 27 = 1 := by kernel_rfl
theorem sizeI_item : Tryz.prog.cellsOf 29 = 12 := by kernel_rfl
section
variable {H : Type} {enc : TypeId × Value → H} {w : World} {base : Nat} {spare : Nat → Bool} {held : Bool}
set_option maxRecDepth 100000 in
theorem openI_itemL {fuel : Nat} {cs : Array Value} {x : DataW H × List MemPlace} (hsz : cs.size = 12) (hf : DataW.trod enc Tryz.prog w base spare held fuel 29 cs.toList = some x) :
    ∃ i : ItemV, cs = i.cells ∧ (-9223372036854775808 ≤ i.insn.op ∧ i.insn.op ≤ 9223372036854775807) ∧ (Lit.int .i64 i.label).wf = true := by
  obtain ⟨xs, n, _, _, hl, hlen, hg⟩ := DataW.trod_struct Tryz.underlying29 hf
  obtain ⟨y0, e0⟩ := some_atI hlen (show 0 < 4 by decide)
  have g0 : DataW.trod enc Tryz.prog w base spare held n 3 ((cs.toList.drop 0).take (Tryz.prog.cellsOf 3)) = some y0 := (hg 0 _ rfl).trans e0
  rw [sizeI_int] at g0
  obtain ⟨y1, e1⟩ := some_atI hlen (show 1 < 4 by decide)
  have g1 : DataW.trod enc Tryz.prog w base spare held n 26 ((cs.toList.drop 1).take (Tryz.prog.cellsOf 26)) = some y1 := (hg 1 _ rfl).trans e1
  rw [sizeI_insn] at g1
  obtain ⟨y2, e2⟩ := some_atI hlen (show 2 < 4 by decide)
  have g2 : DataW.trod enc Tryz.prog w base spare held n 3 ((cs.toList.drop 10).take (Tryz.prog.cellsOf 3)) = some y2 := (hg 2 _ rfl).trans e2
  rw [sizeI_int] at g2
  obtain ⟨y3, e3⟩ := some_atI hlen (show 3 < 4 by decide)
  have g3 : DataW.trod enc Tryz.prog w base spare held n 27 ((cs.toList.drop 11).take (Tryz.prog.cellsOf 27)) = some y3 := (hg 3 _ rfl).trans e3
  rw [sizeI_u64] at g3
  obtain ⟨z0, q0, _, w0⟩ := DataW.trod_int Tryz.underlying3 g0
  obtain ⟨z2, q2, _, w2⟩ := DataW.trod_int Tryz.underlying3 g2
  obtain ⟨z3, q3, _, w3⟩ := DataW.trod_int Tryz.underlying27 g3
  have hl12 : cs.toList.length = 12 := by simpa using hsz
  obtain ⟨i, hi, ho1, ho2⟩ := openI_insnL (cs := ((cs.toList.drop 1).take 9).toArray) (by simp; omega) g1
  have hi' : (cs.toList.drop 1).take 9 = i.cells.toList := by rw [← hi]
  obtain ⟨a, rfl⟩ := exists_un w3
  have q0 := take_oneI q0
  have q2 := take_oneI q2
  have q3 := take_oneI q3
  refine ⟨⟨z0, i, z2, a⟩, Array.ext' (List.ext_getElem? fun j => ?_), ⟨ho1, ho2⟩, w2⟩
  have hm : ∀ m, m < 9 → cs.toList[1 + m]? = i.cells.toList[m]? := fun m hm => by rw [← hi', List.getElem?_take_of_lt hm, List.getElem?_drop]
  rcases (show j = 0 ∨ j = 1 ∨ j = 2 ∨ j = 3 ∨ j = 4 ∨ j = 5 ∨ j = 6 ∨ j = 7 ∨ j = 8 ∨ j = 9 ∨ j = 10 ∨ j = 11 ∨ 12 ≤ j by omega) with rfl | rfl | rfl | rfl | rfl | rfl | rfl | rfl | rfl | rfl | rfl | rfl | hj
  · exact q0
  · exact hm 0 (by decide)
  · exact hm 1 (by decide)
  · exact hm 2 (by decide)
  · exact hm 3 (by decide)
  · exact hm 4 (by decide)
  · exact hm 5 (by decide)
  · exact hm 6 (by decide)
  · exact hm 7 (by decide)
  · exact hm 8 (by decide)
  · exact q2
  · exact q3
  · rw [List.getElem?_eq_none (by omega), List.getElem?_eq_none (show (ItemV.cells ⟨z0, i, z2, a⟩).toList.length ≤ j from hj)]
set_option maxRecDepth 100000 in
theorem openI_items {ao : Option Addr} {len cap : Nat} {d : DataW H} {p : List MemPlace} (h : DataW.Trod enc Tryz.prog w base spare held 22 (.slice ao len cap) d p) :
    ∃ F : Nat → ItemV, ItemsAt w ao len F ∧ FitF F len ∧ ∀ k, k < len → -9223372036854775808 ≤ (F k).insn.op := by
  obtain ⟨fuel, hf⟩ := h
  have hf : DataW.trod enc Tryz.prog w base spare held fuel 22 [.slice ao len cap] = some (d, p) := hf
  rcases DataW.trod_slice Tryz.underlying22 hf with ⟨hcs, _⟩ | ⟨a, len', cap', elems, rest, n, _, hcs, _, _, _, _, hlen, hel, _⟩
  · simp at hcs
    obtain ⟨rfl, rfl, rfl⟩ := hcs
    exact ⟨fun _ => ⟨0, ⟨0, 0, 0, 0, 0, false, false, 0, 0⟩, 0, 0#64⟩, fun hh => absurd hh (Nat.lt_irrefl 0), fun k hk => absurd hk (Nat.not_lt_zero _), fun k hk => absurd hk (Nat.not_lt_zero _)⟩
  · simp at hcs
    obtain ⟨rfl, rfl, rfl⟩ := hcs
    rw [sizeI_item] at hel
    have key : ∀ i, ∃ v : ItemV, i < len → ((∀ j, j < 12 → w.cell? ((a.add (i * 12)).add j) = v.cells[j]?) ∧ (-9223372036854775808 ≤ v.insn.op ∧ v.insn.op ≤ 9223372036854775807) ∧ (Lit.int .i64 v.label).wf = true) := fun i => by
      by_cases hi : i < len
      · obtain ⟨y, ey⟩ := some_atI hlen hi
        have e1 := (hel i hi).trans ey
        rw [Option.bind_eq_some_iff] at e1
        obtain ⟨cs, hc1, hc2⟩ := e1
        obtain ⟨_, hl9, hcell⟩ := World.cells?_some hc1
        obtain ⟨v, hv, hop0, hlb⟩ := openI_itemL (cs := cs.toArray) (by simpa using hl9) hc2
        refine ⟨v, fun _ => ⟨fun j hj => ?_, hop0, hlb⟩⟩
        rw [hcell j hj, ← hv]
        simp
      · exact ⟨⟨0, ⟨0, 0, 0, 0, 0, false, false, 0, 0⟩, 0, 0#64⟩, fun hh => absurd hh hi⟩
    obtain ⟨F, hF⟩ := Classical.skolem.1 key
    refine ⟨F, fun hn => ?_, fun k hk => ⟨(hF k hk).2.1.2, (hF k hk).2.2⟩, fun k hk => (hF k hk).2.1.1⟩
    obtain ⟨b, off, spot⟩ := a
    have h00 : w.cell? ⟨b, off, spot⟩ = some (.int .i64 (F 0).kind) := by
      have := (hF 0 hn).1 0 (by decide)
      simp only [Addr.add, Nat.zero_mul, if_true] at this
      exact this
    have hspot : spot = none := by simpa using World.cell?_spot h00
    subst hspot
    refine ⟨b, off, rfl, World.block_lt_of_cell? w _ h00, fun k hk j v hv => ?_⟩
    have hj : j < 12 := (Array.getElem?_eq_some_iff.1 hv).1
    have e := (hF k hk).1 j hj
    rw [Go.WideShapes.add_plain, Go.WideShapes.add_plain] at e
    rw [e]; exact hv
end
end Go.Proofs.YtcgflnkgekkidaaGreatDoor
