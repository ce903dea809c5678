/- An instruction that comes by value, opened to its cells. Conditions: none. -/
import Derived.Test.YtdbpnbmaineniaaGreatDoorInsnDf
import Derived.Test.YtdbpnbmaineniaaGreatDoorProg
import Derived.ProofKit
import Derived.OpenShut
import Derived.ChangeArms
import Derived.LaidMore
import Derived.Lib.LaidTab
import Derived.Stop.Joined
import Derived.Stop.LaidErr
import Derived.SevenTiedAt
set_option linter.unusedVariables false
namespace Go.Proofs.YtdbpnbmaineniaaGreatDoor
open Go.ChangeShapes Go.WideShapes Go.RowKit
theorem take_oneI {l : List Value} {o : Nat} {v : Value} (h : (l.drop o).take 1 = [v]) : l[o]? = some v := by
  have := congrArg (fun x => x[0]?) h
  simpa using this
theorem some_atI {α : Type} {xs : List α} {k j : Nat} (hl : xs.length = k) (hj : j < k) : ∃ y, xs[j]? = some y := ⟨xs[j]'(by omega), List.getElem?_eq_getElem (by omega)⟩
theorem sizeI_int : Tryz.prog.cellsOf 3 = 1 := by kernel_rfl
theorem sizeI_bool : Tryz.prog.cellsOf 4 = 1 := by kernel_rfl
theorem sizeI_int64 : Tryz.prog.cellsOf 2 = 1 := by kernel_rfl
theorem sizeI_insn : Tryz.prog.cellsOf 23 = 9 := by kernel_rfl
section
variable {H : Type} {enc : TypeId × Value → H} {w : World} {base : Nat} {spare : Nat → Bool} {held : Bool}
set_option maxRecDepth 100000 in
theorem openI_insnL {fuel : Nat} {cs : Array Value} {x : DataW H × List MemPlace} (hsz : cs.size = 9) (hf : DataW.trod enc Tryz.prog w base spare held fuel 23 cs.toList = some x) :
    ∃ i : InsnV, cs = i.cells ∧ (-9223372036854775808 ≤ i.op ∧ i.op ≤ 9223372036854775807) ∧ (-9223372036854775808 ≤ i.imm ∧ i.imm ≤ 9223372036854775807) ∧ (-9223372036854775808 ≤ i.rd ∧ i.rd ≤ 9223372036854775807) ∧ (-9223372036854775808 ≤ i.rs1 ∧ i.rs1 ≤ 9223372036854775807) ∧ (-9223372036854775808 ≤ i.rs2 ∧ i.rs2 ≤ 9223372036854775807) := by
  obtain ⟨xs, n, _, _, hl, hlen, hg⟩ := DataW.trod_struct Tryz.underlying23 hf
  obtain ⟨y0, e0⟩ := some_atI hlen (show 0 < 9 by decide)
  have g0 : DataW.trod enc Tryz.prog w base spare held n 3 ((cs.toList.drop 0).take (Tryz.prog.cellsOf 3)) = some y0 := (hg 0 _ rfl).trans e0
  rw [sizeI_int] at g0
  obtain ⟨y1, e1⟩ := some_atI hlen (show 1 < 9 by decide)
  have g1 : DataW.trod enc Tryz.prog w base spare held n 3 ((cs.toList.drop 1).take (Tryz.prog.cellsOf 3)) = some y1 := (hg 1 _ rfl).trans e1
  rw [sizeI_int] at g1
  obtain ⟨y2, e2⟩ := some_atI hlen (show 2 < 9 by decide)
  have g2 : DataW.trod enc Tryz.prog w base spare held n 3 ((cs.toList.drop 2).take (Tryz.prog.cellsOf 3)) = some y2 := (hg 2 _ rfl).trans e2
  rw [sizeI_int] at g2
  obtain ⟨y3, e3⟩ := some_atI hlen (show 3 < 9 by decide)
  have g3 : DataW.trod enc Tryz.prog w base spare held n 3 ((cs.toList.drop 3).take (Tryz.prog.cellsOf 3)) = some y3 := (hg 3 _ rfl).trans e3
  rw [sizeI_int] at g3
  obtain ⟨y4, e4⟩ := some_atI hlen (show 4 < 9 by decide)
  have g4 : DataW.trod enc Tryz.prog w base spare held n 2 ((cs.toList.drop 4).take (Tryz.prog.cellsOf 2)) = some y4 := (hg 4 _ rfl).trans e4
  rw [sizeI_int64] at g4
  obtain ⟨y5, e5⟩ := some_atI hlen (show 5 < 9 by decide)
  have g5 : DataW.trod enc Tryz.prog w base spare held n 4 ((cs.toList.drop 5).take (Tryz.prog.cellsOf 4)) = some y5 := (hg 5 _ rfl).trans e5
  rw [sizeI_bool] at g5
  obtain ⟨y6, e6⟩ := some_atI hlen (show 6 < 9 by decide)
  have g6 : DataW.trod enc Tryz.prog w base spare held n 4 ((cs.toList.drop 6).take (Tryz.prog.cellsOf 4)) = some y6 := (hg 6 _ rfl).trans e6
  rw [sizeI_bool] at g6
  obtain ⟨y7, e7⟩ := some_atI hlen (show 7 < 9 by decide)
  have g7 : DataW.trod enc Tryz.prog w base spare held n 3 ((cs.toList.drop 7).take (Tryz.prog.cellsOf 3)) = some y7 := (hg 7 _ rfl).trans e7
  rw [sizeI_int] at g7
  obtain ⟨y8, e8⟩ := some_atI hlen (show 8 < 9 by decide)
  have g8 : DataW.trod enc Tryz.prog w base spare held n 3 ((cs.toList.drop 8).take (Tryz.prog.cellsOf 3)) = some y8 := (hg 8 _ rfl).trans e8
  rw [sizeI_int] at g8
  obtain ⟨z0, q0, _, w0⟩ := DataW.trod_int Tryz.underlying3 g0
  obtain ⟨z1, q1, _, w1⟩ := DataW.trod_int Tryz.underlying3 g1
  obtain ⟨z2, q2, _, w2⟩ := DataW.trod_int Tryz.underlying3 g2
  obtain ⟨z3, q3, _, w3⟩ := DataW.trod_int Tryz.underlying3 g3
  obtain ⟨z4, q4, _, w4⟩ := DataW.trod_int Tryz.underlying2 g4
  obtain ⟨z5, q5, _⟩ := DataW.trod_bool Tryz.underlying4 g5
  obtain ⟨z6, q6, _⟩ := DataW.trod_bool Tryz.underlying4 g6
  obtain ⟨z7, q7, _, w7⟩ := DataW.trod_int Tryz.underlying3 g7
  obtain ⟨z8, q8, _, w8⟩ := DataW.trod_int Tryz.underlying3 g8
  have q0 := take_oneI q0
  have q1 := take_oneI q1
  have q2 := take_oneI q2
  have q3 := take_oneI q3
  have q4 := take_oneI q4
  have q5 := take_oneI q5
  have q6 := take_oneI q6
  have q7 := take_oneI q7
  have q8 := take_oneI q8
  refine ⟨⟨z0, z1, z2, z3, z4, z5, z6, z7, z8⟩, Array.ext' (List.ext_getElem? fun j => ?_), i64_bounds w0, i64_bounds w4, i64_bounds w1, i64_bounds w2, i64_bounds w3⟩
  rcases (show j = 0 ∨ j = 1 ∨ j = 2 ∨ j = 3 ∨ j = 4 ∨ j = 5 ∨ j = 6 ∨ j = 7 ∨ j = 8 ∨ 9 ≤ j by omega) with rfl | rfl | rfl | rfl | rfl | rfl | rfl | rfl | rfl | hj
  · exact q0
  · exact q1
  · exact q2
  · exact q3
  · exact q4
  · exact q5
  · exact q6
  · exact q7
  · exact q8
  · rw [List.getElem?_eq_none (by simpa [hsz] using hj), List.getElem?_eq_none (show (InsnV.cells ⟨z0, z1, z2, z3, z4, z5, z6, z7, z8⟩).toList.length ≤ j from hj)]
set_option maxRecDepth 100000 in
theorem openI_insn {r : Reach} {b0 : Nat} {v : Value} {d : DataW H} {p : List MemPlace} (hv : Value.okWide Tryz.prog w r b0 23 v) (h : DataW.Trod enc Tryz.prog w base spare held 23 v d p) :
    ∃ i : InsnV, v = .agg i.cells ∧ (-9223372036854775808 ≤ i.op ∧ i.op ≤ 9223372036854775807) ∧ (-9223372036854775808 ≤ i.imm ∧ i.imm ≤ 9223372036854775807) ∧ (-9223372036854775808 ≤ i.rd ∧ i.rd ≤ 9223372036854775807) ∧ (-9223372036854775808 ≤ i.rs1 ∧ i.rs1 ≤ 9223372036854775807) ∧ (-9223372036854775808 ≤ i.rs2 ∧ i.rs2 ≤ 9223372036854775807) := by
  obtain ⟨cs, rfl, hsz⟩ := okWide_struct Tryz.underlying23 hv
  rw [sizeI_insn] at hsz
  obtain ⟨fuel, hf⟩ := h
  obtain ⟨i, rfl, hi⟩ := openI_insnL hsz hf
  exact ⟨i, rfl, hi⟩
end
end Go.Proofs.YtdbpnbmaineniaaGreatDoor
