/- A hart and an instruction that come by value, opened to their cells. HartLocal returns true. Conditions: as each theorem says. -/
import Derived.Test.YtbglinhglnbfmaaGreatDoorHartBg
import Derived.OpenShut
import Derived.ChangeArms
import Derived.Test.YtbglinhglnbfmaaGreatDoorHartTA
import Derived.Test.YtbglinhglnbfmaaGreatDoorHartTB
set_option linter.unusedVariables false
namespace Go.Proofs.YtbglinhglnbfmaaGreatDoor
open Go.ChangeShapes Go.WideShapes Go.RowKit
theorem take_one {l : List Value} {o : Nat} {v : Value} (h : (l.drop o).take 1 = [v]) : l[o]? = some v := by
  have := congrArg (fun x => x[0]?) h
  simpa using this
theorem some_at {α : Type} {xs : List α} {k j : Nat} (hl : xs.length = k) (hj : j < k) : ∃ y, xs[j]? = some y := ⟨xs[j]'(by omega), List.getElem?_eq_getElem (by omega)⟩
theorem size_1 : Tryz.prog.cellsOf 22 = 1 := by kernel_rfl
theorem size_2 : Tryz.prog.cellsOf 3 = 1 := by kernel_rfl
theorem size_3 : Tryz.prog.cellsOf 4 = 1 := by kernel_rfl
theorem size_4 : Tryz.prog.cellsOf 23 = 32 := by kernel_rfl
theorem size_5 : Tryz.prog.cellsOf 25 = 35 := by kernel_rfl
theorem size_6 : Tryz.prog.cellsOf 27 = 9 := by kernel_rfl
theorem size_7 : Tryz.prog.cellsOf 2 = 1 := by kernel_rfl
section
variable {H : Type} {enc : TypeId × Value → H} {w : World} {base : Nat} {spare : Nat → Bool} {held : Bool}
set_option maxRecDepth 100000 in
theorem open_hart {r : Reach} {b0 : Nat} {v : Value} {d : DataW H} {p : List MemPlace} (hv : Value.okWide Tryz.prog w r b0 25 v) (h : DataW.Trod enc Tryz.prog w base spare held 25 v d p) :
    ∃ hh : HartV, v = .agg (hartArr hh) := by
  obtain ⟨cs, rfl, hsz⟩ := okWide_struct Tryz.underlying25 hv
  rw [size_5] at hsz
  obtain ⟨fuel, hf⟩ := h
  obtain ⟨xs, n, _, _, hl, hlen, hg⟩ := DataW.trod_struct Tryz.underlying25 hf
  obtain ⟨y0, e0⟩ := some_at hlen (show 0 < 4 by decide)
  obtain ⟨y1, e1⟩ := some_at hlen (show 1 < 4 by decide)
  obtain ⟨y2, e2⟩ := some_at hlen (show 2 < 4 by decide)
  obtain ⟨y3, e3⟩ := some_at hlen (show 3 < 4 by decide)
  have g0 : DataW.trod enc Tryz.prog w base spare held n 22 ((cs.toList.drop 0).take (Tryz.prog.cellsOf 22)) = some y0 := (hg 0 _ rfl).trans e0
  rw [size_1] at g0
  have g1 : DataW.trod enc Tryz.prog w base spare held n 23 ((cs.toList.drop 1).take (Tryz.prog.cellsOf 23)) = some y1 := (hg 1 _ rfl).trans e1
  rw [size_4] at g1
  have g2 : DataW.trod enc Tryz.prog w base spare held n 3 ((cs.toList.drop 33).take (Tryz.prog.cellsOf 3)) = some y2 := (hg 2 _ rfl).trans e2
  rw [size_2] at g2
  have g3 : DataW.trod enc Tryz.prog w base spare held n 22 ((cs.toList.drop 34).take (Tryz.prog.cellsOf 22)) = some y3 := (hg 3 _ rfl).trans e3
  rw [size_1] at g3
  obtain ⟨z0, q0, _, w0⟩ := DataW.trod_int Tryz.underlying22 g0
  obtain ⟨z2, q2, _, w2⟩ := DataW.trod_int Tryz.underlying3 g2
  obtain ⟨z3, q3, _, w3⟩ := DataW.trod_int Tryz.underlying22 g3
  obtain ⟨ys, m, _, _, _, hyl, hy⟩ := DataW.trod_array Tryz.underlying23 g1
  have key : ∀ i, ∃ z, i < 32 → cs.toList[1 + i]? = some (.int .u64 z) ∧ (Lit.int .u64 z).wf = true := fun i => by
    by_cases hi : i < 32
    · obtain ⟨y, ey⟩ := some_at hyl hi
      have gi := (hy i hi).trans ey
      simp only [size_1, Nat.mul_one] at gi
      obtain ⟨z, q, _, wz⟩ := DataW.trod_int Tryz.underlying22 gi
      refine ⟨z, fun _ => ⟨?_, wz⟩⟩
      have q1 := take_one q
      rw [List.getElem?_take_of_lt hi, List.getElem?_drop] at q1
      exact q1
    · exact ⟨0, fun hh => absurd hh hi⟩
  obtain ⟨f, hfz⟩ := Classical.skolem.1 key
  have q0 := take_one q0
  have q2 := take_one q2
  have q3 := take_one q3
  obtain ⟨x0, hx0⟩ := exists_un w0
  obtain ⟨x3, hx3⟩ := exists_un w3
  refine ⟨⟨x0, fun i => bv (f i), z2, x3⟩, congrArg Value.agg (Array.ext' (List.ext_getElem? fun j => ?_))⟩
  rcases Nat.lt_or_ge j 35 with hj | hj
  · have := hartArr_at ⟨x0, fun i => bv (f i), z2, x3⟩ j hj
    rw [← Array.getElem?_toList] at this
    rw [this]
    rcases (show j = 0 ∨ j = 33 ∨ j = 34 ∨ (1 ≤ j ∧ j ≤ 32) by omega) with rfl | rfl | rfl | ⟨h1, h2⟩
    · rw [q0, hx0]; rfl
    · rw [q2]; rfl
    · rw [q3, hx3]; rfl
    · obtain ⟨i, rfl⟩ : ∃ i, j = 1 + i := ⟨j - 1, by omega⟩
      obtain ⟨e, wz⟩ := hfz i (by omega)
      rw [e, hartCell_x _ i (by omega)]
      obtain ⟨x, hx⟩ := exists_un wz
      show some (Value.int .u64 (f i)) = some (.int .u64 (un (bv (f i))))
      rw [hx, bv_un]
  · rw [List.getElem?_eq_none (by simpa [hsz] using hj), List.getElem?_eq_none (by have := hartArr_size ⟨x0, fun i => bv (f i), z2, x3⟩; simp only [Array.length_toList]; omega)]
set_option maxRecDepth 100000 in
theorem open_insn {r : Reach} {b0 : Nat} {v : Value} {d : DataW H} {p : List MemPlace} (hv : Value.okWide Tryz.prog w r b0 27 v) (h : DataW.Trod enc Tryz.prog w base spare held 27 v d p) :
    ∃ i : InsnV, v = .agg i.cells ∧ i.op ≤ 9223372036854775807 := by
  obtain ⟨cs, rfl, hsz⟩ := okWide_struct Tryz.underlying27 hv
  rw [size_6] at hsz
  obtain ⟨fuel, hf⟩ := h
  obtain ⟨xs, n, _, _, hl, hlen, hg⟩ := DataW.trod_struct Tryz.underlying27 hf
  obtain ⟨y0, e0⟩ := some_at hlen (show 0 < 9 by decide)
  have g0 : DataW.trod enc Tryz.prog w base spare held n 3 ((cs.toList.drop 0).take (Tryz.prog.cellsOf 3)) = some y0 := (hg 0 _ rfl).trans e0
  rw [size_2] at g0
  obtain ⟨y1, e1⟩ := some_at hlen (show 1 < 9 by decide)
  have g1 : DataW.trod enc Tryz.prog w base spare held n 3 ((cs.toList.drop 1).take (Tryz.prog.cellsOf 3)) = some y1 := (hg 1 _ rfl).trans e1
  rw [size_2] at g1
  obtain ⟨y2, e2⟩ := some_at hlen (show 2 < 9 by decide)
  have g2 : DataW.trod enc Tryz.prog w base spare held n 3 ((cs.toList.drop 2).take (Tryz.prog.cellsOf 3)) = some y2 := (hg 2 _ rfl).trans e2
  rw [size_2] at g2
  obtain ⟨y3, e3⟩ := some_at hlen (show 3 < 9 by decide)
  have g3 : DataW.trod enc Tryz.prog w base spare held n 3 ((cs.toList.drop 3).take (Tryz.prog.cellsOf 3)) = some y3 := (hg 3 _ rfl).trans e3
  rw [size_2] at g3
  obtain ⟨y4, e4⟩ := some_at hlen (show 4 < 9 by decide)
  have g4 : DataW.trod enc Tryz.prog w base spare held n 2 ((cs.toList.drop 4).take (Tryz.prog.cellsOf 2)) = some y4 := (hg 4 _ rfl).trans e4
  rw [size_7] at g4
  obtain ⟨y5, e5⟩ := some_at hlen (show 5 < 9 by decide)
  have g5 : DataW.trod enc Tryz.prog w base spare held n 4 ((cs.toList.drop 5).take (Tryz.prog.cellsOf 4)) = some y5 := (hg 5 _ rfl).trans e5
  rw [size_3] at g5
  obtain ⟨y6, e6⟩ := some_at hlen (show 6 < 9 by decide)
  have g6 : DataW.trod enc Tryz.prog w base spare held n 4 ((cs.toList.drop 6).take (Tryz.prog.cellsOf 4)) = some y6 := (hg 6 _ rfl).trans e6
  rw [size_3] at g6
  obtain ⟨y7, e7⟩ := some_at hlen (show 7 < 9 by decide)
  have g7 : DataW.trod enc Tryz.prog w base spare held n 3 ((cs.toList.drop 7).take (Tryz.prog.cellsOf 3)) = some y7 := (hg 7 _ rfl).trans e7
  rw [size_2] at g7
  obtain ⟨y8, e8⟩ := some_at hlen (show 8 < 9 by decide)
  have g8 : DataW.trod enc Tryz.prog w base spare held n 3 ((cs.toList.drop 8).take (Tryz.prog.cellsOf 3)) = some y8 := (hg 8 _ rfl).trans e8
  rw [size_2] at g8
  obtain ⟨z0, q0, _, w0⟩ := DataW.trod_int Tryz.underlying3 g0
  obtain ⟨z1, q1, _, w1⟩ := DataW.trod_int Tryz.underlying3 g1
  obtain ⟨z2, q2, _, w2⟩ := DataW.trod_int Tryz.underlying3 g2
  obtain ⟨z3, q3, _, w3⟩ := DataW.trod_int Tryz.underlying3 g3
  obtain ⟨z4, q4, _, w4⟩ := DataW.trod_int Tryz.underlying2 g4
  obtain ⟨z5, q5, _⟩ := DataW.trod_bool Tryz.underlying4 g5
  obtain ⟨z6, q6, _⟩ := DataW.trod_bool Tryz.underlying4 g6
  obtain ⟨z7, q7, _, w7⟩ := DataW.trod_int Tryz.underlying3 g7
  obtain ⟨z8, q8, _, w8⟩ := DataW.trod_int Tryz.underlying3 g8
  have q0 := take_one q0
  have q1 := take_one q1
  have q2 := take_one q2
  have q3 := take_one q3
  have q4 := take_one q4
  have q5 := take_one q5
  have q6 := take_one q6
  have q7 := take_one q7
  have q8 := take_one q8
  refine ⟨⟨z0, z1, z2, z3, z4, z5, z6, z7, z8⟩, congrArg Value.agg (Array.ext' (List.ext_getElem? fun j => ?_)), (i64_bounds w0).2⟩
  rcases (show j = 0 ∨ j = 1 ∨ j = 2 ∨ j = 3 ∨ j = 4 ∨ j = 5 ∨ j = 6 ∨ j = 7 ∨ j = 8 ∨ 9 ≤ j by omega) with rfl | rfl | rfl | rfl | rfl | rfl | rfl | rfl | rfl | hj
  · exact q0
  · exact q1
  · exact q2
  · exact q3
  · exact q4
  · exact q5
  · exact q6
  · exact q7
  · exact q8
  · rw [List.getElem?_eq_none (by simpa [hsz] using hj), List.getElem?_eq_none (show (InsnV.cells ⟨z0, z1, z2, z3, z4, z5, z6, z7, z8⟩).toList.length ≤ j from hj)]
end
end Go.Proofs.YtbglinhglnbfmaaGreatDoor
namespace Go.Proofs.YtbglinhglnbfmaaGreatDoor
open Go.RowKit
theorem Pick31 (n : Int) : ∃ r : Nat, 1 ≤ r ∧ r < 32 ∧ ∀ w : World, Calls Tryz.prog 11 #[.int .i64 n, .int .i64 31] w fun e w' => e = .returned (.int .i64 ((r : Int) - 1)) ∧ w = w' := by
  obtain ⟨k, hk, hP⟩ := Pick_nat_any n 31 (by decide) (by decide)
  exact ⟨k + 1, by omega, by omega, fun w => by
    have e : ((k + 1 : Nat) : Int) - 1 = (k : Int) := by omega
    rw [e]; exact hP.out w⟩
theorem Local_any (h : HartV) (i : InsnV) (found : BitVec 64) (won : Bool) (r0 : Int) (v : BitVec 64) (w : World) (ht : Tabs w) (hop : i.op ≤ 9223372036854775807) :
    Calls Tryz.prog 4 #[.agg (hartArr h), .agg i.cells, .int .u64 (un found), .bool won, .int .i64 r0, .int .u64 (un v)] w fun e w' => e = .returned (.bool true) ∧ Below w.heap.size w w' := by
  by_cases hb : hartE h = 0
  · by_cases hf : h.fin = 0
    · by_cases hc : checkE i = 0
      · have hok : checkOk i = true := by
          unfold checkE at hc
          cases hk : checkOk i with
          | true => rfl
          | false => rw [hk] at hc; cases hc
        have hregs := checkOk_regs i hok
        obtain ⟨op, rd, rs1, rs2, imm, aq, rl, pred, succ⟩ := i
        obtain ⟨h1, h2, h3, h4, h5, h6⟩ := hregs
        simp only at h1 h2 h3 h4 h5 h6
        obtain ⟨d, rfl⟩ := Int.eq_ofNat_of_zero_le h1
        obtain ⟨r1, rfl⟩ := Int.eq_ofNat_of_zero_le h3
        obtain ⟨r2, rfl⟩ := Int.eq_ofNat_of_zero_le h5
        obtain ⟨r, hr1, hr2, hP⟩ := Pick31 r0
        by_cases hx : (stepV h ⟨op, d, r1, r2, imm, aq, rl, pred, succ⟩ found won).fin = 0
        · exact Local_run0 h op d r1 r2 imm aq rl pred succ found won r0 v w ht hop (by omega) (by omega) (by omega) hb hf hc r hr1 hr2 (Lib.hid hP) (fun x e => by rw [← e]; exact hx)
        · exact Local_run1 h op d r1 r2 imm aq rl pred succ found won r0 v w ht hop (by omega) (by omega) (by omega) hb hf hc r hr1 hr2 (Lib.hid hP) (fun x e => by rw [← e]; exact hx)
      · obtain ⟨op, rd, rs1, rs2, imm, aq, rl, pred, succ⟩ := i
        exact Local_invalid h op rd rs1 rs2 imm aq rl pred succ found won r0 v w ht hb hf hc
    · obtain ⟨op, rd, rs1, rs2, imm, aq, rl, pred, succ⟩ := i
      exact Local_ended h op rd rs1 rs2 imm aq rl pred succ found won r0 v w ht hb hf
  · obtain ⟨op, rd, rs1, rs2, imm, aq, rl, pred, succ⟩ := i
    exact Local_bad h op rd rs1 rs2 imm aq rl pred succ found won r0 v w ht hb
end Go.Proofs.YtbglinhglnbfmaaGreatDoor
