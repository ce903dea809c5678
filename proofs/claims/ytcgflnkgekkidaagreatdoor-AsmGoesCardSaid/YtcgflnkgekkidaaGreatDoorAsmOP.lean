/- An instruction that comes by value, opened to its cells; the fields' places, out of the row's condition. Slices of items that come by value, opened to their cells. Conditions: as each theorem says. -/
import Derived.Test.YtcgflnkgekkidaaGreatDoorCodeB
import Derived.OpenShut
import Derived.ChangeArms
import Derived.LaidMore
import Derived.Lib.LaidTab
import Derived.Stop.Joined
import Derived.Stop.LaidErr
import Derived.SevenTiedAt
import Derived.Test.YtcgflnkgekkidaaGreatDoorAsmB
import Derived.ChangeSlices
import Derived.Deep.Slices
set_option linter.unusedVariables false
namespace Go.Proofs.YtcgflnkgekkidaaGreatDoor
open Go.ChangeShapes Go.WideShapes Go.RowKit
theorem take_oneI {l : List Value} {o : Nat} {v : Value} (h : (l.drop o).take 1 = [v]) : l[o]? = some v := by
  have := congrArg (fun x => x[0]?) h
  simpa using this
theorem some_atI {α : Type} {xs : List α} {k j : Nat} (hl : xs.length = k) (hj : j < k) : ∃ y, xs[j]? = some y := ⟨xs[j]'(by omega), List.getElem?_eq_getElem (by omega)⟩
theorem sizeI_int : Tryz.prog.cellsOf 3 = 1 := by kernel_rfl
theorem sizeI_bool : Tryz.prog.cellsOf 4 = 1 := by kernel_rfl
theorem sizeI_int64 : Tryz.prog.cellsOf 2 = 1 := by kernel_rfl
theorem sizeI_insn : Tryz.prog.cellsOf 26 = 9 := by kernel_rfl
section
variable {H : Type} {enc : TypeId × Value → H} {w : World} {base : Nat} {spare : Nat → Bool} {held : Bool}
set_option maxRecDepth 100000 in
theorem openI_insnL {fuel : Nat} {cs : Array Value} {x : DataW H × List MemPlace} (hsz : cs.size = 9) (hf : DataW.trod enc Tryz.prog w base spare held fuel 26 cs.toList = some x) :
    ∃ i : InsnV, cs = i.cells ∧ -9223372036854775808 ≤ i.op ∧ i.op ≤ 9223372036854775807 := by
  obtain ⟨xs, n, _, _, hl, hlen, hg⟩ := DataW.trod_struct Tryz.underlying26 hf
  obtain ⟨y0, e0⟩ := some_atI hlen (show 0 < 9 by decide)
  have g0 : DataW.trod enc Tryz.prog w base spare held n 3 ((cs.toList.drop 0).take (Tryz.prog.cellsOf 3)) = some y0 := (hg 0 _ rfl).trans e0
  rw [sizeI_int] at g0
  obtain ⟨y1, e1⟩ := some_atI hlen (show 1 < 9 by decide)
  have g1 : DataW.trod enc Tryz.prog w base spare held n 3 ((cs.toList.drop 1).take (Tryz.prog.cellsOf 3)) = some y1 := (hg 1 _ rfl).trans e1
  rw [sizeI_int] at g1
  obtain ⟨y2, e2⟩ := some_atI hlen (show 2 < 9 by decide)
  have g2 : DataW.trod enc Tryz.prog w base spare held n 3 ((cs.toList.drop 2).take (Tryz.prog.cellsOf 3)) = some y2 := (hg 2 _ rfl).trans e2
  rw [sizeI_int] at g2
  obtain ⟨y3, e3⟩ := some_atI hlen (show 3 < 9 by decide)
  have g3 : DataW.trod enc Tryz.prog w base spare held n 3 ((cs.toList.drop 3).take (Tryz.prog.cellsOf 3)) = some y3 := (hg 3 _ rfl).trans e3
  rw [sizeI_int] at g3
  obtain ⟨y4, e4⟩ := some_atI hlen (show 4 < 9 by decide)
  have g4 : DataW.trod enc Tryz.prog w base spare held n 2 ((cs.toList.drop 4).take (Tryz.prog.cellsOf 2)) = some y4 := (hg 4 _ rfl).trans e4
  rw [sizeI_int64] at g4
  obtain ⟨y5, e5⟩ := some_atI hlen (show 5 < 9 by decide)
  have g5 : DataW.trod enc Tryz.prog w base spare held n 4 ((cs.toList.drop 5).take (Tryz.prog.cellsOf 4)) = some y5 := (hg 5 _ rfl).trans e5
  rw [sizeI_bool] at g5
  obtain ⟨y6, e6⟩ := some_atI hlen (show 6 < 9 by decide)
  have g6 : DataW.trod enc Tryz.prog w base spare held n 4 ((cs.toList.drop 6).take (Tryz.prog.cellsOf 4)) = some y6 := (hg 6 _ rfl).trans e6
  rw [sizeI_bool] at g6
  obtain ⟨y7, e7⟩ := some_atI hlen (show 7 < 9 by decide)
  have g7 : DataW.trod enc Tryz.prog w base spare held n 3 ((cs.toList.drop 7).take (Tryz.prog.cellsOf 3)) = some y7 := (hg 7 _ rfl).trans e7
  rw [sizeI_int] at g7
  obtain ⟨y8, e8⟩ := some_atI hlen (show 8 < 9 by decide)
  have g8 : DataW.trod enc Tryz.prog w base spare held n 3 ((cs.toList.drop 8).take (Tryz.prog.cellsOf 3)) = some y8 := (hg 8 _ rfl).trans e8
  rw [sizeI_int] at g8
  obtain ⟨z0, q0, _, w0⟩ := DataW.trod_int Tryz.underlying3 g0
  obtain ⟨z1, q1, _, w1⟩ := DataW.trod_int Tryz.underlying3 g1
  obtain ⟨z2, q2, _, w2⟩ := DataW.trod_int Tryz.underlying3 g2
  obtain ⟨z3, q3, _, w3⟩ := DataW.trod_int Tryz.underlying3 g3
  obtain ⟨z4, q4, _, w4⟩ := DataW.trod_int Tryz.underlying2 g4
  obtain ⟨z5, q5, _⟩ := DataW.trod_bool Tryz.underlying4 g5
  obtain ⟨z6, q6, _⟩ := DataW.trod_bool Tryz.underlying4 g6
  obtain ⟨z7, q7, _, w7⟩ := DataW.trod_int Tryz.underlying3 g7
  obtain ⟨z8, q8, _, w8⟩ := DataW.trod_int Tryz.underlying3 g8
  have q0 := take_oneI q0
  have q1 := take_oneI q1
  have q2 := take_oneI q2
  have q3 := take_oneI q3
  have q4 := take_oneI q4
  have q5 := take_oneI q5
  have q6 := take_oneI q6
  have q7 := take_oneI q7
  have q8 := take_oneI q8
  refine ⟨⟨z0, z1, z2, z3, z4, z5, z6, z7, z8⟩, Array.ext' (List.ext_getElem? fun j => ?_), (i64_bounds w0).1, (i64_bounds w0).2⟩
  rcases (show j = 0 ∨ j = 1 ∨ j = 2 ∨ j = 3 ∨ j = 4 ∨ j = 5 ∨ j = 6 ∨ j = 7 ∨ j = 8 ∨ 9 ≤ j by omega) with rfl | rfl | rfl | rfl | rfl | rfl | rfl | rfl | rfl | hj
  · exact q0
  · exact q1
  · exact q2
  · exact q3
  · exact q4
  · exact q5
  · exact q6
  · exact q7
  · exact q8
  · rw [List.getElem?_eq_none (by simpa [hsz] using hj), List.getElem?_eq_none (show (InsnV.cells ⟨z0, z1, z2, z3, z4, z5, z6, z7, z8⟩).toList.length ≤ j from hj)]
set_option maxRecDepth 100000 in
theorem openI_insn {r : Reach} {b0 : Nat} {v : Value} {d : DataW H} {p : List MemPlace} (hv : Value.okWide Tryz.prog w r b0 26 v) (h : DataW.Trod enc Tryz.prog w base spare held 26 v d p) :
    ∃ i : InsnV, v = .agg i.cells ∧ -9223372036854775808 ≤ i.op ∧ i.op ≤ 9223372036854775807 := by
  obtain ⟨cs, rfl, hsz⟩ := okWide_struct Tryz.underlying26 hv
  rw [sizeI_insn] at hsz
  obtain ⟨fuel, hf⟩ := h
  obtain ⟨i, rfl, hi⟩ := openI_insnL hsz hf
  exact ⟨i, rfl, hi⟩
end
/-- A field's place, where it stands first on the row's list. -/
theorem field_of_head {W : World} {name : String} {a n : Int} {rest : List (String × DataW Unit)} {g : Nat} (hg : Tryz.prog.globalNamed name = some g) (hty : (Tryz.prog.globals[g]?).map (·.type) = some 148)
    (h : laidMet Tryz.prog ((name, .agg [.lit (.int .i64 a), .lit (.int .i64 n)]) :: rest) W) : g < W.heap.size ∧ W.cell? ⟨g, 0, none⟩ = some (.int .i64 a) ∧ W.cell? ⟨g, 1, none⟩ = some (.int .i64 n) := by
  obtain ⟨ps, ⟨g', t', cs, fuel, p, q, hg', ht', hvar, hd, _, _⟩, _⟩ := h
  obtain rfl := Option.some.inj (hg.symm.trans hg')
  obtain rfl := Option.some.inj (hty.symm.trans ht')
  obtain ⟨xs, m, _, ex, hl, hlen, hel⟩ := DataW.trod_struct Tryz.underlying148 hd
  obtain ⟨y0, e0⟩ := some_atI hlen (show 0 < 2 by decide)
  obtain ⟨y1, e1⟩ := some_atI hlen (show 1 < 2 by decide)
  have g0 : DataW.trod (fun _ => ()) Tryz.prog W 0 (fun _ => true) false m 3 ((cs.toList.drop 0).take (Tryz.prog.cellsOf 3)) = some y0 := (hel 0 _ rfl).trans e0
  have g1 : DataW.trod (fun _ => ()) Tryz.prog W 0 (fun _ => true) false m 3 ((cs.toList.drop 1).take (Tryz.prog.cellsOf 3)) = some y1 := (hel 1 _ rfl).trans e1
  rw [sizeI_int] at g0 g1
  obtain ⟨z0, q0, r0, _⟩ := DataW.trod_int Tryz.underlying3 g0
  obtain ⟨z1, q1, r1, _⟩ := DataW.trod_int Tryz.underlying3 g1
  have ed := congrArg Prod.fst ex
  simp only [DataW.agg.injEq] at ed
  have d0 : some (DataW.lit (H := Unit) (.int .i64 a)) = some (DataW.lit (.int .i64 z0)) := by
    have := congrArg (fun l => l[0]?) ed
    simpa [e0, r0] using this
  have d1 : some (DataW.lit (H := Unit) (.int .i64 n)) = some (DataW.lit (.int .i64 z1)) := by
    have := congrArg (fun l => l[1]?) ed
    simpa [e1, r1] using this
  have a0 : a = z0 := by simpa using d0
  have a1 : n = z1 := by simpa using d1
  have c0 := (World.var?_cell hg hvar 0).trans (by simpa using take_oneI q0)
  have c1 := (World.var?_cell hg hvar 1).trans (by simpa using take_oneI q1)
  refine ⟨?_, by rw [a0]; exact c0, by rw [a1]; exact c1⟩
  rcases Nat.lt_or_ge g W.heap.size with hl2 | hl2
  · exact hl2
  · simp [World.cell?, Array.getElem?_eq_none hl2] at c0
set_option maxRecDepth 100000 in
theorem flds_of {W : World} {rest : List (String × DataW Unit)} (h : laidMet Tryz.prog ([("fencepost/code.fieldRd", .agg [.lit (.int .i64 7), .lit (.int .i64 5)]), ("fencepost/code.fieldRs1", .agg [.lit (.int .i64 15), .lit (.int .i64 5)]), ("fencepost/code.fieldRs2", .agg [.lit (.int .i64 20), .lit (.int .i64 5)]), ("fencepost/code.fieldF3", .agg [.lit (.int .i64 12), .lit (.int .i64 3)]), ("fencepost/code.fieldF7", .agg [.lit (.int .i64 25), .lit (.int .i64 7)]), ("fencepost/code.fieldSix", .agg [.lit (.int .i64 20), .lit (.int .i64 6)]), ("fencepost/code.fieldPred", .agg [.lit (.int .i64 24), .lit (.int .i64 4)]), ("fencepost/code.fieldSucc", .agg [.lit (.int .i64 20), .lit (.int .i64 4)])] ++ rest) W) : Flds W := by
  have kRd := field_of_head (g := 1) (by kernel_rfl) (by kernel_rfl) h
  have kRs1 := field_of_head (g := 2) (by kernel_rfl) (by kernel_rfl) (Go.laidMet.tail h)
  have kRs2 := field_of_head (g := 3) (by kernel_rfl) (by kernel_rfl) (Go.laidMet.tail (Go.laidMet.tail h))
  have kF3 := field_of_head (g := 0) (by kernel_rfl) (by kernel_rfl) (Go.laidMet.tail (Go.laidMet.tail (Go.laidMet.tail h)))
  have kF7 := field_of_head (g := 4) (by kernel_rfl) (by kernel_rfl) (Go.laidMet.tail (Go.laidMet.tail (Go.laidMet.tail (Go.laidMet.tail h))))
  have kSix := field_of_head (g := 5) (by kernel_rfl) (by kernel_rfl) (Go.laidMet.tail (Go.laidMet.tail (Go.laidMet.tail (Go.laidMet.tail (Go.laidMet.tail h)))))
  have kPred := field_of_head (g := 6) (by kernel_rfl) (by kernel_rfl) (Go.laidMet.tail (Go.laidMet.tail (Go.laidMet.tail (Go.laidMet.tail (Go.laidMet.tail (Go.laidMet.tail h))))))
  have kSucc := field_of_head (g := 7) (by kernel_rfl) (by kernel_rfl) (Go.laidMet.tail (Go.laidMet.tail (Go.laidMet.tail (Go.laidMet.tail (Go.laidMet.tail (Go.laidMet.tail (Go.laidMet.tail h)))))))
  exact ⟨kF3.1, kF3.2.1, kF3.2.2, kRd.1, kRd.2.1, kRd.2.2, kRs1.1, kRs1.2.1, kRs1.2.2, kRs2.1, kRs2.2.1, kRs2.2.2, kF7.1, kF7.2.1, kF7.2.2, kSix.1, kSix.2.1, kSix.2.2, kPred.1, kPred.2.1, kPred.2.2, kSucc.1, kSucc.2.1, kSucc.2.2⟩
end Go.Proofs.YtcgflnkgekkidaaGreatDoor
namespace Go.Proofs.YtcgflnkgekkidaaGreatDoor
open Go.ChangeShapes Go.WideShapes Go.RowKit
theorem sizeI_u64 : Tryz.prog.cellsOf 27 = 1 := by kernel_rfl
theorem sizeI_item : Tryz.prog.cellsOf 29 = 12 := by kernel_rfl
section
variable {H : Type} {enc : TypeId × Value → H} {w : World} {base : Nat} {spare : Nat → Bool} {held : Bool}
set_option maxRecDepth 100000 in
theorem openI_itemL {fuel : Nat} {cs : Array Value} {x : DataW H × List MemPlace} (hsz : cs.size = 12) (hf : DataW.trod enc Tryz.prog w base spare held fuel 29 cs.toList = some x) :
    ∃ i : ItemV, cs = i.cells ∧ (-9223372036854775808 ≤ i.insn.op ∧ i.insn.op ≤ 9223372036854775807) ∧ (Lit.int .i64 i.label).wf = true := by
  obtain ⟨xs, n, _, _, hl, hlen, hg⟩ := DataW.trod_struct Tryz.underlying29 hf
  obtain ⟨y0, e0⟩ := some_atI hlen (show 0 < 4 by decide)
  have g0 : DataW.trod enc Tryz.prog w base spare held n 3 ((cs.toList.drop 0).take (Tryz.prog.cellsOf 3)) = some y0 := (hg 0 _ rfl).trans e0
  rw [sizeI_int] at g0
  obtain ⟨y1, e1⟩ := some_atI hlen (show 1 < 4 by decide)
  have g1 : DataW.trod enc Tryz.prog w base spare held n 26 ((cs.toList.drop 1).take (Tryz.prog.cellsOf 26)) = some y1 := (hg 1 _ rfl).trans e1
  rw [sizeI_insn] at g1
  obtain ⟨y2, e2⟩ := some_atI hlen (show 2 < 4 by decide)
  have g2 : DataW.trod enc Tryz.prog w base spare held n 3 ((cs.toList.drop 10).take (Tryz.prog.cellsOf 3)) = some y2 := (hg 2 _ rfl).trans e2
  rw [sizeI_int] at g2
  obtain ⟨y3, e3⟩ := some_atI hlen (show 3 < 4 by decide)
  have g3 : DataW.trod enc Tryz.prog w base spare held n 27 ((cs.toList.drop 11).take (Tryz.prog.cellsOf 27)) = some y3 := (hg 3 _ rfl).trans e3
  rw [sizeI_u64] at g3
  obtain ⟨z0, q0, _, w0⟩ := DataW.trod_int Tryz.underlying3 g0
  obtain ⟨z2, q2, _, w2⟩ := DataW.trod_int Tryz.underlying3 g2
  obtain ⟨z3, q3, _, w3⟩ := DataW.trod_int Tryz.underlying27 g3
  have hl12 : cs.toList.length = 12 := by simpa using hsz
  obtain ⟨i, hi, ho1, ho2⟩ := openI_insnL (cs := ((cs.toList.drop 1).take 9).toArray) (by simp; omega) g1
  have hi' : (cs.toList.drop 1).take 9 = i.cells.toList := by rw [← hi]
  obtain ⟨a, rfl⟩ := exists_un w3
  have q0 := take_oneI q0
  have q2 := take_oneI q2
  have q3 := take_oneI q3
  refine ⟨⟨z0, i, z2, a⟩, Array.ext' (List.ext_getElem? fun j => ?_), ⟨ho1, ho2⟩, w2⟩
  have hm : ∀ m, m < 9 → cs.toList[1 + m]? = i.cells.toList[m]? := fun m hm => by rw [← hi', List.getElem?_take_of_lt hm, List.getElem?_drop]
  rcases (show j = 0 ∨ j = 1 ∨ j = 2 ∨ j = 3 ∨ j = 4 ∨ j = 5 ∨ j = 6 ∨ j = 7 ∨ j = 8 ∨ j = 9 ∨ j = 10 ∨ j = 11 ∨ 12 ≤ j by omega) with rfl | rfl | rfl | rfl | rfl | rfl | rfl | rfl | rfl | rfl | rfl | rfl | hj
  · exact q0
  · exact hm 0 (by decide)
  · exact hm 1 (by decide)
  · exact hm 2 (by decide)
  · exact hm 3 (by decide)
  · exact hm 4 (by decide)
  · exact hm 5 (by decide)
  · exact hm 6 (by decide)
  · exact hm 7 (by decide)
  · exact hm 8 (by decide)
  · exact q2
  · exact q3
  · rw [List.getElem?_eq_none (by omega), List.getElem?_eq_none (show (ItemV.cells ⟨z0, i, z2, a⟩).toList.length ≤ j from hj)]
set_option maxRecDepth 100000 in
theorem openI_items {ao : Option Addr} {len cap : Nat} {d : DataW H} {p : List MemPlace} (h : DataW.Trod enc Tryz.prog w base spare held 22 (.slice ao len cap) d p) :
    ∃ F : Nat → ItemV, ItemsAt w ao len F ∧ FitF F len ∧ ∀ k, k < len → -9223372036854775808 ≤ (F k).insn.op := by
  obtain ⟨fuel, hf⟩ := h
  have hf : DataW.trod enc Tryz.prog w base spare held fuel 22 [.slice ao len cap] = some (d, p) := hf
  rcases DataW.trod_slice Tryz.underlying22 hf with ⟨hcs, _⟩ | ⟨a, len', cap', elems, rest, n, _, hcs, _, _, _, _, hlen, hel, _⟩
  · simp at hcs
    obtain ⟨rfl, rfl, rfl⟩ := hcs
    exact ⟨fun _ => ⟨0, ⟨0, 0, 0, 0, 0, false, false, 0, 0⟩, 0, 0#64⟩, fun hh => absurd hh (Nat.lt_irrefl 0), fun k hk => absurd hk (Nat.not_lt_zero _), fun k hk => absurd hk (Nat.not_lt_zero _)⟩
  · simp at hcs
    obtain ⟨rfl, rfl, rfl⟩ := hcs
    rw [sizeI_item] at hel
    have key : ∀ i, ∃ v : ItemV, i < len → ((∀ j, j < 12 → w.cell? ((a.add (i * 12)).add j) = v.cells[j]?) ∧ (-9223372036854775808 ≤ v.insn.op ∧ v.insn.op ≤ 9223372036854775807) ∧ (Lit.int .i64 v.label).wf = true) := fun i => by
      by_cases hi : i < len
      · obtain ⟨y, ey⟩ := some_atI hlen hi
        have e1 := (hel i hi).trans ey
        rw [Option.bind_eq_some_iff] at e1
        obtain ⟨cs, hc1, hc2⟩ := e1
        obtain ⟨_, hl9, hcell⟩ := World.cells?_some hc1
        obtain ⟨v, hv, hop0, hlb⟩ := openI_itemL (cs := cs.toArray) (by simpa using hl9) hc2
        refine ⟨v, fun _ => ⟨fun j hj => ?_, hop0, hlb⟩⟩
        rw [hcell j hj, ← hv]
        simp
      · exact ⟨⟨0, ⟨0, 0, 0, 0, 0, false, false, 0, 0⟩, 0, 0#64⟩, fun hh => absurd hh hi⟩
    obtain ⟨F, hF⟩ := Classical.skolem.1 key
    refine ⟨F, fun hn => ?_, fun k hk => ⟨(hF k hk).2.1.2, (hF k hk).2.2⟩, fun k hk => (hF k hk).2.1.1⟩
    obtain ⟨b, off, spot⟩ := a
    have h00 : w.cell? ⟨b, off, spot⟩ = some (.int .i64 (F 0).kind) := by
      have := (hF 0 hn).1 0 (by decide)
      simp only [Addr.add, Nat.zero_mul, if_true] at this
      exact this
    have hspot : spot = none := by simpa using World.cell?_spot h00
    subst hspot
    refine ⟨b, off, rfl, World.block_lt_of_cell? w _ h00, fun k hk j v hv => ?_⟩
    have hj : j < 12 := (Array.getElem?_eq_some_iff.1 hv).1
    have e := (hF k hk).1 j hj
    rw [Go.WideShapes.add_plain, Go.WideShapes.add_plain] at e
    rw [e]; exact hv
theorem openI_cap {ao : Option Addr} {len cap : Nat} {d : DataW H} {p : List MemPlace} (h : DataW.Trod enc Tryz.prog w base spare held 22 (.slice ao len cap) d p) : len ≤ cap ∧ cap ≤ maxLen := by
  obtain ⟨fuel, hf⟩ := h
  have hf : DataW.trod enc Tryz.prog w base spare held fuel 22 [.slice ao len cap] = some (d, p) := hf
  rcases DataW.trod_slice Tryz.underlying22 hf with ⟨hcs, _⟩ | ⟨a, len', cap', elems, rest, n, _, hcs, _, _, h1, h2, _⟩
  · simp at hcs
    obtain ⟨rfl, rfl, rfl⟩ := hcs
    exact ⟨Nat.le_refl _, Nat.zero_le _⟩
  · simp at hcs
    obtain ⟨rfl, rfl, rfl⟩ := hcs
    exact ⟨h1, h2⟩
end
end Go.Proofs.YtcgflnkgekkidaaGreatDoor
