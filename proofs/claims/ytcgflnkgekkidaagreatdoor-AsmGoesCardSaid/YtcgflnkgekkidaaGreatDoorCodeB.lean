/- The walks of what package code's word is made of. The walk of package code's word: its frame, its loop over the pieces of a number. Conditions: as each theorem says. -/
import Derived.Test.YtcgflnkgekkidaaGreatDoorCodeA
import Derived.Test.YtcgflnkgekkidaaGreatDoorRefDf
import Derived.WalkSpells
import Derived.Test.YtcgflnkgekkidaaGreatDoorInsnCheck
import Derived.BigQuiet
import Derived.Deep.DeepCutAuto
import Derived.Deep.RegionHeld3
namespace Go.Proofs.YtcgflnkgekkidaaGreatDoor
open Go.RowKit
attribute [local go_sem] wrap_u64_bv bv_un bv_sn
theorem Mark_any (b : Bool) (w : World) : Calls Tryz.prog 105 #[.bool b] w fun e w' => e = .returned (.int .i64 (if b then 1 else 0)) ∧ w = w' := by
  cases b <;>
  · go_enter Tryz.func105, Tryz.ntmps105
    go_wp2
    go_ret
    exact ⟨rfl, rfl⟩
theorem Fput_any (a n : Int) (x : BitVec 64) (v : Int) (w : World) : Calls Tryz.prog 104 #[.agg #[.int .i64 a, .int .i64 n], .int .u64 (un x), .int .i64 v] w fun e w' => e = .returned (.int .u64 (un (Put x a n (bv v)))) ∧ Below w.heap.size w w' := by
  go_enter Tryz.func104, Tryz.ntmps104
  go_wp2_with (go_at_call 101; refine (Put_any _ _ _ _ _).mono ?_; rintro e w' ⟨rfl, rfl⟩)
  go_ret
  exact ⟨rfl, (Below.refl _ _).alloc (Nat.le_refl _) _⟩
/-- Cells of a slice of pieces. -/
def pieceCells (l : List (Int × Int × Int)) : List Value := l.flatMap fun p => [.int .i64 p.1, .int .i64 p.2.1, .int .i64 p.2.2]
/-- What layout gives. -/
structure Laid (w : World) (f : Int) (e : Ending) (w' : World) : Prop where
  ret : ∃ v, e = .returned (.tuple #[v, .int .i64 (pieceBits f)]) ∧ w'.ownsRow w.heap.size 145 3 v (pieces f).length (pieceCells (pieces f))
  below : Below w.heap.size w w'
set_option maxRecDepth 100000 in
theorem Layout_1 (w : World) : Calls Tryz.prog 100 #[.int .i64 1] w (Laid w 1) := by
  go_enter Tryz.func100, Tryz.ntmps100
  go_wp2
  go_ret2
  exact ⟨⟨_, rfl, World.ownsRow_lit (e := 145) (size := 3) w #[.int .i64 0, .int .i64 20, .int .i64 12] 1 (Nat.le_refl _) (by decide) rfl⟩, (Below.refl _ _).alloc (Nat.le_refl _) _⟩
set_option maxRecDepth 100000 in
theorem Layout_2 (w : World) : Calls Tryz.prog 100 #[.int .i64 2] w (Laid w 2) := by
  go_enter Tryz.func100, Tryz.ntmps100
  go_wp2
  go_ret2
  exact ⟨⟨_, rfl, World.ownsRow_lit (e := 145) (size := 3) w #[.int .i64 12, .int .i64 8, .int .i64 12, .int .i64 11, .int .i64 1, .int .i64 20, .int .i64 1, .int .i64 10, .int .i64 21, .int .i64 20, .int .i64 1, .int .i64 31] 4 (Nat.le_refl _) (by decide) rfl⟩, (Below.refl _ _).alloc (Nat.le_refl _) _⟩
set_option maxRecDepth 100000 in
theorem Layout_3 (w : World) : Calls Tryz.prog 100 #[.int .i64 3] w (Laid w 3) := by
  go_enter Tryz.func100, Tryz.ntmps100
  go_wp2
  go_ret2
  exact ⟨⟨_, rfl, World.ownsRow_lit (e := 145) (size := 3) w #[.int .i64 0, .int .i64 12, .int .i64 20] 1 (Nat.le_refl _) (by decide) rfl⟩, (Below.refl _ _).alloc (Nat.le_refl _) _⟩
set_option maxRecDepth 100000 in
theorem Layout_4 (w : World) : Calls Tryz.prog 100 #[.int .i64 4] w (Laid w 4) := by
  go_enter Tryz.func100, Tryz.ntmps100
  go_wp2
  go_ret2
  exact ⟨⟨_, rfl, World.ownsRow_lit (e := 145) (size := 3) w #[.int .i64 0, .int .i64 12, .int .i64 20] 1 (Nat.le_refl _) (by decide) rfl⟩, (Below.refl _ _).alloc (Nat.le_refl _) _⟩
set_option maxRecDepth 100000 in
theorem Layout_5 (w : World) : Calls Tryz.prog 100 #[.int .i64 5] w (Laid w 5) := by
  go_enter Tryz.func100, Tryz.ntmps100
  go_wp2
  go_ret2
  exact ⟨⟨_, rfl, World.ownsRow_lit (e := 145) (size := 3) w #[.int .i64 0, .int .i64 5, .int .i64 7, .int .i64 5, .int .i64 7, .int .i64 25] 2 (Nat.le_refl _) (by decide) rfl⟩, (Below.refl _ _).alloc (Nat.le_refl _) _⟩
set_option maxRecDepth 100000 in
theorem Layout_6 (w : World) : Calls Tryz.prog 100 #[.int .i64 6] w (Laid w 6) := by
  go_enter Tryz.func100, Tryz.ntmps100
  go_wp2
  go_ret2
  exact ⟨⟨_, rfl, World.ownsRow_lit (e := 145) (size := 3) w #[.int .i64 11, .int .i64 1, .int .i64 7, .int .i64 1, .int .i64 4, .int .i64 8, .int .i64 5, .int .i64 6, .int .i64 25, .int .i64 12, .int .i64 1, .int .i64 31] 4 (Nat.le_refl _) (by decide) rfl⟩, (Below.refl _ _).alloc (Nat.le_refl _) _⟩
theorem ret_lay {v : Value} {a b : Int} (h : a = b) : Ending.returned (.tuple #[v, .int .i64 a]) = .returned (.tuple #[v, .int .i64 b]) := by rw [h]
set_option maxRecDepth 100000 in
theorem Layout_else (f : Int) (hf : 7 ≤ f ∨ f < 1) (w : World) : Calls Tryz.prog 100 #[.int .i64 f] w (Laid w f) := by
  have t1 : (f == 1) = false := by simp; omega
  have t2 : (f == 2) = false := by simp; omega
  have t3 : (f == 3) = false := by simp; omega
  have t4 : (f == 4) = false := by simp; omega
  have t5 : (f == 5) = false := by simp; omega
  have t6 : (f == 6) = false := by simp; omega
  have hp : Hid (pieces f = []) := Lib.hid (by unfold pieces; rw [if_neg (by omega), if_neg (by omega), if_neg (by omega), if_neg (by omega), if_neg (by omega)])
  have hq : Hid (pieceBits f = 0) := Lib.hid (by unfold pieceBits; rw [if_neg (by omega), if_neg (by omega), if_neg (by omega), if_neg (by omega), if_neg (by omega)])
  clear hf
  go_enter Tryz.func100, Tryz.ntmps100
  go_wp2
  go_ret2
  exact ⟨⟨_, ret_lay hq.out.symm, by rw [hp.out]; exact World.ownsRow_nil _ _ _ _⟩, Below.refl _ _⟩
theorem Layout_any (f : Int) (w : World) : Calls Tryz.prog 100 #[.int .i64 f] w (Laid w f) := by
  by_cases h : 7 ≤ f ∨ f < 1
  · exact Layout_else f h w
  · obtain rfl | rfl | rfl | rfl | rfl | rfl : f = 1 ∨ f = 2 ∨ f = 3 ∨ f = 4 ∨ f = 5 ∨ f = 6 := by omega
    · exact Layout_1 w
    · exact Layout_2 w
    · exact Layout_3 w
    · exact Layout_4 w
    · exact Layout_5 w
    · exact Layout_6 w
/-- The form is among some. -/
theorem Has_any (l : List Int) (f : Int) (base B g cap : Nat) (w : World) (hl : l.length ≤ 20) (hown : w.ownsRow base 3 1 (.slice (some ⟨g, 0, none⟩) l.length cap) l.length (l.map (Value.int .i64))) (hc : w.cell? ⟨B, 0, none⟩ = some (.int .i64 f)) :
    Calls Tryz.prog 103 #[.slice (some ⟨g, 0, none⟩) l.length cap, .pointer (some ⟨B, 0, none⟩)] w fun e w' => e = .returned (.bool (hasL l f)) ∧ w = w' := by
  have hcell : Hid (∀ j, j < l.length → w.cell? ⟨g, j, none⟩ = some (.int .i64 (l.getD j 0))) := Lib.hid fun j hj => by
    obtain ⟨g', hg, ck⟩ := own_cell hown j hj
    injection hg with hg; injection hg with hg
    rw [hg]; exact ck
  clear hown
  go_enter Tryz.func103, Tryz.ntmps103
  go_wp2
  go_loop [8] (fun i => ∃ k : Nat, k ≤ l.length ∧ i = .int .i64 k ∧ Hid (∀ j, j < k → l.getD j 0 ≠ f)) (fun i => l.length - (intOf i).toNat)
  case atStart => exact ⟨0, Nat.zero_le _, rfl, Lib.hid fun j hj => absurd hj (Nat.not_lt_zero j)⟩
  case round =>
    obtain ⟨k, hk, rfl, hno⟩ := hrel
    by_cases hlt : k < l.length
    · have ck := hcell.out k hlt
      by_cases e : l.getD k 0 = f
      · have hh : hasL l f = true := by
          unfold hasL
          rw [List.contains_iff_mem]
          rw [← e, List.getD_eq_getElem?_getD, List.getElem?_eq_getElem hlt]; exact List.getElem_mem hlt
        rw [e] at ck
        clear e
        go_wp2
        go_ret
        exact ⟨rfl, rfl⟩
      · have hno2 : Hid (∀ j, j < k + 1 → l.getD j 0 ≠ f) := Lib.hid fun j hj => by
          rcases Nat.lt_or_ge j k with h1 | h1
          · exact hno.out j h1
          · rw [show j = k by omega]; exact e
        generalize l.getD k 0 = q at ck e
        have te : (q == f) = false := by rw [beq_eq_false_iff_ne]; exact e
        clear e
        go_wp2
        go_round
        case rel => exact ⟨k + 1, by omega, by go_num, hno2⟩
        case measure => simp [intOf]; omega
    · obtain rfl : k = l.length := by omega
      have hh : hasL l f = false := by
        unfold hasL
        rw [Bool.eq_false_iff]; intro h
        rw [List.contains_iff_mem] at h
        obtain ⟨j, hj, e⟩ := List.mem_iff_getElem.1 h
        exact hno.out j hj (by simp [List.getD, hj, e])
      go_wp2
      go_ret
      exact ⟨rfl, rfl⟩
end Go.Proofs.YtcgflnkgekkidaaGreatDoor
namespace Go.Proofs.YtcgflnkgekkidaaGreatDoor
open Go.RowKit
/-- The fields that are package-level variables: variable, place, bits. -/
structure Flds (w : World) : Prop where
  lF3 : 0 < w.heap.size
  aF3 : w.cell? ⟨0, 0, none⟩ = some (.int .i64 12)
  nF3 : w.cell? ⟨0, 1, none⟩ = some (.int .i64 3)
  lRd : 1 < w.heap.size
  aRd : w.cell? ⟨1, 0, none⟩ = some (.int .i64 7)
  nRd : w.cell? ⟨1, 1, none⟩ = some (.int .i64 5)
  lRs1 : 2 < w.heap.size
  aRs1 : w.cell? ⟨2, 0, none⟩ = some (.int .i64 15)
  nRs1 : w.cell? ⟨2, 1, none⟩ = some (.int .i64 5)
  lRs2 : 3 < w.heap.size
  aRs2 : w.cell? ⟨3, 0, none⟩ = some (.int .i64 20)
  nRs2 : w.cell? ⟨3, 1, none⟩ = some (.int .i64 5)
  lF7 : 4 < w.heap.size
  aF7 : w.cell? ⟨4, 0, none⟩ = some (.int .i64 25)
  nF7 : w.cell? ⟨4, 1, none⟩ = some (.int .i64 7)
  lSix : 5 < w.heap.size
  aSix : w.cell? ⟨5, 0, none⟩ = some (.int .i64 20)
  nSix : w.cell? ⟨5, 1, none⟩ = some (.int .i64 6)
  lPred : 6 < w.heap.size
  aPred : w.cell? ⟨6, 0, none⟩ = some (.int .i64 24)
  nPred : w.cell? ⟨6, 1, none⟩ = some (.int .i64 4)
  lSucc : 7 < w.heap.size
  aSucc : w.cell? ⟨7, 0, none⟩ = some (.int .i64 20)
  nSucc : w.cell? ⟨7, 1, none⟩ = some (.int .i64 4)
theorem Flds.later {w w' : World} (h : Flds w) (hb : Below w.heap.size w w') : Flds w' :=
  ⟨Nat.lt_of_lt_of_le h.lF3 hb.size, (hb.cell (p := ⟨0, 0, none⟩) h.lF3).trans h.aF3, (hb.cell (p := ⟨0, 1, none⟩) h.lF3).trans h.nF3, Nat.lt_of_lt_of_le h.lRd hb.size, (hb.cell (p := ⟨1, 0, none⟩) h.lRd).trans h.aRd, (hb.cell (p := ⟨1, 1, none⟩) h.lRd).trans h.nRd, Nat.lt_of_lt_of_le h.lRs1 hb.size, (hb.cell (p := ⟨2, 0, none⟩) h.lRs1).trans h.aRs1, (hb.cell (p := ⟨2, 1, none⟩) h.lRs1).trans h.nRs1, Nat.lt_of_lt_of_le h.lRs2 hb.size, (hb.cell (p := ⟨3, 0, none⟩) h.lRs2).trans h.aRs2, (hb.cell (p := ⟨3, 1, none⟩) h.lRs2).trans h.nRs2, Nat.lt_of_lt_of_le h.lF7 hb.size, (hb.cell (p := ⟨4, 0, none⟩) h.lF7).trans h.aF7, (hb.cell (p := ⟨4, 1, none⟩) h.lF7).trans h.nF7, Nat.lt_of_lt_of_le h.lSix hb.size, (hb.cell (p := ⟨5, 0, none⟩) h.lSix).trans h.aSix, (hb.cell (p := ⟨5, 1, none⟩) h.lSix).trans h.nSix, Nat.lt_of_lt_of_le h.lPred hb.size, (hb.cell (p := ⟨6, 0, none⟩) h.lPred).trans h.aPred, (hb.cell (p := ⟨6, 1, none⟩) h.lPred).trans h.nPred, Nat.lt_of_lt_of_le h.lSucc hb.size, (hb.cell (p := ⟨7, 0, none⟩) h.lSucc).trans h.aSucc, (hb.cell (p := ⟨7, 1, none⟩) h.lSucc).trans h.nSucc⟩
/-- word's frame: the instruction's box at B, its op's parts at P, its form at F. -/
structure CF (w0 : World) (B P F : Nat) (op rd r1 r2 imm : Int) (aq rl : Bool) (pred succ : Int) (p : PartV) (f : Int) (w : World) : Prop where
  fl : Flds w
  i0 : w.cell? ⟨B, 0, none⟩ = some (.int .i64 op)
  i1 : w.cell? ⟨B, 1, none⟩ = some (.int .i64 rd)
  i2 : w.cell? ⟨B, 2, none⟩ = some (.int .i64 r1)
  i3 : w.cell? ⟨B, 3, none⟩ = some (.int .i64 r2)
  i4 : w.cell? ⟨B, 4, none⟩ = some (.int .i64 imm)
  i5 : w.cell? ⟨B, 5, none⟩ = some (.bool aq)
  i6 : w.cell? ⟨B, 6, none⟩ = some (.bool rl)
  i7 : w.cell? ⟨B, 7, none⟩ = some (.int .i64 pred)
  i8 : w.cell? ⟨B, 8, none⟩ = some (.int .i64 succ)
  p0 : w.cell? ⟨P, 0, none⟩ = some (.int .u32 p.code)
  p1 : w.cell? ⟨P, 1, none⟩ = some (.int .i64 p.f3)
  p2 : w.cell? ⟨P, 2, none⟩ = some (.int .i64 p.f7)
  f0 : w.cell? ⟨F, 0, none⟩ = some (.int .i64 f)
  bl : Below w0.heap.size w0 w
  hB : B < w.heap.size
  hP : P < w.heap.size
  hF : F < w.heap.size
theorem CF.keep {w0 w w' : World} {B P F : Nat} {op rd r1 r2 imm : Int} {aq rl : Bool} {pred succ : Int} {p : PartV} {f : Int} (h : CF w0 B P F op rd r1 r2 imm aq rl pred succ p f w) (hb : Below w.heap.size w w') : CF w0 B P F op rd r1 r2 imm aq rl pred succ p f w' :=
  ⟨h.fl.later hb, (hb.cell (p := ⟨B, 0, none⟩) h.hB).trans h.i0, (hb.cell (p := ⟨B, 1, none⟩) h.hB).trans h.i1, (hb.cell (p := ⟨B, 2, none⟩) h.hB).trans h.i2, (hb.cell (p := ⟨B, 3, none⟩) h.hB).trans h.i3, (hb.cell (p := ⟨B, 4, none⟩) h.hB).trans h.i4, (hb.cell (p := ⟨B, 5, none⟩) h.hB).trans h.i5, (hb.cell (p := ⟨B, 6, none⟩) h.hB).trans h.i6, (hb.cell (p := ⟨B, 7, none⟩) h.hB).trans h.i7, (hb.cell (p := ⟨B, 8, none⟩) h.hB).trans h.i8, (hb.cell (p := ⟨P, 0, none⟩) h.hP).trans h.p0, (hb.cell (p := ⟨P, 1, none⟩) h.hP).trans h.p1, (hb.cell (p := ⟨P, 2, none⟩) h.hP).trans h.p2, (hb.cell (p := ⟨F, 0, none⟩) h.hF).trans h.f0, h.bl.trans (hb.mono h.bl.size), Nat.lt_of_lt_of_le h.hB hb.size, Nat.lt_of_lt_of_le h.hP hb.size, Nat.lt_of_lt_of_le h.hF hb.size⟩
theorem CF.drew {w0 w : World} {B P F : Nat} {op rd r1 r2 imm : Int} {aq rl : Bool} {pred succ : Int} {p : PartV} {f : Int} (h : CF w0 B P F op rd r1 r2 imm aq rl pred succ p f w) : CF w0 B P F op rd r1 r2 imm aq rl pred succ p f w.drew := h.keep (Below.refl _ _).drew
theorem pieces_bd (f : Int) : ∀ e ∈ pieces f, 0 ≤ e.1 ∧ e.1 ≤ 64 ∧ 0 ≤ e.2.1 ∧ e.2.1 ≤ 64 ∧ 0 ≤ e.2.2 ∧ e.2.2 ≤ 64 := by
  unfold pieces
  repeat' split
  all_goals simp
theorem pieceCells_at (l : List (Int × Int × Int)) (j : Nat) (h : j < l.length) : (pieceCells l)[3 * j]? = some (.int .i64 (l.getD j (0, 0, 0)).1) ∧ (pieceCells l)[3 * j + 1]? = some (.int .i64 (l.getD j (0, 0, 0)).2.1) ∧ (pieceCells l)[3 * j + 2]? = some (.int .i64 (l.getD j (0, 0, 0)).2.2) := by
  induction l generalizing j with
  | nil => simp at h
  | cons x l ih =>
    cases j with
    | zero => exact ⟨rfl, rfl, rfl⟩
    | succ j =>
      have := ih j (by simpa using h)
      have e : pieceCells (x :: l) = [.int .i64 x.1, .int .i64 x.2.1, .int .i64 x.2.2] ++ pieceCells l := rfl
      rw [e]
      refine ⟨?_, ?_, ?_⟩
      · rw [List.getElem?_append_right (by simp; omega)]; simpa [show 3 * (j + 1) - 3 = 3 * j by omega] using this.1
      · rw [List.getElem?_append_right (by simp; omega)]; simpa [show 3 * (j + 1) + 1 - 3 = 3 * j + 1 by omega] using this.2.1
      · rw [List.getElem?_append_right (by simp; omega)]; simpa [show 3 * (j + 1) + 2 - 3 = 3 * j + 2 by omega] using this.2.2
theorem box9 {w w1 : World} {op rd r1 r2 imm : Int} {aq rl : Bool} {pred succ : Int} {t : TypeId} (hb : Below (w.alloc (.cells #[.int .i64 op, .int .i64 rd, .int .i64 r1, .int .i64 r2, .int .i64 imm, .bool aq, .bool rl, .int .i64 pred, .int .i64 succ] t)).heap.size (w.alloc (.cells #[.int .i64 op, .int .i64 rd, .int .i64 r1, .int .i64 r2, .int .i64 imm, .bool aq, .bool rl, .int .i64 pred, .int .i64 succ] t)) w1) :
    w1.cell? ⟨w.heap.size, 0, none⟩ = some (.int .i64 op) ∧ w1.cell? ⟨w.heap.size, 1, none⟩ = some (.int .i64 rd) ∧ w1.cell? ⟨w.heap.size, 2, none⟩ = some (.int .i64 r1) ∧ w1.cell? ⟨w.heap.size, 3, none⟩ = some (.int .i64 r2) ∧ w1.cell? ⟨w.heap.size, 4, none⟩ = some (.int .i64 imm) ∧ w1.cell? ⟨w.heap.size, 5, none⟩ = some (.bool aq) ∧ w1.cell? ⟨w.heap.size, 6, none⟩ = some (.bool rl) ∧ w1.cell? ⟨w.heap.size, 7, none⟩ = some (.int .i64 pred) ∧ w1.cell? ⟨w.heap.size, 8, none⟩ = some (.int .i64 succ) := by
  refine ⟨?_, ?_, ?_, ?_, ?_, ?_, ?_, ?_, ?_⟩
  · rw [hb.cell (p := ⟨w.heap.size, 0, none⟩) (by simp), World.cell?_alloc_new]; rfl
  · rw [hb.cell (p := ⟨w.heap.size, 1, none⟩) (by simp), World.cell?_alloc_new]; rfl
  · rw [hb.cell (p := ⟨w.heap.size, 2, none⟩) (by simp), World.cell?_alloc_new]; rfl
  · rw [hb.cell (p := ⟨w.heap.size, 3, none⟩) (by simp), World.cell?_alloc_new]; rfl
  · rw [hb.cell (p := ⟨w.heap.size, 4, none⟩) (by simp), World.cell?_alloc_new]; rfl
  · rw [hb.cell (p := ⟨w.heap.size, 5, none⟩) (by simp), World.cell?_alloc_new]; rfl
  · rw [hb.cell (p := ⟨w.heap.size, 6, none⟩) (by simp), World.cell?_alloc_new]; rfl
  · rw [hb.cell (p := ⟨w.heap.size, 7, none⟩) (by simp), World.cell?_alloc_new]; rfl
  · rw [hb.cell (p := ⟨w.heap.size, 8, none⟩) (by simp), World.cell?_alloc_new]; rfl
theorem box3 {w w1 : World} {a b c : Value} {t : TypeId} (hb : Below (w.alloc (.cells #[a, b, c] t)).heap.size (w.alloc (.cells #[a, b, c] t)) w1) :
    w1.cell? ⟨w.heap.size, 0, none⟩ = some a ∧ w1.cell? ⟨w.heap.size, 1, none⟩ = some b ∧ w1.cell? ⟨w.heap.size, 2, none⟩ = some c := by
  refine ⟨?_, ?_, ?_⟩
  · rw [hb.cell (p := ⟨w.heap.size, 0, none⟩) (by simp), World.cell?_alloc_new]; rfl
  · rw [hb.cell (p := ⟨w.heap.size, 1, none⟩) (by simp), World.cell?_alloc_new]; rfl
  · rw [hb.cell (p := ⟨w.heap.size, 2, none⟩) (by simp), World.cell?_alloc_new]; rfl
theorem CF.start {w w1 w2 : World} {op rd r1 r2 imm : Int} {aq rl : Bool} {pred succ : Int} {p : PartV} {f : Int} {t t2 t3 : TypeId} (hfl : Flds w) (hb1 : Below (w.alloc (.cells #[.int .i64 op, .int .i64 rd, .int .i64 r1, .int .i64 r2, .int .i64 imm, .bool aq, .bool rl, .int .i64 pred, .int .i64 succ] t)).heap.size (w.alloc (.cells #[.int .i64 op, .int .i64 rd, .int .i64 r1, .int .i64 r2, .int .i64 imm, .bool aq, .bool rl, .int .i64 pred, .int .i64 succ] t)) w1)
    (hb2 : Below (w1.alloc (.cells p.cells t2)).heap.size (w1.alloc (.cells p.cells t2)) w2) : CF w w.heap.size w1.heap.size w2.heap.size op rd r1 r2 imm aq rl pred succ p f (w2.alloc (.cells #[.int .i64 f] t3)) := by
  have h0 : Below w.heap.size w (w.alloc (.cells #[.int .i64 op, .int .i64 rd, .int .i64 r1, .int .i64 r2, .int .i64 imm, .bool aq, .bool rl, .int .i64 pred, .int .i64 succ] t)) := (Below.refl _ _).alloc (Nat.le_refl _) _
  have h1 : Below w1.heap.size w1 (w1.alloc (.cells p.cells t2)) := (Below.refl _ _).alloc (Nat.le_refl _) _
  have h3 : Below w2.heap.size w2 (w2.alloc (.cells #[.int .i64 f] t3)) := (Below.refl _ _).alloc (Nat.le_refl _) _
  have hs0 : w.heap.size < w1.heap.size := Nat.lt_of_lt_of_le (by simp) hb1.size
  have hs1 : w1.heap.size < w2.heap.size := Nat.lt_of_lt_of_le (by simp) hb2.size
  have hb12 : Below w1.heap.size w1 w2 := h1.trans (hb2.mono h1.size)
  have hall : Below w1.heap.size w1 (w2.alloc (.cells #[.int .i64 f] t3)) := hb12.trans (h3.mono hb12.size)
  obtain ⟨i0, i1, i2, i3, i4, i5, i6, i7, i8⟩ := box9 hb1
  obtain ⟨p0, p1, p2⟩ := box3 hb2
  have hfl1 : Flds (w2.alloc (.cells #[.int .i64 f] t3)) := ((hfl.later h0).later hb1).later hall
  refine ⟨hfl1, (hall.cell (p := ⟨w.heap.size, 0, none⟩) hs0).trans i0, (hall.cell (p := ⟨w.heap.size, 1, none⟩) hs0).trans i1, (hall.cell (p := ⟨w.heap.size, 2, none⟩) hs0).trans i2, (hall.cell (p := ⟨w.heap.size, 3, none⟩) hs0).trans i3, (hall.cell (p := ⟨w.heap.size, 4, none⟩) hs0).trans i4, (hall.cell (p := ⟨w.heap.size, 5, none⟩) hs0).trans i5, (hall.cell (p := ⟨w.heap.size, 6, none⟩) hs0).trans i6, (hall.cell (p := ⟨w.heap.size, 7, none⟩) hs0).trans i7, (hall.cell (p := ⟨w.heap.size, 8, none⟩) hs0).trans i8, (h3.cell (p := ⟨w1.heap.size, 0, none⟩) hs1).trans p0, (h3.cell (p := ⟨w1.heap.size, 1, none⟩) hs1).trans p1, (h3.cell (p := ⟨w1.heap.size, 2, none⟩) hs1).trans p2, by rw [World.cell?_alloc_new]; rfl, (h0.trans (hb1.mono h0.size)).trans (hall.mono (h0.trans (hb1.mono h0.size)).size), ?_, ?_, ?_⟩
  · exact Nat.lt_of_lt_of_le hs0 hall.size
  · exact Nat.lt_of_lt_of_le hs1 h3.size
  · simp
theorem row3 {w : World} {base g n cap : Nat} {e : TypeId} {l : List (Int × Int × Int)} (h : w.ownsRow base e 3 (.slice (some ⟨g, 0, none⟩) n cap) n (pieceCells l)) (hn : n = l.length) (j : Nat) (hj : j < n) :
    w.cell? ⟨g, 3 * j, none⟩ = some (.int .i64 (l.getD j (0, 0, 0)).1) ∧ w.cell? ⟨g, 3 * j + 1, none⟩ = some (.int .i64 (l.getD j (0, 0, 0)).2.1) ∧ w.cell? ⟨g, 3 * j + 2, none⟩ = some (.int .i64 (l.getD j (0, 0, 0)).2.2) := by
  have := pieceCells_at l j (by omega)
  exact ⟨(h.cellAt _ (by omega)).trans this.1, (h.cellAt _ (by omega)).trans this.2.1, (h.cellAt _ (by omega)).trans this.2.2⟩
theorem CF.alloc {w0 w : World} {B P F : Nat} {op rd r1 r2 imm : Int} {aq rl : Bool} {pred succ : Int} {p : PartV} {f : Int} (h : CF w0 B P F op rd r1 r2 imm aq rl pred succ p f w) (cs : Array Value) (t : TypeId) : CF w0 B P F op rd r1 r2 imm aq rl pred succ p f (w.alloc (.cells cs t)) := h.keep ((Below.refl _ _).alloc (Nat.le_refl _) _)
/-- The form among some that have just been laid. -/
theorem Has_at {w0 w : World} {B P F : Nat} {op rd r1 r2 imm : Int} {aq rl : Bool} {pred succ : Int} {p : PartV} {f : Int} (l : List Int) (b : Bool) (hb : hasL l f = b) (hl : l.length ≤ 20) (hpos : 0 < l.length) (h : CF w0 B P F op rd r1 r2 imm aq rl pred succ p f w) :
    Calls Tryz.prog 103 #[.slice (some ⟨w.heap.size, 0, none⟩) l.length l.length, .pointer (some ⟨F, 0, none⟩)] (w.alloc (.cells (l.map (Value.int .i64)).toArray 3)) fun e w' => e = .returned (.bool b) ∧ CF w0 B P F op rd r1 r2 imm aq rl pred succ p f w' := by
  have hW := h.alloc (l.map (Value.int .i64)).toArray 3
  have hown := World.ownsRow_lit (e := 3) (size := 1) w (l.map (Value.int .i64)).toArray l.length (Nat.le_refl _) (by unfold maxLen; omega) (by simp)
  refine (Has_any l f w.heap.size F w.heap.size l.length _ hl (by simpa using hown) hW.f0).mono ?_
  rintro e w' ⟨rfl, rfl⟩
  exact ⟨by rw [hb], hW⟩
theorem Has1 {w0 w : World} {B P F : Nat} {op rd r1 r2 imm : Int} {aq rl : Bool} {pred succ : Int} {p : PartV} {f : Int} (b : Bool) (hb : hasL [1, 2] f = b) (h : CF w0 B P F op rd r1 r2 imm aq rl pred succ p f w) :
    Calls Tryz.prog 103 #[.slice (some ⟨w.heap.size, 0, none⟩) 2 2, .pointer (some ⟨F, 0, none⟩)] (w.alloc (.cells #[.int .i64 1, .int .i64 2] 3)) fun e w' => e = .returned (.bool b) ∧ CF w0 B P F op rd r1 r2 imm aq rl pred succ p f w' := Has_at [1, 2] b hb (by decide) (by decide) h
theorem Has2 {w0 w : World} {B P F : Nat} {op rd r1 r2 imm : Int} {aq rl : Bool} {pred succ : Int} {p : PartV} {f : Int} (b : Bool) (hb : hasL [1, 2, 3, 4, 7, 8, 11, 12] f = b) (h : CF w0 B P F op rd r1 r2 imm aq rl pred succ p f w) :
    Calls Tryz.prog 103 #[.slice (some ⟨w.heap.size, 0, none⟩) 8 8, .pointer (some ⟨F, 0, none⟩)] (w.alloc (.cells #[.int .i64 1, .int .i64 2, .int .i64 3, .int .i64 4, .int .i64 7, .int .i64 8, .int .i64 11, .int .i64 12] 3)) fun e w' => e = .returned (.bool b) ∧ CF w0 B P F op rd r1 r2 imm aq rl pred succ p f w' := Has_at [1, 2, 3, 4, 7, 8, 11, 12] b hb (by decide) (by decide) h
theorem Has3 {w0 w : World} {B P F : Nat} {op rd r1 r2 imm : Int} {aq rl : Bool} {pred succ : Int} {p : PartV} {f : Int} (b : Bool) (hb : hasL [3, 4, 7, 8, 11, 12, 5, 6] f = b) (h : CF w0 B P F op rd r1 r2 imm aq rl pred succ p f w) :
    Calls Tryz.prog 103 #[.slice (some ⟨w.heap.size, 0, none⟩) 8 8, .pointer (some ⟨F, 0, none⟩)] (w.alloc (.cells #[.int .i64 3, .int .i64 4, .int .i64 7, .int .i64 8, .int .i64 11, .int .i64 12, .int .i64 5, .int .i64 6] 3)) fun e w' => e = .returned (.bool b) ∧ CF w0 B P F op rd r1 r2 imm aq rl pred succ p f w' := Has_at [3, 4, 7, 8, 11, 12, 5, 6] b hb (by decide) (by decide) h
theorem shl25 (x : BitVec 64) : bv (un x * 33554432) = x <<< 25 := by
  have h := mul_bvpow x 25
  rw [bv_mul, bv_un]; exact h
theorem shl20 (x : BitVec 64) : bv (un x * 1048576) = x <<< 20 := by
  have h := mul_bvpow x 20
  rw [bv_mul, bv_un]; exact h
theorem MarkS_any (b : Bool) (w : World) : Calls Tryz.prog 105 #[.bool b] w fun e w' => e = .returned (.int .i64 (sn (mk64 b))) ∧ w = w' := by
  have h := Mark_any b w
  have e : (if b = true then (1 : Int) else 0) = sn (mk64 b) := by cases b <;> decide
  rw [e] at h; exact h
theorem shl_mk (b : Bool) : IntKind.i64.wrap (sn (mk64 b) * 2) = sn (mk64 b <<< 1) := by cases b <;> decide
theorem own_slice3 {w : World} {base : Nat} {e : TypeId} {v : Value} {n : Nat} {xs : List Value} (h : w.ownsRow base e 3 v n xs) : ∃ (ao : Option Addr) (cap : Nat), v = .slice ao n cap := by
  rcases h.2 with ⟨rfl, h0⟩ | ⟨g, cap, cur, rfl, h2⟩
  · exact ⟨none, 0, by rw [h0]⟩
  · exact ⟨_, cap, rfl⟩
theorem own_row3 {w : World} {base n cap : Nat} {ao : Option Addr} {e : TypeId} {l : List (Int × Int × Int)} (h : w.ownsRow base e 3 (.slice ao n cap) n (pieceCells l)) (hn : n = l.length) (j : Nat) (hj : j < n) :
    ∃ g, ao = some ⟨g, 0, none⟩ ∧ w.cell? ⟨g, j * 3, none⟩ = some (.int .i64 (l.getD j (0, 0, 0)).1) ∧ w.cell? ⟨g, j * 3 + 1, none⟩ = some (.int .i64 (l.getD j (0, 0, 0)).2.1) ∧ w.cell? ⟨g, j * 3 + 2, none⟩ = some (.int .i64 (l.getD j (0, 0, 0)).2.2) := by
  rcases h.2 with ⟨h1, h0⟩ | ⟨g, cap', cur, h1, h2⟩
  · omega
  · simp only [Value.slice.injEq] at h1
    obtain ⟨rfl, -, rfl⟩ := h1
    have := row3 h hn j hj
    rw [Nat.mul_comm]
    exact ⟨g, rfl, this⟩
end Go.Proofs.YtcgflnkgekkidaaGreatDoor
