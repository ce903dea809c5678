/- The walk of hart.Check; a hart by value. The walk of a hart's begin. Conditions: as each theorem says. -/
import Derived.Test.YtbglinhglnbfmaaGreatDoorHartTry
import Derived.Test.YtbglinhglnbfmaaGreatDoorHartDefs
import Derived.BigQuiet
import Derived.Deep.QuietTactic
import Derived.Deep.MidRow
import Derived.Test.YtbglinhglnbfmaaGreatDoorHartWk
import Derived.Test.YtbglinhglnbfmaaGreatDoorInsnCheck
import Derived.Deep.RegionHeld3
set_option linter.unusedVariables false
namespace Go.Proofs.YtbglinhglnbfmaaGreatDoor
open Go.RowKit
/-- A hart's cells. -/
def hartL (h : HartV) : List Value := (List.range 35).map (hartCell h)
theorem hartL_at (h : HartV) (j : Nat) (hj : j < 35) : (hartL h)[j]? = some (hartCell h j) := by
  unfold hartL; simp [hj]
theorem hartL_len (h : HartV) : (hartL h).length = 35 := by unfold hartL; simp
/-- A hart by value. -/
def hartArr (h : HartV) : Array Value := (hartL h).toArray
theorem hartArr_at (h : HartV) (j : Nat) (hj : j < 35) : (hartArr h)[j]? = some (hartCell h j) := by
  unfold hartArr; simp [hartL_at h j hj]
theorem hartArr_size (h : HartV) : (hartArr h).size = 35 := by unfold hartArr; simp [hartL_len]
theorem hart_range {h : HartV} {b : Nat} {w : World} (hc : ∀ j, j < 35 → w.cell? ⟨b, j, none⟩ = some (hartCell h j)) : w.rangeAt b 0 (hartL h) := fun j v hv => by
  rcases Nat.lt_or_ge j 35 with hj | hj
  · rw [hartL_at h j hj] at hv; rw [Nat.zero_add, hc j hj, hv]
  · rw [List.getElem?_eq_none (by rw [hartL_len]; exact hj)] at hv; cases hv
theorem insn_range {i : InsnV} {b o : Nat} {w : World} (hc : ∀ j, j < 9 → w.cell? ⟨b, o + j, none⟩ = some (insnCell i j)) : w.rangeAt b o i.cells.toList := fun j v hv => by
  rcases (show j = 0 ∨ j = 1 ∨ j = 2 ∨ j = 3 ∨ j = 4 ∨ j = 5 ∨ j = 6 ∨ j = 7 ∨ j = 8 ∨ 9 ≤ j by omega) with rfl | rfl | rfl | rfl | rfl | rfl | rfl | rfl | rfl | hj
  all_goals first
    | (rw [hc _ (by decide)]; exact hv)
    | (rw [List.getElem?_eq_none (show i.cells.toList.length ≤ j from hj)] at hv; cases hv)
section
attribute [local irreducible] un sn
set_option maxRecDepth 100000 in
theorem HCheck_0 (h : HartV) (w : World) (h0 : un (h.x 0) ≠ 0) :
    Calls Tryz.prog 7 #[.agg (hartArr h)] w fun e w' => e = .returned (.int .i64 2) ∧ Below w.heap.size w w' := by
  have hund : ∀ b : Bool, (some undef = some (Value.bool b)) = False := fun b => by simp [undef]
  have a1 : (hartArr h)[1]? = some (.int .u64 (un (h.x 0))) := hartArr_at h 1 (by decide)
  have a33 : (hartArr h)[33]? = some (.int .i64 h.fin) := hartArr_at h 33 (by decide)
  have a34 : (hartArr h)[34]? = some (.int .u64 (un h.code)) := hartArr_at h 34 (by decide)
  have t0 : (un (h.x 0) != 0) = true := by simpa using h0
  generalize hartArr h = A at a1 a33 a34 ⊢
  go_enter Tryz.func7, Tryz.ntmps7
  go_wp2
  go_ret
  exact ⟨rfl, (Below.refl _ _).alloc (Nat.le_refl _) _⟩
set_option maxRecDepth 100000 in
theorem HCheck_1 (h : HartV) (w : World) (h0 : un (h.x 0) = 0) (h1 : h.fin < 0) :
    Calls Tryz.prog 7 #[.agg (hartArr h)] w fun e w' => e = .returned (.int .i64 2) ∧ Below w.heap.size w w' := by
  have hund : ∀ b : Bool, (some undef = some (Value.bool b)) = False := fun b => by simp [undef]
  have a1 : (hartArr h)[1]? = some (.int .u64 (un (h.x 0))) := hartArr_at h 1 (by decide)
  have a33 : (hartArr h)[33]? = some (.int .i64 h.fin) := hartArr_at h 33 (by decide)
  have a34 : (hartArr h)[34]? = some (.int .u64 (un h.code)) := hartArr_at h 34 (by decide)
  have t0 : (un (h.x 0) != 0) = false := by rw [h0]; rfl
  have t1 : decide (h.fin < 0) = true := by rw [decide_eq_true_iff]; exact h1
  generalize hartArr h = A at a1 a33 a34 ⊢
  go_enter Tryz.func7, Tryz.ntmps7
  go_wp2
  go_ret
  exact ⟨rfl, (Below.refl _ _).alloc (Nat.le_refl _) _⟩
set_option maxRecDepth 100000 in
theorem HCheck_2 (h : HartV) (w : World) (h0 : un (h.x 0) = 0) (h1 : 0 ≤ h.fin) (h2 : 6 < h.fin) :
    Calls Tryz.prog 7 #[.agg (hartArr h)] w fun e w' => e = .returned (.int .i64 2) ∧ Below w.heap.size w w' := by
  have hund : ∀ b : Bool, (some undef = some (Value.bool b)) = False := fun b => by simp [undef]
  have a1 : (hartArr h)[1]? = some (.int .u64 (un (h.x 0))) := hartArr_at h 1 (by decide)
  have a33 : (hartArr h)[33]? = some (.int .i64 h.fin) := hartArr_at h 33 (by decide)
  have a34 : (hartArr h)[34]? = some (.int .u64 (un h.code)) := hartArr_at h 34 (by decide)
  have t0 : (un (h.x 0) != 0) = false := by rw [h0]; rfl
  have t1 : decide (h.fin < 0) = false := by rw [decide_eq_false_iff_not]; omega
  have t2 : decide (6 < h.fin) = true := by rw [decide_eq_true_iff]; exact h2
  generalize hartArr h = A at a1 a33 a34 ⊢
  go_enter Tryz.func7, Tryz.ntmps7
  go_wp2
  go_ret
  exact ⟨rfl, (Below.refl _ _).alloc (Nat.le_refl _) _⟩
set_option maxRecDepth 100000 in
theorem HCheck_3 (h : HartV) (w : World) (h0 : un (h.x 0) = 0) (h1 : 0 ≤ h.fin) (h2 : h.fin ≤ 6) (h3 : h.fin = 1) :
    Calls Tryz.prog 7 #[.agg (hartArr h)] w fun e w' => e = .returned (.int .i64 0) ∧ Below w.heap.size w w' := by
  have hund : ∀ b : Bool, (some undef = some (Value.bool b)) = False := fun b => by simp [undef]
  have a1 : (hartArr h)[1]? = some (.int .u64 (un (h.x 0))) := hartArr_at h 1 (by decide)
  have a33 : (hartArr h)[33]? = some (.int .i64 h.fin) := hartArr_at h 33 (by decide)
  have a34 : (hartArr h)[34]? = some (.int .u64 (un h.code)) := hartArr_at h 34 (by decide)
  have t0 : (un (h.x 0) != 0) = false := by rw [h0]; rfl
  have t1 : decide (h.fin < 0) = false := by rw [decide_eq_false_iff_not]; omega
  have t2 : decide (6 < h.fin) = false := by rw [decide_eq_false_iff_not]; omega
  have t3 : (h.fin != 1) = false := by rw [h3]; rfl
  generalize hartArr h = A at a1 a33 a34 ⊢
  go_enter Tryz.func7, Tryz.ntmps7
  go_wp2
  go_ret
  exact ⟨rfl, (Below.refl _ _).alloc (Nat.le_refl _) _⟩
set_option maxRecDepth 100000 in
theorem HCheck_4 (h : HartV) (w : World) (h0 : un (h.x 0) = 0) (h1 : 0 ≤ h.fin) (h2 : h.fin ≤ 6) (h3 : h.fin ≠ 1) (h4 : un h.code ≠ 0) :
    Calls Tryz.prog 7 #[.agg (hartArr h)] w fun e w' => e = .returned (.int .i64 2) ∧ Below w.heap.size w w' := by
  have hund : ∀ b : Bool, (some undef = some (Value.bool b)) = False := fun b => by simp [undef]
  have a1 : (hartArr h)[1]? = some (.int .u64 (un (h.x 0))) := hartArr_at h 1 (by decide)
  have a33 : (hartArr h)[33]? = some (.int .i64 h.fin) := hartArr_at h 33 (by decide)
  have a34 : (hartArr h)[34]? = some (.int .u64 (un h.code)) := hartArr_at h 34 (by decide)
  have t0 : (un (h.x 0) != 0) = false := by rw [h0]; rfl
  have t1 : decide (h.fin < 0) = false := by rw [decide_eq_false_iff_not]; omega
  have t2 : decide (6 < h.fin) = false := by rw [decide_eq_false_iff_not]; omega
  have t3 : (h.fin != 1) = true := by simpa using h3
  have t4 : (un h.code != 0) = true := by simpa using h4
  generalize hartArr h = A at a1 a33 a34 ⊢
  go_enter Tryz.func7, Tryz.ntmps7
  go_wp2
  go_ret
  exact ⟨rfl, (Below.refl _ _).alloc (Nat.le_refl _) _⟩
set_option maxRecDepth 100000 in
theorem HCheck_5 (h : HartV) (w : World) (h0 : un (h.x 0) = 0) (h1 : 0 ≤ h.fin) (h2 : h.fin ≤ 6) (h3 : h.fin ≠ 1) (h4 : un h.code = 0) :
    Calls Tryz.prog 7 #[.agg (hartArr h)] w fun e w' => e = .returned (.int .i64 0) ∧ Below w.heap.size w w' := by
  have hund : ∀ b : Bool, (some undef = some (Value.bool b)) = False := fun b => by simp [undef]
  have a1 : (hartArr h)[1]? = some (.int .u64 (un (h.x 0))) := hartArr_at h 1 (by decide)
  have a33 : (hartArr h)[33]? = some (.int .i64 h.fin) := hartArr_at h 33 (by decide)
  have a34 : (hartArr h)[34]? = some (.int .u64 (un h.code)) := hartArr_at h 34 (by decide)
  have t0 : (un (h.x 0) != 0) = false := by rw [h0]; rfl
  have t1 : decide (h.fin < 0) = false := by rw [decide_eq_false_iff_not]; omega
  have t2 : decide (6 < h.fin) = false := by rw [decide_eq_false_iff_not]; omega
  have t3 : (h.fin != 1) = true := by simpa using h3
  have t4 : (un h.code != 0) = false := by rw [h4]; rfl
  generalize hartArr h = A at a1 a33 a34 ⊢
  go_enter Tryz.func7, Tryz.ntmps7
  go_wp2
  go_ret
  exact ⟨rfl, (Below.refl _ _).alloc (Nat.le_refl _) _⟩
end
theorem HCheck_any (h : HartV) (w : World) :
    Calls Tryz.prog 7 #[.agg (hartArr h)] w fun e w' => e = .returned (.int .i64 (hartE h)) ∧ Below w.heap.size w w' := by
  by_cases h0 : un (h.x 0) = 0
  · by_cases h1 : 0 ≤ h.fin
    · by_cases h2 : h.fin ≤ 6
      · by_cases h3 : h.fin = 1
        · rw [show hartE h = 0 by unfold hartE; rw [if_pos ⟨h0, h1, h2, .inl h3⟩]]; exact HCheck_3 h w h0 h1 h2 h3
        · by_cases h4 : un h.code = 0
          · rw [show hartE h = 0 by unfold hartE; rw [if_pos ⟨h0, h1, h2, .inr h4⟩]]; exact HCheck_5 h w h0 h1 h2 h3 h4
          · rw [show hartE h = 2 by unfold hartE; rw [if_neg (fun hh => hh.2.2.2.elim h3 h4)]]; exact HCheck_4 h w h0 h1 h2 h3 h4
      · rw [show hartE h = 2 by unfold hartE; rw [if_neg (fun hh => h2 hh.2.2.1)]]; exact HCheck_2 h w h0 h1 (by omega)
    · rw [show hartE h = 2 by unfold hartE; rw [if_neg (fun hh => h1 hh.2.1)]]; exact HCheck_1 h w h0 (by omega)
  · rw [show hartE h = 2 by unfold hartE; rw [if_neg (fun hh => h0 hh.1)]]; exact HCheck_0 h w h0
end Go.Proofs.YtbglinhglnbfmaaGreatDoor
namespace Go.Proofs.YtbglinhglnbfmaaGreatDoor
open Go.RowKit
/-- A hart and its instruction, by value. -/
def workArr (h : HartV) (i : InsnV) : Array Value := hartArr h ++ i.cells
theorem workArr_hart (h : HartV) (i : InsnV) (j : Nat) (hj : j < 35) : (workArr h i)[j]? = some (hartCell h j) := by
  unfold workArr; rw [Array.getElem?_append_left (by rw [hartArr_size]; exact hj)]; exact hartArr_at h j hj
theorem workArr_insn (h : HartV) (i : InsnV) (j : Nat) (hj : j < 9) : (workArr h i)[35 + j]? = some (insnCell i j) := by
  unfold workArr
  rw [Array.getElem?_append_right (by rw [hartArr_size]; omega), hartArr_size, show 35 + j - 35 = j by omega]
  rcases (show j = 0 ∨ j = 1 ∨ j = 2 ∨ j = 3 ∨ j = 4 ∨ j = 5 ∨ j = 6 ∨ j = 7 ∨ j = 8 by omega) with rfl | rfl | rfl | rfl | rfl | rfl | rfl | rfl | rfl <;> rfl
theorem WK.fresh (h : HartV) (i : InsnV) (w : World) (t : TypeId) : WK w.heap.size h i (w.alloc (.cells (workArr h i) t)) := by
  refine ⟨by simp, fun j hj => ?_, fun j hj => ?_, fun j hj => ?_⟩
  · rw [World.cell?_alloc_new, workArr_hart h i j hj]
  · rw [World.cell?_alloc_new, workArr_insn h i j hj]
  · rw [frozen?_alloc_cells]; unfold World.frozen?; rw [Array.getElem?_eq_none (Nat.le_refl _)]
/-- What begin's frame holds, begun in world w: a copy of the hart, a copy of the instruction. -/
structure BK (w : World) (h : HartV) (i : InsnV) (W : World) : Prop where
  h : ∀ j, j < 35 → W.cell? ⟨w.heap.size, j, none⟩ = some (hartCell h j)
  c : ∀ j, j < 9 → W.cell? ⟨w.heap.size + 1, j, none⟩ = some (insnCell i j)
  bl : Below w.heap.size w W
  sz : w.heap.size + 2 ≤ W.heap.size
theorem BK.keep {w W W' : World} {h : HartV} {i : InsnV} (hB : BK w h i W) (hb : Below W.heap.size W W') : BK w h i W' := by
  have sz := hB.sz
  exact ⟨fun j hj => by rw [hb.cell (p := ⟨w.heap.size, j, none⟩) (by show w.heap.size < _; omega)]; exact hB.h j hj,
    fun j hj => by rw [hb.cell (p := ⟨w.heap.size + 1, j, none⟩) (by show w.heap.size + 1 < _; omega)]; exact hB.c j hj, hB.bl.trans (hb.mono (by omega)), Nat.le_trans sz hb.size⟩
theorem BK.drew {w W : World} {h : HartV} {i : InsnV} (hB : BK w h i W) : BK w h i W.drew := hB.keep ((Below.refl _ _).drew)
theorem BK.start (w : World) (h : HartV) (i : InsnV) (t t' : TypeId) : BK w h i ((w.alloc (.cells (hartArr h) t)).alloc (.cells i.cells t')) := by
  have s1 : (w.alloc (.cells (hartArr h) t)).heap.size = w.heap.size + 1 := by simp
  refine ⟨fun j hj => ?_, fun j hj => ?_, ((Below.refl _ _).alloc (Nat.le_refl _) _).alloc (by simp) _, by simp⟩
  · rw [((Below.refl _ _).alloc (Nat.le_refl _) _ : Below _ (w.alloc (.cells (hartArr h) t)) _).cell (p := ⟨w.heap.size, j, none⟩) (by rw [s1]; show w.heap.size < _; omega), World.cell?_alloc_new, hartArr_at h j hj]
  · rw [← s1, World.cell?_alloc_new]
    rcases (show j = 0 ∨ j = 1 ∨ j = 2 ∨ j = 3 ∨ j = 4 ∨ j = 5 ∨ j = 6 ∨ j = 7 ∨ j = 8 by omega) with rfl | rfl | rfl | rfl | rfl | rfl | rfl | rfl | rfl <;> rfl
theorem BK.facts {w W : World} {h : HartV} {op rd r1 r2 imm : Int} {aq rl : Bool} {pred succ : Int} (hB : BK w h ⟨op, rd, r1, r2, imm, aq, rl, pred, succ⟩ W) :
    W.rangeAt w.heap.size 0 (hartL h) ∧ W.rangeAt (w.heap.size + 1) 0 (InsnV.cells ⟨op, rd, r1, r2, imm, aq, rl, pred, succ⟩).toList ∧ W.cell? ⟨w.heap.size, 33, none⟩ = some (.int .i64 h.fin) ∧ W.cell? ⟨w.heap.size + 1, 0, none⟩ = some (Value.int .i64 op) ∧ W.cell? ⟨w.heap.size + 1, 1, none⟩ = some (Value.int .i64 rd) ∧ W.cell? ⟨w.heap.size + 1, 2, none⟩ = some (Value.int .i64 r1) ∧ W.cell? ⟨w.heap.size + 1, 3, none⟩ = some (Value.int .i64 r2) ∧ W.cell? ⟨w.heap.size + 1, 4, none⟩ = some (Value.int .i64 imm) ∧ W.cell? ⟨w.heap.size + 1, 5, none⟩ = some (Value.bool aq) ∧ W.cell? ⟨w.heap.size + 1, 6, none⟩ = some (Value.bool rl) ∧ W.cell? ⟨w.heap.size + 1, 7, none⟩ = some (Value.int .i64 pred) ∧ W.cell? ⟨w.heap.size + 1, 8, none⟩ = some (Value.int .i64 succ) :=
  ⟨hart_range hB.h, insn_range (fun j hj => by rw [Nat.zero_add]; exact hB.c j hj), hB.h 33 (by decide), hB.c 0 (by decide), hB.c 1 (by decide), hB.c 2 (by decide), hB.c 3 (by decide), hB.c 4 (by decide), hB.c 5 (by decide), hB.c 6 (by decide), hB.c 7 (by decide), hB.c 8 (by decide)⟩
section
attribute [local irreducible] un sn
set_option maxRecDepth 100000 in
set_option maxHeartbeats 8000000 in
theorem begin_bad (h : HartV) (op rd r1 r2 imm : Int) (aq rl : Bool) (pred succ : Int) (w : World) (ht : Tabs w) (hop : op ≤ 9223372036854775807) (hb : hartE h = 2) :
    Calls Tryz.prog 20 #[.agg (hartArr h), .agg #[.int .i64 op, .int .i64 rd, .int .i64 r1, .int .i64 r2, .int .i64 imm, .bool aq, .bool rl, .int .i64 pred, .int .i64 succ]] w fun e w' => e = .returned (.tuple #[.pointer none, .int .i64 2]) ∧ Below w.heap.size w w' := by
  have hB0 := BK.start w h ⟨op, rd, r1, r2, imm, aq, rl, pred, succ⟩ 25 27
  have hE := Lib.hid (fun W => HCheck_any h W)
  have hK := Lib.hid (fun W (hW : Tabs W) => Check_any ⟨op, rd, r1, r2, imm, aq, rl, pred, succ⟩ hop W hW)
  have hbd : ∀ W, (Instr.build 63 #[(0, .agg (hartArr h)), (1, .agg #[.int .i64 op, .int .i64 rd, .int .i64 r1, .int .i64 r2, .int .i64 imm, .bool aq, .bool rl, .int .i64 pred, .int .i64 succ])]).run Tryz.prog W = .ok (.agg (workArr h ⟨op, rd, r1, r2, imm, aq, rl, pred, succ⟩)) W := fun W => by kernel_rfl
  rw [hb] at hE
  obtain ⟨rh, ri, x33, c0, c1, c2, c3, c4, c5, c6, c7, c8⟩ := hB0.facts
  have hu := Tryz.underlying25
  have hi : (Tryz.prog.info? 25).map (·.size) = some (hartL h).length := by kernel_rfl
  have hu2 := Tryz.underlying27
  have hi2 : (Tryz.prog.info? 27).map (·.size) = some (InsnV.cells ⟨op, rd, r1, r2, imm, aq, rl, pred, succ⟩).toList.length := by kernel_rfl
  go_enter Tryz.func20, Tryz.ntmps20
  go_wp2_with (first | (refine wpList_load_mid rfl 25 _ rfl w.heap.size 0 rfl (hartL h) _ rh hu rfl hi ?_) | (go_at_call 7; refine (hE.out _).mono ?_; rintro e w2 ⟨rfl, hb2⟩; have hB := hB0.keep hb2; obtain ⟨rh, ri, x33, c0, c1, c2, c3, c4, c5, c6, c7, c8⟩ := hB.facts))
  go_ret2
  exact ⟨rfl, hB.bl⟩
set_option maxRecDepth 100000 in
set_option maxHeartbeats 8000000 in
theorem begin_ended (h : HartV) (op rd r1 r2 imm : Int) (aq rl : Bool) (pred succ : Int) (w : World) (ht : Tabs w) (hop : op ≤ 9223372036854775807) (hb : hartE h = 0) (hf : h.fin ≠ 0) :
    Calls Tryz.prog 20 #[.agg (hartArr h), .agg #[.int .i64 op, .int .i64 rd, .int .i64 r1, .int .i64 r2, .int .i64 imm, .bool aq, .bool rl, .int .i64 pred, .int .i64 succ]] w fun e w' => e = .returned (.tuple #[.pointer none, .int .i64 10]) ∧ Below w.heap.size w w' := by
  have hB0 := BK.start w h ⟨op, rd, r1, r2, imm, aq, rl, pred, succ⟩ 25 27
  have hE := Lib.hid (fun W => HCheck_any h W)
  have hK := Lib.hid (fun W (hW : Tabs W) => Check_any ⟨op, rd, r1, r2, imm, aq, rl, pred, succ⟩ hop W hW)
  have hbd : ∀ W, (Instr.build 63 #[(0, .agg (hartArr h)), (1, .agg #[.int .i64 op, .int .i64 rd, .int .i64 r1, .int .i64 r2, .int .i64 imm, .bool aq, .bool rl, .int .i64 pred, .int .i64 succ])]).run Tryz.prog W = .ok (.agg (workArr h ⟨op, rd, r1, r2, imm, aq, rl, pred, succ⟩)) W := fun W => by kernel_rfl
  rw [hb] at hE
  have tf : (h.fin != 0) = true := by simpa using hf
  obtain ⟨rh, ri, x33, c0, c1, c2, c3, c4, c5, c6, c7, c8⟩ := hB0.facts
  have hu := Tryz.underlying25
  have hi : (Tryz.prog.info? 25).map (·.size) = some (hartL h).length := by kernel_rfl
  have hu2 := Tryz.underlying27
  have hi2 : (Tryz.prog.info? 27).map (·.size) = some (InsnV.cells ⟨op, rd, r1, r2, imm, aq, rl, pred, succ⟩).toList.length := by kernel_rfl
  go_enter Tryz.func20, Tryz.ntmps20
  go_wp2_with (first | (refine wpList_load_mid rfl 25 _ rfl w.heap.size 0 rfl (hartL h) _ rh hu rfl hi ?_) | (go_at_call 7; refine (hE.out _).mono ?_; rintro e w2 ⟨rfl, hb2⟩; have hB := hB0.keep hb2; obtain ⟨rh, ri, x33, c0, c1, c2, c3, c4, c5, c6, c7, c8⟩ := hB.facts))
  go_ret2
  exact ⟨rfl, hB.bl⟩
set_option maxRecDepth 100000 in
set_option maxHeartbeats 8000000 in
theorem begin_ok (h : HartV) (op rd r1 r2 imm : Int) (aq rl : Bool) (pred succ : Int) (w : World) (ht : Tabs w) (hop : op ≤ 9223372036854775807) (hb : hartE h = 0) (hf : h.fin = 0) :
    Calls Tryz.prog 20 #[.agg (hartArr h), .agg #[.int .i64 op, .int .i64 rd, .int .i64 r1, .int .i64 r2, .int .i64 imm, .bool aq, .bool rl, .int .i64 pred, .int .i64 succ]] w fun e w' => ∃ b, e = .returned (.tuple #[.pointer (some ⟨b, 0, none⟩), .int .i64 (checkE ⟨op, rd, r1, r2, imm, aq, rl, pred, succ⟩)]) ∧ w.heap.size ≤ b ∧ WK b h ⟨op, rd, r1, r2, imm, aq, rl, pred, succ⟩ w' ∧ Below w.heap.size w w' := by
  have hB0 := BK.start w h ⟨op, rd, r1, r2, imm, aq, rl, pred, succ⟩ 25 27
  have hE := Lib.hid (fun W => HCheck_any h W)
  have hK := Lib.hid (fun W (hW : Tabs W) => Check_any ⟨op, rd, r1, r2, imm, aq, rl, pred, succ⟩ hop W hW)
  have hbd : ∀ W, (Instr.build 63 #[(0, .agg (hartArr h)), (1, .agg #[.int .i64 op, .int .i64 rd, .int .i64 r1, .int .i64 r2, .int .i64 imm, .bool aq, .bool rl, .int .i64 pred, .int .i64 succ])]).run Tryz.prog W = .ok (.agg (workArr h ⟨op, rd, r1, r2, imm, aq, rl, pred, succ⟩)) W := fun W => by kernel_rfl
  rw [hb] at hE
  have tf : (h.fin != 0) = false := by rw [hf]; rfl
  obtain ⟨rh, ri, x33, c0, c1, c2, c3, c4, c5, c6, c7, c8⟩ := hB0.facts
  have hu := Tryz.underlying25
  have hi : (Tryz.prog.info? 25).map (·.size) = some (hartL h).length := by kernel_rfl
  have hu2 := Tryz.underlying27
  have hi2 : (Tryz.prog.info? 27).map (·.size) = some (InsnV.cells ⟨op, rd, r1, r2, imm, aq, rl, pred, succ⟩).toList.length := by kernel_rfl
  go_enter Tryz.func20, Tryz.ntmps20
  go_wp2_with (first | (refine wpList_load_mid rfl 25 _ rfl w.heap.size 0 rfl (hartL h) _ rh hu rfl hi ?_) | (go_at_call 7; refine (hE.out _).mono ?_; rintro e w2 ⟨rfl, hb2⟩; have hB := hB0.keep hb2; obtain ⟨rh, ri, x33, c0, c1, c2, c3, c4, c5, c6, c7, c8⟩ := hB.facts))
  refine wp_region_held_drew (S := fun W => BK w h ⟨op, rd, r1, r2, imm, aq, rl, pred, succ⟩ W) (by kernel_rfl) hB.drew (fun hHeld => ?_)
  refine wpAnyH_take (i := 0) rfl (by kernel_rfl) (by kernel_rfl) (by kernel_rfl) (fun _ _ _ h => h) (yieldsIf_load_mid (by rfl) _ _ rfl w.heap.size 0 rfl (hartL h) _ (fun W hS => hart_range hS.h) hu rfl hi) hHeld ?_
  try simp only [Act.put, List.getElem_toArray, List.getElem_cons_zero, List.setIfInBounds_toArray, List.set_cons_zero, List.set_cons_succ]
  refine wpAnyH_take (i := 1) rfl (by kernel_rfl) (by kernel_rfl) (by kernel_rfl) (fun _ _ _ h => h) (yieldsIf_load_mid (by rfl) _ _ rfl (w.heap.size + 1) 0 rfl (InsnV.cells ⟨op, rd, r1, r2, imm, aq, rl, pred, succ⟩).toList _ (fun W hS => insn_range (fun j hj => by rw [Nat.zero_add]; exact hS.c j hj)) hu2 rfl hi2) hHeld ?_
  try simp only [Act.put, List.getElem_toArray, List.getElem_cons_succ, List.getElem_cons_zero, List.setIfInBounds_toArray, List.set_cons_zero, List.set_cons_succ]
  refine wpAnyH_take (i := 4) rfl (by kernel_rfl) (by kernel_rfl) (by kernel_rfl) (fun _ _ _ h => h) (yieldsIf_load_mid (by rfl) _ _ rfl (w.heap.size + 1) 0 rfl (InsnV.cells ⟨op, rd, r1, r2, imm, aq, rl, pred, succ⟩).toList _ (fun W hS => insn_range (fun j hj => by rw [Nat.zero_add]; exact hS.c j hj)) hu2 rfl hi2) hHeld ?_
  try simp only [Act.put, List.getElem_toArray, List.getElem_cons_succ, List.getElem_cons_zero, List.setIfInBounds_toArray, List.set_cons_zero, List.set_cons_succ]
  refine wpAnyH_take (i := 2) (v := .agg (workArr h ⟨op, rd, r1, r2, imm, aq, rl, pred, succ⟩)) rfl (by kernel_rfl) (by kernel_rfl) (by kernel_rfl) (fun _ _ _ h => h) (Or.inl ⟨by rfl, fun W _ => by kernel_rfl⟩) hHeld ?_
  try simp only [Act.put, List.getElem_toArray, List.getElem_cons_succ, List.getElem_cons_zero, List.setIfInBounds_toArray, List.set_cons_zero, List.set_cons_succ]
  refine wpAnyH_ready (rs := [3, 5]) (by kernel_rfl) (by simp) ?_
  refine AllReadyH.cons rfl (fun K hK2 => ?_) ?_
  · rw [if_pos (by rfl)]
    simp only [List.getElem_toArray, List.getElem_cons_succ, List.getElem_cons_zero]
    generalize hW1 : World.drew _ = W1 at hHeld ⊢
    have hbsz : w.heap.size ≤ W1.heap.size := hHeld.bl.size
    have hwk := WK.fresh h ⟨op, rd, r1, r2, imm, aq, rl, pred, succ⟩ W1 63
    go_simp
    refine hK2.out _ _ (hHeld.keep ((Below.refl _ _).alloc (Nat.le_refl _) _)) (fun hHeld2 => ?_)
    clear hK2 K hHeld
    have hHeld := hHeld2
    clear hHeld2
    try simp only [Act.put, List.getElem_toArray, List.getElem_cons_succ, List.getElem_cons_zero, List.setIfInBounds_toArray, List.set_cons_zero, List.set_cons_succ]
    refine wpAnyH_ready (rs := [5]) (by kernel_rfl) (by simp) ?_
    refine AllReadyH.cons rfl (fun K hK2 => ?_) ?_
    · rw [if_pos (by rfl)]
      simp only [List.getElem_toArray, List.getElem_cons_succ, List.getElem_cons_zero]
      go_wp2_with (go_at_call 35; refine (hK.out _ (ht.later hHeld.bl (Nat.le_refl _))).mono ?_; rintro e w4 ⟨rfl, hb4⟩)
      have hwk := hwk.keep hb4
      refine hK2.out _ _ (hHeld.keep hb4) (fun hHeld2 => ?_)
      clear hK2 K hHeld
      have hHeld := hHeld2
      clear hHeld2
      try simp only [Act.put, List.getElem_toArray, List.getElem_cons_succ, List.getElem_cons_zero, List.setIfInBounds_toArray, List.set_cons_zero, List.set_cons_succ]
      refine wpAnyH_take (i := 6) (v := .pointer (some ⟨W1.heap.size, 0, none⟩)) rfl (by kernel_rfl) (by kernel_rfl) (by kernel_rfl) (fun _ _ _ h => h) (Or.inl ⟨by rfl, fun W _ => by kernel_rfl⟩) hHeld ?_
      try simp only [Act.put, List.getElem_toArray, List.getElem_cons_succ, List.getElem_cons_zero, List.setIfInBounds_toArray, List.set_cons_zero, List.set_cons_succ]
      refine wpAnyH_take (i := 7) (v := .int .i64 (checkE ⟨op, rd, r1, r2, imm, aq, rl, pred, succ⟩)) rfl (by kernel_rfl) (by kernel_rfl) (by kernel_rfl) (fun _ _ _ h => h) (Or.inl ⟨by rfl, fun W _ => by kernel_rfl⟩) hHeld ?_
      try simp only [Act.put, List.getElem_toArray, List.getElem_cons_succ, List.getElem_cons_zero, List.setIfInBounds_toArray, List.set_cons_zero, List.set_cons_succ]
      refine wpAnyH_done (by kernel_rfl) ?_ _
      go_wp2
      go_ret2
      exact ⟨_, rfl, hbsz, hwk, hHeld.bl⟩
    exact AllReadyH.nil
  refine AllReadyH.cons rfl (fun K hK2 => ?_) ?_
  · rw [if_pos (by rfl)]
    simp only [List.getElem_toArray, List.getElem_cons_succ, List.getElem_cons_zero]
    go_wp2_with (go_at_call 35; refine (hK.out _ (ht.later hHeld.bl (Nat.le_refl _))).mono ?_; rintro e w4 ⟨rfl, hb4⟩)
    refine hK2.out _ _ (hHeld.keep hb4) (fun hHeld2 => ?_)
    clear hK2 K hHeld
    have hHeld := hHeld2
    clear hHeld2
    try simp only [Act.put, List.getElem_toArray, List.getElem_cons_succ, List.getElem_cons_zero, List.setIfInBounds_toArray, List.set_cons_zero, List.set_cons_succ]
    refine wpAnyH_ready (rs := [3]) (by kernel_rfl) (by simp) ?_
    refine AllReadyH.cons rfl (fun K hK2 => ?_) ?_
    · rw [if_pos (by rfl)]
      simp only [List.getElem_toArray, List.getElem_cons_succ, List.getElem_cons_zero]
      have hbsz : w.heap.size ≤ w4.heap.size := hHeld.bl.size
      have hwk := WK.fresh h ⟨op, rd, r1, r2, imm, aq, rl, pred, succ⟩ w4 63
      go_simp
      refine hK2.out _ _ (hHeld.keep ((Below.refl _ _).alloc (Nat.le_refl _) _)) (fun hHeld2 => ?_)
      clear hK2 K hHeld
      have hHeld := hHeld2
      clear hHeld2
      try simp only [Act.put, List.getElem_toArray, List.getElem_cons_succ, List.getElem_cons_zero, List.setIfInBounds_toArray, List.set_cons_zero, List.set_cons_succ]
      refine wpAnyH_take (i := 6) (v := .pointer (some ⟨w4.heap.size, 0, none⟩)) rfl (by kernel_rfl) (by kernel_rfl) (by kernel_rfl) (fun _ _ _ h => h) (Or.inl ⟨by rfl, fun W _ => by kernel_rfl⟩) hHeld ?_
      try simp only [Act.put, List.getElem_toArray, List.getElem_cons_succ, List.getElem_cons_zero, List.setIfInBounds_toArray, List.set_cons_zero, List.set_cons_succ]
      refine wpAnyH_take (i := 7) (v := .int .i64 (checkE ⟨op, rd, r1, r2, imm, aq, rl, pred, succ⟩)) rfl (by kernel_rfl) (by kernel_rfl) (by kernel_rfl) (fun _ _ _ h => h) (Or.inl ⟨by rfl, fun W _ => by kernel_rfl⟩) hHeld ?_
      try simp only [Act.put, List.getElem_toArray, List.getElem_cons_succ, List.getElem_cons_zero, List.setIfInBounds_toArray, List.set_cons_zero, List.set_cons_succ]
      refine wpAnyH_done (by kernel_rfl) ?_ _
      go_wp2
      go_ret2
      exact ⟨_, rfl, hbsz, hwk, hHeld.bl⟩
    exact AllReadyH.nil
  exact AllReadyH.nil
end
end Go.Proofs.YtbglinhglnbfmaaGreatDoor
