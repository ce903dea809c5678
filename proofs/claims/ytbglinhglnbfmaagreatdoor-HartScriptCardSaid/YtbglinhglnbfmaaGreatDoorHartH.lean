/- The walk of a hart's answer: what is written. Conditions: the work's cells lie as the structure WK says. -/
import Derived.Test.YtbglinhglnbfmaaGreatDoorHartWk
import Derived.Test.YtbglinhglnbfmaaGreatDoorAluDo
import Derived.Deep.RegionHeld3
set_option linter.unusedVariables false
namespace Go.Proofs.YtbglinhglnbfmaaGreatDoor
open Go.RowKit
/-- What an instruction writes, of what was found and won for what it asked. -/
def answerV (h : HartV) (i : InsnV) (a : AskV) (found : BitVec 64) (won : Bool) : BitVec 64 :=
  if a.kind = 1 ∨ a.kind = 3 ∨ a.kind = 5 then found
  else if a.kind = 4 then (if won then 0#64 else 1#64)
  else if i.op = 3 ∨ i.op = 4 then h.pc + 4#64
  else if i.op = 2 then h.pc + doF 1 0#64 (bv i.imm)
  else if (opOf i.op).form = 8 then doF i.op (h.x i.rs1.toNat) (h.x i.rs2.toNat)
  else doF i.op (h.x i.rs1.toNat) (bv i.imm)
theorem un_0 : un 0#64 = 0 := rfl
theorem un_1 : un 1#64 = 1 := rfl
/-- What answer's frame holds, begun in world w: a copy of the instruction, the work. -/
structure NK (w : World) (b : Nat) (h : HartV) (i : InsnV) (W : World) : Prop where
  wk : WK b h i W
  c : ∀ j, j < 9 → W.cell? ⟨w.heap.size + 1, j, none⟩ = some (insnCell i j)
  bl : Below w.heap.size w W
  sz : w.heap.size + 2 ≤ W.heap.size
theorem NK.keep {w W W' : World} {b : Nat} {h : HartV} {i : InsnV} (hA : NK w b h i W) (hb : Below W.heap.size W W') : NK w b h i W' := by
  have sz := hA.sz
  exact ⟨hA.wk.keep hb, fun j hj => by rw [hb.cell (p := ⟨w.heap.size + 1, j, none⟩) (by show w.heap.size + 1 < _; omega)]; exact hA.c j hj, hA.bl.trans (hb.mono (by omega)), Nat.le_trans sz hb.size⟩
theorem NK.drew {w W : World} {b : Nat} {h : HartV} {i : InsnV} (hA : NK w b h i W) : NK w b h i W.drew := hA.keep ((Below.refl _ _).drew)
theorem NK.facts {w W : World} {b : Nat} {h : HartV} {op rd : Int} {r1 r2 : Nat} {imm : Int} {aq rl : Bool} {pred succ : Int} (hA : NK w b h ⟨op, rd, r1, r2, imm, aq, rl, pred, succ⟩ W) (hr1 : r1 < 32) (hr2 : r2 < 32) :
    W.cell? ⟨b, 0, none⟩ = some (.int .u64 (un h.pc)) ∧ W.cell? ⟨b, 1 + r1, none⟩ = some (.int .u64 (un (h.x r1))) ∧ W.cell? ⟨b, 1 + r2, none⟩ = some (.int .u64 (un (h.x r2))) ∧ W.cell? ⟨w.heap.size + 1, 0, none⟩ = some (Value.int .i64 op) ∧ W.cell? ⟨w.heap.size + 1, 1, none⟩ = some (Value.int .i64 rd) ∧ W.cell? ⟨w.heap.size + 1, 2, none⟩ = some (Value.int .i64 r1) ∧ W.cell? ⟨w.heap.size + 1, 3, none⟩ = some (Value.int .i64 r2) ∧ W.cell? ⟨w.heap.size + 1, 4, none⟩ = some (Value.int .i64 imm) ∧ W.cell? ⟨w.heap.size + 1, 5, none⟩ = some (Value.bool aq) ∧ W.cell? ⟨w.heap.size + 1, 6, none⟩ = some (Value.bool rl) ∧ W.cell? ⟨w.heap.size + 1, 7, none⟩ = some (Value.int .i64 pred) ∧ W.cell? ⟨w.heap.size + 1, 8, none⟩ = some (Value.int .i64 succ) := by
  refine ⟨hA.wk.c 0 (by decide), ?_, ?_, hA.c 0 (by decide), hA.c 1 (by decide), hA.c 2 (by decide), hA.c 3 (by decide), hA.c 4 (by decide), hA.c 5 (by decide), hA.c 6 (by decide), hA.c 7 (by decide), hA.c 8 (by decide)⟩
  · rw [hA.wk.c (1 + r1) (by omega), hartCell_x h r1 hr1]
  · rw [hA.wk.c (1 + r2) (by omega), hartCell_x h r2 hr2]
theorem NK.start {w : World} {b : Nat} {h : HartV} {op rd : Int} {r1 r2 : Nat} {imm : Int} {aq rl : Bool} {pred succ : Int} (hW : WK b h ⟨op, rd, r1, r2, imm, aq, rl, pred, succ⟩ w) (cs : Array Value) (t t' : TypeId) :
    NK w b h ⟨op, rd, r1, r2, imm, aq, rl, pred, succ⟩ ((w.alloc (.cells cs t)).alloc (.cells #[.int .i64 op, .int .i64 rd, .int .i64 r1, .int .i64 r2, .int .i64 imm, .bool aq, .bool rl, .int .i64 pred, .int .i64 succ] t')) := by
  have hb : Below w.heap.size w ((w.alloc (.cells cs t)).alloc (.cells #[.int .i64 op, .int .i64 rd, .int .i64 r1, .int .i64 r2, .int .i64 imm, .bool aq, .bool rl, .int .i64 pred, .int .i64 succ] t')) := ((Below.refl _ _).alloc (Nat.le_refl _) _).alloc (by simp) _
  have s1 : (w.alloc (.cells cs t)).heap.size = w.heap.size + 1 := by simp
  refine ⟨hW.keep hb, fun j hj => ?_, hb, by simp⟩
  rw [← s1, World.cell?_alloc_new]
  rcases (show j = 0 ∨ j = 1 ∨ j = 2 ∨ j = 3 ∨ j = 4 ∨ j = 5 ∨ j = 6 ∨ j = 7 ∨ j = 8 by omega) with rfl | rfl | rfl | rfl | rfl | rfl | rfl | rfl | rfl <;> rfl
attribute [local go_sem] wrap_u64_bv bv_un bv_sn bv_add bv_mul bv_neg bv_sub mul_bvpow shr_min shl_min sshr_min bv_lit bv_0 bv_1 un_shr sn_shr wrap_i64_un bits_u64_and bits_u64_or bits_u64_xor bits_u64_andNot bv_max u64_unsigned
section
attribute [local irreducible] un sn
set_option maxRecDepth 100000 in
set_option maxHeartbeats 8000000 in
theorem answer_1 (b : Nat) (h : HartV) (op rd : Int) (r1 r2 : Nat) (imm : Int) (aq rl : Bool) (pred succ : Int) (a : AskV) (found : BitVec 64) (won : Bool) (w : World) (hW : WK b h ⟨op, rd, r1, r2, imm, aq, rl, pred, succ⟩ w) (ht : Tabs w) (hop : op ≤ 9223372036854775807) (hr1 : r1 < 32) (hr2 : r2 < 32) (hk : a.kind = 1) :
    Calls Tryz.prog 23 #[.pointer (some ⟨b, 0, none⟩), .agg #[.int .i64 a.kind, .int .u64 (un a.addr), .int .u64 (un a.value), .int .i64 a.op, .bool a.aq, .bool a.rl, .int .i64 a.pred, .int .i64 a.succ], .int .u64 (un found), .bool won] w fun e w' => e = .returned (.int .u64 (un (found))) ∧ Below w.heap.size w w' := by
  have hA0 := NK.start hW #[.int .i64 a.kind, .int .u64 (un a.addr), .int .u64 (un a.value), .int .i64 a.op, .bool a.aq, .bool a.rl, .int .i64 a.pred, .int .i64 a.succ] 42 27
  have hWz := hW.keep ((Below.refl w.heap.size w).alloc (Nat.le_refl _) (.cells #[.int .i64 a.kind, .int .u64 (un a.addr), .int .u64 (un a.value), .int .i64 a.op, .bool a.aq, .bool a.rl, .int .i64 a.pred, .int .i64 a.succ] 42))
  have i0 : _ = some (Value.int .i64 op) := hWz.i 0 (by decide)
  have i1 : _ = some (Value.int .i64 rd) := hWz.i 1 (by decide)
  have i2 : _ = some (Value.int .i64 r1) := hWz.i 2 (by decide)
  have i3 : _ = some (Value.int .i64 r2) := hWz.i 3 (by decide)
  have i4 : _ = some (Value.int .i64 imm) := hWz.i 4 (by decide)
  have i5 : _ = some (Value.bool aq) := hWz.i 5 (by decide)
  have i6 : _ = some (Value.bool rl) := hWz.i 6 (by decide)
  have i7 : _ = some (Value.int .i64 pred) := hWz.i 7 (by decide)
  have i8 : _ = some (Value.int .i64 succ) := hWz.i 8 (by decide)
  have hlt : 0 ≤ (r1 : Int) ∧ (r1 : Int) < 32 := by omega
  have hlt2 : 0 ≤ (r2 : Int) ∧ (r2 : Int) < 32 := by omega
  have hFm := Lib.hid (fun W (hW : Tabs W) => Form_any op hop W hW)
  have hDo := Lib.hid (fun B W (hW : Tabs W) => Do_any op hop (h.x r1) B W hW)
  have hD1 : Hid (∀ W, Tabs W → Calls Tryz.prog 37 #[.int .i64 1, .int .u64 0, .int .u64 (un (bv imm))] W fun e w' => e = .returned (.tuple #[.int .u64 (un (doF 1 0#64 (bv imm))), .int .i64 (doE 1)]) ∧ Below W.heap.size W w') := Lib.hid fun W hW => by
    have := Do_any 1 (by decide) 0#64 (bv imm) W hW
    rw [un_0] at this; exact this
  obtain ⟨p0, x1, x2, c0, c1, c2, c3, c4, c5, c6, c7, c8⟩ := hA0.facts hr1 hr2
  have tk1 : (a.kind == 1) = true := by rw [hk]; rfl
  clear hk
  clear hW hWz hop
  go_enter Tryz.func23, Tryz.ntmps23
  go_wp2
  go_ret
  exact ⟨rfl, hA0.bl⟩
set_option maxRecDepth 100000 in
set_option maxHeartbeats 8000000 in
theorem answer_3 (b : Nat) (h : HartV) (op rd : Int) (r1 r2 : Nat) (imm : Int) (aq rl : Bool) (pred succ : Int) (a : AskV) (found : BitVec 64) (won : Bool) (w : World) (hW : WK b h ⟨op, rd, r1, r2, imm, aq, rl, pred, succ⟩ w) (ht : Tabs w) (hop : op ≤ 9223372036854775807) (hr1 : r1 < 32) (hr2 : r2 < 32) (hk : a.kind = 3) :
    Calls Tryz.prog 23 #[.pointer (some ⟨b, 0, none⟩), .agg #[.int .i64 a.kind, .int .u64 (un a.addr), .int .u64 (un a.value), .int .i64 a.op, .bool a.aq, .bool a.rl, .int .i64 a.pred, .int .i64 a.succ], .int .u64 (un found), .bool won] w fun e w' => e = .returned (.int .u64 (un (found))) ∧ Below w.heap.size w w' := by
  have hA0 := NK.start hW #[.int .i64 a.kind, .int .u64 (un a.addr), .int .u64 (un a.value), .int .i64 a.op, .bool a.aq, .bool a.rl, .int .i64 a.pred, .int .i64 a.succ] 42 27
  have hWz := hW.keep ((Below.refl w.heap.size w).alloc (Nat.le_refl _) (.cells #[.int .i64 a.kind, .int .u64 (un a.addr), .int .u64 (un a.value), .int .i64 a.op, .bool a.aq, .bool a.rl, .int .i64 a.pred, .int .i64 a.succ] 42))
  have i0 : _ = some (Value.int .i64 op) := hWz.i 0 (by decide)
  have i1 : _ = some (Value.int .i64 rd) := hWz.i 1 (by decide)
  have i2 : _ = some (Value.int .i64 r1) := hWz.i 2 (by decide)
  have i3 : _ = some (Value.int .i64 r2) := hWz.i 3 (by decide)
  have i4 : _ = some (Value.int .i64 imm) := hWz.i 4 (by decide)
  have i5 : _ = some (Value.bool aq) := hWz.i 5 (by decide)
  have i6 : _ = some (Value.bool rl) := hWz.i 6 (by decide)
  have i7 : _ = some (Value.int .i64 pred) := hWz.i 7 (by decide)
  have i8 : _ = some (Value.int .i64 succ) := hWz.i 8 (by decide)
  have hlt : 0 ≤ (r1 : Int) ∧ (r1 : Int) < 32 := by omega
  have hlt2 : 0 ≤ (r2 : Int) ∧ (r2 : Int) < 32 := by omega
  have hFm := Lib.hid (fun W (hW : Tabs W) => Form_any op hop W hW)
  have hDo := Lib.hid (fun B W (hW : Tabs W) => Do_any op hop (h.x r1) B W hW)
  have hD1 : Hid (∀ W, Tabs W → Calls Tryz.prog 37 #[.int .i64 1, .int .u64 0, .int .u64 (un (bv imm))] W fun e w' => e = .returned (.tuple #[.int .u64 (un (doF 1 0#64 (bv imm))), .int .i64 (doE 1)]) ∧ Below W.heap.size W w') := Lib.hid fun W hW => by
    have := Do_any 1 (by decide) 0#64 (bv imm) W hW
    rw [un_0] at this; exact this
  obtain ⟨p0, x1, x2, c0, c1, c2, c3, c4, c5, c6, c7, c8⟩ := hA0.facts hr1 hr2
  have tk1 : (a.kind == 1) = false := by rw [hk]; rfl
  have tk3 : (a.kind == 3) = true := by rw [hk]; rfl
  clear hk
  clear hW hWz hop
  go_enter Tryz.func23, Tryz.ntmps23
  go_wp2
  go_ret
  exact ⟨rfl, hA0.bl⟩
set_option maxRecDepth 100000 in
set_option maxHeartbeats 8000000 in
theorem answer_5 (b : Nat) (h : HartV) (op rd : Int) (r1 r2 : Nat) (imm : Int) (aq rl : Bool) (pred succ : Int) (a : AskV) (found : BitVec 64) (won : Bool) (w : World) (hW : WK b h ⟨op, rd, r1, r2, imm, aq, rl, pred, succ⟩ w) (ht : Tabs w) (hop : op ≤ 9223372036854775807) (hr1 : r1 < 32) (hr2 : r2 < 32) (hk : a.kind = 5) :
    Calls Tryz.prog 23 #[.pointer (some ⟨b, 0, none⟩), .agg #[.int .i64 a.kind, .int .u64 (un a.addr), .int .u64 (un a.value), .int .i64 a.op, .bool a.aq, .bool a.rl, .int .i64 a.pred, .int .i64 a.succ], .int .u64 (un found), .bool won] w fun e w' => e = .returned (.int .u64 (un (found))) ∧ Below w.heap.size w w' := by
  have hA0 := NK.start hW #[.int .i64 a.kind, .int .u64 (un a.addr), .int .u64 (un a.value), .int .i64 a.op, .bool a.aq, .bool a.rl, .int .i64 a.pred, .int .i64 a.succ] 42 27
  have hWz := hW.keep ((Below.refl w.heap.size w).alloc (Nat.le_refl _) (.cells #[.int .i64 a.kind, .int .u64 (un a.addr), .int .u64 (un a.value), .int .i64 a.op, .bool a.aq, .bool a.rl, .int .i64 a.pred, .int .i64 a.succ] 42))
  have i0 : _ = some (Value.int .i64 op) := hWz.i 0 (by decide)
  have i1 : _ = some (Value.int .i64 rd) := hWz.i 1 (by decide)
  have i2 : _ = some (Value.int .i64 r1) := hWz.i 2 (by decide)
  have i3 : _ = some (Value.int .i64 r2) := hWz.i 3 (by decide)
  have i4 : _ = some (Value.int .i64 imm) := hWz.i 4 (by decide)
  have i5 : _ = some (Value.bool aq) := hWz.i 5 (by decide)
  have i6 : _ = some (Value.bool rl) := hWz.i 6 (by decide)
  have i7 : _ = some (Value.int .i64 pred) := hWz.i 7 (by decide)
  have i8 : _ = some (Value.int .i64 succ) := hWz.i 8 (by decide)
  have hlt : 0 ≤ (r1 : Int) ∧ (r1 : Int) < 32 := by omega
  have hlt2 : 0 ≤ (r2 : Int) ∧ (r2 : Int) < 32 := by omega
  have hFm := Lib.hid (fun W (hW : Tabs W) => Form_any op hop W hW)
  have hDo := Lib.hid (fun B W (hW : Tabs W) => Do_any op hop (h.x r1) B W hW)
  have hD1 : Hid (∀ W, Tabs W → Calls Tryz.prog 37 #[.int .i64 1, .int .u64 0, .int .u64 (un (bv imm))] W fun e w' => e = .returned (.tuple #[.int .u64 (un (doF 1 0#64 (bv imm))), .int .i64 (doE 1)]) ∧ Below W.heap.size W w') := Lib.hid fun W hW => by
    have := Do_any 1 (by decide) 0#64 (bv imm) W hW
    rw [un_0] at this; exact this
  obtain ⟨p0, x1, x2, c0, c1, c2, c3, c4, c5, c6, c7, c8⟩ := hA0.facts hr1 hr2
  have tk1 : (a.kind == 1) = false := by rw [hk]; rfl
  have tk3 : (a.kind == 3) = false := by rw [hk]; rfl
  have tk5 : (a.kind == 5) = true := by rw [hk]; rfl
  clear hk
  clear hW hWz hop
  go_enter Tryz.func23, Tryz.ntmps23
  go_wp2
  go_ret
  exact ⟨rfl, hA0.bl⟩
set_option maxRecDepth 100000 in
set_option maxHeartbeats 8000000 in
theorem answer_4t (b : Nat) (h : HartV) (op rd : Int) (r1 r2 : Nat) (imm : Int) (aq rl : Bool) (pred succ : Int) (a : AskV) (found : BitVec 64) (won : Bool) (w : World) (hW : WK b h ⟨op, rd, r1, r2, imm, aq, rl, pred, succ⟩ w) (ht : Tabs w) (hop : op ≤ 9223372036854775807) (hr1 : r1 < 32) (hr2 : r2 < 32) (hk : a.kind = 4) (hw : won = true) :
    Calls Tryz.prog 23 #[.pointer (some ⟨b, 0, none⟩), .agg #[.int .i64 a.kind, .int .u64 (un a.addr), .int .u64 (un a.value), .int .i64 a.op, .bool a.aq, .bool a.rl, .int .i64 a.pred, .int .i64 a.succ], .int .u64 (un found), .bool won] w fun e w' => e = .returned (.int .u64 (un (if won then 0#64 else 1#64))) ∧ Below w.heap.size w w' := by
  have hA0 := NK.start hW #[.int .i64 a.kind, .int .u64 (un a.addr), .int .u64 (un a.value), .int .i64 a.op, .bool a.aq, .bool a.rl, .int .i64 a.pred, .int .i64 a.succ] 42 27
  have hWz := hW.keep ((Below.refl w.heap.size w).alloc (Nat.le_refl _) (.cells #[.int .i64 a.kind, .int .u64 (un a.addr), .int .u64 (un a.value), .int .i64 a.op, .bool a.aq, .bool a.rl, .int .i64 a.pred, .int .i64 a.succ] 42))
  have i0 : _ = some (Value.int .i64 op) := hWz.i 0 (by decide)
  have i1 : _ = some (Value.int .i64 rd) := hWz.i 1 (by decide)
  have i2 : _ = some (Value.int .i64 r1) := hWz.i 2 (by decide)
  have i3 : _ = some (Value.int .i64 r2) := hWz.i 3 (by decide)
  have i4 : _ = some (Value.int .i64 imm) := hWz.i 4 (by decide)
  have i5 : _ = some (Value.bool aq) := hWz.i 5 (by decide)
  have i6 : _ = some (Value.bool rl) := hWz.i 6 (by decide)
  have i7 : _ = some (Value.int .i64 pred) := hWz.i 7 (by decide)
  have i8 : _ = some (Value.int .i64 succ) := hWz.i 8 (by decide)
  have hlt : 0 ≤ (r1 : Int) ∧ (r1 : Int) < 32 := by omega
  have hlt2 : 0 ≤ (r2 : Int) ∧ (r2 : Int) < 32 := by omega
  have hFm := Lib.hid (fun W (hW : Tabs W) => Form_any op hop W hW)
  have hDo := Lib.hid (fun B W (hW : Tabs W) => Do_any op hop (h.x r1) B W hW)
  have hD1 : Hid (∀ W, Tabs W → Calls Tryz.prog 37 #[.int .i64 1, .int .u64 0, .int .u64 (un (bv imm))] W fun e w' => e = .returned (.tuple #[.int .u64 (un (doF 1 0#64 (bv imm))), .int .i64 (doE 1)]) ∧ Below W.heap.size W w') := Lib.hid fun W hW => by
    have := Do_any 1 (by decide) 0#64 (bv imm) W hW
    rw [un_0] at this; exact this
  obtain ⟨p0, x1, x2, c0, c1, c2, c3, c4, c5, c6, c7, c8⟩ := hA0.facts hr1 hr2
  have tk1 : (a.kind == 1) = false := by rw [hk]; rfl
  have tk3 : (a.kind == 3) = false := by rw [hk]; rfl
  have tk5 : (a.kind == 5) = false := by rw [hk]; rfl
  have tk4 : (a.kind == 4) = true := by rw [hk]; rfl
  clear hk
  subst hw
  simp only [if_true, un_0]
  clear hW hWz hop
  go_enter Tryz.func23, Tryz.ntmps23
  go_wp2
  go_ret
  exact ⟨rfl, hA0.bl⟩
set_option maxRecDepth 100000 in
set_option maxHeartbeats 8000000 in
theorem answer_4f (b : Nat) (h : HartV) (op rd : Int) (r1 r2 : Nat) (imm : Int) (aq rl : Bool) (pred succ : Int) (a : AskV) (found : BitVec 64) (won : Bool) (w : World) (hW : WK b h ⟨op, rd, r1, r2, imm, aq, rl, pred, succ⟩ w) (ht : Tabs w) (hop : op ≤ 9223372036854775807) (hr1 : r1 < 32) (hr2 : r2 < 32) (hk : a.kind = 4) (hw : won = false) :
    Calls Tryz.prog 23 #[.pointer (some ⟨b, 0, none⟩), .agg #[.int .i64 a.kind, .int .u64 (un a.addr), .int .u64 (un a.value), .int .i64 a.op, .bool a.aq, .bool a.rl, .int .i64 a.pred, .int .i64 a.succ], .int .u64 (un found), .bool won] w fun e w' => e = .returned (.int .u64 (un (if won then 0#64 else 1#64))) ∧ Below w.heap.size w w' := by
  have hA0 := NK.start hW #[.int .i64 a.kind, .int .u64 (un a.addr), .int .u64 (un a.value), .int .i64 a.op, .bool a.aq, .bool a.rl, .int .i64 a.pred, .int .i64 a.succ] 42 27
  have hWz := hW.keep ((Below.refl w.heap.size w).alloc (Nat.le_refl _) (.cells #[.int .i64 a.kind, .int .u64 (un a.addr), .int .u64 (un a.value), .int .i64 a.op, .bool a.aq, .bool a.rl, .int .i64 a.pred, .int .i64 a.succ] 42))
  have i0 : _ = some (Value.int .i64 op) := hWz.i 0 (by decide)
  have i1 : _ = some (Value.int .i64 rd) := hWz.i 1 (by decide)
  have i2 : _ = some (Value.int .i64 r1) := hWz.i 2 (by decide)
  have i3 : _ = some (Value.int .i64 r2) := hWz.i 3 (by decide)
  have i4 : _ = some (Value.int .i64 imm) := hWz.i 4 (by decide)
  have i5 : _ = some (Value.bool aq) := hWz.i 5 (by decide)
  have i6 : _ = some (Value.bool rl) := hWz.i 6 (by decide)
  have i7 : _ = some (Value.int .i64 pred) := hWz.i 7 (by decide)
  have i8 : _ = some (Value.int .i64 succ) := hWz.i 8 (by decide)
  have hlt : 0 ≤ (r1 : Int) ∧ (r1 : Int) < 32 := by omega
  have hlt2 : 0 ≤ (r2 : Int) ∧ (r2 : Int) < 32 := by omega
  have hFm := Lib.hid (fun W (hW : Tabs W) => Form_any op hop W hW)
  have hDo := Lib.hid (fun B W (hW : Tabs W) => Do_any op hop (h.x r1) B W hW)
  have hD1 : Hid (∀ W, Tabs W → Calls Tryz.prog 37 #[.int .i64 1, .int .u64 0, .int .u64 (un (bv imm))] W fun e w' => e = .returned (.tuple #[.int .u64 (un (doF 1 0#64 (bv imm))), .int .i64 (doE 1)]) ∧ Below W.heap.size W w') := Lib.hid fun W hW => by
    have := Do_any 1 (by decide) 0#64 (bv imm) W hW
    rw [un_0] at this; exact this
  obtain ⟨p0, x1, x2, c0, c1, c2, c3, c4, c5, c6, c7, c8⟩ := hA0.facts hr1 hr2
  have tk1 : (a.kind == 1) = false := by rw [hk]; rfl
  have tk3 : (a.kind == 3) = false := by rw [hk]; rfl
  have tk5 : (a.kind == 5) = false := by rw [hk]; rfl
  have tk4 : (a.kind == 4) = true := by rw [hk]; rfl
  clear hk
  subst hw
  simp only [Bool.false_eq_true, if_false, un_1]
  clear hW hWz hop
  go_enter Tryz.func23, Tryz.ntmps23
  go_wp2
  go_ret
  exact ⟨rfl, hA0.bl⟩
set_option maxRecDepth 100000 in
set_option maxHeartbeats 8000000 in
theorem answer_J (b : Nat) (h : HartV) (op rd : Int) (r1 r2 : Nat) (imm : Int) (aq rl : Bool) (pred succ : Int) (a : AskV) (found : BitVec 64) (won : Bool) (w : World) (hW : WK b h ⟨op, rd, r1, r2, imm, aq, rl, pred, succ⟩ w) (ht : Tabs w) (hop : op ≤ 9223372036854775807) (hr1 : r1 < 32) (hr2 : r2 < 32) (hk : a.kind ≠ 1 ∧ a.kind ≠ 3 ∧ a.kind ≠ 5 ∧ a.kind ≠ 4) (h3 : op = 3) :
    Calls Tryz.prog 23 #[.pointer (some ⟨b, 0, none⟩), .agg #[.int .i64 a.kind, .int .u64 (un a.addr), .int .u64 (un a.value), .int .i64 a.op, .bool a.aq, .bool a.rl, .int .i64 a.pred, .int .i64 a.succ], .int .u64 (un found), .bool won] w fun e w' => e = .returned (.int .u64 (un (h.pc + 4#64))) ∧ Below w.heap.size w w' := by
  have hA0 := NK.start hW #[.int .i64 a.kind, .int .u64 (un a.addr), .int .u64 (un a.value), .int .i64 a.op, .bool a.aq, .bool a.rl, .int .i64 a.pred, .int .i64 a.succ] 42 27
  have hWz := hW.keep ((Below.refl w.heap.size w).alloc (Nat.le_refl _) (.cells #[.int .i64 a.kind, .int .u64 (un a.addr), .int .u64 (un a.value), .int .i64 a.op, .bool a.aq, .bool a.rl, .int .i64 a.pred, .int .i64 a.succ] 42))
  have i0 : _ = some (Value.int .i64 op) := hWz.i 0 (by decide)
  have i1 : _ = some (Value.int .i64 rd) := hWz.i 1 (by decide)
  have i2 : _ = some (Value.int .i64 r1) := hWz.i 2 (by decide)
  have i3 : _ = some (Value.int .i64 r2) := hWz.i 3 (by decide)
  have i4 : _ = some (Value.int .i64 imm) := hWz.i 4 (by decide)
  have i5 : _ = some (Value.bool aq) := hWz.i 5 (by decide)
  have i6 : _ = some (Value.bool rl) := hWz.i 6 (by decide)
  have i7 : _ = some (Value.int .i64 pred) := hWz.i 7 (by decide)
  have i8 : _ = some (Value.int .i64 succ) := hWz.i 8 (by decide)
  have hlt : 0 ≤ (r1 : Int) ∧ (r1 : Int) < 32 := by omega
  have hlt2 : 0 ≤ (r2 : Int) ∧ (r2 : Int) < 32 := by omega
  have hFm := Lib.hid (fun W (hW : Tabs W) => Form_any op hop W hW)
  have hDo := Lib.hid (fun B W (hW : Tabs W) => Do_any op hop (h.x r1) B W hW)
  have hD1 : Hid (∀ W, Tabs W → Calls Tryz.prog 37 #[.int .i64 1, .int .u64 0, .int .u64 (un (bv imm))] W fun e w' => e = .returned (.tuple #[.int .u64 (un (doF 1 0#64 (bv imm))), .int .i64 (doE 1)]) ∧ Below W.heap.size W w') := Lib.hid fun W hW => by
    have := Do_any 1 (by decide) 0#64 (bv imm) W hW
    rw [un_0] at this; exact this
  obtain ⟨p0, x1, x2, c0, c1, c2, c3, c4, c5, c6, c7, c8⟩ := hA0.facts hr1 hr2
  have tk1 : (a.kind == 1) = false := by rw [beq_eq_false_iff_ne]; omega
  have tk3 : (a.kind == 3) = false := by rw [beq_eq_false_iff_ne]; omega
  have tk5 : (a.kind == 5) = false := by rw [beq_eq_false_iff_ne]; omega
  have tk4 : (a.kind == 4) = false := by rw [beq_eq_false_iff_ne]; omega
  clear hk
  have t3 : (op == 3) = true := by rw [h3]; rfl
  clear h3
  clear hW hWz hop
  go_enter Tryz.func23, Tryz.ntmps23
  go_wp2
  go_ret
  exact ⟨rfl, hA0.bl⟩
set_option maxRecDepth 100000 in
set_option maxHeartbeats 8000000 in
theorem answer_R (b : Nat) (h : HartV) (op rd : Int) (r1 r2 : Nat) (imm : Int) (aq rl : Bool) (pred succ : Int) (a : AskV) (found : BitVec 64) (won : Bool) (w : World) (hW : WK b h ⟨op, rd, r1, r2, imm, aq, rl, pred, succ⟩ w) (ht : Tabs w) (hop : op ≤ 9223372036854775807) (hr1 : r1 < 32) (hr2 : r2 < 32) (hk : a.kind ≠ 1 ∧ a.kind ≠ 3 ∧ a.kind ≠ 5 ∧ a.kind ≠ 4) (h3 : op = 4) :
    Calls Tryz.prog 23 #[.pointer (some ⟨b, 0, none⟩), .agg #[.int .i64 a.kind, .int .u64 (un a.addr), .int .u64 (un a.value), .int .i64 a.op, .bool a.aq, .bool a.rl, .int .i64 a.pred, .int .i64 a.succ], .int .u64 (un found), .bool won] w fun e w' => e = .returned (.int .u64 (un (h.pc + 4#64))) ∧ Below w.heap.size w w' := by
  have hA0 := NK.start hW #[.int .i64 a.kind, .int .u64 (un a.addr), .int .u64 (un a.value), .int .i64 a.op, .bool a.aq, .bool a.rl, .int .i64 a.pred, .int .i64 a.succ] 42 27
  have hWz := hW.keep ((Below.refl w.heap.size w).alloc (Nat.le_refl _) (.cells #[.int .i64 a.kind, .int .u64 (un a.addr), .int .u64 (un a.value), .int .i64 a.op, .bool a.aq, .bool a.rl, .int .i64 a.pred, .int .i64 a.succ] 42))
  have i0 : _ = some (Value.int .i64 op) := hWz.i 0 (by decide)
  have i1 : _ = some (Value.int .i64 rd) := hWz.i 1 (by decide)
  have i2 : _ = some (Value.int .i64 r1) := hWz.i 2 (by decide)
  have i3 : _ = some (Value.int .i64 r2) := hWz.i 3 (by decide)
  have i4 : _ = some (Value.int .i64 imm) := hWz.i 4 (by decide)
  have i5 : _ = some (Value.bool aq) := hWz.i 5 (by decide)
  have i6 : _ = some (Value.bool rl) := hWz.i 6 (by decide)
  have i7 : _ = some (Value.int .i64 pred) := hWz.i 7 (by decide)
  have i8 : _ = some (Value.int .i64 succ) := hWz.i 8 (by decide)
  have hlt : 0 ≤ (r1 : Int) ∧ (r1 : Int) < 32 := by omega
  have hlt2 : 0 ≤ (r2 : Int) ∧ (r2 : Int) < 32 := by omega
  have hFm := Lib.hid (fun W (hW : Tabs W) => Form_any op hop W hW)
  have hDo := Lib.hid (fun B W (hW : Tabs W) => Do_any op hop (h.x r1) B W hW)
  have hD1 : Hid (∀ W, Tabs W → Calls Tryz.prog 37 #[.int .i64 1, .int .u64 0, .int .u64 (un (bv imm))] W fun e w' => e = .returned (.tuple #[.int .u64 (un (doF 1 0#64 (bv imm))), .int .i64 (doE 1)]) ∧ Below W.heap.size W w') := Lib.hid fun W hW => by
    have := Do_any 1 (by decide) 0#64 (bv imm) W hW
    rw [un_0] at this; exact this
  obtain ⟨p0, x1, x2, c0, c1, c2, c3, c4, c5, c6, c7, c8⟩ := hA0.facts hr1 hr2
  have tk1 : (a.kind == 1) = false := by rw [beq_eq_false_iff_ne]; omega
  have tk3 : (a.kind == 3) = false := by rw [beq_eq_false_iff_ne]; omega
  have tk5 : (a.kind == 5) = false := by rw [beq_eq_false_iff_ne]; omega
  have tk4 : (a.kind == 4) = false := by rw [beq_eq_false_iff_ne]; omega
  clear hk
  have t3 : (op == 3) = false := by rw [h3]; rfl
  have t4 : (op == 4) = true := by rw [h3]; rfl
  clear h3
  clear hW hWz hop
  go_enter Tryz.func23, Tryz.ntmps23
  go_wp2
  go_ret
  exact ⟨rfl, hA0.bl⟩
set_option maxRecDepth 100000 in
set_option maxHeartbeats 8000000 in
theorem answer_U (b : Nat) (h : HartV) (op rd : Int) (r1 r2 : Nat) (imm : Int) (aq rl : Bool) (pred succ : Int) (a : AskV) (found : BitVec 64) (won : Bool) (w : World) (hW : WK b h ⟨op, rd, r1, r2, imm, aq, rl, pred, succ⟩ w) (ht : Tabs w) (hop : op ≤ 9223372036854775807) (hr1 : r1 < 32) (hr2 : r2 < 32) (hk : a.kind ≠ 1 ∧ a.kind ≠ 3 ∧ a.kind ≠ 5 ∧ a.kind ≠ 4) (h3 : op = 2) :
    Calls Tryz.prog 23 #[.pointer (some ⟨b, 0, none⟩), .agg #[.int .i64 a.kind, .int .u64 (un a.addr), .int .u64 (un a.value), .int .i64 a.op, .bool a.aq, .bool a.rl, .int .i64 a.pred, .int .i64 a.succ], .int .u64 (un found), .bool won] w fun e w' => e = .returned (.int .u64 (un (h.pc + doF 1 0#64 (bv imm)))) ∧ Below w.heap.size w w' := by
  have hA0 := NK.start hW #[.int .i64 a.kind, .int .u64 (un a.addr), .int .u64 (un a.value), .int .i64 a.op, .bool a.aq, .bool a.rl, .int .i64 a.pred, .int .i64 a.succ] 42 27
  have hWz := hW.keep ((Below.refl w.heap.size w).alloc (Nat.le_refl _) (.cells #[.int .i64 a.kind, .int .u64 (un a.addr), .int .u64 (un a.value), .int .i64 a.op, .bool a.aq, .bool a.rl, .int .i64 a.pred, .int .i64 a.succ] 42))
  have i0 : _ = some (Value.int .i64 op) := hWz.i 0 (by decide)
  have i1 : _ = some (Value.int .i64 rd) := hWz.i 1 (by decide)
  have i2 : _ = some (Value.int .i64 r1) := hWz.i 2 (by decide)
  have i3 : _ = some (Value.int .i64 r2) := hWz.i 3 (by decide)
  have i4 : _ = some (Value.int .i64 imm) := hWz.i 4 (by decide)
  have i5 : _ = some (Value.bool aq) := hWz.i 5 (by decide)
  have i6 : _ = some (Value.bool rl) := hWz.i 6 (by decide)
  have i7 : _ = some (Value.int .i64 pred) := hWz.i 7 (by decide)
  have i8 : _ = some (Value.int .i64 succ) := hWz.i 8 (by decide)
  have hlt : 0 ≤ (r1 : Int) ∧ (r1 : Int) < 32 := by omega
  have hlt2 : 0 ≤ (r2 : Int) ∧ (r2 : Int) < 32 := by omega
  have hFm := Lib.hid (fun W (hW : Tabs W) => Form_any op hop W hW)
  have hDo := Lib.hid (fun B W (hW : Tabs W) => Do_any op hop (h.x r1) B W hW)
  have hD1 : Hid (∀ W, Tabs W → Calls Tryz.prog 37 #[.int .i64 1, .int .u64 0, .int .u64 (un (bv imm))] W fun e w' => e = .returned (.tuple #[.int .u64 (un (doF 1 0#64 (bv imm))), .int .i64 (doE 1)]) ∧ Below W.heap.size W w') := Lib.hid fun W hW => by
    have := Do_any 1 (by decide) 0#64 (bv imm) W hW
    rw [un_0] at this; exact this
  obtain ⟨p0, x1, x2, c0, c1, c2, c3, c4, c5, c6, c7, c8⟩ := hA0.facts hr1 hr2
  have tk1 : (a.kind == 1) = false := by rw [beq_eq_false_iff_ne]; omega
  have tk3 : (a.kind == 3) = false := by rw [beq_eq_false_iff_ne]; omega
  have tk5 : (a.kind == 5) = false := by rw [beq_eq_false_iff_ne]; omega
  have tk4 : (a.kind == 4) = false := by rw [beq_eq_false_iff_ne]; omega
  clear hk
  have t3 : (op == 3) = false := by rw [h3]; rfl
  have t4 : (op == 4) = false := by rw [h3]; rfl
  have t2 : (op == 2) = true := by rw [h3]; rfl
  clear h3
  clear hW hWz hop
  go_enter Tryz.func23, Tryz.ntmps23
  go_wp2_with (first | (go_at_call 38; refine (hFm.out _ (ht.later hA0.bl (Nat.le_refl _))).mono ?_; rintro e w3 ⟨rfl, hb3⟩; have hA := hA0.keep hb3; obtain ⟨p0, x1, x2, c0, c1, c2, c3, c4, c5, c6, c7, c8⟩ := hA.facts hr1 hr2) | (go_at_call 37; refine (hD1.out _ (ht.later hA0.bl (Nat.le_refl _))).mono ?_; rintro e w4 ⟨rfl, hb4⟩; have hA := hA0.keep hb4; obtain ⟨p0, x1, x2, c0, c1, c2, c3, c4, c5, c6, c7, c8⟩ := hA.facts hr1 hr2))
  go_ret
  exact ⟨rfl, hA.bl⟩
set_option maxRecDepth 100000 in
set_option maxHeartbeats 8000000 in
theorem answer_8 (b : Nat) (h : HartV) (op rd : Int) (r1 r2 : Nat) (imm : Int) (aq rl : Bool) (pred succ : Int) (a : AskV) (found : BitVec 64) (won : Bool) (w : World) (hW : WK b h ⟨op, rd, r1, r2, imm, aq, rl, pred, succ⟩ w) (ht : Tabs w) (hop : op ≤ 9223372036854775807) (hr1 : r1 < 32) (hr2 : r2 < 32) (hk : a.kind ≠ 1 ∧ a.kind ≠ 3 ∧ a.kind ≠ 5 ∧ a.kind ≠ 4) (h3 : op ≠ 3 ∧ op ≠ 4 ∧ op ≠ 2) (hf : (opOf op).form = 8) :
    Calls Tryz.prog 23 #[.pointer (some ⟨b, 0, none⟩), .agg #[.int .i64 a.kind, .int .u64 (un a.addr), .int .u64 (un a.value), .int .i64 a.op, .bool a.aq, .bool a.rl, .int .i64 a.pred, .int .i64 a.succ], .int .u64 (un found), .bool won] w fun e w' => e = .returned (.int .u64 (un (doF op (h.x r1) (h.x r2)))) ∧ Below w.heap.size w w' := by
  have hA0 := NK.start hW #[.int .i64 a.kind, .int .u64 (un a.addr), .int .u64 (un a.value), .int .i64 a.op, .bool a.aq, .bool a.rl, .int .i64 a.pred, .int .i64 a.succ] 42 27
  have hWz := hW.keep ((Below.refl w.heap.size w).alloc (Nat.le_refl _) (.cells #[.int .i64 a.kind, .int .u64 (un a.addr), .int .u64 (un a.value), .int .i64 a.op, .bool a.aq, .bool a.rl, .int .i64 a.pred, .int .i64 a.succ] 42))
  have i0 : _ = some (Value.int .i64 op) := hWz.i 0 (by decide)
  have i1 : _ = some (Value.int .i64 rd) := hWz.i 1 (by decide)
  have i2 : _ = some (Value.int .i64 r1) := hWz.i 2 (by decide)
  have i3 : _ = some (Value.int .i64 r2) := hWz.i 3 (by decide)
  have i4 : _ = some (Value.int .i64 imm) := hWz.i 4 (by decide)
  have i5 : _ = some (Value.bool aq) := hWz.i 5 (by decide)
  have i6 : _ = some (Value.bool rl) := hWz.i 6 (by decide)
  have i7 : _ = some (Value.int .i64 pred) := hWz.i 7 (by decide)
  have i8 : _ = some (Value.int .i64 succ) := hWz.i 8 (by decide)
  have hlt : 0 ≤ (r1 : Int) ∧ (r1 : Int) < 32 := by omega
  have hlt2 : 0 ≤ (r2 : Int) ∧ (r2 : Int) < 32 := by omega
  have hFm := Lib.hid (fun W (hW : Tabs W) => Form_any op hop W hW)
  have hDo := Lib.hid (fun B W (hW : Tabs W) => Do_any op hop (h.x r1) B W hW)
  have hD1 : Hid (∀ W, Tabs W → Calls Tryz.prog 37 #[.int .i64 1, .int .u64 0, .int .u64 (un (bv imm))] W fun e w' => e = .returned (.tuple #[.int .u64 (un (doF 1 0#64 (bv imm))), .int .i64 (doE 1)]) ∧ Below W.heap.size W w') := Lib.hid fun W hW => by
    have := Do_any 1 (by decide) 0#64 (bv imm) W hW
    rw [un_0] at this; exact this
  obtain ⟨p0, x1, x2, c0, c1, c2, c3, c4, c5, c6, c7, c8⟩ := hA0.facts hr1 hr2
  have tk1 : (a.kind == 1) = false := by rw [beq_eq_false_iff_ne]; omega
  have tk3 : (a.kind == 3) = false := by rw [beq_eq_false_iff_ne]; omega
  have tk5 : (a.kind == 5) = false := by rw [beq_eq_false_iff_ne]; omega
  have tk4 : (a.kind == 4) = false := by rw [beq_eq_false_iff_ne]; omega
  clear hk
  have t3 : (op == 3) = false := by rw [beq_eq_false_iff_ne]; omega
  have t4 : (op == 4) = false := by rw [beq_eq_false_iff_ne]; omega
  have t2 : (op == 2) = false := by rw [beq_eq_false_iff_ne]; omega
  clear h3
  rw [hf] at hFm
  clear hf
  clear hW hWz hop
  go_enter Tryz.func23, Tryz.ntmps23
  go_wp2_with (first | (go_at_call 38; refine (hFm.out _ (ht.later hA0.bl (Nat.le_refl _))).mono ?_; rintro e w3 ⟨rfl, hb3⟩; have hA := hA0.keep hb3; obtain ⟨p0, x1, x2, c0, c1, c2, c3, c4, c5, c6, c7, c8⟩ := hA.facts hr1 hr2) | (go_at_call 37; refine (hD1.out _ (ht.later hA0.bl (Nat.le_refl _))).mono ?_; rintro e w4 ⟨rfl, hb4⟩; have hA := hA0.keep hb4; obtain ⟨p0, x1, x2, c0, c1, c2, c3, c4, c5, c6, c7, c8⟩ := hA.facts hr1 hr2))
  refine wp_region_held_drew (S := fun W => NK w b h ⟨op, rd, r1, r2, imm, aq, rl, pred, succ⟩ W) (by kernel_rfl) hA.drew (fun hHeld => ?_)
  refine wpAnyH_take (i := 0) (v := .pointer (some ⟨b, 0, none⟩)) rfl (by kernel_rfl) (by kernel_rfl) (by kernel_rfl) (fun _ _ _ h => h) (Or.inl ⟨by rfl, fun W _ => by kernel_rfl⟩) hHeld ?_
  try simp only [Act.put, List.getElem_toArray, List.getElem_cons_zero, List.setIfInBounds_toArray, List.set_cons_zero, List.set_cons_succ]
  refine wpAnyH_take (i := 1) (v := .pointer (some ⟨w.heap.size + 1, 3, none⟩)) rfl (by kernel_rfl) (by kernel_rfl) (by kernel_rfl) (fun _ _ _ h => h) (Or.inl ⟨by rfl, fun W _ => by kernel_rfl⟩) hHeld ?_
  try simp only [Act.put, List.getElem_toArray, List.getElem_cons_succ, List.getElem_cons_zero, List.setIfInBounds_toArray, List.set_cons_zero, List.set_cons_succ]
  refine wpAnyH_take (i := 2) (v := .int .i64 r2) rfl (by kernel_rfl) (by kernel_rfl) (by kernel_rfl) (fun _ _ _ h => h) (Or.inl ⟨by rfl, fun W hS => by (have k : W.cell? ⟨w.heap.size + 1, 3, none⟩ = some (.int .i64 r2) := hS.c 3 (by decide)); go_simp⟩) hHeld ?_
  try simp only [Act.put, List.getElem_toArray, List.getElem_cons_succ, List.getElem_cons_zero, List.setIfInBounds_toArray, List.set_cons_zero, List.set_cons_succ]
  refine wpAnyH_take (i := 3) (v := .pointer (some ⟨b, 0, none⟩)) rfl (by kernel_rfl) (by kernel_rfl) (by kernel_rfl) (fun _ _ _ h => h) (Or.inl ⟨by rfl, fun W _ => by kernel_rfl⟩) hHeld ?_
  try simp only [Act.put, List.getElem_toArray, List.getElem_cons_succ, List.getElem_cons_zero, List.setIfInBounds_toArray, List.set_cons_zero, List.set_cons_succ]
  refine wpAnyH_take (i := 4) (v := .pointer (some ⟨b, 0, none⟩)) rfl (by kernel_rfl) (by kernel_rfl) (by kernel_rfl) (fun _ _ _ h => h) (Or.inl ⟨by rfl, fun W _ => by kernel_rfl⟩) hHeld ?_
  try simp only [Act.put, List.getElem_toArray, List.getElem_cons_succ, List.getElem_cons_zero, List.setIfInBounds_toArray, List.set_cons_zero, List.set_cons_succ]
  refine wpAnyH_take (i := 5) (v := .pointer (some ⟨b, 1, none⟩)) rfl (by kernel_rfl) (by kernel_rfl) (by kernel_rfl) (fun _ _ _ h => h) (Or.inl ⟨by rfl, fun W _ => by kernel_rfl⟩) hHeld ?_
  try simp only [Act.put, List.getElem_toArray, List.getElem_cons_succ, List.getElem_cons_zero, List.setIfInBounds_toArray, List.set_cons_zero, List.set_cons_succ]
  refine wpAnyH_take (i := 6) (v := .pointer (some ⟨b, 1 + r2, none⟩)) rfl (by kernel_rfl) (by kernel_rfl) (by kernel_rfl) (fun _ _ _ h => h) (Or.inl ⟨by rfl, fun W _ => by go_simp⟩) hHeld ?_
  try simp only [Act.put, List.getElem_toArray, List.getElem_cons_succ, List.getElem_cons_zero, List.setIfInBounds_toArray, List.set_cons_zero, List.set_cons_succ]
  refine wpAnyH_take (i := 7) (v := .int .u64 (un (h.x r2))) rfl (by kernel_rfl) (by kernel_rfl) (by kernel_rfl) (fun _ _ _ h => h) (Or.inl ⟨by rfl, fun W hS => by (have k : W.cell? ⟨b, 1 + r2, none⟩ = some (.int .u64 (un (h.x r2))) := by rw [hS.wk.c (1 + r2) (by omega), hartCell_x h r2 hr2]); go_simp⟩) hHeld ?_
  try simp only [Act.put, List.getElem_toArray, List.getElem_cons_succ, List.getElem_cons_zero, List.setIfInBounds_toArray, List.set_cons_zero, List.set_cons_succ]
  refine wpAnyH_take (i := 8) (v := .int .u64 (un (h.x r2))) rfl (by kernel_rfl) (by kernel_rfl) (by kernel_rfl) (fun _ _ _ h => h) (Or.inl ⟨by rfl, fun W _ => by kernel_rfl⟩) hHeld ?_
  try simp only [Act.put, List.getElem_toArray, List.getElem_cons_succ, List.getElem_cons_zero, List.setIfInBounds_toArray, List.set_cons_zero, List.set_cons_succ]
  refine wpAnyH_done (by kernel_rfl) ?_ _
  go_wp2
  have hA := hHeld
  clear hHeld
  generalize World.drew _ = W1 at hA ⊢
  refine wp_region_held_drew (S := fun W => NK w b h ⟨op, rd, r1, r2, imm, aq, rl, pred, succ⟩ W) (by kernel_rfl) hA.drew (fun hHeld => ?_)
  refine wpAnyH_take (i := 0) (v := .pointer (some ⟨w.heap.size + 1, 0, none⟩)) rfl (by kernel_rfl) (by kernel_rfl) (by kernel_rfl) (fun _ _ _ h => h) (Or.inl ⟨by rfl, fun W _ => by kernel_rfl⟩) hHeld ?_
  try simp only [Act.put, List.getElem_toArray, List.getElem_cons_zero, List.setIfInBounds_toArray, List.set_cons_zero, List.set_cons_succ]
  refine wpAnyH_take (i := 1) (v := .int .i64 op) rfl (by kernel_rfl) (by kernel_rfl) (by kernel_rfl) (fun _ _ _ h => h) (Or.inl ⟨by rfl, fun W hS => by (have k : W.cell? ⟨w.heap.size + 1, 0, none⟩ = some (.int .i64 op) := hS.c 0 (by decide)); go_simp⟩) hHeld ?_
  try simp only [Act.put, List.getElem_toArray, List.getElem_cons_succ, List.getElem_cons_zero, List.setIfInBounds_toArray, List.set_cons_zero, List.set_cons_succ]
  refine wpAnyH_take (i := 2) (v := .pointer (some ⟨b, 0, none⟩)) rfl (by kernel_rfl) (by kernel_rfl) (by kernel_rfl) (fun _ _ _ h => h) (Or.inl ⟨by rfl, fun W _ => by kernel_rfl⟩) hHeld ?_
  try simp only [Act.put, List.getElem_toArray, List.getElem_cons_succ, List.getElem_cons_zero, List.setIfInBounds_toArray, List.set_cons_zero, List.set_cons_succ]
  refine wpAnyH_take (i := 3) (v := .pointer (some ⟨w.heap.size + 1, 2, none⟩)) rfl (by kernel_rfl) (by kernel_rfl) (by kernel_rfl) (fun _ _ _ h => h) (Or.inl ⟨by rfl, fun W _ => by kernel_rfl⟩) hHeld ?_
  try simp only [Act.put, List.getElem_toArray, List.getElem_cons_succ, List.getElem_cons_zero, List.setIfInBounds_toArray, List.set_cons_zero, List.set_cons_succ]
  refine wpAnyH_take (i := 4) (v := .int .i64 r1) rfl (by kernel_rfl) (by kernel_rfl) (by kernel_rfl) (fun _ _ _ h => h) (Or.inl ⟨by rfl, fun W hS => by (have k : W.cell? ⟨w.heap.size + 1, 2, none⟩ = some (.int .i64 r1) := hS.c 2 (by decide)); go_simp⟩) hHeld ?_
  try simp only [Act.put, List.getElem_toArray, List.getElem_cons_succ, List.getElem_cons_zero, List.setIfInBounds_toArray, List.set_cons_zero, List.set_cons_succ]
  refine wpAnyH_take (i := 5) (v := .pointer (some ⟨b, 0, none⟩)) rfl (by kernel_rfl) (by kernel_rfl) (by kernel_rfl) (fun _ _ _ h => h) (Or.inl ⟨by rfl, fun W _ => by kernel_rfl⟩) hHeld ?_
  try simp only [Act.put, List.getElem_toArray, List.getElem_cons_succ, List.getElem_cons_zero, List.setIfInBounds_toArray, List.set_cons_zero, List.set_cons_succ]
  refine wpAnyH_take (i := 6) (v := .pointer (some ⟨b, 0, none⟩)) rfl (by kernel_rfl) (by kernel_rfl) (by kernel_rfl) (fun _ _ _ h => h) (Or.inl ⟨by rfl, fun W _ => by kernel_rfl⟩) hHeld ?_
  try simp only [Act.put, List.getElem_toArray, List.getElem_cons_succ, List.getElem_cons_zero, List.setIfInBounds_toArray, List.set_cons_zero, List.set_cons_succ]
  refine wpAnyH_take (i := 7) (v := .pointer (some ⟨b, 1, none⟩)) rfl (by kernel_rfl) (by kernel_rfl) (by kernel_rfl) (fun _ _ _ h => h) (Or.inl ⟨by rfl, fun W _ => by kernel_rfl⟩) hHeld ?_
  try simp only [Act.put, List.getElem_toArray, List.getElem_cons_succ, List.getElem_cons_zero, List.setIfInBounds_toArray, List.set_cons_zero, List.set_cons_succ]
  refine wpAnyH_take (i := 8) (v := .pointer (some ⟨b, 1 + r1, none⟩)) rfl (by kernel_rfl) (by kernel_rfl) (by kernel_rfl) (fun _ _ _ h => h) (Or.inl ⟨by rfl, fun W _ => by go_simp⟩) hHeld ?_
  try simp only [Act.put, List.getElem_toArray, List.getElem_cons_succ, List.getElem_cons_zero, List.setIfInBounds_toArray, List.set_cons_zero, List.set_cons_succ]
  refine wpAnyH_take (i := 9) (v := .int .u64 (un (h.x r1))) rfl (by kernel_rfl) (by kernel_rfl) (by kernel_rfl) (fun _ _ _ h => h) (Or.inl ⟨by rfl, fun W hS => by (have k : W.cell? ⟨b, 1 + r1, none⟩ = some (.int .u64 (un (h.x r1))) := by rw [hS.wk.c (1 + r1) (by omega), hartCell_x h r1 hr1]); go_simp⟩) hHeld ?_
  try simp only [Act.put, List.getElem_toArray, List.getElem_cons_succ, List.getElem_cons_zero, List.setIfInBounds_toArray, List.set_cons_zero, List.set_cons_succ]
  refine wpAnyH_take (i := 10) (v := .int .u64 (un (h.x r2))) rfl (by kernel_rfl) (by kernel_rfl) (by kernel_rfl) (fun _ _ _ h => h) (Or.inl ⟨by rfl, fun W _ => by kernel_rfl⟩) hHeld ?_
  try simp only [Act.put, List.getElem_toArray, List.getElem_cons_succ, List.getElem_cons_zero, List.setIfInBounds_toArray, List.set_cons_zero, List.set_cons_succ]
  refine wpAnyH_ready (rs := [11]) (by kernel_rfl) (by simp) ?_
  refine AllReadyH.cons rfl (fun K hK2 => ?_) ?_
  · rw [if_pos (by rfl)]
    simp only [List.getElem_toArray, List.getElem_cons_succ, List.getElem_cons_zero]
    go_wp2_with (go_at_call 37; refine (hDo.out _ _ (ht.later hHeld.bl (Nat.le_refl _))).mono ?_; rintro e w4 ⟨rfl, hb4⟩)
    refine hK2.out _ _ (hHeld.keep hb4) (fun hHeld2 => ?_)
    clear hK2 K hHeld
    have hHeld := hHeld2
    clear hHeld2
    try simp only [Act.put, List.getElem_toArray, List.getElem_cons_succ, List.getElem_cons_zero, List.setIfInBounds_toArray, List.set_cons_zero, List.set_cons_succ]
    refine wpAnyH_take (i := 12) (v := .tuple #[.int .u64 (un (doF op (h.x r1) (h.x r2))), .int .i64 (doE op)]) rfl (by kernel_rfl) (by kernel_rfl) (by kernel_rfl) (fun _ _ _ h => h) (Or.inl ⟨by rfl, fun W _ => by kernel_rfl⟩) hHeld ?_
    try simp only [Act.put, List.getElem_toArray, List.getElem_cons_succ, List.getElem_cons_zero, List.setIfInBounds_toArray, List.set_cons_zero, List.set_cons_succ]
    refine wpAnyH_take (i := 13) (v := .int .u64 (un (doF op (h.x r1) (h.x r2)))) rfl (by kernel_rfl) (by kernel_rfl) (by kernel_rfl) (fun _ _ _ h => h) (Or.inl ⟨by rfl, fun W _ => by kernel_rfl⟩) hHeld ?_
    try simp only [Act.put, List.getElem_toArray, List.getElem_cons_succ, List.getElem_cons_zero, List.setIfInBounds_toArray, List.set_cons_zero, List.set_cons_succ]
    refine wpAnyH_take (i := 14) (v := .int .i64 (doE op)) rfl (by kernel_rfl) (by kernel_rfl) (by kernel_rfl) (fun _ _ _ h => h) (Or.inl ⟨by rfl, fun W _ => by kernel_rfl⟩) hHeld ?_
    try simp only [Act.put, List.getElem_toArray, List.getElem_cons_succ, List.getElem_cons_zero, List.setIfInBounds_toArray, List.set_cons_zero, List.set_cons_succ]
    refine wpAnyH_take (i := 15) (v := .int .u64 (un (doF op (h.x r1) (h.x r2)))) rfl (by kernel_rfl) (by kernel_rfl) (by kernel_rfl) (fun _ _ _ h => h) (Or.inl ⟨by rfl, fun W _ => by kernel_rfl⟩) hHeld ?_
    try simp only [Act.put, List.getElem_toArray, List.getElem_cons_succ, List.getElem_cons_zero, List.setIfInBounds_toArray, List.set_cons_zero, List.set_cons_succ]
    refine wpAnyH_take (i := 16) (v := .int .i64 (doE op)) rfl (by kernel_rfl) (by kernel_rfl) (by kernel_rfl) (fun _ _ _ h => h) (Or.inl ⟨by rfl, fun W _ => by kernel_rfl⟩) hHeld ?_
    try simp only [Act.put, List.getElem_toArray, List.getElem_cons_succ, List.getElem_cons_zero, List.setIfInBounds_toArray, List.set_cons_zero, List.set_cons_succ]
    refine wpAnyH_done (by kernel_rfl) ?_ _
    go_wp2
    go_ret
    exact ⟨rfl, hHeld.bl⟩
  exact AllReadyH.nil
set_option maxRecDepth 100000 in
set_option maxHeartbeats 8000000 in
theorem answer_N (b : Nat) (h : HartV) (op rd : Int) (r1 r2 : Nat) (imm : Int) (aq rl : Bool) (pred succ : Int) (a : AskV) (found : BitVec 64) (won : Bool) (w : World) (hW : WK b h ⟨op, rd, r1, r2, imm, aq, rl, pred, succ⟩ w) (ht : Tabs w) (hop : op ≤ 9223372036854775807) (hr1 : r1 < 32) (hr2 : r2 < 32) (hk : a.kind ≠ 1 ∧ a.kind ≠ 3 ∧ a.kind ≠ 5 ∧ a.kind ≠ 4) (h3 : op ≠ 3 ∧ op ≠ 4 ∧ op ≠ 2) (hf : (opOf op).form ≠ 8) :
    Calls Tryz.prog 23 #[.pointer (some ⟨b, 0, none⟩), .agg #[.int .i64 a.kind, .int .u64 (un a.addr), .int .u64 (un a.value), .int .i64 a.op, .bool a.aq, .bool a.rl, .int .i64 a.pred, .int .i64 a.succ], .int .u64 (un found), .bool won] w fun e w' => e = .returned (.int .u64 (un (doF op (h.x r1) (bv imm)))) ∧ Below w.heap.size w w' := by
  have hA0 := NK.start hW #[.int .i64 a.kind, .int .u64 (un a.addr), .int .u64 (un a.value), .int .i64 a.op, .bool a.aq, .bool a.rl, .int .i64 a.pred, .int .i64 a.succ] 42 27
  have hWz := hW.keep ((Below.refl w.heap.size w).alloc (Nat.le_refl _) (.cells #[.int .i64 a.kind, .int .u64 (un a.addr), .int .u64 (un a.value), .int .i64 a.op, .bool a.aq, .bool a.rl, .int .i64 a.pred, .int .i64 a.succ] 42))
  have i0 : _ = some (Value.int .i64 op) := hWz.i 0 (by decide)
  have i1 : _ = some (Value.int .i64 rd) := hWz.i 1 (by decide)
  have i2 : _ = some (Value.int .i64 r1) := hWz.i 2 (by decide)
  have i3 : _ = some (Value.int .i64 r2) := hWz.i 3 (by decide)
  have i4 : _ = some (Value.int .i64 imm) := hWz.i 4 (by decide)
  have i5 : _ = some (Value.bool aq) := hWz.i 5 (by decide)
  have i6 : _ = some (Value.bool rl) := hWz.i 6 (by decide)
  have i7 : _ = some (Value.int .i64 pred) := hWz.i 7 (by decide)
  have i8 : _ = some (Value.int .i64 succ) := hWz.i 8 (by decide)
  have hlt : 0 ≤ (r1 : Int) ∧ (r1 : Int) < 32 := by omega
  have hlt2 : 0 ≤ (r2 : Int) ∧ (r2 : Int) < 32 := by omega
  have hFm := Lib.hid (fun W (hW : Tabs W) => Form_any op hop W hW)
  have hDo := Lib.hid (fun B W (hW : Tabs W) => Do_any op hop (h.x r1) B W hW)
  have hD1 : Hid (∀ W, Tabs W → Calls Tryz.prog 37 #[.int .i64 1, .int .u64 0, .int .u64 (un (bv imm))] W fun e w' => e = .returned (.tuple #[.int .u64 (un (doF 1 0#64 (bv imm))), .int .i64 (doE 1)]) ∧ Below W.heap.size W w') := Lib.hid fun W hW => by
    have := Do_any 1 (by decide) 0#64 (bv imm) W hW
    rw [un_0] at this; exact this
  obtain ⟨p0, x1, x2, c0, c1, c2, c3, c4, c5, c6, c7, c8⟩ := hA0.facts hr1 hr2
  have tk1 : (a.kind == 1) = false := by rw [beq_eq_false_iff_ne]; omega
  have tk3 : (a.kind == 3) = false := by rw [beq_eq_false_iff_ne]; omega
  have tk5 : (a.kind == 5) = false := by rw [beq_eq_false_iff_ne]; omega
  have tk4 : (a.kind == 4) = false := by rw [beq_eq_false_iff_ne]; omega
  clear hk
  have t3 : (op == 3) = false := by rw [beq_eq_false_iff_ne]; omega
  have t4 : (op == 4) = false := by rw [beq_eq_false_iff_ne]; omega
  have t2 : (op == 2) = false := by rw [beq_eq_false_iff_ne]; omega
  clear h3
  have t8 : ((opOf op).form == 8) = false := by rw [beq_eq_false_iff_ne]; exact hf
  clear hf
  clear hW hWz hop
  go_enter Tryz.func23, Tryz.ntmps23
  go_wp2_with (first | (go_at_call 38; refine (hFm.out _ (ht.later hA0.bl (Nat.le_refl _))).mono ?_; rintro e w3 ⟨rfl, hb3⟩; have hA := hA0.keep hb3; obtain ⟨p0, x1, x2, c0, c1, c2, c3, c4, c5, c6, c7, c8⟩ := hA.facts hr1 hr2) | (go_at_call 37; refine (hD1.out _ (ht.later hA0.bl (Nat.le_refl _))).mono ?_; rintro e w4 ⟨rfl, hb4⟩; have hA := hA0.keep hb4; obtain ⟨p0, x1, x2, c0, c1, c2, c3, c4, c5, c6, c7, c8⟩ := hA.facts hr1 hr2))
  refine wp_region_held_drew (S := fun W => NK w b h ⟨op, rd, r1, r2, imm, aq, rl, pred, succ⟩ W) (by kernel_rfl) hA.drew (fun hHeld => ?_)
  refine wpAnyH_take (i := 0) (v := .pointer (some ⟨w.heap.size + 1, 0, none⟩)) rfl (by kernel_rfl) (by kernel_rfl) (by kernel_rfl) (fun _ _ _ h => h) (Or.inl ⟨by rfl, fun W _ => by kernel_rfl⟩) hHeld ?_
  try simp only [Act.put, List.getElem_toArray, List.getElem_cons_zero, List.setIfInBounds_toArray, List.set_cons_zero, List.set_cons_succ]
  refine wpAnyH_take (i := 1) (v := .int .i64 op) rfl (by kernel_rfl) (by kernel_rfl) (by kernel_rfl) (fun _ _ _ h => h) (Or.inl ⟨by rfl, fun W hS => by (have k : W.cell? ⟨w.heap.size + 1, 0, none⟩ = some (.int .i64 op) := hS.c 0 (by decide)); go_simp⟩) hHeld ?_
  try simp only [Act.put, List.getElem_toArray, List.getElem_cons_succ, List.getElem_cons_zero, List.setIfInBounds_toArray, List.set_cons_zero, List.set_cons_succ]
  refine wpAnyH_take (i := 2) (v := .pointer (some ⟨b, 0, none⟩)) rfl (by kernel_rfl) (by kernel_rfl) (by kernel_rfl) (fun _ _ _ h => h) (Or.inl ⟨by rfl, fun W _ => by kernel_rfl⟩) hHeld ?_
  try simp only [Act.put, List.getElem_toArray, List.getElem_cons_succ, List.getElem_cons_zero, List.setIfInBounds_toArray, List.set_cons_zero, List.set_cons_succ]
  refine wpAnyH_take (i := 3) (v := .pointer (some ⟨w.heap.size + 1, 2, none⟩)) rfl (by kernel_rfl) (by kernel_rfl) (by kernel_rfl) (fun _ _ _ h => h) (Or.inl ⟨by rfl, fun W _ => by kernel_rfl⟩) hHeld ?_
  try simp only [Act.put, List.getElem_toArray, List.getElem_cons_succ, List.getElem_cons_zero, List.setIfInBounds_toArray, List.set_cons_zero, List.set_cons_succ]
  refine wpAnyH_take (i := 4) (v := .int .i64 r1) rfl (by kernel_rfl) (by kernel_rfl) (by kernel_rfl) (fun _ _ _ h => h) (Or.inl ⟨by rfl, fun W hS => by (have k : W.cell? ⟨w.heap.size + 1, 2, none⟩ = some (.int .i64 r1) := hS.c 2 (by decide)); go_simp⟩) hHeld ?_
  try simp only [Act.put, List.getElem_toArray, List.getElem_cons_succ, List.getElem_cons_zero, List.setIfInBounds_toArray, List.set_cons_zero, List.set_cons_succ]
  refine wpAnyH_take (i := 5) (v := .pointer (some ⟨b, 0, none⟩)) rfl (by kernel_rfl) (by kernel_rfl) (by kernel_rfl) (fun _ _ _ h => h) (Or.inl ⟨by rfl, fun W _ => by kernel_rfl⟩) hHeld ?_
  try simp only [Act.put, List.getElem_toArray, List.getElem_cons_succ, List.getElem_cons_zero, List.setIfInBounds_toArray, List.set_cons_zero, List.set_cons_succ]
  refine wpAnyH_take (i := 6) (v := .pointer (some ⟨b, 0, none⟩)) rfl (by kernel_rfl) (by kernel_rfl) (by kernel_rfl) (fun _ _ _ h => h) (Or.inl ⟨by rfl, fun W _ => by kernel_rfl⟩) hHeld ?_
  try simp only [Act.put, List.getElem_toArray, List.getElem_cons_succ, List.getElem_cons_zero, List.setIfInBounds_toArray, List.set_cons_zero, List.set_cons_succ]
  refine wpAnyH_take (i := 7) (v := .pointer (some ⟨b, 1, none⟩)) rfl (by kernel_rfl) (by kernel_rfl) (by kernel_rfl) (fun _ _ _ h => h) (Or.inl ⟨by rfl, fun W _ => by kernel_rfl⟩) hHeld ?_
  try simp only [Act.put, List.getElem_toArray, List.getElem_cons_succ, List.getElem_cons_zero, List.setIfInBounds_toArray, List.set_cons_zero, List.set_cons_succ]
  refine wpAnyH_take (i := 8) (v := .pointer (some ⟨b, 1 + r1, none⟩)) rfl (by kernel_rfl) (by kernel_rfl) (by kernel_rfl) (fun _ _ _ h => h) (Or.inl ⟨by rfl, fun W _ => by go_simp⟩) hHeld ?_
  try simp only [Act.put, List.getElem_toArray, List.getElem_cons_succ, List.getElem_cons_zero, List.setIfInBounds_toArray, List.set_cons_zero, List.set_cons_succ]
  refine wpAnyH_take (i := 9) (v := .int .u64 (un (h.x r1))) rfl (by kernel_rfl) (by kernel_rfl) (by kernel_rfl) (fun _ _ _ h => h) (Or.inl ⟨by rfl, fun W hS => by (have k : W.cell? ⟨b, 1 + r1, none⟩ = some (.int .u64 (un (h.x r1))) := by rw [hS.wk.c (1 + r1) (by omega), hartCell_x h r1 hr1]); go_simp⟩) hHeld ?_
  try simp only [Act.put, List.getElem_toArray, List.getElem_cons_succ, List.getElem_cons_zero, List.setIfInBounds_toArray, List.set_cons_zero, List.set_cons_succ]
  refine wpAnyH_take (i := 10) (v := .int .u64 (un (bv imm))) rfl (by kernel_rfl) (by kernel_rfl) (by kernel_rfl) (fun _ _ _ h => h) (Or.inl ⟨by rfl, fun W _ => by kernel_rfl⟩) hHeld ?_
  try simp only [Act.put, List.getElem_toArray, List.getElem_cons_succ, List.getElem_cons_zero, List.setIfInBounds_toArray, List.set_cons_zero, List.set_cons_succ]
  refine wpAnyH_ready (rs := [11]) (by kernel_rfl) (by simp) ?_
  refine AllReadyH.cons rfl (fun K hK2 => ?_) ?_
  · rw [if_pos (by rfl)]
    simp only [List.getElem_toArray, List.getElem_cons_succ, List.getElem_cons_zero]
    go_wp2_with (go_at_call 37; refine (hDo.out _ _ (ht.later hHeld.bl (Nat.le_refl _))).mono ?_; rintro e w4 ⟨rfl, hb4⟩)
    refine hK2.out _ _ (hHeld.keep hb4) (fun hHeld2 => ?_)
    clear hK2 K hHeld
    have hHeld := hHeld2
    clear hHeld2
    try simp only [Act.put, List.getElem_toArray, List.getElem_cons_succ, List.getElem_cons_zero, List.setIfInBounds_toArray, List.set_cons_zero, List.set_cons_succ]
    refine wpAnyH_take (i := 12) (v := .tuple #[.int .u64 (un (doF op (h.x r1) (bv imm))), .int .i64 (doE op)]) rfl (by kernel_rfl) (by kernel_rfl) (by kernel_rfl) (fun _ _ _ h => h) (Or.inl ⟨by rfl, fun W _ => by kernel_rfl⟩) hHeld ?_
    try simp only [Act.put, List.getElem_toArray, List.getElem_cons_succ, List.getElem_cons_zero, List.setIfInBounds_toArray, List.set_cons_zero, List.set_cons_succ]
    refine wpAnyH_take (i := 13) (v := .int .u64 (un (doF op (h.x r1) (bv imm)))) rfl (by kernel_rfl) (by kernel_rfl) (by kernel_rfl) (fun _ _ _ h => h) (Or.inl ⟨by rfl, fun W _ => by kernel_rfl⟩) hHeld ?_
    try simp only [Act.put, List.getElem_toArray, List.getElem_cons_succ, List.getElem_cons_zero, List.setIfInBounds_toArray, List.set_cons_zero, List.set_cons_succ]
    refine wpAnyH_take (i := 14) (v := .int .i64 (doE op)) rfl (by kernel_rfl) (by kernel_rfl) (by kernel_rfl) (fun _ _ _ h => h) (Or.inl ⟨by rfl, fun W _ => by kernel_rfl⟩) hHeld ?_
    try simp only [Act.put, List.getElem_toArray, List.getElem_cons_succ, List.getElem_cons_zero, List.setIfInBounds_toArray, List.set_cons_zero, List.set_cons_succ]
    refine wpAnyH_take (i := 15) (v := .int .u64 (un (doF op (h.x r1) (bv imm)))) rfl (by kernel_rfl) (by kernel_rfl) (by kernel_rfl) (fun _ _ _ h => h) (Or.inl ⟨by rfl, fun W _ => by kernel_rfl⟩) hHeld ?_
    try simp only [Act.put, List.getElem_toArray, List.getElem_cons_succ, List.getElem_cons_zero, List.setIfInBounds_toArray, List.set_cons_zero, List.set_cons_succ]
    refine wpAnyH_take (i := 16) (v := .int .i64 (doE op)) rfl (by kernel_rfl) (by kernel_rfl) (by kernel_rfl) (fun _ _ _ h => h) (Or.inl ⟨by rfl, fun W _ => by kernel_rfl⟩) hHeld ?_
    try simp only [Act.put, List.getElem_toArray, List.getElem_cons_succ, List.getElem_cons_zero, List.setIfInBounds_toArray, List.set_cons_zero, List.set_cons_succ]
    refine wpAnyH_done (by kernel_rfl) ?_ _
    go_wp2
    go_ret
    exact ⟨rfl, hHeld.bl⟩
  exact AllReadyH.nil
end
theorem answer_any (b : Nat) (h : HartV) (op rd : Int) (r1 r2 : Nat) (imm : Int) (aq rl : Bool) (pred succ : Int) (a : AskV) (found : BitVec 64) (won : Bool) (w : World) (hW : WK b h ⟨op, rd, r1, r2, imm, aq, rl, pred, succ⟩ w) (ht : Tabs w) (hop : op ≤ 9223372036854775807) (hr1 : r1 < 32) (hr2 : r2 < 32) :
    Calls Tryz.prog 23 #[.pointer (some ⟨b, 0, none⟩), .agg a.cells, .int .u64 (un found), .bool won] w fun e w' => e = .returned (.int .u64 (un (answerV h ⟨op, rd, r1, r2, imm, aq, rl, pred, succ⟩ a found won))) ∧ Below w.heap.size w w' := by
  unfold answerV
  by_cases h1 : a.kind = 1
  · rw [if_pos (.inl h1)]; exact answer_1 b h op rd r1 r2 imm aq rl pred succ a found won w hW ht hop hr1 hr2 h1
  by_cases h3 : a.kind = 3
  · rw [if_pos (.inr (.inl h3))]; exact answer_3 b h op rd r1 r2 imm aq rl pred succ a found won w hW ht hop hr1 hr2 h3
  by_cases h5 : a.kind = 5
  · rw [if_pos (.inr (.inr h5))]; exact answer_5 b h op rd r1 r2 imm aq rl pred succ a found won w hW ht hop hr1 hr2 h5
  rw [if_neg (fun hh => hh.elim h1 (fun hh => hh.elim h3 h5))]
  by_cases h4 : a.kind = 4
  · rw [if_pos h4]
    cases hw : won with
    | true => subst hw; exact answer_4t b h op rd r1 r2 imm aq rl pred succ a found true w hW ht hop hr1 hr2 h4 rfl
    | false => subst hw; exact answer_4f b h op rd r1 r2 imm aq rl pred succ a found false w hW ht hop hr1 hr2 h4 rfl
  rw [if_neg h4]
  have hk : a.kind ≠ 1 ∧ a.kind ≠ 3 ∧ a.kind ≠ 5 ∧ a.kind ≠ 4 := ⟨h1, h3, h5, h4⟩
  by_cases o3 : op = 3
  · rw [if_pos (.inl o3)]; exact answer_J b h op rd r1 r2 imm aq rl pred succ a found won w hW ht hop hr1 hr2 hk o3
  by_cases o4 : op = 4
  · rw [if_pos (.inr o4)]; exact answer_R b h op rd r1 r2 imm aq rl pred succ a found won w hW ht hop hr1 hr2 hk o4
  rw [if_neg (fun hh => hh.elim o3 o4)]
  by_cases o2 : op = 2
  · rw [if_pos o2]; exact answer_U b h op rd r1 r2 imm aq rl pred succ a found won w hW ht hop hr1 hr2 hk o2
  rw [if_neg o2]
  by_cases hf : (opOf op).form = 8
  · rw [if_pos hf]; exact answer_8 b h op rd r1 r2 imm aq rl pred succ a found won w hW ht hop hr1 hr2 hk ⟨o3, o4, o2⟩ hf
  · rw [if_neg hf]; exact answer_N b h op rd r1 r2 imm aq rl pred succ a found won w hW ht hop hr1 hr2 hk ⟨o3, o4, o2⟩ hf
end Go.Proofs.YtbglinhglnbfmaaGreatDoor
