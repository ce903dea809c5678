/- Plain: what a hart's instruction asks for, and what the hart is behind it. No program in sight. Conditions: none. -/
import Derived.Test.YtbglinhglnbfmaaGreatDoorInsnDf
import Derived.Test.YtbglinhglnbfmaaGreatDoorAluDefs
set_option linter.unusedVariables false
namespace Go.Proofs.YtbglinhglnbfmaaGreatDoor
structure HartV where
  pc : BitVec 64
  x : Nat → BitVec 64
  fin : Int
  code : BitVec 64
def hartCell (h : HartV) (j : Nat) : Value := if j = 0 then .int .u64 (un h.pc) else if j ≤ 32 then .int .u64 (un (h.x (j - 1))) else if j = 33 then .int .i64 h.fin else .int .u64 (un h.code)
def insnCell (i : InsnV) (j : Nat) : Value := i.cells.getD j undef
theorem hartCell_x (h : HartV) (r : Nat) (hr : r < 32) : hartCell h (1 + r) = .int .u64 (un (h.x r)) := by
  unfold hartCell; rw [if_neg (by omega), if_pos (by omega)]; rw [show 1 + r - 1 = r by omega]
/-- whether a branch is taken -/
def takesB (op : Int) (a b : BitVec 64) : Bool :=
  if op = 5 then un a == un b else if op = 6 then un a != un b else if op = 7 then decide (sn a < sn b) else if op = 8 then decide (sn b ≤ sn a)
  else if op = 9 then decide (un a < un b) else if op = 10 then decide (un b ≤ un a) else false
/-- hart.place -/
def placeR (v : BitVec 64) : Option (BitVec 64) := if un v % 4 = 0 then some v else none
/-- where the hart goes on; none: it is thrown off -/
def nextR (h : HartV) (i : InsnV) : Option (BitVec 64) :=
  if (opOf i.op).form = 2 then placeR (h.pc + bv i.imm)
  else if (opOf i.op).form = 6 ∧ takesB i.op (h.x i.rs1.toNat) (h.x i.rs2.toNat) = true then placeR (h.pc + bv i.imm)
  else if i.op = 4 then placeR ((h.x i.rs1.toNat + bv i.imm) &&& ~~~ 1#64)
  else some (h.pc + 4#64)
/-- how an access is thrown off; 0: it is not -/
def addrE (h : HartV) (i : InsnV) : Int := if (opOf i.op).size ≠ 8 then 5 else if un (h.x i.rs1.toNat + bv i.imm) % 8 ≠ 0 then 4 else 0
structure AskV where
  kind : Int
  addr : BitVec 64
  value : BitVec 64
  op : Int
  aq : Bool
  rl : Bool
  pred : Int
  succ : Int
def AskV.cells (a : AskV) : Array Value := #[.int .i64 a.kind, .int .u64 (un a.addr), .int .u64 (un a.value), .int .i64 a.op, .bool a.aq, .bool a.rl, .int .i64 a.pred, .int .i64 a.succ]
/-- how what is asked is thrown off; 0: it is not -/
def askE (h : HartV) (i : InsnV) : Int :=
  if nextR h i = none then 6
  else if (opOf i.op).form = 4 ∨ (opOf i.op).form = 5 ∨ (opOf i.op).form = 11 ∨ (opOf i.op).form = 12 then addrE h i
  else if (opOf i.op).form = 10 then (if i.op = 65 then 2 else if un (h.x 17) = 0 then 1 else if un (h.x 17) = 1 then 0 else 3)
  else 0
/-- what is asked -/
def askV (h : HartV) (i : InsnV) : AskV :=
  if (opOf i.op).form = 4 then ⟨1, h.x i.rs1.toNat + bv i.imm, 0#64, 0, false, false, 0, 0⟩
  else if (opOf i.op).form = 5 then ⟨2, h.x i.rs1.toNat + bv i.imm, h.x i.rs2.toNat, 0, false, false, 0, 0⟩
  else if (opOf i.op).form = 11 then ⟨3, h.x i.rs1.toNat + bv i.imm, 0#64, 0, i.aq, i.rl, 0, 0⟩
  else if (opOf i.op).form = 12 then (if i.op = 69 then ⟨4, h.x i.rs1.toNat + bv i.imm, h.x i.rs2.toNat, 0, i.aq, i.rl, 0, 0⟩ else ⟨5, h.x i.rs1.toNat + bv i.imm, h.x i.rs2.toNat, i.op, i.aq, i.rl, 0, 0⟩)
  else if (opOf i.op).form = 9 then ⟨6, 0#64, 0#64, 0, false, false, i.pred, i.succ⟩
  else if (opOf i.op).form = 10 then ⟨7, 0#64, h.x 10, 0, false, false, 0, 0⟩
  else if i.op = 22 ∧ i.rd = 0 ∧ 0 < i.imm then ⟨8, 0#64, h.x i.rs1.toNat, i.imm, false, false, 0, 0⟩
  else ⟨0, 0#64, 0#64, 0, false, false, 0, 0⟩
/-- hart.Check -/
def hartE (h : HartV) : Int := if un (h.x 0) = 0 ∧ 0 ≤ h.fin ∧ h.fin ≤ 6 ∧ (h.fin = 1 ∨ un h.code = 0) then 0 else 2
/-- what is valid has registers that are ones -/
theorem checkOk_regs (i : InsnV) (h : checkOk i = true) : 0 ≤ i.rd ∧ i.rd ≤ 31 ∧ 0 ≤ i.rs1 ∧ i.rs1 ≤ 31 ∧ 0 ≤ i.rs2 ∧ i.rs2 ≤ 31 := by
  unfold checkOk at h
  generalize (opOf i.op).form = f at h
  generalize shortName (opOf i.op).name = s at h
  unfold formOk at h
  have key : ∀ r : Int, regBad r = false → 0 ≤ r ∧ r ≤ 31 := fun r hr => by unfold regBad at hr; simp at hr; omega
  by_cases h1 : f = 1
  · rw [if_pos h1] at h; simp [badIn] at h; have := key i.rd (by simp [h]); omega
  rw [if_neg h1] at h
  by_cases h2 : f = 2
  · rw [if_pos h2] at h; simp [badIn] at h; have := key i.rd (by simp [h]); omega
  rw [if_neg h2] at h
  by_cases h3 : f = 3
  · rw [if_pos h3] at h; simp [badIn] at h; have := key i.rd (by simp [h]); have := key i.rs1 (by simp [h]); omega
  rw [if_neg h3] at h
  by_cases h4 : f = 4
  · rw [if_pos h4] at h; simp [badIn] at h; have := key i.rd (by simp [h]); have := key i.rs1 (by simp [h]); omega
  rw [if_neg h4] at h
  by_cases h5 : f = 5
  · rw [if_pos h5] at h; simp [badIn] at h; have := key i.rs1 (by simp [h]); have := key i.rs2 (by simp [h]); omega
  rw [if_neg h5] at h
  by_cases h6 : f = 6
  · rw [if_pos h6] at h; simp [badIn] at h; have := key i.rs1 (by simp [h]); have := key i.rs2 (by simp [h]); omega
  rw [if_neg h6] at h
  by_cases h7 : f = 7
  · rw [if_pos h7] at h; simp [badIn] at h; have := key i.rd (by simp [h]); have := key i.rs1 (by simp [h]); omega
  rw [if_neg h7] at h
  by_cases h8 : f = 8
  · rw [if_pos h8] at h; simp [badIn] at h; have := key i.rd (by simp [h]); have := key i.rs1 (by simp [h]); have := key i.rs2 (by simp [h]); omega
  rw [if_neg h8] at h
  by_cases h9 : f = 9
  · rw [if_pos h9] at h; simp [badIn] at h; omega
  rw [if_neg h9] at h
  by_cases h10 : f = 10
  · rw [if_pos h10] at h; simp [badIn] at h; omega
  rw [if_neg h10] at h
  by_cases h11 : f = 11
  · rw [if_pos h11] at h; simp [badIn] at h; have := key i.rd (by simp [h]); have := key i.rs1 (by simp [h]); omega
  rw [if_neg h11] at h
  by_cases h12 : f = 12
  · rw [if_pos h12] at h; simp [badIn] at h; have := key i.rd (by simp [h]); have := key i.rs1 (by simp [h]); have := key i.rs2 (by simp [h]); omega
  rw [if_neg h12] at h
  exact absurd h (by decide)
end Go.Proofs.YtbglinhglnbfmaaGreatDoor
