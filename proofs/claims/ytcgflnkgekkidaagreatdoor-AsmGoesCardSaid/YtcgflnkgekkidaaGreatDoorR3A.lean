/- Plain: an instruction's word as the document puts it together is the program's. No program in sight. The walks of the document's opcode, flag, put, part, bits. The walks of the document's three and seven. Conditions: as each theorem says. -/
import Derived.Test.YtcgflnkgekkidaaGreatDoorCodePn
import Derived.Test.YtcgflnkgekkidaaGreatDoorRefFC
import Derived.Test.YtcgflnkgekkidaaGreatDoorRefDf
import Derived.Test.YtcgflnkgekkidaaGreatDoorCodeA
import Derived.ProofKit
set_option linter.unusedSimpArgs false
set_option linter.unusedVariables false
namespace Go.Proofs.YtcgflnkgekkidaaGreatDoor
/-- The document's opcode, funct3 and funct7. -/
def rcode (op : Int) : Int :=
  if op = 1 then 55 else if op = 2 then 23 else if (opOf op).form = 2 then 111 else if op = 4 then 103 else if (opOf op).form = 6 then 99 else if (opOf op).form = 4 then 3 else if (opOf op).form = 5 then 35
  else if 22 ≤ op ∧ op ≤ 30 then 19 else if 31 ≤ op ∧ op ≤ 34 then 27 else if (35 ≤ op ∧ op ≤ 44) ∨ (50 ≤ op ∧ op ≤ 57) then 51 else if (opOf op).form = 8 then 59 else if (opOf op).form = 9 then 15 else if (opOf op).form = 10 then 115 else 47
def threeL : List Int := [0, 0, 0, 0, 0, 0, 1, 4, 5, 6, 7, 0, 1, 2, 3, 4, 5, 6, 0, 1, 2, 3, 0, 2, 3, 4, 6, 7, 1, 5, 5, 0, 1, 5, 5, 0, 0, 1, 2, 3, 4, 5, 5, 6, 7, 0, 0, 1, 5, 5, 0, 1, 2, 3, 4, 5, 6, 7, 0, 4, 5, 6, 7, 0, 0, 0, 2, 3, 2, 3]
def rthree (op : Int) : Int := if op < 70 then threeL.getD op.toNat 0 else if op < 79 then 2 else 3
def sevenL : List Int := [1, 0, 4, 12, 8, 16, 20, 24, 28]
def rseven (op : Int) : Int :=
  if op = 36 ∨ op = 42 ∨ op = 46 ∨ op = 49 ∨ op = 30 ∨ op = 34 then 32 else if 50 ≤ op ∧ op ≤ 62 then 1 else if op = 66 ∨ op = 67 then 8 else if op = 68 ∨ op = 69 then 12
  else if 70 ≤ op ∧ op ≤ 87 then sevenL.getD ((op - 70) % 9).toNat 0 * 4 else 0
theorem parts_same : ((List.range 88).all fun n => n == 0 || ((madeT (n : Nat)).code == rcode (n : Nat) && (madeT (n : Nat)).f3 == rthree (n : Nat) && (madeT (n : Nat)).f7 == rseven (n : Nat))) = true := by decide +kernel
/-- What every form has. -/
def RW4 (c f3 : Int) (i : InsnV) : BitVec 64 := Put (Put (Put (Put (bv c) 7 5 (Part (bv i.rd) 0 5)) 12 3 (Part (bv f3) 0 3)) 15 5 (Part (bv i.rs1) 0 5)) 20 5 (Part (bv i.rs2) 0 5)
/-- The document's word, by the form. -/
def RWf (f : Int) (c f3 f7 : Int) (i : InsnV) : BitVec 64 :=
  let w := RW4 c f3 i; let n := bv i.imm
  if f = 8 then Put w 25 7 (Part (bv f7) 0 7)
  else if f = 11 ∨ f = 12 then Put w 25 7 (Part (bv f7 + 2#64 * mk64 i.aq + mk64 i.rl) 0 7)
  else if f = 3 ∨ f = 4 then Put w 20 12 (Part n 0 12)
  else if f = 7 then (if 31 < un n then Put (Put w 25 7 (Part (bv f7) 0 7)) 20 5 (Part n 0 5) + 33554432#64 else Put (Put w 25 7 (Part (bv f7) 0 7)) 20 5 (Part n 0 5))
  else if f = 5 then Put (Put w 7 5 (Part n 0 5)) 25 7 (Part n 5 7)
  else if f = 6 then Put (Put (Put (Put w 7 1 (Part n 11 1)) 8 4 (Part n 1 4)) 25 6 (Part n 5 6)) 31 1 (Part n 12 1)
  else if f = 1 then Put w 12 20 n
  else if f = 2 then Put (Put (Put (Put w 12 8 (Part n 12 8)) 20 1 (Part n 11 1)) 21 10 (Part n 1 10)) 31 1 (Part n 20 1)
  else if f = 9 then Put (Put w 20 4 (Part (bv i.succ) 0 4)) 24 4 (Part (bv i.pred) 0 4)
  else w + (mk64 (i.op == 65)) <<< 20
def wordR (i : InsnV) : BitVec 32 := if checkE i = 0 then (RWf (opOf i.op).form (rcode i.op) (rthree i.op) (rseven i.op) i).setWidth 32 else 0#32
theorem bv_z : bv 0 = 0#64 := rfl
theorem rbit_8 (c f3 f7 : Int) (i : InsnV) (k : Nat) (hk : k < 32) : (Put (Put (Put (Put (Put (bv c) 7 5 (Part (bv i.rd) 0 5)) 12 3 (Part (bv f3) 0 3)) 15 5 (Part (bv i.rs1) 0 5)) 20 5 (Part (bv i.rs2) 0 5)) 25 7 (Part (bv f7) 0 7)).getLsbD k = if 25 ≤ k ∧ k < 25 + 7 then (decide ((k - 25) < 7) && (bv f7).getLsbD (0 + (k - 25))) else if 20 ≤ k ∧ k < 20 + 5 then (decide ((k - 20) < 5) && (bv i.rs2).getLsbD (0 + (k - 20))) else if 15 ≤ k ∧ k < 15 + 5 then (decide ((k - 15) < 5) && (bv i.rs1).getLsbD (0 + (k - 15))) else if 12 ≤ k ∧ k < 12 + 3 then (decide ((k - 12) < 3) && (bv f3).getLsbD (0 + (k - 12))) else if 7 ≤ k ∧ k < 7 + 5 then (decide ((k - 7) < 5) && (bv i.rd).getLsbD (0 + (k - 7))) else (bv c).getLsbD k := by
  have h64 : k < 64 := by omega
  rw [Put_at _ 25 7 _ _ 25 7 rfl rfl (by decide) h64]
  rw [Put_at _ 20 5 _ _ 20 5 rfl rfl (by decide) h64]
  rw [Put_at _ 15 5 _ _ 15 5 rfl rfl (by decide) h64]
  rw [Put_at _ 12 3 _ _ 12 3 rfl rfl (by decide) h64]
  rw [Put_at _ 7 5 _ _ 7 5 rfl rfl (by decide) h64]
  try rw [Part_at _ 0 7 _ 0 7 rfl rfl (by decide)]
  try rw [Part_at _ 0 5 _ 0 5 rfl rfl (by decide)]
  try rw [Part_at _ 0 5 _ 0 5 rfl rfl (by decide)]
  try rw [Part_at _ 0 3 _ 0 3 rfl rfl (by decide)]
  try rw [Part_at _ 0 5 _ 0 5 rfl rfl (by decide)]
theorem rbit_3 (c f3 f7 : Int) (i : InsnV) (k : Nat) (hk : k < 32) : (Put (Put (Put (Put (Put (bv c) 7 5 (Part (bv i.rd) 0 5)) 12 3 (Part (bv f3) 0 3)) 15 5 (Part (bv i.rs1) 0 5)) 20 5 (Part (bv i.rs2) 0 5)) 20 12 (Part (bv i.imm) 0 12)).getLsbD k = if 20 ≤ k ∧ k < 20 + 12 then (decide ((k - 20) < 12) && (bv i.imm).getLsbD (0 + (k - 20))) else if 20 ≤ k ∧ k < 20 + 5 then (decide ((k - 20) < 5) && (bv i.rs2).getLsbD (0 + (k - 20))) else if 15 ≤ k ∧ k < 15 + 5 then (decide ((k - 15) < 5) && (bv i.rs1).getLsbD (0 + (k - 15))) else if 12 ≤ k ∧ k < 12 + 3 then (decide ((k - 12) < 3) && (bv f3).getLsbD (0 + (k - 12))) else if 7 ≤ k ∧ k < 7 + 5 then (decide ((k - 7) < 5) && (bv i.rd).getLsbD (0 + (k - 7))) else (bv c).getLsbD k := by
  have h64 : k < 64 := by omega
  rw [Put_at _ 20 12 _ _ 20 12 rfl rfl (by decide) h64]
  rw [Put_at _ 20 5 _ _ 20 5 rfl rfl (by decide) h64]
  rw [Put_at _ 15 5 _ _ 15 5 rfl rfl (by decide) h64]
  rw [Put_at _ 12 3 _ _ 12 3 rfl rfl (by decide) h64]
  rw [Put_at _ 7 5 _ _ 7 5 rfl rfl (by decide) h64]
  try rw [Part_at _ 0 12 _ 0 12 rfl rfl (by decide)]
  try rw [Part_at _ 0 5 _ 0 5 rfl rfl (by decide)]
  try rw [Part_at _ 0 5 _ 0 5 rfl rfl (by decide)]
  try rw [Part_at _ 0 3 _ 0 3 rfl rfl (by decide)]
  try rw [Part_at _ 0 5 _ 0 5 rfl rfl (by decide)]
theorem rbit_4 (c f3 f7 : Int) (i : InsnV) (k : Nat) (hk : k < 32) : (Put (Put (Put (Put (Put (bv c) 7 5 (Part (bv i.rd) 0 5)) 12 3 (Part (bv f3) 0 3)) 15 5 (Part (bv i.rs1) 0 5)) 20 5 (Part (bv i.rs2) 0 5)) 20 12 (Part (bv i.imm) 0 12)).getLsbD k = if 20 ≤ k ∧ k < 20 + 12 then (decide ((k - 20) < 12) && (bv i.imm).getLsbD (0 + (k - 20))) else if 20 ≤ k ∧ k < 20 + 5 then (decide ((k - 20) < 5) && (bv i.rs2).getLsbD (0 + (k - 20))) else if 15 ≤ k ∧ k < 15 + 5 then (decide ((k - 15) < 5) && (bv i.rs1).getLsbD (0 + (k - 15))) else if 12 ≤ k ∧ k < 12 + 3 then (decide ((k - 12) < 3) && (bv f3).getLsbD (0 + (k - 12))) else if 7 ≤ k ∧ k < 7 + 5 then (decide ((k - 7) < 5) && (bv i.rd).getLsbD (0 + (k - 7))) else (bv c).getLsbD k := by
  have h64 : k < 64 := by omega
  rw [Put_at _ 20 12 _ _ 20 12 rfl rfl (by decide) h64]
  rw [Put_at _ 20 5 _ _ 20 5 rfl rfl (by decide) h64]
  rw [Put_at _ 15 5 _ _ 15 5 rfl rfl (by decide) h64]
  rw [Put_at _ 12 3 _ _ 12 3 rfl rfl (by decide) h64]
  rw [Put_at _ 7 5 _ _ 7 5 rfl rfl (by decide) h64]
  try rw [Part_at _ 0 12 _ 0 12 rfl rfl (by decide)]
  try rw [Part_at _ 0 5 _ 0 5 rfl rfl (by decide)]
  try rw [Part_at _ 0 5 _ 0 5 rfl rfl (by decide)]
  try rw [Part_at _ 0 3 _ 0 3 rfl rfl (by decide)]
  try rw [Part_at _ 0 5 _ 0 5 rfl rfl (by decide)]
theorem rbit_5 (c f3 f7 : Int) (i : InsnV) (k : Nat) (hk : k < 32) : (Put (Put (Put (Put (Put (Put (bv c) 7 5 (Part (bv i.rd) 0 5)) 12 3 (Part (bv f3) 0 3)) 15 5 (Part (bv i.rs1) 0 5)) 20 5 (Part (bv i.rs2) 0 5)) 7 5 (Part (bv i.imm) 0 5)) 25 7 (Part (bv i.imm) 5 7)).getLsbD k = if 25 ≤ k ∧ k < 25 + 7 then (decide ((k - 25) < 7) && (bv i.imm).getLsbD (5 + (k - 25))) else if 7 ≤ k ∧ k < 7 + 5 then (decide ((k - 7) < 5) && (bv i.imm).getLsbD (0 + (k - 7))) else if 20 ≤ k ∧ k < 20 + 5 then (decide ((k - 20) < 5) && (bv i.rs2).getLsbD (0 + (k - 20))) else if 15 ≤ k ∧ k < 15 + 5 then (decide ((k - 15) < 5) && (bv i.rs1).getLsbD (0 + (k - 15))) else if 12 ≤ k ∧ k < 12 + 3 then (decide ((k - 12) < 3) && (bv f3).getLsbD (0 + (k - 12))) else if 7 ≤ k ∧ k < 7 + 5 then (decide ((k - 7) < 5) && (bv i.rd).getLsbD (0 + (k - 7))) else (bv c).getLsbD k := by
  have h64 : k < 64 := by omega
  rw [Put_at _ 25 7 _ _ 25 7 rfl rfl (by decide) h64]
  rw [Put_at _ 7 5 _ _ 7 5 rfl rfl (by decide) h64]
  rw [Put_at _ 20 5 _ _ 20 5 rfl rfl (by decide) h64]
  rw [Put_at _ 15 5 _ _ 15 5 rfl rfl (by decide) h64]
  rw [Put_at _ 12 3 _ _ 12 3 rfl rfl (by decide) h64]
  rw [Put_at _ 7 5 _ _ 7 5 rfl rfl (by decide) h64]
  try rw [Part_at _ 5 7 _ 5 7 rfl rfl (by decide)]
  try rw [Part_at _ 0 5 _ 0 5 rfl rfl (by decide)]
  try rw [Part_at _ 0 5 _ 0 5 rfl rfl (by decide)]
  try rw [Part_at _ 0 5 _ 0 5 rfl rfl (by decide)]
  try rw [Part_at _ 0 3 _ 0 3 rfl rfl (by decide)]
  try rw [Part_at _ 0 5 _ 0 5 rfl rfl (by decide)]
theorem rbit_6 (c f3 f7 : Int) (i : InsnV) (k : Nat) (hk : k < 32) : (Put (Put (Put (Put (Put (Put (Put (Put (bv c) 7 5 (Part (bv i.rd) 0 5)) 12 3 (Part (bv f3) 0 3)) 15 5 (Part (bv i.rs1) 0 5)) 20 5 (Part (bv i.rs2) 0 5)) 7 1 (Part (bv i.imm) 11 1)) 8 4 (Part (bv i.imm) 1 4)) 25 6 (Part (bv i.imm) 5 6)) 31 1 (Part (bv i.imm) 12 1)).getLsbD k = if 31 ≤ k ∧ k < 31 + 1 then (decide ((k - 31) < 1) && (bv i.imm).getLsbD (12 + (k - 31))) else if 25 ≤ k ∧ k < 25 + 6 then (decide ((k - 25) < 6) && (bv i.imm).getLsbD (5 + (k - 25))) else if 8 ≤ k ∧ k < 8 + 4 then (decide ((k - 8) < 4) && (bv i.imm).getLsbD (1 + (k - 8))) else if 7 ≤ k ∧ k < 7 + 1 then (decide ((k - 7) < 1) && (bv i.imm).getLsbD (11 + (k - 7))) else if 20 ≤ k ∧ k < 20 + 5 then (decide ((k - 20) < 5) && (bv i.rs2).getLsbD (0 + (k - 20))) else if 15 ≤ k ∧ k < 15 + 5 then (decide ((k - 15) < 5) && (bv i.rs1).getLsbD (0 + (k - 15))) else if 12 ≤ k ∧ k < 12 + 3 then (decide ((k - 12) < 3) && (bv f3).getLsbD (0 + (k - 12))) else if 7 ≤ k ∧ k < 7 + 5 then (decide ((k - 7) < 5) && (bv i.rd).getLsbD (0 + (k - 7))) else (bv c).getLsbD k := by
  have h64 : k < 64 := by omega
  rw [Put_at _ 31 1 _ _ 31 1 rfl rfl (by decide) h64]
  rw [Put_at _ 25 6 _ _ 25 6 rfl rfl (by decide) h64]
  rw [Put_at _ 8 4 _ _ 8 4 rfl rfl (by decide) h64]
  rw [Put_at _ 7 1 _ _ 7 1 rfl rfl (by decide) h64]
  rw [Put_at _ 20 5 _ _ 20 5 rfl rfl (by decide) h64]
  rw [Put_at _ 15 5 _ _ 15 5 rfl rfl (by decide) h64]
  rw [Put_at _ 12 3 _ _ 12 3 rfl rfl (by decide) h64]
  rw [Put_at _ 7 5 _ _ 7 5 rfl rfl (by decide) h64]
  try rw [Part_at _ 12 1 _ 12 1 rfl rfl (by decide)]
  try rw [Part_at _ 5 6 _ 5 6 rfl rfl (by decide)]
  try rw [Part_at _ 1 4 _ 1 4 rfl rfl (by decide)]
  try rw [Part_at _ 11 1 _ 11 1 rfl rfl (by decide)]
  try rw [Part_at _ 0 5 _ 0 5 rfl rfl (by decide)]
  try rw [Part_at _ 0 5 _ 0 5 rfl rfl (by decide)]
  try rw [Part_at _ 0 3 _ 0 3 rfl rfl (by decide)]
  try rw [Part_at _ 0 5 _ 0 5 rfl rfl (by decide)]
theorem rbit_1 (c f3 f7 : Int) (i : InsnV) (k : Nat) (hk : k < 32) : (Put (Put (Put (Put (Put (bv c) 7 5 (Part (bv i.rd) 0 5)) 12 3 (Part (bv f3) 0 3)) 15 5 (Part (bv i.rs1) 0 5)) 20 5 (Part (bv i.rs2) 0 5)) 12 20 (bv i.imm)).getLsbD k = if 12 ≤ k ∧ k < 12 + 20 then (bv i.imm).getLsbD ((k - 12)) else if 20 ≤ k ∧ k < 20 + 5 then (decide ((k - 20) < 5) && (bv i.rs2).getLsbD (0 + (k - 20))) else if 15 ≤ k ∧ k < 15 + 5 then (decide ((k - 15) < 5) && (bv i.rs1).getLsbD (0 + (k - 15))) else if 12 ≤ k ∧ k < 12 + 3 then (decide ((k - 12) < 3) && (bv f3).getLsbD (0 + (k - 12))) else if 7 ≤ k ∧ k < 7 + 5 then (decide ((k - 7) < 5) && (bv i.rd).getLsbD (0 + (k - 7))) else (bv c).getLsbD k := by
  have h64 : k < 64 := by omega
  rw [Put_at _ 12 20 _ _ 12 20 rfl rfl (by decide) h64]
  rw [Put_at _ 20 5 _ _ 20 5 rfl rfl (by decide) h64]
  rw [Put_at _ 15 5 _ _ 15 5 rfl rfl (by decide) h64]
  rw [Put_at _ 12 3 _ _ 12 3 rfl rfl (by decide) h64]
  rw [Put_at _ 7 5 _ _ 7 5 rfl rfl (by decide) h64]
  try rw [Part_at _ 0 5 _ 0 5 rfl rfl (by decide)]
  try rw [Part_at _ 0 5 _ 0 5 rfl rfl (by decide)]
  try rw [Part_at _ 0 3 _ 0 3 rfl rfl (by decide)]
  try rw [Part_at _ 0 5 _ 0 5 rfl rfl (by decide)]
theorem rbit_2 (c f3 f7 : Int) (i : InsnV) (k : Nat) (hk : k < 32) : (Put (Put (Put (Put (Put (Put (Put (Put (bv c) 7 5 (Part (bv i.rd) 0 5)) 12 3 (Part (bv f3) 0 3)) 15 5 (Part (bv i.rs1) 0 5)) 20 5 (Part (bv i.rs2) 0 5)) 12 8 (Part (bv i.imm) 12 8)) 20 1 (Part (bv i.imm) 11 1)) 21 10 (Part (bv i.imm) 1 10)) 31 1 (Part (bv i.imm) 20 1)).getLsbD k = if 31 ≤ k ∧ k < 31 + 1 then (decide ((k - 31) < 1) && (bv i.imm).getLsbD (20 + (k - 31))) else if 21 ≤ k ∧ k < 21 + 10 then (decide ((k - 21) < 10) && (bv i.imm).getLsbD (1 + (k - 21))) else if 20 ≤ k ∧ k < 20 + 1 then (decide ((k - 20) < 1) && (bv i.imm).getLsbD (11 + (k - 20))) else if 12 ≤ k ∧ k < 12 + 8 then (decide ((k - 12) < 8) && (bv i.imm).getLsbD (12 + (k - 12))) else if 20 ≤ k ∧ k < 20 + 5 then (decide ((k - 20) < 5) && (bv i.rs2).getLsbD (0 + (k - 20))) else if 15 ≤ k ∧ k < 15 + 5 then (decide ((k - 15) < 5) && (bv i.rs1).getLsbD (0 + (k - 15))) else if 12 ≤ k ∧ k < 12 + 3 then (decide ((k - 12) < 3) && (bv f3).getLsbD (0 + (k - 12))) else if 7 ≤ k ∧ k < 7 + 5 then (decide ((k - 7) < 5) && (bv i.rd).getLsbD (0 + (k - 7))) else (bv c).getLsbD k := by
  have h64 : k < 64 := by omega
  rw [Put_at _ 31 1 _ _ 31 1 rfl rfl (by decide) h64]
  rw [Put_at _ 21 10 _ _ 21 10 rfl rfl (by decide) h64]
  rw [Put_at _ 20 1 _ _ 20 1 rfl rfl (by decide) h64]
  rw [Put_at _ 12 8 _ _ 12 8 rfl rfl (by decide) h64]
  rw [Put_at _ 20 5 _ _ 20 5 rfl rfl (by decide) h64]
  rw [Put_at _ 15 5 _ _ 15 5 rfl rfl (by decide) h64]
  rw [Put_at _ 12 3 _ _ 12 3 rfl rfl (by decide) h64]
  rw [Put_at _ 7 5 _ _ 7 5 rfl rfl (by decide) h64]
  try rw [Part_at _ 20 1 _ 20 1 rfl rfl (by decide)]
  try rw [Part_at _ 1 10 _ 1 10 rfl rfl (by decide)]
  try rw [Part_at _ 11 1 _ 11 1 rfl rfl (by decide)]
  try rw [Part_at _ 12 8 _ 12 8 rfl rfl (by decide)]
  try rw [Part_at _ 0 5 _ 0 5 rfl rfl (by decide)]
  try rw [Part_at _ 0 5 _ 0 5 rfl rfl (by decide)]
  try rw [Part_at _ 0 3 _ 0 3 rfl rfl (by decide)]
  try rw [Part_at _ 0 5 _ 0 5 rfl rfl (by decide)]
theorem rbit_9 (c f3 f7 : Int) (i : InsnV) (k : Nat) (hk : k < 32) : (Put (Put (Put (Put (Put (Put (bv c) 7 5 (Part (bv i.rd) 0 5)) 12 3 (Part (bv f3) 0 3)) 15 5 (Part (bv i.rs1) 0 5)) 20 5 (Part (bv i.rs2) 0 5)) 20 4 (Part (bv i.succ) 0 4)) 24 4 (Part (bv i.pred) 0 4)).getLsbD k = if 24 ≤ k ∧ k < 24 + 4 then (decide ((k - 24) < 4) && (bv i.pred).getLsbD (0 + (k - 24))) else if 20 ≤ k ∧ k < 20 + 4 then (decide ((k - 20) < 4) && (bv i.succ).getLsbD (0 + (k - 20))) else if 20 ≤ k ∧ k < 20 + 5 then (decide ((k - 20) < 5) && (bv i.rs2).getLsbD (0 + (k - 20))) else if 15 ≤ k ∧ k < 15 + 5 then (decide ((k - 15) < 5) && (bv i.rs1).getLsbD (0 + (k - 15))) else if 12 ≤ k ∧ k < 12 + 3 then (decide ((k - 12) < 3) && (bv f3).getLsbD (0 + (k - 12))) else if 7 ≤ k ∧ k < 7 + 5 then (decide ((k - 7) < 5) && (bv i.rd).getLsbD (0 + (k - 7))) else (bv c).getLsbD k := by
  have h64 : k < 64 := by omega
  rw [Put_at _ 24 4 _ _ 24 4 rfl rfl (by decide) h64]
  rw [Put_at _ 20 4 _ _ 20 4 rfl rfl (by decide) h64]
  rw [Put_at _ 20 5 _ _ 20 5 rfl rfl (by decide) h64]
  rw [Put_at _ 15 5 _ _ 15 5 rfl rfl (by decide) h64]
  rw [Put_at _ 12 3 _ _ 12 3 rfl rfl (by decide) h64]
  rw [Put_at _ 7 5 _ _ 7 5 rfl rfl (by decide) h64]
  try rw [Part_at _ 0 4 _ 0 4 rfl rfl (by decide)]
  try rw [Part_at _ 0 4 _ 0 4 rfl rfl (by decide)]
  try rw [Part_at _ 0 5 _ 0 5 rfl rfl (by decide)]
  try rw [Part_at _ 0 5 _ 0 5 rfl rfl (by decide)]
  try rw [Part_at _ 0 3 _ 0 3 rfl rfl (by decide)]
  try rw [Part_at _ 0 5 _ 0 5 rfl rfl (by decide)]
theorem rbit_A (c f3 f7 : Int) (i : InsnV) (k : Nat) (hk : k < 32) : (Put (Put (Put (Put (bv c) 7 5 (Part (bv i.rd) 0 5)) 12 3 (Part (bv f3) 0 3)) 15 5 (Part (bv i.rs1) 0 5)) 20 5 (Part (bv i.rs2) 0 5)).getLsbD k = if 20 ≤ k ∧ k < 20 + 5 then (decide ((k - 20) < 5) && (bv i.rs2).getLsbD (0 + (k - 20))) else if 15 ≤ k ∧ k < 15 + 5 then (decide ((k - 15) < 5) && (bv i.rs1).getLsbD (0 + (k - 15))) else if 12 ≤ k ∧ k < 12 + 3 then (decide ((k - 12) < 3) && (bv f3).getLsbD (0 + (k - 12))) else if 7 ≤ k ∧ k < 7 + 5 then (decide ((k - 7) < 5) && (bv i.rd).getLsbD (0 + (k - 7))) else (bv c).getLsbD k := by
  have h64 : k < 64 := by omega
  rw [Put_at _ 20 5 _ _ 20 5 rfl rfl (by decide) h64]
  rw [Put_at _ 15 5 _ _ 15 5 rfl rfl (by decide) h64]
  rw [Put_at _ 12 3 _ _ 12 3 rfl rfl (by decide) h64]
  rw [Put_at _ 7 5 _ _ 7 5 rfl rfl (by decide) h64]
  try rw [Part_at _ 0 5 _ 0 5 rfl rfl (by decide)]
  try rw [Part_at _ 0 5 _ 0 5 rfl rfl (by decide)]
  try rw [Part_at _ 0 3 _ 0 3 rfl rfl (by decide)]
  try rw [Part_at _ 0 5 _ 0 5 rfl rfl (by decide)]
theorem rbit_B (c f3 f7 : Int) (i : InsnV) (k : Nat) (hk : k < 32) : (Put (Put (Put (Put (Put (Put (bv c) 7 5 (Part (bv i.rd) 0 5)) 12 3 (Part (bv f3) 0 3)) 15 5 (Part (bv i.rs1) 0 5)) 20 5 (Part (bv i.rs2) 0 5)) 25 7 (Part (bv f7) 0 7)) 20 5 (Part (bv i.imm) 0 5)).getLsbD k = if 20 ≤ k ∧ k < 20 + 5 then (decide ((k - 20) < 5) && (bv i.imm).getLsbD (0 + (k - 20))) else if 25 ≤ k ∧ k < 25 + 7 then (decide ((k - 25) < 7) && (bv f7).getLsbD (0 + (k - 25))) else if 20 ≤ k ∧ k < 20 + 5 then (decide ((k - 20) < 5) && (bv i.rs2).getLsbD (0 + (k - 20))) else if 15 ≤ k ∧ k < 15 + 5 then (decide ((k - 15) < 5) && (bv i.rs1).getLsbD (0 + (k - 15))) else if 12 ≤ k ∧ k < 12 + 3 then (decide ((k - 12) < 3) && (bv f3).getLsbD (0 + (k - 12))) else if 7 ≤ k ∧ k < 7 + 5 then (decide ((k - 7) < 5) && (bv i.rd).getLsbD (0 + (k - 7))) else (bv c).getLsbD k := by
  have h64 : k < 64 := by omega
  rw [Put_at _ 20 5 _ _ 20 5 rfl rfl (by decide) h64]
  rw [Put_at _ 25 7 _ _ 25 7 rfl rfl (by decide) h64]
  rw [Put_at _ 20 5 _ _ 20 5 rfl rfl (by decide) h64]
  rw [Put_at _ 15 5 _ _ 15 5 rfl rfl (by decide) h64]
  rw [Put_at _ 12 3 _ _ 12 3 rfl rfl (by decide) h64]
  rw [Put_at _ 7 5 _ _ 7 5 rfl rfl (by decide) h64]
  try rw [Part_at _ 0 5 _ 0 5 rfl rfl (by decide)]
  try rw [Part_at _ 0 7 _ 0 7 rfl rfl (by decide)]
  try rw [Part_at _ 0 5 _ 0 5 rfl rfl (by decide)]
  try rw [Part_at _ 0 5 _ 0 5 rfl rfl (by decide)]
  try rw [Part_at _ 0 3 _ 0 3 rfl rfl (by decide)]
  try rw [Part_at _ 0 5 _ 0 5 rfl rfl (by decide)]
theorem rbit_C (c f3 f7 : Int) (X : BitVec 64) (i : InsnV) (k : Nat) (hk : k < 32) : (Put (Put (Put (Put (Put (bv c) 7 5 (Part (bv i.rd) 0 5)) 12 3 (Part (bv f3) 0 3)) 15 5 (Part (bv i.rs1) 0 5)) 20 5 (Part (bv i.rs2) 0 5)) 25 7 (Part X 0 7)).getLsbD k = if 25 ≤ k ∧ k < 25 + 7 then (decide ((k - 25) < 7) && X.getLsbD (0 + (k - 25))) else if 20 ≤ k ∧ k < 20 + 5 then (decide ((k - 20) < 5) && (bv i.rs2).getLsbD (0 + (k - 20))) else if 15 ≤ k ∧ k < 15 + 5 then (decide ((k - 15) < 5) && (bv i.rs1).getLsbD (0 + (k - 15))) else if 12 ≤ k ∧ k < 12 + 3 then (decide ((k - 12) < 3) && (bv f3).getLsbD (0 + (k - 12))) else if 7 ≤ k ∧ k < 7 + 5 then (decide ((k - 7) < 5) && (bv i.rd).getLsbD (0 + (k - 7))) else (bv c).getLsbD k := by
  have h64 : k < 64 := by omega
  rw [Put_at _ 25 7 _ _ 25 7 rfl rfl (by decide) h64]
  rw [Put_at _ 20 5 _ _ 20 5 rfl rfl (by decide) h64]
  rw [Put_at _ 15 5 _ _ 15 5 rfl rfl (by decide) h64]
  rw [Put_at _ 12 3 _ _ 12 3 rfl rfl (by decide) h64]
  rw [Put_at _ 7 5 _ _ 7 5 rfl rfl (by decide) h64]
  try rw [Part_at _ 0 7 _ 0 7 rfl rfl (by decide)]
  try rw [Part_at _ 0 5 _ 0 5 rfl rfl (by decide)]
  try rw [Part_at _ 0 5 _ 0 5 rfl rfl (by decide)]
  try rw [Part_at _ 0 3 _ 0 3 rfl rfl (by decide)]
  try rw [Part_at _ 0 5 _ 0 5 rfl rfl (by decide)]
theorem bv_bit0 (k : Nat) : (bv 0).getLsbD k = false := by rw [bv_z]; simp
theorem same_1 (p : PartV) (s : Bool) (i : InsnV) (h : formOk 1 s i = true) (hc : 0 ≤ p.code ∧ p.code < ((2 ^ 7 : Nat) : Int)) (h7 : 0 ≤ p.f7 ∧ p.f7 < ((2 ^ 7 : Nat) : Int)) (h0 : hasL [7, 11, 12] 1 = true → (bv p.f7).getLsbD 0 = false) (h1 : hasL [11, 12] 1 = true → (bv p.f7).getLsbD 1 = false) : (RWf 1 p.code p.f3 p.f7 i).setWidth 32 = (wordG 1 p i).setWidth 32 := by
  unfold formOk at h
  simp [badIn] at h
  have hc7 : ∀ k, 7 ≤ k → (bv p.code).getLsbD k = false := fun k hk => bv_hi _ 7 k hc.1 hc.2 hk
  have hf7 : ∀ k, 7 ≤ k → (bv p.f7).getLsbD k = false := fun k hk => bv_hi _ 7 k h7.1 h7.2 hk
  apply BitVec.eq_of_getLsbD_eq
  intro k hk
  rw [BitVec.getLsbD_setWidth, BitVec.getLsbD_setWidth, bit_1 p i k hk]
  rw [show RWf 1 p.code p.f3 p.f7 i = Put (Put (Put (Put (Put (bv p.code) 7 5 (Part (bv i.rd) 0 5)) 12 3 (Part (bv p.f3) 0 3)) 15 5 (Part (bv i.rs1) 0 5)) 20 5 (Part (bv i.rs2) 0 5)) 12 20 (bv i.imm) from rfl, rbit_1 p.code p.f3 p.f7 i k hk]
  rcases (show k = 0 ∨ k = 1 ∨ k = 2 ∨ k = 3 ∨ k = 4 ∨ k = 5 ∨ k = 6 ∨ k = 7 ∨ k = 8 ∨ k = 9 ∨ k = 10 ∨ k = 11 ∨ k = 12 ∨ k = 13 ∨ k = 14 ∨ k = 15 ∨ k = 16 ∨ k = 17 ∨ k = 18 ∨ k = 19 ∨ k = 20 ∨ k = 21 ∨ k = 22 ∨ k = 23 ∨ k = 24 ∨ k = 25 ∨ k = 26 ∨ k = 27 ∨ k = 28 ∨ k = 29 ∨ k = 30 ∨ k = 31 by omega) with rfl | rfl | rfl | rfl | rfl | rfl | rfl | rfl | rfl | rfl | rfl | rfl | rfl | rfl | rfl | rfl | rfl | rfl | rfl | rfl | rfl | rfl | rfl | rfl | rfl | rfl | rfl | rfl | rfl | rfl | rfl | rfl
  all_goals simp [-BitVec.getLsbD_eq_getElem, h, bv_z, hc7, hf7, bv_bit0, mk_bit]
theorem same_2 (p : PartV) (s : Bool) (i : InsnV) (h : formOk 2 s i = true) (hc : 0 ≤ p.code ∧ p.code < ((2 ^ 7 : Nat) : Int)) (h7 : 0 ≤ p.f7 ∧ p.f7 < ((2 ^ 7 : Nat) : Int)) (h0 : hasL [7, 11, 12] 2 = true → (bv p.f7).getLsbD 0 = false) (h1 : hasL [11, 12] 2 = true → (bv p.f7).getLsbD 1 = false) : (RWf 2 p.code p.f3 p.f7 i).setWidth 32 = (wordG 2 p i).setWidth 32 := by
  unfold formOk at h
  simp [badIn] at h
  have hc7 : ∀ k, 7 ≤ k → (bv p.code).getLsbD k = false := fun k hk => bv_hi _ 7 k hc.1 hc.2 hk
  have hf7 : ∀ k, 7 ≤ k → (bv p.f7).getLsbD k = false := fun k hk => bv_hi _ 7 k h7.1 h7.2 hk
  apply BitVec.eq_of_getLsbD_eq
  intro k hk
  rw [BitVec.getLsbD_setWidth, BitVec.getLsbD_setWidth, bit_2 p i k hk]
  rw [show RWf 2 p.code p.f3 p.f7 i = Put (Put (Put (Put (Put (Put (Put (Put (bv p.code) 7 5 (Part (bv i.rd) 0 5)) 12 3 (Part (bv p.f3) 0 3)) 15 5 (Part (bv i.rs1) 0 5)) 20 5 (Part (bv i.rs2) 0 5)) 12 8 (Part (bv i.imm) 12 8)) 20 1 (Part (bv i.imm) 11 1)) 21 10 (Part (bv i.imm) 1 10)) 31 1 (Part (bv i.imm) 20 1) from rfl, rbit_2 p.code p.f3 p.f7 i k hk]
  rcases (show k = 0 ∨ k = 1 ∨ k = 2 ∨ k = 3 ∨ k = 4 ∨ k = 5 ∨ k = 6 ∨ k = 7 ∨ k = 8 ∨ k = 9 ∨ k = 10 ∨ k = 11 ∨ k = 12 ∨ k = 13 ∨ k = 14 ∨ k = 15 ∨ k = 16 ∨ k = 17 ∨ k = 18 ∨ k = 19 ∨ k = 20 ∨ k = 21 ∨ k = 22 ∨ k = 23 ∨ k = 24 ∨ k = 25 ∨ k = 26 ∨ k = 27 ∨ k = 28 ∨ k = 29 ∨ k = 30 ∨ k = 31 by omega) with rfl | rfl | rfl | rfl | rfl | rfl | rfl | rfl | rfl | rfl | rfl | rfl | rfl | rfl | rfl | rfl | rfl | rfl | rfl | rfl | rfl | rfl | rfl | rfl | rfl | rfl | rfl | rfl | rfl | rfl | rfl | rfl
  all_goals simp [-BitVec.getLsbD_eq_getElem, h, bv_z, hc7, hf7, bv_bit0, mk_bit]
theorem same_3 (p : PartV) (s : Bool) (i : InsnV) (h : formOk 3 s i = true) (hc : 0 ≤ p.code ∧ p.code < ((2 ^ 7 : Nat) : Int)) (h7 : 0 ≤ p.f7 ∧ p.f7 < ((2 ^ 7 : Nat) : Int)) (h0 : hasL [7, 11, 12] 3 = true → (bv p.f7).getLsbD 0 = false) (h1 : hasL [11, 12] 3 = true → (bv p.f7).getLsbD 1 = false) : (RWf 3 p.code p.f3 p.f7 i).setWidth 32 = (wordG 3 p i).setWidth 32 := by
  unfold formOk at h
  simp [badIn] at h
  have hc7 : ∀ k, 7 ≤ k → (bv p.code).getLsbD k = false := fun k hk => bv_hi _ 7 k hc.1 hc.2 hk
  have hf7 : ∀ k, 7 ≤ k → (bv p.f7).getLsbD k = false := fun k hk => bv_hi _ 7 k h7.1 h7.2 hk
  apply BitVec.eq_of_getLsbD_eq
  intro k hk
  rw [BitVec.getLsbD_setWidth, BitVec.getLsbD_setWidth, bit_3 p i k hk]
  rw [show RWf 3 p.code p.f3 p.f7 i = Put (Put (Put (Put (Put (bv p.code) 7 5 (Part (bv i.rd) 0 5)) 12 3 (Part (bv p.f3) 0 3)) 15 5 (Part (bv i.rs1) 0 5)) 20 5 (Part (bv i.rs2) 0 5)) 20 12 (Part (bv i.imm) 0 12) from rfl, rbit_3 p.code p.f3 p.f7 i k hk]
  rcases (show k = 0 ∨ k = 1 ∨ k = 2 ∨ k = 3 ∨ k = 4 ∨ k = 5 ∨ k = 6 ∨ k = 7 ∨ k = 8 ∨ k = 9 ∨ k = 10 ∨ k = 11 ∨ k = 12 ∨ k = 13 ∨ k = 14 ∨ k = 15 ∨ k = 16 ∨ k = 17 ∨ k = 18 ∨ k = 19 ∨ k = 20 ∨ k = 21 ∨ k = 22 ∨ k = 23 ∨ k = 24 ∨ k = 25 ∨ k = 26 ∨ k = 27 ∨ k = 28 ∨ k = 29 ∨ k = 30 ∨ k = 31 by omega) with rfl | rfl | rfl | rfl | rfl | rfl | rfl | rfl | rfl | rfl | rfl | rfl | rfl | rfl | rfl | rfl | rfl | rfl | rfl | rfl | rfl | rfl | rfl | rfl | rfl | rfl | rfl | rfl | rfl | rfl | rfl | rfl
  all_goals simp [-BitVec.getLsbD_eq_getElem, h, bv_z, hc7, hf7, bv_bit0, mk_bit]
theorem same_4 (p : PartV) (s : Bool) (i : InsnV) (h : formOk 4 s i = true) (hc : 0 ≤ p.code ∧ p.code < ((2 ^ 7 : Nat) : Int)) (h7 : 0 ≤ p.f7 ∧ p.f7 < ((2 ^ 7 : Nat) : Int)) (h0 : hasL [7, 11, 12] 4 = true → (bv p.f7).getLsbD 0 = false) (h1 : hasL [11, 12] 4 = true → (bv p.f7).getLsbD 1 = false) : (RWf 4 p.code p.f3 p.f7 i).setWidth 32 = (wordG 4 p i).setWidth 32 := by
  unfold formOk at h
  simp [badIn] at h
  have hc7 : ∀ k, 7 ≤ k → (bv p.code).getLsbD k = false := fun k hk => bv_hi _ 7 k hc.1 hc.2 hk
  have hf7 : ∀ k, 7 ≤ k → (bv p.f7).getLsbD k = false := fun k hk => bv_hi _ 7 k h7.1 h7.2 hk
  apply BitVec.eq_of_getLsbD_eq
  intro k hk
  rw [BitVec.getLsbD_setWidth, BitVec.getLsbD_setWidth, bit_4 p i k hk]
  rw [show RWf 4 p.code p.f3 p.f7 i = Put (Put (Put (Put (Put (bv p.code) 7 5 (Part (bv i.rd) 0 5)) 12 3 (Part (bv p.f3) 0 3)) 15 5 (Part (bv i.rs1) 0 5)) 20 5 (Part (bv i.rs2) 0 5)) 20 12 (Part (bv i.imm) 0 12) from rfl, rbit_4 p.code p.f3 p.f7 i k hk]
  rcases (show k = 0 ∨ k = 1 ∨ k = 2 ∨ k = 3 ∨ k = 4 ∨ k = 5 ∨ k = 6 ∨ k = 7 ∨ k = 8 ∨ k = 9 ∨ k = 10 ∨ k = 11 ∨ k = 12 ∨ k = 13 ∨ k = 14 ∨ k = 15 ∨ k = 16 ∨ k = 17 ∨ k = 18 ∨ k = 19 ∨ k = 20 ∨ k = 21 ∨ k = 22 ∨ k = 23 ∨ k = 24 ∨ k = 25 ∨ k = 26 ∨ k = 27 ∨ k = 28 ∨ k = 29 ∨ k = 30 ∨ k = 31 by omega) with rfl | rfl | rfl | rfl | rfl | rfl | rfl | rfl | rfl | rfl | rfl | rfl | rfl | rfl | rfl | rfl | rfl | rfl | rfl | rfl | rfl | rfl | rfl | rfl | rfl | rfl | rfl | rfl | rfl | rfl | rfl | rfl
  all_goals simp [-BitVec.getLsbD_eq_getElem, h, bv_z, hc7, hf7, bv_bit0, mk_bit]
theorem same_5 (p : PartV) (s : Bool) (i : InsnV) (h : formOk 5 s i = true) (hc : 0 ≤ p.code ∧ p.code < ((2 ^ 7 : Nat) : Int)) (h7 : 0 ≤ p.f7 ∧ p.f7 < ((2 ^ 7 : Nat) : Int)) (h0 : hasL [7, 11, 12] 5 = true → (bv p.f7).getLsbD 0 = false) (h1 : hasL [11, 12] 5 = true → (bv p.f7).getLsbD 1 = false) : (RWf 5 p.code p.f3 p.f7 i).setWidth 32 = (wordG 5 p i).setWidth 32 := by
  unfold formOk at h
  simp [badIn] at h
  have hc7 : ∀ k, 7 ≤ k → (bv p.code).getLsbD k = false := fun k hk => bv_hi _ 7 k hc.1 hc.2 hk
  have hf7 : ∀ k, 7 ≤ k → (bv p.f7).getLsbD k = false := fun k hk => bv_hi _ 7 k h7.1 h7.2 hk
  apply BitVec.eq_of_getLsbD_eq
  intro k hk
  rw [BitVec.getLsbD_setWidth, BitVec.getLsbD_setWidth, bit_5 p i k hk]
  rw [show RWf 5 p.code p.f3 p.f7 i = Put (Put (Put (Put (Put (Put (bv p.code) 7 5 (Part (bv i.rd) 0 5)) 12 3 (Part (bv p.f3) 0 3)) 15 5 (Part (bv i.rs1) 0 5)) 20 5 (Part (bv i.rs2) 0 5)) 7 5 (Part (bv i.imm) 0 5)) 25 7 (Part (bv i.imm) 5 7) from rfl, rbit_5 p.code p.f3 p.f7 i k hk]
  rcases (show k = 0 ∨ k = 1 ∨ k = 2 ∨ k = 3 ∨ k = 4 ∨ k = 5 ∨ k = 6 ∨ k = 7 ∨ k = 8 ∨ k = 9 ∨ k = 10 ∨ k = 11 ∨ k = 12 ∨ k = 13 ∨ k = 14 ∨ k = 15 ∨ k = 16 ∨ k = 17 ∨ k = 18 ∨ k = 19 ∨ k = 20 ∨ k = 21 ∨ k = 22 ∨ k = 23 ∨ k = 24 ∨ k = 25 ∨ k = 26 ∨ k = 27 ∨ k = 28 ∨ k = 29 ∨ k = 30 ∨ k = 31 by omega) with rfl | rfl | rfl | rfl | rfl | rfl | rfl | rfl | rfl | rfl | rfl | rfl | rfl | rfl | rfl | rfl | rfl | rfl | rfl | rfl | rfl | rfl | rfl | rfl | rfl | rfl | rfl | rfl | rfl | rfl | rfl | rfl
  all_goals simp [-BitVec.getLsbD_eq_getElem, h, bv_z, hc7, hf7, bv_bit0, mk_bit]
theorem same_6 (p : PartV) (s : Bool) (i : InsnV) (h : formOk 6 s i = true) (hc : 0 ≤ p.code ∧ p.code < ((2 ^ 7 : Nat) : Int)) (h7 : 0 ≤ p.f7 ∧ p.f7 < ((2 ^ 7 : Nat) : Int)) (h0 : hasL [7, 11, 12] 6 = true → (bv p.f7).getLsbD 0 = false) (h1 : hasL [11, 12] 6 = true → (bv p.f7).getLsbD 1 = false) : (RWf 6 p.code p.f3 p.f7 i).setWidth 32 = (wordG 6 p i).setWidth 32 := by
  unfold formOk at h
  simp [badIn] at h
  have hc7 : ∀ k, 7 ≤ k → (bv p.code).getLsbD k = false := fun k hk => bv_hi _ 7 k hc.1 hc.2 hk
  have hf7 : ∀ k, 7 ≤ k → (bv p.f7).getLsbD k = false := fun k hk => bv_hi _ 7 k h7.1 h7.2 hk
  apply BitVec.eq_of_getLsbD_eq
  intro k hk
  rw [BitVec.getLsbD_setWidth, BitVec.getLsbD_setWidth, bit_6 p i k hk]
  rw [show RWf 6 p.code p.f3 p.f7 i = Put (Put (Put (Put (Put (Put (Put (Put (bv p.code) 7 5 (Part (bv i.rd) 0 5)) 12 3 (Part (bv p.f3) 0 3)) 15 5 (Part (bv i.rs1) 0 5)) 20 5 (Part (bv i.rs2) 0 5)) 7 1 (Part (bv i.imm) 11 1)) 8 4 (Part (bv i.imm) 1 4)) 25 6 (Part (bv i.imm) 5 6)) 31 1 (Part (bv i.imm) 12 1) from rfl, rbit_6 p.code p.f3 p.f7 i k hk]
  rcases (show k = 0 ∨ k = 1 ∨ k = 2 ∨ k = 3 ∨ k = 4 ∨ k = 5 ∨ k = 6 ∨ k = 7 ∨ k = 8 ∨ k = 9 ∨ k = 10 ∨ k = 11 ∨ k = 12 ∨ k = 13 ∨ k = 14 ∨ k = 15 ∨ k = 16 ∨ k = 17 ∨ k = 18 ∨ k = 19 ∨ k = 20 ∨ k = 21 ∨ k = 22 ∨ k = 23 ∨ k = 24 ∨ k = 25 ∨ k = 26 ∨ k = 27 ∨ k = 28 ∨ k = 29 ∨ k = 30 ∨ k = 31 by omega) with rfl | rfl | rfl | rfl | rfl | rfl | rfl | rfl | rfl | rfl | rfl | rfl | rfl | rfl | rfl | rfl | rfl | rfl | rfl | rfl | rfl | rfl | rfl | rfl | rfl | rfl | rfl | rfl | rfl | rfl | rfl | rfl
  all_goals simp [-BitVec.getLsbD_eq_getElem, h, bv_z, hc7, hf7, bv_bit0, mk_bit]
theorem same_8 (p : PartV) (s : Bool) (i : InsnV) (h : formOk 8 s i = true) (hc : 0 ≤ p.code ∧ p.code < ((2 ^ 7 : Nat) : Int)) (h7 : 0 ≤ p.f7 ∧ p.f7 < ((2 ^ 7 : Nat) : Int)) (h0 : hasL [7, 11, 12] 8 = true → (bv p.f7).getLsbD 0 = false) (h1 : hasL [11, 12] 8 = true → (bv p.f7).getLsbD 1 = false) : (RWf 8 p.code p.f3 p.f7 i).setWidth 32 = (wordG 8 p i).setWidth 32 := by
  unfold formOk at h
  simp [badIn] at h
  have hc7 : ∀ k, 7 ≤ k → (bv p.code).getLsbD k = false := fun k hk => bv_hi _ 7 k hc.1 hc.2 hk
  have hf7 : ∀ k, 7 ≤ k → (bv p.f7).getLsbD k = false := fun k hk => bv_hi _ 7 k h7.1 h7.2 hk
  apply BitVec.eq_of_getLsbD_eq
  intro k hk
  rw [BitVec.getLsbD_setWidth, BitVec.getLsbD_setWidth, bit_8 p i k hk]
  rw [show RWf 8 p.code p.f3 p.f7 i = Put (Put (Put (Put (Put (bv p.code) 7 5 (Part (bv i.rd) 0 5)) 12 3 (Part (bv p.f3) 0 3)) 15 5 (Part (bv i.rs1) 0 5)) 20 5 (Part (bv i.rs2) 0 5)) 25 7 (Part (bv p.f7) 0 7) from rfl, rbit_8 p.code p.f3 p.f7 i k hk]
  rcases (show k = 0 ∨ k = 1 ∨ k = 2 ∨ k = 3 ∨ k = 4 ∨ k = 5 ∨ k = 6 ∨ k = 7 ∨ k = 8 ∨ k = 9 ∨ k = 10 ∨ k = 11 ∨ k = 12 ∨ k = 13 ∨ k = 14 ∨ k = 15 ∨ k = 16 ∨ k = 17 ∨ k = 18 ∨ k = 19 ∨ k = 20 ∨ k = 21 ∨ k = 22 ∨ k = 23 ∨ k = 24 ∨ k = 25 ∨ k = 26 ∨ k = 27 ∨ k = 28 ∨ k = 29 ∨ k = 30 ∨ k = 31 by omega) with rfl | rfl | rfl | rfl | rfl | rfl | rfl | rfl | rfl | rfl | rfl | rfl | rfl | rfl | rfl | rfl | rfl | rfl | rfl | rfl | rfl | rfl | rfl | rfl | rfl | rfl | rfl | rfl | rfl | rfl | rfl | rfl
  all_goals simp [-BitVec.getLsbD_eq_getElem, h, bv_z, hc7, hf7, bv_bit0, mk_bit]
theorem same_9 (p : PartV) (s : Bool) (i : InsnV) (h : formOk 9 s i = true) (hc : 0 ≤ p.code ∧ p.code < ((2 ^ 7 : Nat) : Int)) (h7 : 0 ≤ p.f7 ∧ p.f7 < ((2 ^ 7 : Nat) : Int)) (h0 : hasL [7, 11, 12] 9 = true → (bv p.f7).getLsbD 0 = false) (h1 : hasL [11, 12] 9 = true → (bv p.f7).getLsbD 1 = false) : (RWf 9 p.code p.f3 p.f7 i).setWidth 32 = (wordG 9 p i).setWidth 32 := by
  unfold formOk at h
  simp [badIn] at h
  have hc7 : ∀ k, 7 ≤ k → (bv p.code).getLsbD k = false := fun k hk => bv_hi _ 7 k hc.1 hc.2 hk
  have hf7 : ∀ k, 7 ≤ k → (bv p.f7).getLsbD k = false := fun k hk => bv_hi _ 7 k h7.1 h7.2 hk
  apply BitVec.eq_of_getLsbD_eq
  intro k hk
  rw [BitVec.getLsbD_setWidth, BitVec.getLsbD_setWidth, bit_9 p i k hk]
  rw [show RWf 9 p.code p.f3 p.f7 i = Put (Put (Put (Put (Put (Put (bv p.code) 7 5 (Part (bv i.rd) 0 5)) 12 3 (Part (bv p.f3) 0 3)) 15 5 (Part (bv i.rs1) 0 5)) 20 5 (Part (bv i.rs2) 0 5)) 20 4 (Part (bv i.succ) 0 4)) 24 4 (Part (bv i.pred) 0 4) from rfl, rbit_9 p.code p.f3 p.f7 i k hk]
  rcases (show k = 0 ∨ k = 1 ∨ k = 2 ∨ k = 3 ∨ k = 4 ∨ k = 5 ∨ k = 6 ∨ k = 7 ∨ k = 8 ∨ k = 9 ∨ k = 10 ∨ k = 11 ∨ k = 12 ∨ k = 13 ∨ k = 14 ∨ k = 15 ∨ k = 16 ∨ k = 17 ∨ k = 18 ∨ k = 19 ∨ k = 20 ∨ k = 21 ∨ k = 22 ∨ k = 23 ∨ k = 24 ∨ k = 25 ∨ k = 26 ∨ k = 27 ∨ k = 28 ∨ k = 29 ∨ k = 30 ∨ k = 31 by omega) with rfl | rfl | rfl | rfl | rfl | rfl | rfl | rfl | rfl | rfl | rfl | rfl | rfl | rfl | rfl | rfl | rfl | rfl | rfl | rfl | rfl | rfl | rfl | rfl | rfl | rfl | rfl | rfl | rfl | rfl | rfl | rfl
  all_goals simp [-BitVec.getLsbD_eq_getElem, h, bv_z, hc7, hf7, bv_bit0, mk_bit]
theorem same_10 (p : PartV) (s : Bool) (i : InsnV) (h : formOk 10 s i = true) (hc : 0 ≤ p.code ∧ p.code < ((2 ^ 7 : Nat) : Int)) (h7 : 0 ≤ p.f7 ∧ p.f7 < ((2 ^ 7 : Nat) : Int)) (h0 : hasL [7, 11, 12] 10 = true → (bv p.f7).getLsbD 0 = false) (h1 : hasL [11, 12] 10 = true → (bv p.f7).getLsbD 1 = false) : (RWf 10 p.code p.f3 p.f7 i).setWidth 32 = (wordG 10 p i).setWidth 32 := by
  unfold formOk at h
  simp [badIn] at h
  have hc7 : ∀ k, 7 ≤ k → (bv p.code).getLsbD k = false := fun k hk => bv_hi _ 7 k hc.1 hc.2 hk
  have hf7 : ∀ k, 7 ≤ k → (bv p.f7).getLsbD k = false := fun k hk => bv_hi _ 7 k h7.1 h7.2 hk
  have e : RWf 10 p.code p.f3 p.f7 i = Put (Put (Put (Put (bv p.code) 7 5 (Part (bv i.rd) 0 5)) 12 3 (Part (bv p.f3) 0 3)) 15 5 (Part (bv i.rs1) 0 5)) 20 5 (Part (bv i.rs2) 0 5) ||| mk64 (i.op == 65) <<< 20 := by
    show Put (Put (Put (Put (bv p.code) 7 5 (Part (bv i.rd) 0 5)) 12 3 (Part (bv p.f3) 0 3)) 15 5 (Part (bv i.rs1) 0 5)) 20 5 (Part (bv i.rs2) 0 5) + mk64 (i.op == 65) <<< 20 = _
    refine BitVec.add_eq_or_of_and_eq_zero _ _ ?_
    apply BitVec.eq_of_getLsbD_eq
    intro k hk
    rw [BitVec.getLsbD_and, BitVec.getLsbD_shiftLeft, mk_bit]
    by_cases h20 : k = 20
    · subst h20
      rw [rbit_A p.code p.f3 p.f7 i 20 (by decide)]
      simp [-BitVec.getLsbD_eq_getElem, h, bv_z, bv_bit0]
    · by_cases hk2 : k < 20
      · simp [hk2]
      · simp [show ¬ k - 20 = 0 by omega]
  rw [e]
  apply BitVec.eq_of_getLsbD_eq
  intro k hk
  rw [BitVec.getLsbD_setWidth, BitVec.getLsbD_setWidth, bit_10 p i k hk]
  rw [BitVec.getLsbD_or, rbit_A p.code p.f3 p.f7 i k hk, BitVec.getLsbD_shiftLeft]
  rcases (show k = 0 ∨ k = 1 ∨ k = 2 ∨ k = 3 ∨ k = 4 ∨ k = 5 ∨ k = 6 ∨ k = 7 ∨ k = 8 ∨ k = 9 ∨ k = 10 ∨ k = 11 ∨ k = 12 ∨ k = 13 ∨ k = 14 ∨ k = 15 ∨ k = 16 ∨ k = 17 ∨ k = 18 ∨ k = 19 ∨ k = 20 ∨ k = 21 ∨ k = 22 ∨ k = 23 ∨ k = 24 ∨ k = 25 ∨ k = 26 ∨ k = 27 ∨ k = 28 ∨ k = 29 ∨ k = 30 ∨ k = 31 by omega) with rfl | rfl | rfl | rfl | rfl | rfl | rfl | rfl | rfl | rfl | rfl | rfl | rfl | rfl | rfl | rfl | rfl | rfl | rfl | rfl | rfl | rfl | rfl | rfl | rfl | rfl | rfl | rfl | rfl | rfl | rfl | rfl
  all_goals simp [-BitVec.getLsbD_eq_getElem, h, bv_z, hc7, hf7, bv_bit0, mk_bit]
theorem six_bit : ((List.range 64).all fun m => (bv (m : Nat)).getLsbD 5 == decide (31 < m)) = true := by decide +kernel
theorem bit_25 (k : Nat) : (33554432#64).getLsbD k = decide (k = 25) := by
  by_cases h : k < 64
  · have : ∀ j : Fin 64, (33554432#64).getLsbD j.1 = decide (j.1 = 25) := by decide +kernel
    exact this ⟨k, h⟩
  · rw [BitVec.getLsbD_of_ge _ _ (by omega)]; simp; omega
theorem same_7 (p : PartV) (s : Bool) (i : InsnV) (h : formOk 7 s i = true) (hc : 0 ≤ p.code ∧ p.code < ((2 ^ 7 : Nat) : Int)) (h7 : 0 ≤ p.f7 ∧ p.f7 < ((2 ^ 7 : Nat) : Int)) (h0 : hasL [7, 11, 12] 7 = true → (bv p.f7).getLsbD 0 = false) (h1 : hasL [11, 12] 7 = true → (bv p.f7).getLsbD 1 = false) : (RWf 7 p.code p.f3 p.f7 i).setWidth 32 = (wordG 7 p i).setWidth 32 := by
  unfold formOk at h
  simp [badIn] at h
  have hc7 : ∀ k, 7 ≤ k → (bv p.code).getLsbD k = false := fun k hk => bv_hi _ 7 k hc.1 hc.2 hk
  have hf7 : ∀ k, 7 ≤ k → (bv p.f7).getLsbD k = false := fun k hk => bv_hi _ 7 k h7.1 h7.2 hk
  have hb0 := h0 (by decide)
  obtain ⟨m, hm⟩ : ∃ m : Nat, i.imm = (m : Int) := ⟨i.imm.toNat, by omega⟩
  have hm64 : m < 64 := by omega
  have h5 : (bv i.imm).getLsbD 5 = decide (31 < m) := by
    rw [hm]
    have := List.all_eq_true.1 six_bit m (List.mem_range.2 hm64)
    simpa using this
  have h6 : ∀ k, 6 ≤ k → (bv i.imm).getLsbD k = false := fun k hk => bv_hi _ 6 k (by omega) (by show i.imm < 64; omega) hk
  have hun : un (bv i.imm) = (m : Int) := by rw [hm]; exact un_bv _ (by omega)
  by_cases h31 : 31 < m
  · have e : RWf 7 p.code p.f3 p.f7 i = Put (Put (Put (Put (Put (Put (bv p.code) 7 5 (Part (bv i.rd) 0 5)) 12 3 (Part (bv p.f3) 0 3)) 15 5 (Part (bv i.rs1) 0 5)) 20 5 (Part (bv i.rs2) 0 5)) 25 7 (Part (bv p.f7) 0 7)) 20 5 (Part (bv i.imm) 0 5) ||| 33554432#64 := by
      show (if 31 < un (bv i.imm) then Put (Put (Put (Put (Put (Put (bv p.code) 7 5 (Part (bv i.rd) 0 5)) 12 3 (Part (bv p.f3) 0 3)) 15 5 (Part (bv i.rs1) 0 5)) 20 5 (Part (bv i.rs2) 0 5)) 25 7 (Part (bv p.f7) 0 7)) 20 5 (Part (bv i.imm) 0 5) + 33554432#64 else Put (Put (Put (Put (Put (Put (bv p.code) 7 5 (Part (bv i.rd) 0 5)) 12 3 (Part (bv p.f3) 0 3)) 15 5 (Part (bv i.rs1) 0 5)) 20 5 (Part (bv i.rs2) 0 5)) 25 7 (Part (bv p.f7) 0 7)) 20 5 (Part (bv i.imm) 0 5)) = _
      rw [if_pos (by rw [hun]; omega)]
      refine BitVec.add_eq_or_of_and_eq_zero _ _ ?_
      apply BitVec.eq_of_getLsbD_eq
      intro k hk
      rw [BitVec.getLsbD_and, bit_25]
      by_cases h25 : k = 25
      · subst h25
        rw [rbit_B p.code p.f3 p.f7 i 25 (by decide)]
        simp [-BitVec.getLsbD_eq_getElem, hb0]
      · simp [h25]
    rw [e]
    simp only [h31, decide_true] at h5
    apply BitVec.eq_of_getLsbD_eq
    intro k hk
    rw [BitVec.getLsbD_setWidth, BitVec.getLsbD_setWidth, bit_7 p i k hk]
    rw [BitVec.getLsbD_or, rbit_B p.code p.f3 p.f7 i k hk, bit_25]
    rcases (show k = 0 ∨ k = 1 ∨ k = 2 ∨ k = 3 ∨ k = 4 ∨ k = 5 ∨ k = 6 ∨ k = 7 ∨ k = 8 ∨ k = 9 ∨ k = 10 ∨ k = 11 ∨ k = 12 ∨ k = 13 ∨ k = 14 ∨ k = 15 ∨ k = 16 ∨ k = 17 ∨ k = 18 ∨ k = 19 ∨ k = 20 ∨ k = 21 ∨ k = 22 ∨ k = 23 ∨ k = 24 ∨ k = 25 ∨ k = 26 ∨ k = 27 ∨ k = 28 ∨ k = 29 ∨ k = 30 ∨ k = 31 by omega) with rfl | rfl | rfl | rfl | rfl | rfl | rfl | rfl | rfl | rfl | rfl | rfl | rfl | rfl | rfl | rfl | rfl | rfl | rfl | rfl | rfl | rfl | rfl | rfl | rfl | rfl | rfl | rfl | rfl | rfl | rfl | rfl
    all_goals simp [-BitVec.getLsbD_eq_getElem, h, bv_z, hc7, hf7, bv_bit0, mk_bit, hb0, h5, h6]
  · have e : RWf 7 p.code p.f3 p.f7 i = Put (Put (Put (Put (Put (Put (bv p.code) 7 5 (Part (bv i.rd) 0 5)) 12 3 (Part (bv p.f3) 0 3)) 15 5 (Part (bv i.rs1) 0 5)) 20 5 (Part (bv i.rs2) 0 5)) 25 7 (Part (bv p.f7) 0 7)) 20 5 (Part (bv i.imm) 0 5) := by
      show (if 31 < un (bv i.imm) then Put (Put (Put (Put (Put (Put (bv p.code) 7 5 (Part (bv i.rd) 0 5)) 12 3 (Part (bv p.f3) 0 3)) 15 5 (Part (bv i.rs1) 0 5)) 20 5 (Part (bv i.rs2) 0 5)) 25 7 (Part (bv p.f7) 0 7)) 20 5 (Part (bv i.imm) 0 5) + 33554432#64 else Put (Put (Put (Put (Put (Put (bv p.code) 7 5 (Part (bv i.rd) 0 5)) 12 3 (Part (bv p.f3) 0 3)) 15 5 (Part (bv i.rs1) 0 5)) 20 5 (Part (bv i.rs2) 0 5)) 25 7 (Part (bv p.f7) 0 7)) 20 5 (Part (bv i.imm) 0 5)) = _
      rw [if_neg (by rw [hun]; omega)]
    rw [e]
    simp only [h31, decide_false] at h5
    apply BitVec.eq_of_getLsbD_eq
    intro k hk
    rw [BitVec.getLsbD_setWidth, BitVec.getLsbD_setWidth, bit_7 p i k hk]
    rw [rbit_B p.code p.f3 p.f7 i k hk]
    rcases (show k = 0 ∨ k = 1 ∨ k = 2 ∨ k = 3 ∨ k = 4 ∨ k = 5 ∨ k = 6 ∨ k = 7 ∨ k = 8 ∨ k = 9 ∨ k = 10 ∨ k = 11 ∨ k = 12 ∨ k = 13 ∨ k = 14 ∨ k = 15 ∨ k = 16 ∨ k = 17 ∨ k = 18 ∨ k = 19 ∨ k = 20 ∨ k = 21 ∨ k = 22 ∨ k = 23 ∨ k = 24 ∨ k = 25 ∨ k = 26 ∨ k = 27 ∨ k = 28 ∨ k = 29 ∨ k = 30 ∨ k = 31 by omega) with rfl | rfl | rfl | rfl | rfl | rfl | rfl | rfl | rfl | rfl | rfl | rfl | rfl | rfl | rfl | rfl | rfl | rfl | rfl | rfl | rfl | rfl | rfl | rfl | rfl | rfl | rfl | rfl | rfl | rfl | rfl | rfl
    all_goals simp [-BitVec.getLsbD_eq_getElem, h, bv_z, hc7, hf7, bv_bit0, mk_bit, hb0, h5, h6]
theorem marks_or : ((List.range 128).all fun m => (bv (m : Nat)).getLsbD 0 || (bv (m : Nat)).getLsbD 1 || ([true, false].all fun a => [true, false].all fun r => bv (m : Nat) + 2#64 * mk64 a + mk64 r == (bv (m : Nat) ||| mk64 a <<< 1 ||| mk64 r))) = true := by decide +kernel
theorem same_11 (p : PartV) (s : Bool) (i : InsnV) (h : formOk 11 s i = true) (hc : 0 ≤ p.code ∧ p.code < ((2 ^ 7 : Nat) : Int)) (h7 : 0 ≤ p.f7 ∧ p.f7 < ((2 ^ 7 : Nat) : Int)) (h0 : hasL [7, 11, 12] 11 = true → (bv p.f7).getLsbD 0 = false) (h1 : hasL [11, 12] 11 = true → (bv p.f7).getLsbD 1 = false) : (RWf 11 p.code p.f3 p.f7 i).setWidth 32 = (wordG 11 p i).setWidth 32 := by
  unfold formOk at h
  simp [badIn] at h
  have hc7 : ∀ k, 7 ≤ k → (bv p.code).getLsbD k = false := fun k hk => bv_hi _ 7 k hc.1 hc.2 hk
  have hf7 : ∀ k, 7 ≤ k → (bv p.f7).getLsbD k = false := fun k hk => bv_hi _ 7 k h7.1 h7.2 hk
  have hb0 := h0 (by decide)
  have hb1 := h1 (by decide)
  obtain ⟨m, hm⟩ : ∃ m : Nat, p.f7 = (m : Int) := ⟨p.f7.toNat, by omega⟩
  have hx : bv p.f7 + 2#64 * mk64 i.aq + mk64 i.rl = bv p.f7 ||| mk64 i.aq <<< 1 ||| mk64 i.rl := by
    have := List.all_eq_true.1 marks_or m (List.mem_range.2 (by have := h7.2; rw [hm] at this; omega))
    rw [← hm, hb0, hb1] at this
    simp only [Bool.false_or, List.all_cons, List.all_nil, Bool.and_true, Bool.and_eq_true, beq_iff_eq] at this
    cases i.aq <;> cases i.rl <;> simp only [this]
  have e : RWf 11 p.code p.f3 p.f7 i = Put (Put (Put (Put (Put (bv p.code) 7 5 (Part (bv i.rd) 0 5)) 12 3 (Part (bv p.f3) 0 3)) 15 5 (Part (bv i.rs1) 0 5)) 20 5 (Part (bv i.rs2) 0 5)) 25 7 (Part (bv p.f7 ||| mk64 i.aq <<< 1 ||| mk64 i.rl) 0 7) := by
    rw [← hx]; rfl
  rw [e]
  apply BitVec.eq_of_getLsbD_eq
  intro k hk
  rw [BitVec.getLsbD_setWidth, BitVec.getLsbD_setWidth, bit_11 p i k hk]
  rw [rbit_C p.code p.f3 p.f7 _ i k hk]
  rcases (show k = 0 ∨ k = 1 ∨ k = 2 ∨ k = 3 ∨ k = 4 ∨ k = 5 ∨ k = 6 ∨ k = 7 ∨ k = 8 ∨ k = 9 ∨ k = 10 ∨ k = 11 ∨ k = 12 ∨ k = 13 ∨ k = 14 ∨ k = 15 ∨ k = 16 ∨ k = 17 ∨ k = 18 ∨ k = 19 ∨ k = 20 ∨ k = 21 ∨ k = 22 ∨ k = 23 ∨ k = 24 ∨ k = 25 ∨ k = 26 ∨ k = 27 ∨ k = 28 ∨ k = 29 ∨ k = 30 ∨ k = 31 by omega) with rfl | rfl | rfl | rfl | rfl | rfl | rfl | rfl | rfl | rfl | rfl | rfl | rfl | rfl | rfl | rfl | rfl | rfl | rfl | rfl | rfl | rfl | rfl | rfl | rfl | rfl | rfl | rfl | rfl | rfl | rfl | rfl
  all_goals simp [-BitVec.getLsbD_eq_getElem, h, bv_z, hc7, hf7, bv_bit0, mk_bit, hb0, hb1]
theorem same_12 (p : PartV) (s : Bool) (i : InsnV) (h : formOk 12 s i = true) (hc : 0 ≤ p.code ∧ p.code < ((2 ^ 7 : Nat) : Int)) (h7 : 0 ≤ p.f7 ∧ p.f7 < ((2 ^ 7 : Nat) : Int)) (h0 : hasL [7, 11, 12] 12 = true → (bv p.f7).getLsbD 0 = false) (h1 : hasL [11, 12] 12 = true → (bv p.f7).getLsbD 1 = false) : (RWf 12 p.code p.f3 p.f7 i).setWidth 32 = (wordG 12 p i).setWidth 32 := by
  unfold formOk at h
  simp [badIn] at h
  have hc7 : ∀ k, 7 ≤ k → (bv p.code).getLsbD k = false := fun k hk => bv_hi _ 7 k hc.1 hc.2 hk
  have hf7 : ∀ k, 7 ≤ k → (bv p.f7).getLsbD k = false := fun k hk => bv_hi _ 7 k h7.1 h7.2 hk
  have hb0 := h0 (by decide)
  have hb1 := h1 (by decide)
  obtain ⟨m, hm⟩ : ∃ m : Nat, p.f7 = (m : Int) := ⟨p.f7.toNat, by omega⟩
  have hx : bv p.f7 + 2#64 * mk64 i.aq + mk64 i.rl = bv p.f7 ||| mk64 i.aq <<< 1 ||| mk64 i.rl := by
    have := List.all_eq_true.1 marks_or m (List.mem_range.2 (by have := h7.2; rw [hm] at this; omega))
    rw [← hm, hb0, hb1] at this
    simp only [Bool.false_or, List.all_cons, List.all_nil, Bool.and_true, Bool.and_eq_true, beq_iff_eq] at this
    cases i.aq <;> cases i.rl <;> simp only [this]
  have e : RWf 12 p.code p.f3 p.f7 i = Put (Put (Put (Put (Put (bv p.code) 7 5 (Part (bv i.rd) 0 5)) 12 3 (Part (bv p.f3) 0 3)) 15 5 (Part (bv i.rs1) 0 5)) 20 5 (Part (bv i.rs2) 0 5)) 25 7 (Part (bv p.f7 ||| mk64 i.aq <<< 1 ||| mk64 i.rl) 0 7) := by
    rw [← hx]; rfl
  rw [e]
  apply BitVec.eq_of_getLsbD_eq
  intro k hk
  rw [BitVec.getLsbD_setWidth, BitVec.getLsbD_setWidth, bit_12 p i k hk]
  rw [rbit_C p.code p.f3 p.f7 _ i k hk]
  rcases (show k = 0 ∨ k = 1 ∨ k = 2 ∨ k = 3 ∨ k = 4 ∨ k = 5 ∨ k = 6 ∨ k = 7 ∨ k = 8 ∨ k = 9 ∨ k = 10 ∨ k = 11 ∨ k = 12 ∨ k = 13 ∨ k = 14 ∨ k = 15 ∨ k = 16 ∨ k = 17 ∨ k = 18 ∨ k = 19 ∨ k = 20 ∨ k = 21 ∨ k = 22 ∨ k = 23 ∨ k = 24 ∨ k = 25 ∨ k = 26 ∨ k = 27 ∨ k = 28 ∨ k = 29 ∨ k = 30 ∨ k = 31 by omega) with rfl | rfl | rfl | rfl | rfl | rfl | rfl | rfl | rfl | rfl | rfl | rfl | rfl | rfl | rfl | rfl | rfl | rfl | rfl | rfl | rfl | rfl | rfl | rfl | rfl | rfl | rfl | rfl | rfl | rfl | rfl | rfl
  all_goals simp [-BitVec.getLsbD_eq_getElem, h, bv_z, hc7, hf7, bv_bit0, mk_bit, hb0, hb1]
theorem parts_eq (op : Int) (h1 : 1 ≤ op) (h87 : op ≤ 87) : (madeT op).code = rcode op ∧ (madeT op).f3 = rthree op ∧ (madeT op).f7 = rseven op := by
  obtain ⟨m, rfl, hm1, hm⟩ := nat_op op h1 h87
  have := List.all_eq_true.1 parts_same m (List.mem_range.2 hm)
  simp only [Bool.and_eq_true, Bool.or_eq_true, beq_iff_eq] at this
  rcases this with h0 | ⟨⟨a, b⟩, c⟩
  · omega
  · exact ⟨a, b, c⟩
/-- The document's word is the program's. -/
theorem word_same (i : InsnV) : wordR i = wordV i := by
  unfold wordR wordV wordT
  by_cases hc : checkE i = 0
  · rw [if_pos hc, if_pos hc]
    obtain ⟨-, -, -, -, -, -, f1, f12⟩ := ok_facts i hc
    obtain ⟨o1, o87⟩ := ok_op i hc
    obtain ⟨p1, p2, p3, p4, p5, p6, p7⟩ := parts_op i.op o1 o87
    have hk := ok_form i hc
    obtain ⟨e1, e2, e3⟩ := parts_eq i.op o1 o87
    rw [← e1, ← e2, ← e3]
    generalize (opOf i.op).form = f at *
    generalize madeT i.op = p at *
    generalize shortName (opOf i.op).name = s at *
    rcases (show f = 1 ∨ f = 2 ∨ f = 3 ∨ f = 4 ∨ f = 5 ∨ f = 6 ∨ f = 7 ∨ f = 8 ∨ f = 9 ∨ f = 10 ∨ f = 11 ∨ f = 12 by omega) with rfl | rfl | rfl | rfl | rfl | rfl | rfl | rfl | rfl | rfl | rfl | rfl
    · exact same_1 p s i hk ⟨p3, p4⟩ ⟨p1, p2⟩ (fun h => absurd h (by decide)) (fun h => absurd h (by decide))
    · exact same_2 p s i hk ⟨p3, p4⟩ ⟨p1, p2⟩ (fun h => absurd h (by decide)) (fun h => absurd h (by decide))
    · exact same_3 p s i hk ⟨p3, p4⟩ ⟨p1, p2⟩ (fun h => absurd h (by decide)) (fun h => absurd h (by decide))
    · exact same_4 p s i hk ⟨p3, p4⟩ ⟨p1, p2⟩ (fun h => absurd h (by decide)) (fun h => absurd h (by decide))
    · exact same_5 p s i hk ⟨p3, p4⟩ ⟨p1, p2⟩ (fun h => absurd h (by decide)) (fun h => absurd h (by decide))
    · exact same_6 p s i hk ⟨p3, p4⟩ ⟨p1, p2⟩ (fun h => absurd h (by decide)) (fun h => absurd h (by decide))
    · exact same_7 p s i hk ⟨p3, p4⟩ ⟨p1, p2⟩ (fun _ => low_bit0 _ (p6 rfl)) (fun h => absurd h (by decide))
    · exact same_8 p s i hk ⟨p3, p4⟩ ⟨p1, p2⟩ (fun h => absurd h (by decide)) (fun h => absurd h (by decide))
    · exact same_9 p s i hk ⟨p3, p4⟩ ⟨p1, p2⟩ (fun h => absurd h (by decide)) (fun h => absurd h (by decide))
    · exact same_10 p s i hk ⟨p3, p4⟩ ⟨p1, p2⟩ (fun h => absurd h (by decide)) (fun h => absurd h (by decide))
    · exact same_11 p s i hk ⟨p3, p4⟩ ⟨p1, p2⟩ (fun _ => (low_bit1 _ (p7 (.inl rfl))).1) (fun _ => (low_bit1 _ (p7 (.inl rfl))).2)
    · exact same_12 p s i hk ⟨p3, p4⟩ ⟨p1, p2⟩ (fun _ => (low_bit1 _ (p7 (.inr rfl))).1) (fun _ => (low_bit1 _ (p7 (.inr rfl))).2)
  · rw [if_neg hc, if_neg hc]
theorem like_J (X : BitVec 64) : (Part X 31 1 <<< (20 : Nat)) + (Part X 12 8 <<< (12 : Nat)) + (Part X 20 1 <<< (11 : Nat)) + (Part X 21 10 <<< (1 : Nat)) = immGet X (pieces 2) (pieces 2).length := by
  have e1 : ((Part X 31 1 <<< (20 : Nat))) + (Part X 12 8 <<< (12 : Nat)) = ((Part X 31 1 <<< (20 : Nat))) ||| (Part X 12 8 <<< (12 : Nat)) := by
    refine BitVec.add_eq_or_of_and_eq_zero _ _ ?_
    apply BitVec.eq_of_getLsbD_eq
    intro k hk
    simp only [BitVec.getLsbD_and, BitVec.getLsbD_or, BitVec.getLsbD_zero]
    rw [piece_bit X 31 1 20 k 31 1 rfl rfl (by decide)]
    rw [piece_bit X 12 8 12 k 12 8 rfl rfl (by decide)]
    rcases (show k = 0 ∨ k = 1 ∨ k = 2 ∨ k = 3 ∨ k = 4 ∨ k = 5 ∨ k = 6 ∨ k = 7 ∨ k = 8 ∨ k = 9 ∨ k = 10 ∨ k = 11 ∨ k = 12 ∨ k = 13 ∨ k = 14 ∨ k = 15 ∨ k = 16 ∨ k = 17 ∨ k = 18 ∨ k = 19 ∨ k = 20 ∨ k = 21 ∨ 22 ≤ k by omega) with rfl | rfl | rfl | rfl | rfl | rfl | rfl | rfl | rfl | rfl | rfl | rfl | rfl | rfl | rfl | rfl | rfl | rfl | rfl | rfl | rfl | rfl | hk2
    all_goals first | (simp; done) | (simp; intros; omega)
  have e2 : (((Part X 31 1 <<< (20 : Nat))) ||| (Part X 12 8 <<< (12 : Nat))) + (Part X 20 1 <<< (11 : Nat)) = (((Part X 31 1 <<< (20 : Nat))) ||| (Part X 12 8 <<< (12 : Nat))) ||| (Part X 20 1 <<< (11 : Nat)) := by
    refine BitVec.add_eq_or_of_and_eq_zero _ _ ?_
    apply BitVec.eq_of_getLsbD_eq
    intro k hk
    simp only [BitVec.getLsbD_and, BitVec.getLsbD_or, BitVec.getLsbD_zero]
    rw [piece_bit X 31 1 20 k 31 1 rfl rfl (by decide)]
    rw [piece_bit X 12 8 12 k 12 8 rfl rfl (by decide)]
    rw [piece_bit X 20 1 11 k 20 1 rfl rfl (by decide)]
    rcases (show k = 0 ∨ k = 1 ∨ k = 2 ∨ k = 3 ∨ k = 4 ∨ k = 5 ∨ k = 6 ∨ k = 7 ∨ k = 8 ∨ k = 9 ∨ k = 10 ∨ k = 11 ∨ k = 12 ∨ k = 13 ∨ k = 14 ∨ k = 15 ∨ k = 16 ∨ k = 17 ∨ k = 18 ∨ k = 19 ∨ k = 20 ∨ k = 21 ∨ 22 ≤ k by omega) with rfl | rfl | rfl | rfl | rfl | rfl | rfl | rfl | rfl | rfl | rfl | rfl | rfl | rfl | rfl | rfl | rfl | rfl | rfl | rfl | rfl | rfl | hk2
    all_goals first | (simp; done) | (simp; intros; omega)
  have e3 : ((((Part X 31 1 <<< (20 : Nat))) ||| (Part X 12 8 <<< (12 : Nat))) ||| (Part X 20 1 <<< (11 : Nat))) + (Part X 21 10 <<< (1 : Nat)) = ((((Part X 31 1 <<< (20 : Nat))) ||| (Part X 12 8 <<< (12 : Nat))) ||| (Part X 20 1 <<< (11 : Nat))) ||| (Part X 21 10 <<< (1 : Nat)) := by
    refine BitVec.add_eq_or_of_and_eq_zero _ _ ?_
    apply BitVec.eq_of_getLsbD_eq
    intro k hk
    simp only [BitVec.getLsbD_and, BitVec.getLsbD_or, BitVec.getLsbD_zero]
    rw [piece_bit X 31 1 20 k 31 1 rfl rfl (by decide)]
    rw [piece_bit X 12 8 12 k 12 8 rfl rfl (by decide)]
    rw [piece_bit X 20 1 11 k 20 1 rfl rfl (by decide)]
    rw [piece_bit X 21 10 1 k 21 10 rfl rfl (by decide)]
    rcases (show k = 0 ∨ k = 1 ∨ k = 2 ∨ k = 3 ∨ k = 4 ∨ k = 5 ∨ k = 6 ∨ k = 7 ∨ k = 8 ∨ k = 9 ∨ k = 10 ∨ k = 11 ∨ k = 12 ∨ k = 13 ∨ k = 14 ∨ k = 15 ∨ k = 16 ∨ k = 17 ∨ k = 18 ∨ k = 19 ∨ k = 20 ∨ k = 21 ∨ 22 ≤ k by omega) with rfl | rfl | rfl | rfl | rfl | rfl | rfl | rfl | rfl | rfl | rfl | rfl | rfl | rfl | rfl | rfl | rfl | rfl | rfl | rfl | rfl | rfl | hk2
    all_goals first | (simp; done) | (simp; intros; omega)
  rw [e1, e2, e3]
  show _ = 0#64 ||| Part X 12 8 <<< (12 : Nat) ||| Part X 20 1 <<< (11 : Nat) ||| Part X 21 10 <<< (1 : Nat) ||| Part X 31 1 <<< (20 : Nat)
  apply BitVec.eq_of_getLsbD_eq
  intro k hk
  simp [-BitVec.getLsbD_eq_getElem, Bool.or_comm, Bool.or_left_comm, Bool.or_assoc]
theorem like_B (X : BitVec 64) : (Part X 31 1 <<< (12 : Nat)) + (Part X 7 1 <<< (11 : Nat)) + (Part X 25 6 <<< (5 : Nat)) + (Part X 8 4 <<< (1 : Nat)) = immGet X (pieces 6) (pieces 6).length := by
  have e1 : ((Part X 31 1 <<< (12 : Nat))) + (Part X 7 1 <<< (11 : Nat)) = ((Part X 31 1 <<< (12 : Nat))) ||| (Part X 7 1 <<< (11 : Nat)) := by
    refine BitVec.add_eq_or_of_and_eq_zero _ _ ?_
    apply BitVec.eq_of_getLsbD_eq
    intro k hk
    simp only [BitVec.getLsbD_and, BitVec.getLsbD_or, BitVec.getLsbD_zero]
    rw [piece_bit X 31 1 12 k 31 1 rfl rfl (by decide)]
    rw [piece_bit X 7 1 11 k 7 1 rfl rfl (by decide)]
    rcases (show k = 0 ∨ k = 1 ∨ k = 2 ∨ k = 3 ∨ k = 4 ∨ k = 5 ∨ k = 6 ∨ k = 7 ∨ k = 8 ∨ k = 9 ∨ k = 10 ∨ k = 11 ∨ k = 12 ∨ k = 13 ∨ k = 14 ∨ k = 15 ∨ k = 16 ∨ k = 17 ∨ k = 18 ∨ k = 19 ∨ k = 20 ∨ k = 21 ∨ 22 ≤ k by omega) with rfl | rfl | rfl | rfl | rfl | rfl | rfl | rfl | rfl | rfl | rfl | rfl | rfl | rfl | rfl | rfl | rfl | rfl | rfl | rfl | rfl | rfl | hk2
    all_goals first | (simp; done) | (simp; intros; omega)
  have e2 : (((Part X 31 1 <<< (12 : Nat))) ||| (Part X 7 1 <<< (11 : Nat))) + (Part X 25 6 <<< (5 : Nat)) = (((Part X 31 1 <<< (12 : Nat))) ||| (Part X 7 1 <<< (11 : Nat))) ||| (Part X 25 6 <<< (5 : Nat)) := by
    refine BitVec.add_eq_or_of_and_eq_zero _ _ ?_
    apply BitVec.eq_of_getLsbD_eq
    intro k hk
    simp only [BitVec.getLsbD_and, BitVec.getLsbD_or, BitVec.getLsbD_zero]
    rw [piece_bit X 31 1 12 k 31 1 rfl rfl (by decide)]
    rw [piece_bit X 7 1 11 k 7 1 rfl rfl (by decide)]
    rw [piece_bit X 25 6 5 k 25 6 rfl rfl (by decide)]
    rcases (show k = 0 ∨ k = 1 ∨ k = 2 ∨ k = 3 ∨ k = 4 ∨ k = 5 ∨ k = 6 ∨ k = 7 ∨ k = 8 ∨ k = 9 ∨ k = 10 ∨ k = 11 ∨ k = 12 ∨ k = 13 ∨ k = 14 ∨ k = 15 ∨ k = 16 ∨ k = 17 ∨ k = 18 ∨ k = 19 ∨ k = 20 ∨ k = 21 ∨ 22 ≤ k by omega) with rfl | rfl | rfl | rfl | rfl | rfl | rfl | rfl | rfl | rfl | rfl | rfl | rfl | rfl | rfl | rfl | rfl | rfl | rfl | rfl | rfl | rfl | hk2
    all_goals first | (simp; done) | (simp; intros; omega)
  have e3 : ((((Part X 31 1 <<< (12 : Nat))) ||| (Part X 7 1 <<< (11 : Nat))) ||| (Part X 25 6 <<< (5 : Nat))) + (Part X 8 4 <<< (1 : Nat)) = ((((Part X 31 1 <<< (12 : Nat))) ||| (Part X 7 1 <<< (11 : Nat))) ||| (Part X 25 6 <<< (5 : Nat))) ||| (Part X 8 4 <<< (1 : Nat)) := by
    refine BitVec.add_eq_or_of_and_eq_zero _ _ ?_
    apply BitVec.eq_of_getLsbD_eq
    intro k hk
    simp only [BitVec.getLsbD_and, BitVec.getLsbD_or, BitVec.getLsbD_zero]
    rw [piece_bit X 31 1 12 k 31 1 rfl rfl (by decide)]
    rw [piece_bit X 7 1 11 k 7 1 rfl rfl (by decide)]
    rw [piece_bit X 25 6 5 k 25 6 rfl rfl (by decide)]
    rw [piece_bit X 8 4 1 k 8 4 rfl rfl (by decide)]
    rcases (show k = 0 ∨ k = 1 ∨ k = 2 ∨ k = 3 ∨ k = 4 ∨ k = 5 ∨ k = 6 ∨ k = 7 ∨ k = 8 ∨ k = 9 ∨ k = 10 ∨ k = 11 ∨ k = 12 ∨ k = 13 ∨ k = 14 ∨ k = 15 ∨ k = 16 ∨ k = 17 ∨ k = 18 ∨ k = 19 ∨ k = 20 ∨ k = 21 ∨ 22 ≤ k by omega) with rfl | rfl | rfl | rfl | rfl | rfl | rfl | rfl | rfl | rfl | rfl | rfl | rfl | rfl | rfl | rfl | rfl | rfl | rfl | rfl | rfl | rfl | hk2
    all_goals first | (simp; done) | (simp; intros; omega)
  rw [e1, e2, e3]
  show _ = 0#64 ||| Part X 7 1 <<< (11 : Nat) ||| Part X 8 4 <<< (1 : Nat) ||| Part X 25 6 <<< (5 : Nat) ||| Part X 31 1 <<< (12 : Nat)
  apply BitVec.eq_of_getLsbD_eq
  intro k hk
  simp [-BitVec.getLsbD_eq_getElem, Bool.or_comm, Bool.or_left_comm, Bool.or_assoc]
theorem like_S (X : BitVec 64) : (Part X 25 7 <<< (5 : Nat)) + (Part X 7 5) = immGet X (pieces 5) (pieces 5).length := by
  have e1 : ((Part X 25 7 <<< (5 : Nat))) + (Part X 7 5) = ((Part X 25 7 <<< (5 : Nat))) ||| (Part X 7 5) := by
    refine BitVec.add_eq_or_of_and_eq_zero _ _ ?_
    apply BitVec.eq_of_getLsbD_eq
    intro k hk
    simp only [BitVec.getLsbD_and, BitVec.getLsbD_or, BitVec.getLsbD_zero]
    rw [piece_bit X 25 7 5 k 25 7 rfl rfl (by decide)]
    rw [Part_at X 7 5 k 7 5 rfl rfl (by decide)]
    rcases (show k = 0 ∨ k = 1 ∨ k = 2 ∨ k = 3 ∨ k = 4 ∨ k = 5 ∨ k = 6 ∨ k = 7 ∨ k = 8 ∨ k = 9 ∨ k = 10 ∨ k = 11 ∨ k = 12 ∨ k = 13 ∨ k = 14 ∨ k = 15 ∨ k = 16 ∨ k = 17 ∨ k = 18 ∨ k = 19 ∨ k = 20 ∨ k = 21 ∨ 22 ≤ k by omega) with rfl | rfl | rfl | rfl | rfl | rfl | rfl | rfl | rfl | rfl | rfl | rfl | rfl | rfl | rfl | rfl | rfl | rfl | rfl | rfl | rfl | rfl | hk2
    all_goals first | (simp; done) | (simp; intros; omega)
  rw [e1]
  show _ = 0#64 ||| Part X 7 5 <<< (0 : Nat) ||| Part X 25 7 <<< (5 : Nat)
  apply BitVec.eq_of_getLsbD_eq
  intro k hk
  simp [-BitVec.getLsbD_eq_getElem, Bool.or_comm, Bool.or_left_comm, Bool.or_assoc]
theorem like_I (X : BitVec 64) : (Part X 20 12) = immGet X (pieces 3) (pieces 3).length := by
  show _ = 0#64 ||| Part X 20 12 <<< (0 : Nat)
  apply BitVec.eq_of_getLsbD_eq
  intro k hk
  simp [-BitVec.getLsbD_eq_getElem, Bool.or_comm, Bool.or_left_comm, Bool.or_assoc]
theorem like_U (X : BitVec 64) : (Part X 12 20) = immGet X (pieces 1) (pieces 1).length := by
  show _ = 0#64 ||| Part X 12 20 <<< (0 : Nat)
  apply BitVec.eq_of_getLsbD_eq
  intro k hk
  simp [-BitVec.getLsbD_eq_getElem, Bool.or_comm, Bool.or_left_comm, Bool.or_assoc]
/-- Whether a word is an op's, without a look at its opcode. -/
theorem isOp_same (w : BitVec 32) (op : Int) : isOp w op = ((checkE (decI op w) == 0) && (wordV (decI op w) == w)) := by
  cases h : ((checkE (decI op w) == 0) && (wordV (decI op w) == w))
  · unfold isOp; rw [Bool.and_assoc, h, Bool.and_false]
  · simp only [Bool.and_eq_true, beq_iff_eq] at h
    have := isOp_word (decI op w) h.1
    rw [h.2, decI_op] at this
    exact this
end Go.Proofs.YtcgflnkgekkidaaGreatDoor
namespace Go.Proofs.YtcgflnkgekkidaaGreatDoor
open Go.RowKit
def rcodeF (op f : Int) : Int :=
  if op = 1 then 55 else if op = 2 then 23 else if f = 2 then 111 else if op = 4 then 103 else if f = 6 then 99 else if f = 4 then 3 else if f = 5 then 35
  else if 22 ≤ op ∧ op ≤ 30 then 19 else if 31 ≤ op ∧ op ≤ 34 then 27 else if (35 ≤ op ∧ op ≤ 44) ∨ (50 ≤ op ∧ op ≤ 57) then 51 else if f = 8 then 59 else if f = 9 then 15 else if f = 10 then 115 else 47
set_option maxRecDepth 100000 in
set_option maxHeartbeats 8000000 in
theorem R3opcode_any (n : Int) (w : World) : Calls Tryz.prog 66 #[.int .i64 n] w fun e w' => e = .returned (.int .u64 (rcodeF n (rform n))) ∧ w = w' := by
  have hF := Lib.hid (R2Form_any n)
  generalize rform n = f at hF ⊢
  go_enter Tryz.func66, Tryz.ntmps66
  go_wp2_with (go_at_call 46; (with_reducible refine (hF.out _).mono ?_); rintro e w1 ⟨rfl, rfl⟩)
  all_goals (go_ret; refine ⟨congrArg (fun z => Ending.returned (Value.int IntKind.u64 z)) ?_, rfl⟩; unfold rcodeF; first | rfl | (simp [*]; done) | (simp_all; done) | (simp_all; (repeat first | rw [if_neg (by omega)] | rw [if_pos (by omega)])))
theorem R3flag_any (b : Bool) (w : World) : Calls Tryz.prog 70 #[.bool b] w fun e w' => e = .returned (.int .u64 (un (mk64 b))) ∧ w = w' := by
  cases b
  · go_enter Tryz.func70, Tryz.ntmps70
    go_wp2
    go_ret
    exact ⟨rfl, rfl⟩
  · go_enter Tryz.func70, Tryz.ntmps70
    go_wp2
    go_ret
    exact ⟨rfl, rfl⟩
attribute [local go_sem] wrap_u64_bv bv_un bv_sn bv_add bv_mul bv_neg bv_sub mul_bvpow shr_min shl_min sshr_min bv_lit bv_0 bv_1 un_shr sn_shr wrap_i64_un bits_u64_and bits_u64_or bits_u64_xor bits_u64_andNot bv_max u64_unsigned
theorem R3put_any (x n : BitVec 64) (from_ size at_ : Int) (w : World) : Calls Tryz.prog 67 #[.int .u64 (un x), .int .u64 (un n), .int .i64 from_, .int .i64 size, .int .i64 at_] w fun e w' => e = .returned (.int .u64 (un (Put x at_ size (Part n from_ size)))) ∧ w = w' := by
  have hP := Lib.hid (fun W => RPart_any n from_ size W)
  have hQ := Lib.hid (fun W => RPut_any x at_ size (Part n from_ size) W)
  go_enter Tryz.func67, Tryz.ntmps67
  go_wp2_with (first | (go_at_call 93; (with_reducible refine (hP.out _).mono ?_); rintro e w1 ⟨rfl, rfl⟩) | (go_at_call 71; (with_reducible refine (hQ.out _).mono ?_); rintro e w1 ⟨rfl, rfl⟩))
  go_ret
  exact ⟨rfl, rfl⟩
theorem bv_un32R (x : BitVec 32) : bv (un32 x) = x.setWidth 64 := by
  have h : IntKind.u64.wrap (un32 x) = un (x.setWidth 64) := by
    unfold un32 un
    have := x.isLt
    simp [IntKind.wrap, IntKind.bits, IntKind.signed]
  have h2 := congrArg bv h
  rw [wrap_u64_bv, bv_un, bv_un] at h2
  exact h2
theorem R3part_any (x : BitVec 32) (f n : Int) (w : World) : Calls Tryz.prog 88 #[.int .u32 (un32 x), .int .i64 f, .int .i64 n] w fun e w' => e = .returned (.int .i64 (sn (Part (x.setWidth 64) f n))) ∧ w = w' := by
  have hP := Lib.hid (fun W => RPart_any (bv (un32 x)) f n W)
  go_enter Tryz.func88, Tryz.ntmps88
  go_wp2_with (go_at_call 93; (with_reducible refine (hP.out _).mono ?_); rintro e w1 ⟨rfl, rfl⟩)
  go_ret
  exact ⟨by rw [bv_un32R]; rfl, rfl⟩
theorem R3bits_any (x : BitVec 32) (f n : Int) (w : World) : Calls Tryz.prog 112 #[.int .u32 (un32 x), .int .i64 f, .int .i64 n] w fun e w' => e = .returned (.int .u64 (un (Part (x.setWidth 64) f n))) ∧ w = w' := by
  have hP := Lib.hid (fun W => R3part_any x f n W)
  go_enter Tryz.func112, Tryz.ntmps112
  go_wp2_with (go_at_call 88; (with_reducible refine (hP.out _).mono ?_); rintro e w1 ⟨rfl, rfl⟩)
  go_ret
  exact ⟨rfl, rfl⟩
end Go.Proofs.YtcgflnkgekkidaaGreatDoor
namespace Go.Proofs.YtcgflnkgekkidaaGreatDoor
open Go.RowKit
/-- Cell n of a new block of numbers. -/
theorem lit_cell (l : List Int) (n : Nat) (h : n < l.length) (w : World) (t : TypeId) : (w.alloc (.cells (l.map (Value.int .u64)).toArray t)).cell? ⟨w.heap.size, n, none⟩ = some (.int .u64 (l.getD n 0)) := by
  rw [World.cell?_alloc_new]
  show (l.map (Value.int .u64)).toArray[n]? = _
  rw [List.getElem?_toArray, List.getElem?_map, List.getD, List.getElem?_eq_getElem h]
  rfl
set_option maxRecDepth 100000 in
set_option maxHeartbeats 8000000 in
theorem R3three_any (n : Int) (h1 : 1 ≤ n) (h87 : n ≤ 87) (w : World) : Calls Tryz.prog 68 #[.int .i64 n] w fun e w' => e = .returned (.int .u64 (rthree n)) ∧ Below w.heap.size w w' := by
  obtain ⟨m, rfl⟩ := Int.eq_ofNat_of_zero_le (show 0 ≤ n by omega)
  have hb : Below w.heap.size w (w.alloc (.cells #[.int .u64 0, .int .u64 0, .int .u64 0, .int .u64 0, .int .u64 0, .int .u64 0, .int .u64 1, .int .u64 4, .int .u64 5, .int .u64 6, .int .u64 7, .int .u64 0, .int .u64 1, .int .u64 2, .int .u64 3, .int .u64 4, .int .u64 5, .int .u64 6, .int .u64 0, .int .u64 1, .int .u64 2, .int .u64 3, .int .u64 0, .int .u64 2, .int .u64 3, .int .u64 4, .int .u64 6, .int .u64 7, .int .u64 1, .int .u64 5, .int .u64 5, .int .u64 0, .int .u64 1, .int .u64 5, .int .u64 5, .int .u64 0, .int .u64 0, .int .u64 1, .int .u64 2, .int .u64 3, .int .u64 4, .int .u64 5, .int .u64 5, .int .u64 6, .int .u64 7, .int .u64 0, .int .u64 0, .int .u64 1, .int .u64 5, .int .u64 5, .int .u64 0, .int .u64 1, .int .u64 2, .int .u64 3, .int .u64 4, .int .u64 5, .int .u64 6, .int .u64 7, .int .u64 0, .int .u64 4, .int .u64 5, .int .u64 6, .int .u64 7, .int .u64 0, .int .u64 0, .int .u64 0, .int .u64 2, .int .u64 3, .int .u64 2, .int .u64 3] 27)) := (Below.refl _ _).alloc (Nat.le_refl _) _
  by_cases h70 : m < 70
  · have c0 : (w.alloc (.cells #[.int .u64 0, .int .u64 0, .int .u64 0, .int .u64 0, .int .u64 0, .int .u64 0, .int .u64 1, .int .u64 4, .int .u64 5, .int .u64 6, .int .u64 7, .int .u64 0, .int .u64 1, .int .u64 2, .int .u64 3, .int .u64 4, .int .u64 5, .int .u64 6, .int .u64 0, .int .u64 1, .int .u64 2, .int .u64 3, .int .u64 0, .int .u64 2, .int .u64 3, .int .u64 4, .int .u64 6, .int .u64 7, .int .u64 1, .int .u64 5, .int .u64 5, .int .u64 0, .int .u64 1, .int .u64 5, .int .u64 5, .int .u64 0, .int .u64 0, .int .u64 1, .int .u64 2, .int .u64 3, .int .u64 4, .int .u64 5, .int .u64 5, .int .u64 6, .int .u64 7, .int .u64 0, .int .u64 0, .int .u64 1, .int .u64 5, .int .u64 5, .int .u64 0, .int .u64 1, .int .u64 2, .int .u64 3, .int .u64 4, .int .u64 5, .int .u64 6, .int .u64 7, .int .u64 0, .int .u64 4, .int .u64 5, .int .u64 6, .int .u64 7, .int .u64 0, .int .u64 0, .int .u64 0, .int .u64 2, .int .u64 3, .int .u64 2, .int .u64 3] 27)).cell? ⟨w.heap.size, m, none⟩ = some (.int .u64 (threeL.getD m 0)) := lit_cell threeL m h70 w 27
    have e : rthree (m : Int) = threeL.getD m 0 := by unfold rthree; rw [if_pos (by omega)]; rfl
    rw [e]
    generalize threeL.getD m 0 = v at c0 ⊢
    have i1 : (m : Int) < 70 ∧ 0 ≤ (m : Int) := by omega
    have i2 : decide ((m : Int) < 70) = true := decide_eq_true i1.1
    have i3 : decide (m < 70) = true := decide_eq_true h70
    go_enter Tryz.func68, Tryz.ntmps68
    go_upto_region 2 with fail
    generalize World.alloc _ _ = w1 at c0 hb ⊢
    go_wp2_with fail
    go_ret
    exact ⟨rfl, hb⟩
  · have i2 : decide ((m : Int) < 70) = false := decide_eq_false (by omega)
    have i3 : decide (m < 70) = false := decide_eq_false h70
    by_cases h79 : m < 79
    · have e : rthree (m : Int) = 2 := by unfold rthree; rw [if_neg (by omega), if_pos (by omega)]
      rw [e]
      have i4 : decide ((m : Int) < 79) = true := decide_eq_true (by omega)
      have i5 : decide (m < 79) = true := decide_eq_true h79
      go_enter Tryz.func68, Tryz.ntmps68
      go_upto_region 2 with fail
      generalize World.alloc _ _ = w1 at hb ⊢
      go_wp2_with fail
      go_ret
      exact ⟨rfl, hb⟩
    · have e : rthree (m : Int) = 3 := by unfold rthree; rw [if_neg (by omega), if_neg (by omega)]
      rw [e]
      have i4 : decide ((m : Int) < 79) = false := decide_eq_false (by omega)
      have i5 : decide (m < 79) = false := decide_eq_false h79
      go_enter Tryz.func68, Tryz.ntmps68
      go_upto_region 2 with fail
      generalize World.alloc _ _ = w1 at hb ⊢
      go_wp2_with fail
      go_ret
      exact ⟨rfl, hb⟩
theorem sevenL_bd (m : Nat) (h : m < 9) : 0 ≤ sevenL.getD m 0 ∧ sevenL.getD m 0 < 32 := by
  have : ((List.range 9).all fun m => decide (0 ≤ sevenL.getD m 0) && decide (sevenL.getD m 0 < 32)) = true := by decide +kernel
  have := List.all_eq_true.1 this m (List.mem_range.2 h)
  simpa using this
set_option maxRecDepth 100000 in
set_option maxHeartbeats 8000000 in
theorem R3seven_any (n : Int) (h1 : 1 ≤ n) (h87 : n ≤ 87) (w : World) : Calls Tryz.prog 69 #[.int .i64 n] w fun e w' => e = .returned (.int .u64 (rseven n)) ∧ Below w.heap.size w w' := by
  have hb0 := Below.refl w.heap.size w
  by_cases c32 : n = 36 ∨ n = 42 ∨ n = 46 ∨ n = 49 ∨ n = 30 ∨ n = 34
  · have e : rseven n = 32 := by unfold rseven; rw [if_pos c32]
    rw [e]
    rcases c32 with rfl | rfl | rfl | rfl | rfl | rfl <;> (go_enter Tryz.func69, Tryz.ntmps69; go_wp2_with fail; go_ret; exact ⟨rfl, hb0⟩)
  by_cases c1 : 50 ≤ n ∧ n ≤ 62
  · have e : rseven n = 1 := by unfold rseven; rw [if_neg c32, if_pos c1]
    rw [e]
    have i1 : decide (50 ≤ n) = true := decide_eq_true c1.1
    have i2 : decide (n ≤ 62) = true := decide_eq_true c1.2
    have j36 : (n == 36) = false := by rw [beq_eq_false_iff_ne]; omega
    have j42 : (n == 42) = false := by rw [beq_eq_false_iff_ne]; omega
    have j46 : (n == 46) = false := by rw [beq_eq_false_iff_ne]; omega
    have j49 : (n == 49) = false := by rw [beq_eq_false_iff_ne]; omega
    have j30 : (n == 30) = false := by rw [beq_eq_false_iff_ne]; omega
    have j34 : (n == 34) = false := by rw [beq_eq_false_iff_ne]; omega
    go_enter Tryz.func69, Tryz.ntmps69
    go_wp2_with fail
    go_ret
    exact ⟨rfl, hb0⟩
  by_cases c8 : n = 66 ∨ n = 67
  · have e : rseven n = 8 := by unfold rseven; rw [if_neg c32, if_neg c1, if_pos c8]
    rw [e]
    rcases c8 with rfl | rfl <;> (go_enter Tryz.func69, Tryz.ntmps69; go_wp2_with fail; go_ret; exact ⟨rfl, hb0⟩)
  by_cases c12 : n = 68 ∨ n = 69
  · have e : rseven n = 12 := by unfold rseven; rw [if_neg c32, if_neg c1, if_neg c8, if_pos c12]
    rw [e]
    rcases c12 with rfl | rfl <;> (go_enter Tryz.func69, Tryz.ntmps69; go_wp2_with fail; go_ret; exact ⟨rfl, hb0⟩)
  have j36 : (n == 36) = false := by rw [beq_eq_false_iff_ne]; omega
  have j42 : (n == 42) = false := by rw [beq_eq_false_iff_ne]; omega
  have j46 : (n == 46) = false := by rw [beq_eq_false_iff_ne]; omega
  have j49 : (n == 49) = false := by rw [beq_eq_false_iff_ne]; omega
  have j30 : (n == 30) = false := by rw [beq_eq_false_iff_ne]; omega
  have j34 : (n == 34) = false := by rw [beq_eq_false_iff_ne]; omega
  have j66 : (n == 66) = false := by rw [beq_eq_false_iff_ne]; omega
  have j67 : (n == 67) = false := by rw [beq_eq_false_iff_ne]; omega
  have j68 : (n == 68) = false := by rw [beq_eq_false_iff_ne]; omega
  have j69 : (n == 69) = false := by rw [beq_eq_false_iff_ne]; omega
  obtain ⟨m, rfl⟩ := Int.eq_ofNat_of_zero_le (show 0 ≤ n by omega)
  obtain ⟨B50, h50⟩ : ∃ b, decide ((50 : Int) ≤ (m : Int)) = b := ⟨_, rfl⟩
  obtain ⟨B62, h62⟩ : ∃ b, decide ((m : Int) ≤ 62) = b := ⟨_, rfl⟩
  have k50 : decide (50 ≤ m) = B50 := by rw [← h50]; exact decide_eq_decide.2 (by omega)
  have k62 : decide (m ≤ 62) = B62 := by rw [← h62]; exact decide_eq_decide.2 (by omega)
  have hb : Below w.heap.size w (w.alloc (.cells #[.int .u64 1, .int .u64 0, .int .u64 4, .int .u64 12, .int .u64 8, .int .u64 16, .int .u64 20, .int .u64 24, .int .u64 28] 27)) := (Below.refl _ _).alloc (Nat.le_refl _) _
  have hB : (B50 && B62) = false := by rw [← h50, ← h62, Bool.and_eq_false_iff, decide_eq_false_iff_not, decide_eq_false_iff_not]; omega
  by_cases c70 : 70 ≤ m
  · obtain ⟨k, hk⟩ : ∃ k, (m - 70) % 9 = k := ⟨_, rfl⟩
    have hk9 : k < 9 := by omega
    have e : rseven (m : Int) = sevenL.getD k 0 * 4 := by
      unfold rseven
      rw [if_neg c32, if_neg c1, if_neg c8, if_neg c12, if_pos (by omega), show (((m : Int) - 70) % 9).toNat = k by omega]
    rw [e]
    obtain ⟨y1, y2⟩ := sevenL_bd k hk9
    have c0 : (w.alloc (.cells #[.int .u64 1, .int .u64 0, .int .u64 4, .int .u64 12, .int .u64 8, .int .u64 16, .int .u64 20, .int .u64 24, .int .u64 28] 27)).cell? ⟨w.heap.size, k, none⟩ = some (.int .u64 (sevenL.getD k 0)) := lit_cell sevenL k hk9 w 27
    generalize sevenL.getD k 0 = v at c0 y1 y2 ⊢
    have i1 : decide ((70 : Int) ≤ (m : Int)) = true := decide_eq_true (by omega)
    have i2 : decide (70 ≤ m) = true := decide_eq_true c70
    have i3 : decide ((m : Int) ≤ 87) = true := decide_eq_true h87
    have i4 : decide (m ≤ 87) = true := decide_eq_true (by omega)
    have i5 : ((m : Int) - 70).tmod 9 = (k : Int) := by rw [Int.tmod_eq_emod_of_nonneg (by omega)]; omega
    have i7 : (k : Int) < 9 ∧ 0 ≤ (k : Int) := by omega
    clear c32 c1 c8 c12 hk
    obtain rfl | rfl : B62 = false ∨ B62 = true := by cases B62 <;> simp
    all_goals
      obtain rfl | rfl : B50 = false ∨ B50 = true := by cases B50 <;> simp
    all_goals first
      | (exfalso; revert hB; decide)
      | (go_enter Tryz.func69, Tryz.ntmps69
         go_upto_region 10 with fail
         generalize World.alloc _ _ = w1 at c0 hb ⊢
         go_wp2_with fail
         go_ret
         exact ⟨rfl, hb⟩)
  · have e : rseven (m : Int) = 0 := by
      unfold rseven
      rw [if_neg c32, if_neg c1, if_neg c8, if_neg c12, if_neg (by omega)]
    rw [e]
    have i1 : decide ((70 : Int) ≤ (m : Int)) = false := decide_eq_false (by omega)
    have i2 : decide (70 ≤ m) = false := decide_eq_false c70
    clear c32 c1 c8 c12
    obtain rfl | rfl : B62 = false ∨ B62 = true := by cases B62 <;> simp
    all_goals
      obtain rfl | rfl : B50 = false ∨ B50 = true := by cases B50 <;> simp
    all_goals first
      | (exfalso; revert hB; decide)
      | (go_enter Tryz.func69, Tryz.ntmps69
         go_upto_region 10 with fail
         generalize World.alloc _ _ = w1 at hb ⊢
         go_wp2_with fail
         go_ret
         exact ⟨rfl, hb⟩)
end Go.Proofs.YtcgflnkgekkidaaGreatDoor
