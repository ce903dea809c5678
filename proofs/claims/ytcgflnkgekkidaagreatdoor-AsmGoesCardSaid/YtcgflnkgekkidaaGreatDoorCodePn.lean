/- Plain: the words of instructions bit by bit: their fields, and that an instruction is read back. No program in sight. Plain: a valid instruction is read back from its word, and different ones have different words. No program in sight. Conditions: as each theorem says. -/
import Derived.Test.YtcgflnkgekkidaaGreatDoorCodeA
import Derived.Test.YtcgflnkgekkidaaGreatDoorInsnDf
set_option linter.unusedSimpArgs false
set_option linter.unusedVariables false
namespace Go.Proofs.YtcgflnkgekkidaaGreatDoor
theorem bv_hi (v : Int) (n k : Nat) (h : 0 ≤ v) (hv : v < ((2 ^ n : Nat) : Int)) (hk : n ≤ k) : (bv v).getLsbD k = false := by
  obtain ⟨m, rfl⟩ := Int.eq_ofNat_of_zero_le h
  rw [bv_nat, BitVec.getLsbD_ofNat]
  have : m.testBit k = false := Nat.testBit_lt_two_pow (Nat.lt_of_lt_of_le (Int.ofNat_lt.1 hv) (Nat.pow_le_pow_right (by decide) hk))
  simp [this]
theorem part_back (X : BitVec 64) (a n : Nat) (v : Int) (hn : n ≤ 62) (h0 : 0 ≤ v) (hv : v < ((2 ^ n : Nat) : Int)) (h : ∀ k, k < n → X.getLsbD (a + k) = (bv v).getLsbD k) : sn (Part X a n) = v := by
  have e : Part X (a : Int) (n : Int) = bv v := by
    apply BitVec.eq_of_getLsbD_eq
    intro k _
    rw [Part_bit, cl_nat _ (by omega), Int.toNat_natCast]
    by_cases hk : k < n
    · rw [h k hk]; simp [hk]
    · rw [bv_hi v n k h0 hv (by omega)]; simp [hk]
  have h2 : 2 ^ n ≤ 2 ^ 62 := Nat.pow_le_pow_right (by decide) hn
  rw [e, sn_bv v (by omega)]
theorem part_flag (X : BitVec 64) (a : Nat) : (un (Part X a 1) == 1) = X.getLsbD a := by
  rw [Part_one, show (1 : Int) = un 1#64 from rfl, un_beq, Bool.eq_iff_iff, beq_iff_eq]
  constructor
  · intro h
    have := congrArg (fun y => y.getLsbD 0) h
    simpa using this
  · intro h
    apply BitVec.eq_of_getLsbD_eq
    intro j _
    rw [one_bit]
    rcases j with _ | j <;> simp [h]
theorem sign_low (x y : BitVec 64) (n : Nat) (hn : n ≤ 64) (h : ∀ k, k < n → x.getLsbD k = y.getLsbD k) : Sign x n = Sign y n := by
  have e : x <<< (64 - n) = y <<< (64 - n) := by
    apply BitVec.eq_of_getLsbD_eq
    intro k hk
    rw [BitVec.getLsbD_shiftLeft, BitVec.getLsbD_shiftLeft]
    by_cases h1 : k < 64 - n
    · simp [h1]
    · rw [h _ (by omega)]
  unfold Sign
  rw [cl_nat _ hn, e]
theorem imm_back (X : BitVec 64) (v : Int) (n : Nat) (hn : n ≤ 64) (hf : Fits v n = true) (h : ∀ k, k < n → X.getLsbD k = (bv v).getLsbD k) : sn (Sign X n) = v := by
  rw [sign_low X (bv v) n hn h]
  unfold Fits at hf
  simpa using hf
theorem even_bit (v : Int) (h : v.tmod 2 = 0) : (bv v).getLsbD 0 = false := by
  obtain ⟨m, rfl⟩ : ∃ m, v = m * 2 ^ 1 := ⟨v.tdiv 2, by have := Int.mul_tdiv_add_tmod v 2; omega⟩
  rw [bv_shl, BitVec.getLsbD_shiftLeft]; simp
theorem mk_bit (b : Bool) (k : Nat) : (mk64 b).getLsbD k = (decide (k = 0) && b) := by
  unfold mk64
  cases b
  · simp
  · rw [if_pos rfl, BitVec.getLsbD_one]; rw [Bool.eq_iff_iff]; simp
theorem low_bits (W : BitVec 64) (k : Nat) (h : k < 32) : ((W.setWidth 32).setWidth 64).getLsbD k = W.getLsbD k := by
  rw [BitVec.getLsbD_setWidth, BitVec.getLsbD_setWidth]; simp [h, show k < 64 by omega]
theorem cl_7 : cl 7 = 7 := rfl
theorem Part_at (x : BitVec 64) (F N : Int) (i f n : Nat) (hF : F = f) (hN : N = n) (hn : n ≤ 64) : (Part x F N).getLsbD i = (decide (i < n) && x.getLsbD (f + i)) := by
  subst hF hN
  rw [Part_bit, cl_nat _ hn, Int.toNat_natCast]
/-- A bit of a piece that was moved. -/
theorem piece_bit (X : BitVec 64) (A N : Int) (fr k a n : Nat) (hA : A = a) (hN : N = n) (hn : n ≤ 64) : (Part X A N <<< fr).getLsbD k = if fr ≤ k ∧ k < fr + n ∧ k < 64 then X.getLsbD (a + (k - fr)) else false := by
  subst hA hN
  rw [BitVec.getLsbD_shiftLeft, Part_bit, cl_nat _ hn, Int.toNat_natCast]
  by_cases h1 : fr ≤ k <;> by_cases h2 : k < fr + n <;> by_cases h3 : k < 64
  · rw [if_pos ⟨h1, h2, h3⟩]; simp [h3, show ¬ k < fr by omega, show k - fr < n by omega]
  all_goals (rw [if_neg (by omega)]; simp; intros; omega)
/-- A bit of what was put, by Nats. -/
theorem Put_at (x : BitVec 64) (F N : Int) (v : BitVec 64) (i f n : Nat) (hF : F = f) (hN : N = n) (hn : n ≤ 64) (hi : i < 64) :
    (Put x F N v).getLsbD i = if f ≤ i ∧ i < f + n then v.getLsbD (i - f) else x.getLsbD i := by
  subst hF hN
  rw [Put_bit _ _ _ _ _ hi, cl_nat _ hn, Int.toNat_natCast]
theorem wordG_1 (p : PartV) (i : InsnV) : wordG 1 p i = Put (Put (bv p.code) 12 20 (Part (bv i.imm) 0 20)) 7 5 (bv i.rd) := rfl
theorem wordG_2 (p : PartV) (i : InsnV) : wordG 2 p i = Put (Put (Put (Put (Put (bv p.code) 12 8 (Part (bv i.imm) 12 8)) 20 1 (Part (bv i.imm) 11 1)) 21 10 (Part (bv i.imm) 1 10)) 31 1 (Part (bv i.imm) 20 1)) 7 5 (bv i.rd) := rfl
theorem wordG_3 (p : PartV) (i : InsnV) : wordG 3 p i = Put (Put (Put (Put (bv p.code) 20 12 (Part (bv i.imm) 0 12)) 12 3 (bv p.f3)) 7 5 (bv i.rd)) 15 5 (bv i.rs1) := rfl
theorem wordG_4 (p : PartV) (i : InsnV) : wordG 4 p i = Put (Put (Put (Put (bv p.code) 20 12 (Part (bv i.imm) 0 12)) 12 3 (bv p.f3)) 7 5 (bv i.rd)) 15 5 (bv i.rs1) := rfl
theorem wordG_5 (p : PartV) (i : InsnV) : wordG 5 p i = Put (Put (Put (Put (Put (bv p.code) 7 5 (Part (bv i.imm) 0 5)) 25 7 (Part (bv i.imm) 5 7)) 12 3 (bv p.f3)) 15 5 (bv i.rs1)) 20 5 (bv i.rs2) := rfl
theorem wordG_6 (p : PartV) (i : InsnV) : wordG 6 p i = Put (Put (Put (Put (Put (Put (Put (bv p.code) 7 1 (Part (bv i.imm) 11 1)) 8 4 (Part (bv i.imm) 1 4)) 25 6 (Part (bv i.imm) 5 6)) 31 1 (Part (bv i.imm) 12 1)) 12 3 (bv p.f3)) 15 5 (bv i.rs1)) 20 5 (bv i.rs2) := rfl
theorem wordG_7 (p : PartV) (i : InsnV) : wordG 7 p i = Put (Put (Put (bv p.code) 12 3 (bv p.f3)) 7 5 (bv i.rd)) 15 5 (bv i.rs1) ||| (bv p.f7 <<< 25 ||| bv i.imm <<< 20) := rfl
theorem wordG_8 (p : PartV) (i : InsnV) : wordG 8 p i = Put (Put (Put (Put (Put (bv p.code) 12 3 (bv p.f3)) 7 5 (bv i.rd)) 15 5 (bv i.rs1)) 20 5 (bv i.rs2)) 25 7 (bv p.f7) := rfl
theorem wordG_9 (p : PartV) (i : InsnV) : wordG 9 p i = Put (Put (Put (bv p.code) 12 3 (bv p.f3)) 20 4 (bv i.succ)) 24 4 (bv i.pred) := rfl
theorem wordG_10 (p : PartV) (i : InsnV) : wordG 10 p i = Put (bv p.code) 12 3 (bv p.f3) ||| mk64 (i.op == 65) <<< 20 := rfl
theorem wordG_11 (p : PartV) (i : InsnV) : wordG 11 p i = Put (Put (Put (Put (Put (bv p.code) 12 3 (bv p.f3)) 7 5 (bv i.rd)) 15 5 (bv i.rs1)) 20 5 (bv i.rs2)) 25 7 (bv p.f7 ||| mk64 i.aq <<< 1 ||| mk64 i.rl) := rfl
theorem wordG_12 (p : PartV) (i : InsnV) : wordG 12 p i = Put (Put (Put (Put (Put (bv p.code) 12 3 (bv p.f3)) 7 5 (bv i.rd)) 15 5 (bv i.rs1)) 20 5 (bv i.rs2)) 25 7 (bv p.f7 ||| mk64 i.aq <<< 1 ||| mk64 i.rl) := rfl
theorem bit_1 (p : PartV) (i : InsnV) (k : Nat) (hk : k < 32) : (wordG 1 p i).getLsbD k = if 7 ≤ k ∧ k < 7 + 5 then (bv i.rd).getLsbD ((k - 7)) else if 12 ≤ k ∧ k < 12 + 20 then (decide ((k - 12) < 20) && (bv i.imm).getLsbD (0 + (k - 12))) else (bv p.code).getLsbD k := by
  have h64 : k < 64 := by omega
  rw [wordG_1]
  rw [Put_at _ 7 5 _ _ 7 5 rfl rfl (by decide) h64]
  rw [Put_at _ 12 20 _ _ 12 20 rfl rfl (by decide) h64]
  rw [Part_at _ 0 20 _ 0 20 rfl rfl (by decide)]
theorem bit_2 (p : PartV) (i : InsnV) (k : Nat) (hk : k < 32) : (wordG 2 p i).getLsbD k = if 7 ≤ k ∧ k < 7 + 5 then (bv i.rd).getLsbD ((k - 7)) else if 31 ≤ k ∧ k < 31 + 1 then (decide ((k - 31) < 1) && (bv i.imm).getLsbD (20 + (k - 31))) else if 21 ≤ k ∧ k < 21 + 10 then (decide ((k - 21) < 10) && (bv i.imm).getLsbD (1 + (k - 21))) else if 20 ≤ k ∧ k < 20 + 1 then (decide ((k - 20) < 1) && (bv i.imm).getLsbD (11 + (k - 20))) else if 12 ≤ k ∧ k < 12 + 8 then (decide ((k - 12) < 8) && (bv i.imm).getLsbD (12 + (k - 12))) else (bv p.code).getLsbD k := by
  have h64 : k < 64 := by omega
  rw [wordG_2]
  rw [Put_at _ 7 5 _ _ 7 5 rfl rfl (by decide) h64]
  rw [Put_at _ 31 1 _ _ 31 1 rfl rfl (by decide) h64]
  rw [Put_at _ 21 10 _ _ 21 10 rfl rfl (by decide) h64]
  rw [Put_at _ 20 1 _ _ 20 1 rfl rfl (by decide) h64]
  rw [Put_at _ 12 8 _ _ 12 8 rfl rfl (by decide) h64]
  rw [Part_at _ 20 1 _ 20 1 rfl rfl (by decide)]
  rw [Part_at _ 1 10 _ 1 10 rfl rfl (by decide)]
  rw [Part_at _ 11 1 _ 11 1 rfl rfl (by decide)]
  rw [Part_at _ 12 8 _ 12 8 rfl rfl (by decide)]
theorem bit_3 (p : PartV) (i : InsnV) (k : Nat) (hk : k < 32) : (wordG 3 p i).getLsbD k = if 15 ≤ k ∧ k < 15 + 5 then (bv i.rs1).getLsbD ((k - 15)) else if 7 ≤ k ∧ k < 7 + 5 then (bv i.rd).getLsbD ((k - 7)) else if 12 ≤ k ∧ k < 12 + 3 then (bv p.f3).getLsbD ((k - 12)) else if 20 ≤ k ∧ k < 20 + 12 then (decide ((k - 20) < 12) && (bv i.imm).getLsbD (0 + (k - 20))) else (bv p.code).getLsbD k := by
  have h64 : k < 64 := by omega
  rw [wordG_3]
  rw [Put_at _ 15 5 _ _ 15 5 rfl rfl (by decide) h64]
  rw [Put_at _ 7 5 _ _ 7 5 rfl rfl (by decide) h64]
  rw [Put_at _ 12 3 _ _ 12 3 rfl rfl (by decide) h64]
  rw [Put_at _ 20 12 _ _ 20 12 rfl rfl (by decide) h64]
  rw [Part_at _ 0 12 _ 0 12 rfl rfl (by decide)]
theorem bit_4 (p : PartV) (i : InsnV) (k : Nat) (hk : k < 32) : (wordG 4 p i).getLsbD k = if 15 ≤ k ∧ k < 15 + 5 then (bv i.rs1).getLsbD ((k - 15)) else if 7 ≤ k ∧ k < 7 + 5 then (bv i.rd).getLsbD ((k - 7)) else if 12 ≤ k ∧ k < 12 + 3 then (bv p.f3).getLsbD ((k - 12)) else if 20 ≤ k ∧ k < 20 + 12 then (decide ((k - 20) < 12) && (bv i.imm).getLsbD (0 + (k - 20))) else (bv p.code).getLsbD k := by
  have h64 : k < 64 := by omega
  rw [wordG_4]
  rw [Put_at _ 15 5 _ _ 15 5 rfl rfl (by decide) h64]
  rw [Put_at _ 7 5 _ _ 7 5 rfl rfl (by decide) h64]
  rw [Put_at _ 12 3 _ _ 12 3 rfl rfl (by decide) h64]
  rw [Put_at _ 20 12 _ _ 20 12 rfl rfl (by decide) h64]
  rw [Part_at _ 0 12 _ 0 12 rfl rfl (by decide)]
theorem bit_5 (p : PartV) (i : InsnV) (k : Nat) (hk : k < 32) : (wordG 5 p i).getLsbD k = if 20 ≤ k ∧ k < 20 + 5 then (bv i.rs2).getLsbD ((k - 20)) else if 15 ≤ k ∧ k < 15 + 5 then (bv i.rs1).getLsbD ((k - 15)) else if 12 ≤ k ∧ k < 12 + 3 then (bv p.f3).getLsbD ((k - 12)) else if 25 ≤ k ∧ k < 25 + 7 then (decide ((k - 25) < 7) && (bv i.imm).getLsbD (5 + (k - 25))) else if 7 ≤ k ∧ k < 7 + 5 then (decide ((k - 7) < 5) && (bv i.imm).getLsbD (0 + (k - 7))) else (bv p.code).getLsbD k := by
  have h64 : k < 64 := by omega
  rw [wordG_5]
  rw [Put_at _ 20 5 _ _ 20 5 rfl rfl (by decide) h64]
  rw [Put_at _ 15 5 _ _ 15 5 rfl rfl (by decide) h64]
  rw [Put_at _ 12 3 _ _ 12 3 rfl rfl (by decide) h64]
  rw [Put_at _ 25 7 _ _ 25 7 rfl rfl (by decide) h64]
  rw [Put_at _ 7 5 _ _ 7 5 rfl rfl (by decide) h64]
  rw [Part_at _ 5 7 _ 5 7 rfl rfl (by decide)]
  rw [Part_at _ 0 5 _ 0 5 rfl rfl (by decide)]
theorem bit_6 (p : PartV) (i : InsnV) (k : Nat) (hk : k < 32) : (wordG 6 p i).getLsbD k = if 20 ≤ k ∧ k < 20 + 5 then (bv i.rs2).getLsbD ((k - 20)) else if 15 ≤ k ∧ k < 15 + 5 then (bv i.rs1).getLsbD ((k - 15)) else if 12 ≤ k ∧ k < 12 + 3 then (bv p.f3).getLsbD ((k - 12)) else if 31 ≤ k ∧ k < 31 + 1 then (decide ((k - 31) < 1) && (bv i.imm).getLsbD (12 + (k - 31))) else if 25 ≤ k ∧ k < 25 + 6 then (decide ((k - 25) < 6) && (bv i.imm).getLsbD (5 + (k - 25))) else if 8 ≤ k ∧ k < 8 + 4 then (decide ((k - 8) < 4) && (bv i.imm).getLsbD (1 + (k - 8))) else if 7 ≤ k ∧ k < 7 + 1 then (decide ((k - 7) < 1) && (bv i.imm).getLsbD (11 + (k - 7))) else (bv p.code).getLsbD k := by
  have h64 : k < 64 := by omega
  rw [wordG_6]
  rw [Put_at _ 20 5 _ _ 20 5 rfl rfl (by decide) h64]
  rw [Put_at _ 15 5 _ _ 15 5 rfl rfl (by decide) h64]
  rw [Put_at _ 12 3 _ _ 12 3 rfl rfl (by decide) h64]
  rw [Put_at _ 31 1 _ _ 31 1 rfl rfl (by decide) h64]
  rw [Put_at _ 25 6 _ _ 25 6 rfl rfl (by decide) h64]
  rw [Put_at _ 8 4 _ _ 8 4 rfl rfl (by decide) h64]
  rw [Put_at _ 7 1 _ _ 7 1 rfl rfl (by decide) h64]
  rw [Part_at _ 12 1 _ 12 1 rfl rfl (by decide)]
  rw [Part_at _ 5 6 _ 5 6 rfl rfl (by decide)]
  rw [Part_at _ 1 4 _ 1 4 rfl rfl (by decide)]
  rw [Part_at _ 11 1 _ 11 1 rfl rfl (by decide)]
theorem bit_7 (p : PartV) (i : InsnV) (k : Nat) (hk : k < 32) : (wordG 7 p i).getLsbD k = ((if 15 ≤ k ∧ k < 15 + 5 then (bv i.rs1).getLsbD ((k - 15)) else if 7 ≤ k ∧ k < 7 + 5 then (bv i.rd).getLsbD ((k - 7)) else if 12 ≤ k ∧ k < 12 + 3 then (bv p.f3).getLsbD ((k - 12)) else (bv p.code).getLsbD k) || ((!decide (k < 25) && (bv p.f7).getLsbD (k - 25)) || (!decide (k < 20) && (bv i.imm).getLsbD (k - 20)))) := by
  have h64 : k < 64 := by omega
  rw [wordG_7]
  rw [BitVec.getLsbD_or, BitVec.getLsbD_or, BitVec.getLsbD_shiftLeft, BitVec.getLsbD_shiftLeft]
  rw [Put_at _ 15 5 _ _ 15 5 rfl rfl (by decide) h64]
  rw [Put_at _ 7 5 _ _ 7 5 rfl rfl (by decide) h64]
  rw [Put_at _ 12 3 _ _ 12 3 rfl rfl (by decide) h64]
  simp only [h64, decide_true, Bool.true_and]
theorem bit_8 (p : PartV) (i : InsnV) (k : Nat) (hk : k < 32) : (wordG 8 p i).getLsbD k = if 25 ≤ k ∧ k < 25 + 7 then (bv p.f7).getLsbD ((k - 25)) else if 20 ≤ k ∧ k < 20 + 5 then (bv i.rs2).getLsbD ((k - 20)) else if 15 ≤ k ∧ k < 15 + 5 then (bv i.rs1).getLsbD ((k - 15)) else if 7 ≤ k ∧ k < 7 + 5 then (bv i.rd).getLsbD ((k - 7)) else if 12 ≤ k ∧ k < 12 + 3 then (bv p.f3).getLsbD ((k - 12)) else (bv p.code).getLsbD k := by
  have h64 : k < 64 := by omega
  rw [wordG_8]
  rw [Put_at _ 25 7 _ _ 25 7 rfl rfl (by decide) h64]
  rw [Put_at _ 20 5 _ _ 20 5 rfl rfl (by decide) h64]
  rw [Put_at _ 15 5 _ _ 15 5 rfl rfl (by decide) h64]
  rw [Put_at _ 7 5 _ _ 7 5 rfl rfl (by decide) h64]
  rw [Put_at _ 12 3 _ _ 12 3 rfl rfl (by decide) h64]
theorem bit_9 (p : PartV) (i : InsnV) (k : Nat) (hk : k < 32) : (wordG 9 p i).getLsbD k = if 24 ≤ k ∧ k < 24 + 4 then (bv i.pred).getLsbD ((k - 24)) else if 20 ≤ k ∧ k < 20 + 4 then (bv i.succ).getLsbD ((k - 20)) else if 12 ≤ k ∧ k < 12 + 3 then (bv p.f3).getLsbD ((k - 12)) else (bv p.code).getLsbD k := by
  have h64 : k < 64 := by omega
  rw [wordG_9]
  rw [Put_at _ 24 4 _ _ 24 4 rfl rfl (by decide) h64]
  rw [Put_at _ 20 4 _ _ 20 4 rfl rfl (by decide) h64]
  rw [Put_at _ 12 3 _ _ 12 3 rfl rfl (by decide) h64]
theorem bit_10 (p : PartV) (i : InsnV) (k : Nat) (hk : k < 32) : (wordG 10 p i).getLsbD k = ((if 12 ≤ k ∧ k < 12 + 3 then (bv p.f3).getLsbD ((k - 12)) else (bv p.code).getLsbD k) || (!decide (k < 20) && (decide (k - 20 = 0) && (i.op == 65)))) := by
  have h64 : k < 64 := by omega
  rw [wordG_10]
  rw [BitVec.getLsbD_or, BitVec.getLsbD_shiftLeft, mk_bit]
  rw [Put_at _ 12 3 _ _ 12 3 rfl rfl (by decide) h64]
  simp only [h64, decide_true, Bool.true_and]
theorem bit_11 (p : PartV) (i : InsnV) (k : Nat) (hk : k < 32) : (wordG 11 p i).getLsbD k = if 25 ≤ k ∧ k < 25 + 7 then ((bv p.f7).getLsbD ((k - 25)) || (!decide ((k - 25) < 1) && (decide ((k - 25) - 1 = 0) && i.aq)) || (decide ((k - 25) = 0) && i.rl)) else if 20 ≤ k ∧ k < 20 + 5 then (bv i.rs2).getLsbD ((k - 20)) else if 15 ≤ k ∧ k < 15 + 5 then (bv i.rs1).getLsbD ((k - 15)) else if 7 ≤ k ∧ k < 7 + 5 then (bv i.rd).getLsbD ((k - 7)) else if 12 ≤ k ∧ k < 12 + 3 then (bv p.f3).getLsbD ((k - 12)) else (bv p.code).getLsbD k := by
  have h64 : k < 64 := by omega
  rw [wordG_11]
  rw [Put_at _ 25 7 _ _ 25 7 rfl rfl (by decide) h64]
  rw [Put_at _ 20 5 _ _ 20 5 rfl rfl (by decide) h64]
  rw [Put_at _ 15 5 _ _ 15 5 rfl rfl (by decide) h64]
  rw [Put_at _ 7 5 _ _ 7 5 rfl rfl (by decide) h64]
  rw [Put_at _ 12 3 _ _ 12 3 rfl rfl (by decide) h64]
  simp only [BitVec.getLsbD_or, BitVec.getLsbD_shiftLeft, mk_bit]
  have e : k - 25 < 64 := by omega
  simp only [e, decide_true, Bool.true_and]
theorem bit_12 (p : PartV) (i : InsnV) (k : Nat) (hk : k < 32) : (wordG 12 p i).getLsbD k = if 25 ≤ k ∧ k < 25 + 7 then ((bv p.f7).getLsbD ((k - 25)) || (!decide ((k - 25) < 1) && (decide ((k - 25) - 1 = 0) && i.aq)) || (decide ((k - 25) = 0) && i.rl)) else if 20 ≤ k ∧ k < 20 + 5 then (bv i.rs2).getLsbD ((k - 20)) else if 15 ≤ k ∧ k < 15 + 5 then (bv i.rs1).getLsbD ((k - 15)) else if 7 ≤ k ∧ k < 7 + 5 then (bv i.rd).getLsbD ((k - 7)) else if 12 ≤ k ∧ k < 12 + 3 then (bv p.f3).getLsbD ((k - 12)) else (bv p.code).getLsbD k := by
  have h64 : k < 64 := by omega
  rw [wordG_12]
  rw [Put_at _ 25 7 _ _ 25 7 rfl rfl (by decide) h64]
  rw [Put_at _ 20 5 _ _ 20 5 rfl rfl (by decide) h64]
  rw [Put_at _ 15 5 _ _ 15 5 rfl rfl (by decide) h64]
  rw [Put_at _ 7 5 _ _ 7 5 rfl rfl (by decide) h64]
  rw [Put_at _ 12 3 _ _ 12 3 rfl rfl (by decide) h64]
  simp only [BitVec.getLsbD_or, BitVec.getLsbD_shiftLeft, mk_bit]
  have e : k - 25 < 64 := by omega
  simp only [e, decide_true, Bool.true_and]
theorem insn_ext (a b : InsnV) (h0 : a.op = b.op) (h1 : a.rd = b.rd) (h2 : a.rs1 = b.rs1) (h3 : a.rs2 = b.rs2) (h4 : a.imm = b.imm) (h5 : a.aq = b.aq) (h6 : a.rl = b.rl) (h7 : a.pred = b.pred) (h8 : a.succ = b.succ) : a = b := by
  cases a; cases b; simp_all
theorem imm_in (f op : Int) (X : BitVec 64) (hf : hasL [1, 2, 3, 4, 5, 6] f = true) : (decV f op X).imm = sn (Sign (immGet X (pieces f) (pieces f).length) (pieceBits f)) := if_pos hf
theorem imm_six (op : Int) (X : BitVec 64) : (decV 7 op X).imm = sn (Part X 20 6) := rfl
theorem imm_out (f op : Int) (X : BitVec 64) (hf : ¬ hasL [1, 2, 3, 4, 5, 6] f = true) (h7 : f ≠ 7) : (decV f op X).imm = 0 := (if_neg hf).trans (if_neg h7)
theorem reg_key (r : Int) (hr : regBad r = false) : 0 ≤ r ∧ r < ((2 ^ 5 : Nat) : Int) := by unfold regBad at hr; simp at hr; exact ⟨by omega, by show r < 32; omega⟩
theorem dec_1 (p : PartV) (s : Bool) (i : InsnV) (h : formOk 1 s i = true) : decV 1 i.op (((wordG 1 p i).setWidth 32).setWidth 64) = i := by
  unfold formOk at h
  simp [badIn] at h
  obtain ⟨X, hX⟩ : ∃ X, X = ((wordG 1 p i).setWidth 32).setWidth 64 := ⟨_, rfl⟩
  have hb : ∀ k, k < 32 → X.getLsbD k = if 7 ≤ k ∧ k < 7 + 5 then (bv i.rd).getLsbD ((k - 7)) else if 12 ≤ k ∧ k < 12 + 20 then (decide ((k - 12) < 20) && (bv i.imm).getLsbD (0 + (k - 12))) else (bv p.code).getLsbD k := fun k hk => by rw [hX, low_bits _ _ hk, bit_1 p i k hk]
  rw [← hX]
  clear hX
  refine insn_ext _ _ rfl ?_ ?_ ?_ ?_ ?_ ?_ ?_ ?_
  · show (if hasL [1, 2, 3, 4, 7, 8, 11, 12] 1 then sn (Part X 7 5) else 0) = i.rd
    rw [if_pos (by decide)]
    have kr := reg_key i.rd (by simp [h])
    refine part_back X 7 5 i.rd (by decide) kr.1 kr.2 (fun k hk => ?_)
    rw [hb _ (by omega)]
    repeat (first | rw [if_pos (by omega)] | rw [if_neg (by omega)])
    rw [Nat.add_sub_cancel_left]
  · show (if hasL [3, 4, 7, 8, 11, 12, 5, 6] 1 then sn (Part X 15 5) else 0) = i.rs1
    rw [if_neg (by decide)]; exact (by simp [h] : i.rs1 = 0).symm
  · show (if hasL [5, 6, 8, 12] 1 then sn (Part X 20 5) else 0) = i.rs2
    rw [if_neg (by decide)]; exact (by simp [h] : i.rs2 = 0).symm
  · refine (imm_in 1 i.op X (by decide)).trans ?_
    have e : immGet X (pieces 1) (pieces 1).length = 0#64 ||| Part X 12 20 <<< (0 : Nat) := rfl
    rw [e]
    refine imm_back _ i.imm 20 (by decide) (by simp [h]) (fun k hk => ?_)
    rw [BitVec.getLsbD_or, BitVec.getLsbD_zero, piece_bit X 12 20 0 k 12 20 rfl rfl (by decide)]
    rcases (show (0 ≤ k ∧ k < 20) by omega) with hr
    · repeat (first | rw [if_pos (by omega)] | rw [if_neg (by omega)])
      simp only [Bool.false_or, Bool.or_false]
      rw [hb _ (by omega)]
      repeat (first | rw [if_pos (by omega)] | rw [if_neg (by omega)])
      rw [show 0 + (12 + (k - 0) - 12) = k by omega, show decide (12 + (k - 0) - 12 < 20) = true by simp; omega, Bool.true_and]
  · show (hasL [11, 12] 1 && (un (Part X 26 1) == 1)) = i.aq
    rw [show hasL [11, 12] 1 = false by decide, Bool.false_and]; exact (by simp [h] : i.aq = false).symm
  · show (hasL [11, 12] 1 && (un (Part X 25 1) == 1)) = i.rl
    rw [show hasL [11, 12] 1 = false by decide, Bool.false_and]; exact (by simp [h] : i.rl = false).symm
  · show (if (1 : Int) = 9 then sn (Part X 24 4) else 0) = i.pred
    rw [if_neg (by decide)]; exact (by simp [h] : i.pred = 0).symm
  · show (if (1 : Int) = 9 then sn (Part X 20 4) else 0) = i.succ
    rw [if_neg (by decide)]; exact (by simp [h] : i.succ = 0).symm
theorem dec_2 (p : PartV) (s : Bool) (i : InsnV) (h : formOk 2 s i = true) : decV 2 i.op (((wordG 2 p i).setWidth 32).setWidth 64) = i := by
  unfold formOk at h
  simp [badIn] at h
  obtain ⟨X, hX⟩ : ∃ X, X = ((wordG 2 p i).setWidth 32).setWidth 64 := ⟨_, rfl⟩
  have hb : ∀ k, k < 32 → X.getLsbD k = if 7 ≤ k ∧ k < 7 + 5 then (bv i.rd).getLsbD ((k - 7)) else if 31 ≤ k ∧ k < 31 + 1 then (decide ((k - 31) < 1) && (bv i.imm).getLsbD (20 + (k - 31))) else if 21 ≤ k ∧ k < 21 + 10 then (decide ((k - 21) < 10) && (bv i.imm).getLsbD (1 + (k - 21))) else if 20 ≤ k ∧ k < 20 + 1 then (decide ((k - 20) < 1) && (bv i.imm).getLsbD (11 + (k - 20))) else if 12 ≤ k ∧ k < 12 + 8 then (decide ((k - 12) < 8) && (bv i.imm).getLsbD (12 + (k - 12))) else (bv p.code).getLsbD k := fun k hk => by rw [hX, low_bits _ _ hk, bit_2 p i k hk]
  rw [← hX]
  clear hX
  refine insn_ext _ _ rfl ?_ ?_ ?_ ?_ ?_ ?_ ?_ ?_
  · show (if hasL [1, 2, 3, 4, 7, 8, 11, 12] 2 then sn (Part X 7 5) else 0) = i.rd
    rw [if_pos (by decide)]
    have kr := reg_key i.rd (by simp [h])
    refine part_back X 7 5 i.rd (by decide) kr.1 kr.2 (fun k hk => ?_)
    rw [hb _ (by omega)]
    repeat (first | rw [if_pos (by omega)] | rw [if_neg (by omega)])
    rw [Nat.add_sub_cancel_left]
  · show (if hasL [3, 4, 7, 8, 11, 12, 5, 6] 2 then sn (Part X 15 5) else 0) = i.rs1
    rw [if_neg (by decide)]; exact (by simp [h] : i.rs1 = 0).symm
  · show (if hasL [5, 6, 8, 12] 2 then sn (Part X 20 5) else 0) = i.rs2
    rw [if_neg (by decide)]; exact (by simp [h] : i.rs2 = 0).symm
  · refine (imm_in 2 i.op X (by decide)).trans ?_
    have e : immGet X (pieces 2) (pieces 2).length = 0#64 ||| Part X 12 8 <<< (12 : Nat) ||| Part X 20 1 <<< (11 : Nat) ||| Part X 21 10 <<< (1 : Nat) ||| Part X 31 1 <<< (20 : Nat) := rfl
    rw [e]
    refine imm_back _ i.imm 21 (by decide) (by simp [h]) (fun k hk => ?_)
    rw [BitVec.getLsbD_or, BitVec.getLsbD_or, BitVec.getLsbD_or, BitVec.getLsbD_or, BitVec.getLsbD_zero, piece_bit X 12 8 12 k 12 8 rfl rfl (by decide), piece_bit X 20 1 11 k 20 1 rfl rfl (by decide), piece_bit X 21 10 1 k 21 10 rfl rfl (by decide), piece_bit X 31 1 20 k 31 1 rfl rfl (by decide)]
    rcases (show (0 ≤ k ∧ k < 1) ∨ (1 ≤ k ∧ k < 11) ∨ (11 ≤ k ∧ k < 12) ∨ (12 ≤ k ∧ k < 20) ∨ (20 ≤ k ∧ k < 21) by omega) with hr | hr | hr | hr | hr
    · repeat (first | rw [if_pos (by omega)] | rw [if_neg (by omega)])
      simp only [Bool.false_or, Bool.or_false]
      rw [show k = 0 by omega]; exact (even_bit i.imm (by simp [h])).symm
    · repeat (first | rw [if_pos (by omega)] | rw [if_neg (by omega)])
      simp only [Bool.false_or, Bool.or_false]
      rw [hb _ (by omega)]
      repeat (first | rw [if_pos (by omega)] | rw [if_neg (by omega)])
      rw [show 1 + (21 + (k - 1) - 21) = k by omega, show decide (21 + (k - 1) - 21 < 10) = true by simp; omega, Bool.true_and]
    · repeat (first | rw [if_pos (by omega)] | rw [if_neg (by omega)])
      simp only [Bool.false_or, Bool.or_false]
      rw [hb _ (by omega)]
      repeat (first | rw [if_pos (by omega)] | rw [if_neg (by omega)])
      rw [show 11 + (20 + (k - 11) - 20) = k by omega, show decide (20 + (k - 11) - 20 < 1) = true by simp; omega, Bool.true_and]
    · repeat (first | rw [if_pos (by omega)] | rw [if_neg (by omega)])
      simp only [Bool.false_or, Bool.or_false]
      rw [hb _ (by omega)]
      repeat (first | rw [if_pos (by omega)] | rw [if_neg (by omega)])
      rw [show 12 + (12 + (k - 12) - 12) = k by omega, show decide (12 + (k - 12) - 12 < 8) = true by simp; omega, Bool.true_and]
    · repeat (first | rw [if_pos (by omega)] | rw [if_neg (by omega)])
      simp only [Bool.false_or, Bool.or_false]
      rw [hb _ (by omega)]
      repeat (first | rw [if_pos (by omega)] | rw [if_neg (by omega)])
      rw [show 20 + (31 + (k - 20) - 31) = k by omega, show decide (31 + (k - 20) - 31 < 1) = true by simp; omega, Bool.true_and]
  · show (hasL [11, 12] 2 && (un (Part X 26 1) == 1)) = i.aq
    rw [show hasL [11, 12] 2 = false by decide, Bool.false_and]; exact (by simp [h] : i.aq = false).symm
  · show (hasL [11, 12] 2 && (un (Part X 25 1) == 1)) = i.rl
    rw [show hasL [11, 12] 2 = false by decide, Bool.false_and]; exact (by simp [h] : i.rl = false).symm
  · show (if (2 : Int) = 9 then sn (Part X 24 4) else 0) = i.pred
    rw [if_neg (by decide)]; exact (by simp [h] : i.pred = 0).symm
  · show (if (2 : Int) = 9 then sn (Part X 20 4) else 0) = i.succ
    rw [if_neg (by decide)]; exact (by simp [h] : i.succ = 0).symm
theorem dec_3 (p : PartV) (s : Bool) (i : InsnV) (h : formOk 3 s i = true) : decV 3 i.op (((wordG 3 p i).setWidth 32).setWidth 64) = i := by
  unfold formOk at h
  simp [badIn] at h
  obtain ⟨X, hX⟩ : ∃ X, X = ((wordG 3 p i).setWidth 32).setWidth 64 := ⟨_, rfl⟩
  have hb : ∀ k, k < 32 → X.getLsbD k = if 15 ≤ k ∧ k < 15 + 5 then (bv i.rs1).getLsbD ((k - 15)) else if 7 ≤ k ∧ k < 7 + 5 then (bv i.rd).getLsbD ((k - 7)) else if 12 ≤ k ∧ k < 12 + 3 then (bv p.f3).getLsbD ((k - 12)) else if 20 ≤ k ∧ k < 20 + 12 then (decide ((k - 20) < 12) && (bv i.imm).getLsbD (0 + (k - 20))) else (bv p.code).getLsbD k := fun k hk => by rw [hX, low_bits _ _ hk, bit_3 p i k hk]
  rw [← hX]
  clear hX
  refine insn_ext _ _ rfl ?_ ?_ ?_ ?_ ?_ ?_ ?_ ?_
  · show (if hasL [1, 2, 3, 4, 7, 8, 11, 12] 3 then sn (Part X 7 5) else 0) = i.rd
    rw [if_pos (by decide)]
    have kr := reg_key i.rd (by simp [h])
    refine part_back X 7 5 i.rd (by decide) kr.1 kr.2 (fun k hk => ?_)
    rw [hb _ (by omega)]
    repeat (first | rw [if_pos (by omega)] | rw [if_neg (by omega)])
    rw [Nat.add_sub_cancel_left]
  · show (if hasL [3, 4, 7, 8, 11, 12, 5, 6] 3 then sn (Part X 15 5) else 0) = i.rs1
    rw [if_pos (by decide)]
    have kr := reg_key i.rs1 (by simp [h])
    refine part_back X 15 5 i.rs1 (by decide) kr.1 kr.2 (fun k hk => ?_)
    rw [hb _ (by omega)]
    repeat (first | rw [if_pos (by omega)] | rw [if_neg (by omega)])
    rw [Nat.add_sub_cancel_left]
  · show (if hasL [5, 6, 8, 12] 3 then sn (Part X 20 5) else 0) = i.rs2
    rw [if_neg (by decide)]; exact (by simp [h] : i.rs2 = 0).symm
  · refine (imm_in 3 i.op X (by decide)).trans ?_
    have e : immGet X (pieces 3) (pieces 3).length = 0#64 ||| Part X 20 12 <<< (0 : Nat) := rfl
    rw [e]
    refine imm_back _ i.imm 12 (by decide) (by simp [h]) (fun k hk => ?_)
    rw [BitVec.getLsbD_or, BitVec.getLsbD_zero, piece_bit X 20 12 0 k 20 12 rfl rfl (by decide)]
    rcases (show (0 ≤ k ∧ k < 12) by omega) with hr
    · repeat (first | rw [if_pos (by omega)] | rw [if_neg (by omega)])
      simp only [Bool.false_or, Bool.or_false]
      rw [hb _ (by omega)]
      repeat (first | rw [if_pos (by omega)] | rw [if_neg (by omega)])
      rw [show 0 + (20 + (k - 0) - 20) = k by omega, show decide (20 + (k - 0) - 20 < 12) = true by simp; omega, Bool.true_and]
  · show (hasL [11, 12] 3 && (un (Part X 26 1) == 1)) = i.aq
    rw [show hasL [11, 12] 3 = false by decide, Bool.false_and]; exact (by simp [h] : i.aq = false).symm
  · show (hasL [11, 12] 3 && (un (Part X 25 1) == 1)) = i.rl
    rw [show hasL [11, 12] 3 = false by decide, Bool.false_and]; exact (by simp [h] : i.rl = false).symm
  · show (if (3 : Int) = 9 then sn (Part X 24 4) else 0) = i.pred
    rw [if_neg (by decide)]; exact (by simp [h] : i.pred = 0).symm
  · show (if (3 : Int) = 9 then sn (Part X 20 4) else 0) = i.succ
    rw [if_neg (by decide)]; exact (by simp [h] : i.succ = 0).symm
theorem dec_4 (p : PartV) (s : Bool) (i : InsnV) (h : formOk 4 s i = true) : decV 4 i.op (((wordG 4 p i).setWidth 32).setWidth 64) = i := by
  unfold formOk at h
  simp [badIn] at h
  obtain ⟨X, hX⟩ : ∃ X, X = ((wordG 4 p i).setWidth 32).setWidth 64 := ⟨_, rfl⟩
  have hb : ∀ k, k < 32 → X.getLsbD k = if 15 ≤ k ∧ k < 15 + 5 then (bv i.rs1).getLsbD ((k - 15)) else if 7 ≤ k ∧ k < 7 + 5 then (bv i.rd).getLsbD ((k - 7)) else if 12 ≤ k ∧ k < 12 + 3 then (bv p.f3).getLsbD ((k - 12)) else if 20 ≤ k ∧ k < 20 + 12 then (decide ((k - 20) < 12) && (bv i.imm).getLsbD (0 + (k - 20))) else (bv p.code).getLsbD k := fun k hk => by rw [hX, low_bits _ _ hk, bit_4 p i k hk]
  rw [← hX]
  clear hX
  refine insn_ext _ _ rfl ?_ ?_ ?_ ?_ ?_ ?_ ?_ ?_
  · show (if hasL [1, 2, 3, 4, 7, 8, 11, 12] 4 then sn (Part X 7 5) else 0) = i.rd
    rw [if_pos (by decide)]
    have kr := reg_key i.rd (by simp [h])
    refine part_back X 7 5 i.rd (by decide) kr.1 kr.2 (fun k hk => ?_)
    rw [hb _ (by omega)]
    repeat (first | rw [if_pos (by omega)] | rw [if_neg (by omega)])
    rw [Nat.add_sub_cancel_left]
  · show (if hasL [3, 4, 7, 8, 11, 12, 5, 6] 4 then sn (Part X 15 5) else 0) = i.rs1
    rw [if_pos (by decide)]
    have kr := reg_key i.rs1 (by simp [h])
    refine part_back X 15 5 i.rs1 (by decide) kr.1 kr.2 (fun k hk => ?_)
    rw [hb _ (by omega)]
    repeat (first | rw [if_pos (by omega)] | rw [if_neg (by omega)])
    rw [Nat.add_sub_cancel_left]
  · show (if hasL [5, 6, 8, 12] 4 then sn (Part X 20 5) else 0) = i.rs2
    rw [if_neg (by decide)]; exact (by simp [h] : i.rs2 = 0).symm
  · refine (imm_in 4 i.op X (by decide)).trans ?_
    have e : immGet X (pieces 4) (pieces 4).length = 0#64 ||| Part X 20 12 <<< (0 : Nat) := rfl
    rw [e]
    refine imm_back _ i.imm 12 (by decide) (by simp [h]) (fun k hk => ?_)
    rw [BitVec.getLsbD_or, BitVec.getLsbD_zero, piece_bit X 20 12 0 k 20 12 rfl rfl (by decide)]
    rcases (show (0 ≤ k ∧ k < 12) by omega) with hr
    · repeat (first | rw [if_pos (by omega)] | rw [if_neg (by omega)])
      simp only [Bool.false_or, Bool.or_false]
      rw [hb _ (by omega)]
      repeat (first | rw [if_pos (by omega)] | rw [if_neg (by omega)])
      rw [show 0 + (20 + (k - 0) - 20) = k by omega, show decide (20 + (k - 0) - 20 < 12) = true by simp; omega, Bool.true_and]
  · show (hasL [11, 12] 4 && (un (Part X 26 1) == 1)) = i.aq
    rw [show hasL [11, 12] 4 = false by decide, Bool.false_and]; exact (by simp [h] : i.aq = false).symm
  · show (hasL [11, 12] 4 && (un (Part X 25 1) == 1)) = i.rl
    rw [show hasL [11, 12] 4 = false by decide, Bool.false_and]; exact (by simp [h] : i.rl = false).symm
  · show (if (4 : Int) = 9 then sn (Part X 24 4) else 0) = i.pred
    rw [if_neg (by decide)]; exact (by simp [h] : i.pred = 0).symm
  · show (if (4 : Int) = 9 then sn (Part X 20 4) else 0) = i.succ
    rw [if_neg (by decide)]; exact (by simp [h] : i.succ = 0).symm
theorem dec_5 (p : PartV) (s : Bool) (i : InsnV) (h : formOk 5 s i = true) : decV 5 i.op (((wordG 5 p i).setWidth 32).setWidth 64) = i := by
  unfold formOk at h
  simp [badIn] at h
  obtain ⟨X, hX⟩ : ∃ X, X = ((wordG 5 p i).setWidth 32).setWidth 64 := ⟨_, rfl⟩
  have hb : ∀ k, k < 32 → X.getLsbD k = if 20 ≤ k ∧ k < 20 + 5 then (bv i.rs2).getLsbD ((k - 20)) else if 15 ≤ k ∧ k < 15 + 5 then (bv i.rs1).getLsbD ((k - 15)) else if 12 ≤ k ∧ k < 12 + 3 then (bv p.f3).getLsbD ((k - 12)) else if 25 ≤ k ∧ k < 25 + 7 then (decide ((k - 25) < 7) && (bv i.imm).getLsbD (5 + (k - 25))) else if 7 ≤ k ∧ k < 7 + 5 then (decide ((k - 7) < 5) && (bv i.imm).getLsbD (0 + (k - 7))) else (bv p.code).getLsbD k := fun k hk => by rw [hX, low_bits _ _ hk, bit_5 p i k hk]
  rw [← hX]
  clear hX
  refine insn_ext _ _ rfl ?_ ?_ ?_ ?_ ?_ ?_ ?_ ?_
  · show (if hasL [1, 2, 3, 4, 7, 8, 11, 12] 5 then sn (Part X 7 5) else 0) = i.rd
    rw [if_neg (by decide)]; exact (by simp [h] : i.rd = 0).symm
  · show (if hasL [3, 4, 7, 8, 11, 12, 5, 6] 5 then sn (Part X 15 5) else 0) = i.rs1
    rw [if_pos (by decide)]
    have kr := reg_key i.rs1 (by simp [h])
    refine part_back X 15 5 i.rs1 (by decide) kr.1 kr.2 (fun k hk => ?_)
    rw [hb _ (by omega)]
    repeat (first | rw [if_pos (by omega)] | rw [if_neg (by omega)])
    rw [Nat.add_sub_cancel_left]
  · show (if hasL [5, 6, 8, 12] 5 then sn (Part X 20 5) else 0) = i.rs2
    rw [if_pos (by decide)]
    have kr := reg_key i.rs2 (by simp [h])
    refine part_back X 20 5 i.rs2 (by decide) kr.1 kr.2 (fun k hk => ?_)
    rw [hb _ (by omega)]
    repeat (first | rw [if_pos (by omega)] | rw [if_neg (by omega)])
    rw [Nat.add_sub_cancel_left]
  · refine (imm_in 5 i.op X (by decide)).trans ?_
    have e : immGet X (pieces 5) (pieces 5).length = 0#64 ||| Part X 7 5 <<< (0 : Nat) ||| Part X 25 7 <<< (5 : Nat) := rfl
    rw [e]
    refine imm_back _ i.imm 12 (by decide) (by simp [h]) (fun k hk => ?_)
    rw [BitVec.getLsbD_or, BitVec.getLsbD_or, BitVec.getLsbD_zero, piece_bit X 7 5 0 k 7 5 rfl rfl (by decide), piece_bit X 25 7 5 k 25 7 rfl rfl (by decide)]
    rcases (show (0 ≤ k ∧ k < 5) ∨ (5 ≤ k ∧ k < 12) by omega) with hr | hr
    · repeat (first | rw [if_pos (by omega)] | rw [if_neg (by omega)])
      simp only [Bool.false_or, Bool.or_false]
      rw [hb _ (by omega)]
      repeat (first | rw [if_pos (by omega)] | rw [if_neg (by omega)])
      rw [show 0 + (7 + (k - 0) - 7) = k by omega, show decide (7 + (k - 0) - 7 < 5) = true by simp; omega, Bool.true_and]
    · repeat (first | rw [if_pos (by omega)] | rw [if_neg (by omega)])
      simp only [Bool.false_or, Bool.or_false]
      rw [hb _ (by omega)]
      repeat (first | rw [if_pos (by omega)] | rw [if_neg (by omega)])
      rw [show 5 + (25 + (k - 5) - 25) = k by omega, show decide (25 + (k - 5) - 25 < 7) = true by simp; omega, Bool.true_and]
  · show (hasL [11, 12] 5 && (un (Part X 26 1) == 1)) = i.aq
    rw [show hasL [11, 12] 5 = false by decide, Bool.false_and]; exact (by simp [h] : i.aq = false).symm
  · show (hasL [11, 12] 5 && (un (Part X 25 1) == 1)) = i.rl
    rw [show hasL [11, 12] 5 = false by decide, Bool.false_and]; exact (by simp [h] : i.rl = false).symm
  · show (if (5 : Int) = 9 then sn (Part X 24 4) else 0) = i.pred
    rw [if_neg (by decide)]; exact (by simp [h] : i.pred = 0).symm
  · show (if (5 : Int) = 9 then sn (Part X 20 4) else 0) = i.succ
    rw [if_neg (by decide)]; exact (by simp [h] : i.succ = 0).symm
theorem dec_6 (p : PartV) (s : Bool) (i : InsnV) (h : formOk 6 s i = true) : decV 6 i.op (((wordG 6 p i).setWidth 32).setWidth 64) = i := by
  unfold formOk at h
  simp [badIn] at h
  obtain ⟨X, hX⟩ : ∃ X, X = ((wordG 6 p i).setWidth 32).setWidth 64 := ⟨_, rfl⟩
  have hb : ∀ k, k < 32 → X.getLsbD k = if 20 ≤ k ∧ k < 20 + 5 then (bv i.rs2).getLsbD ((k - 20)) else if 15 ≤ k ∧ k < 15 + 5 then (bv i.rs1).getLsbD ((k - 15)) else if 12 ≤ k ∧ k < 12 + 3 then (bv p.f3).getLsbD ((k - 12)) else if 31 ≤ k ∧ k < 31 + 1 then (decide ((k - 31) < 1) && (bv i.imm).getLsbD (12 + (k - 31))) else if 25 ≤ k ∧ k < 25 + 6 then (decide ((k - 25) < 6) && (bv i.imm).getLsbD (5 + (k - 25))) else if 8 ≤ k ∧ k < 8 + 4 then (decide ((k - 8) < 4) && (bv i.imm).getLsbD (1 + (k - 8))) else if 7 ≤ k ∧ k < 7 + 1 then (decide ((k - 7) < 1) && (bv i.imm).getLsbD (11 + (k - 7))) else (bv p.code).getLsbD k := fun k hk => by rw [hX, low_bits _ _ hk, bit_6 p i k hk]
  rw [← hX]
  clear hX
  refine insn_ext _ _ rfl ?_ ?_ ?_ ?_ ?_ ?_ ?_ ?_
  · show (if hasL [1, 2, 3, 4, 7, 8, 11, 12] 6 then sn (Part X 7 5) else 0) = i.rd
    rw [if_neg (by decide)]; exact (by simp [h] : i.rd = 0).symm
  · show (if hasL [3, 4, 7, 8, 11, 12, 5, 6] 6 then sn (Part X 15 5) else 0) = i.rs1
    rw [if_pos (by decide)]
    have kr := reg_key i.rs1 (by simp [h])
    refine part_back X 15 5 i.rs1 (by decide) kr.1 kr.2 (fun k hk => ?_)
    rw [hb _ (by omega)]
    repeat (first | rw [if_pos (by omega)] | rw [if_neg (by omega)])
    rw [Nat.add_sub_cancel_left]
  · show (if hasL [5, 6, 8, 12] 6 then sn (Part X 20 5) else 0) = i.rs2
    rw [if_pos (by decide)]
    have kr := reg_key i.rs2 (by simp [h])
    refine part_back X 20 5 i.rs2 (by decide) kr.1 kr.2 (fun k hk => ?_)
    rw [hb _ (by omega)]
    repeat (first | rw [if_pos (by omega)] | rw [if_neg (by omega)])
    rw [Nat.add_sub_cancel_left]
  · refine (imm_in 6 i.op X (by decide)).trans ?_
    have e : immGet X (pieces 6) (pieces 6).length = 0#64 ||| Part X 7 1 <<< (11 : Nat) ||| Part X 8 4 <<< (1 : Nat) ||| Part X 25 6 <<< (5 : Nat) ||| Part X 31 1 <<< (12 : Nat) := rfl
    rw [e]
    refine imm_back _ i.imm 13 (by decide) (by simp [h]) (fun k hk => ?_)
    rw [BitVec.getLsbD_or, BitVec.getLsbD_or, BitVec.getLsbD_or, BitVec.getLsbD_or, BitVec.getLsbD_zero, piece_bit X 7 1 11 k 7 1 rfl rfl (by decide), piece_bit X 8 4 1 k 8 4 rfl rfl (by decide), piece_bit X 25 6 5 k 25 6 rfl rfl (by decide), piece_bit X 31 1 12 k 31 1 rfl rfl (by decide)]
    rcases (show (0 ≤ k ∧ k < 1) ∨ (1 ≤ k ∧ k < 5) ∨ (5 ≤ k ∧ k < 11) ∨ (11 ≤ k ∧ k < 12) ∨ (12 ≤ k ∧ k < 13) by omega) with hr | hr | hr | hr | hr
    · repeat (first | rw [if_pos (by omega)] | rw [if_neg (by omega)])
      simp only [Bool.false_or, Bool.or_false]
      rw [show k = 0 by omega]; exact (even_bit i.imm (by simp [h])).symm
    · repeat (first | rw [if_pos (by omega)] | rw [if_neg (by omega)])
      simp only [Bool.false_or, Bool.or_false]
      rw [hb _ (by omega)]
      repeat (first | rw [if_pos (by omega)] | rw [if_neg (by omega)])
      rw [show 1 + (8 + (k - 1) - 8) = k by omega, show decide (8 + (k - 1) - 8 < 4) = true by simp; omega, Bool.true_and]
    · repeat (first | rw [if_pos (by omega)] | rw [if_neg (by omega)])
      simp only [Bool.false_or, Bool.or_false]
      rw [hb _ (by omega)]
      repeat (first | rw [if_pos (by omega)] | rw [if_neg (by omega)])
      rw [show 5 + (25 + (k - 5) - 25) = k by omega, show decide (25 + (k - 5) - 25 < 6) = true by simp; omega, Bool.true_and]
    · repeat (first | rw [if_pos (by omega)] | rw [if_neg (by omega)])
      simp only [Bool.false_or, Bool.or_false]
      rw [hb _ (by omega)]
      repeat (first | rw [if_pos (by omega)] | rw [if_neg (by omega)])
      rw [show 11 + (7 + (k - 11) - 7) = k by omega, show decide (7 + (k - 11) - 7 < 1) = true by simp; omega, Bool.true_and]
    · repeat (first | rw [if_pos (by omega)] | rw [if_neg (by omega)])
      simp only [Bool.false_or, Bool.or_false]
      rw [hb _ (by omega)]
      repeat (first | rw [if_pos (by omega)] | rw [if_neg (by omega)])
      rw [show 12 + (31 + (k - 12) - 31) = k by omega, show decide (31 + (k - 12) - 31 < 1) = true by simp; omega, Bool.true_and]
  · show (hasL [11, 12] 6 && (un (Part X 26 1) == 1)) = i.aq
    rw [show hasL [11, 12] 6 = false by decide, Bool.false_and]; exact (by simp [h] : i.aq = false).symm
  · show (hasL [11, 12] 6 && (un (Part X 25 1) == 1)) = i.rl
    rw [show hasL [11, 12] 6 = false by decide, Bool.false_and]; exact (by simp [h] : i.rl = false).symm
  · show (if (6 : Int) = 9 then sn (Part X 24 4) else 0) = i.pred
    rw [if_neg (by decide)]; exact (by simp [h] : i.pred = 0).symm
  · show (if (6 : Int) = 9 then sn (Part X 20 4) else 0) = i.succ
    rw [if_neg (by decide)]; exact (by simp [h] : i.succ = 0).symm
theorem dec_7 (p : PartV) (s : Bool) (i : InsnV) (h : formOk 7 s i = true) (hp : 0 ≤ p.f7 ∧ p.f7 < 128 ∧ (bv p.f7).getLsbD 0 = false ∧ 0 ≤ p.code ∧ p.code < ((2 ^ 7 : Nat) : Int)) : decV 7 i.op (((wordG 7 p i).setWidth 32).setWidth 64) = i := by
  unfold formOk at h
  simp [badIn] at h
  obtain ⟨X, hX⟩ : ∃ X, X = ((wordG 7 p i).setWidth 32).setWidth 64 := ⟨_, rfl⟩
  have hb : ∀ k, k < 32 → X.getLsbD k = ((if 15 ≤ k ∧ k < 15 + 5 then (bv i.rs1).getLsbD ((k - 15)) else if 7 ≤ k ∧ k < 7 + 5 then (bv i.rd).getLsbD ((k - 7)) else if 12 ≤ k ∧ k < 12 + 3 then (bv p.f3).getLsbD ((k - 12)) else (bv p.code).getLsbD k) || ((!decide (k < 25) && (bv p.f7).getLsbD (k - 25)) || (!decide (k < 20) && (bv i.imm).getLsbD (k - 20)))) := fun k hk => by rw [hX, low_bits _ _ hk, bit_7 p i k hk]
  rw [← hX]
  clear hX
  refine insn_ext _ _ rfl ?_ ?_ ?_ ?_ ?_ ?_ ?_ ?_
  · show (if hasL [1, 2, 3, 4, 7, 8, 11, 12] 7 then sn (Part X 7 5) else 0) = i.rd
    rw [if_pos (by decide)]
    have kr := reg_key i.rd (by simp [h])
    refine part_back X 7 5 i.rd (by decide) kr.1 kr.2 (fun k hk => ?_)
    rw [hb _ (by omega)]
    rw [show (!decide (7 + k < 25) && (bv p.f7).getLsbD (7 + k - 25)) = false by simp; omega, show (!decide (7 + k < 20) && (bv i.imm).getLsbD (7 + k - 20)) = false by simp; omega, Bool.or_false, Bool.or_false]
    repeat (first | rw [if_pos (by omega)] | rw [if_neg (by omega)])
    rw [Nat.add_sub_cancel_left]
  · show (if hasL [3, 4, 7, 8, 11, 12, 5, 6] 7 then sn (Part X 15 5) else 0) = i.rs1
    rw [if_pos (by decide)]
    have kr := reg_key i.rs1 (by simp [h])
    refine part_back X 15 5 i.rs1 (by decide) kr.1 kr.2 (fun k hk => ?_)
    rw [hb _ (by omega)]
    rw [show (!decide (15 + k < 25) && (bv p.f7).getLsbD (15 + k - 25)) = false by simp; omega, show (!decide (15 + k < 20) && (bv i.imm).getLsbD (15 + k - 20)) = false by simp; omega, Bool.or_false, Bool.or_false]
    repeat (first | rw [if_pos (by omega)] | rw [if_neg (by omega)])
    rw [Nat.add_sub_cancel_left]
  · show (if hasL [5, 6, 8, 12] 7 then sn (Part X 20 5) else 0) = i.rs2
    rw [if_neg (by decide)]; exact (by simp [h] : i.rs2 = 0).symm
  · refine (imm_six i.op X).trans ?_
    refine part_back X 20 6 i.imm (by decide) (by simp [h]) (by show i.imm < 64; omega) (fun k hk => ?_)
    rw [hb _ (by omega)]
    repeat (first | rw [if_pos (by omega)] | rw [if_neg (by omega)])
    have e7 : (!decide (20 + k < 25) && (bv p.f7).getLsbD (20 + k - 25)) = false := by
      by_cases h5 : 20 + k < 25
      · simp [h5]
      · rw [show 20 + k - 25 = 0 by omega, hp.2.2.1, Bool.and_false]
    rw [e7, bv_hi p.code 7 (20 + k) hp.2.2.2.1 hp.2.2.2.2 (by omega), show 20 + k - 20 = k by omega, show decide (20 + k < 20) = false by simp, Bool.false_or, Bool.false_or, Bool.not_false, Bool.true_and]
  · show (hasL [11, 12] 7 && (un (Part X 26 1) == 1)) = i.aq
    rw [show hasL [11, 12] 7 = false by decide, Bool.false_and]; exact (by simp [h] : i.aq = false).symm
  · show (hasL [11, 12] 7 && (un (Part X 25 1) == 1)) = i.rl
    rw [show hasL [11, 12] 7 = false by decide, Bool.false_and]; exact (by simp [h] : i.rl = false).symm
  · show (if (7 : Int) = 9 then sn (Part X 24 4) else 0) = i.pred
    rw [if_neg (by decide)]; exact (by simp [h] : i.pred = 0).symm
  · show (if (7 : Int) = 9 then sn (Part X 20 4) else 0) = i.succ
    rw [if_neg (by decide)]; exact (by simp [h] : i.succ = 0).symm
theorem dec_8 (p : PartV) (s : Bool) (i : InsnV) (h : formOk 8 s i = true) : decV 8 i.op (((wordG 8 p i).setWidth 32).setWidth 64) = i := by
  unfold formOk at h
  simp [badIn] at h
  obtain ⟨X, hX⟩ : ∃ X, X = ((wordG 8 p i).setWidth 32).setWidth 64 := ⟨_, rfl⟩
  have hb : ∀ k, k < 32 → X.getLsbD k = if 25 ≤ k ∧ k < 25 + 7 then (bv p.f7).getLsbD ((k - 25)) else if 20 ≤ k ∧ k < 20 + 5 then (bv i.rs2).getLsbD ((k - 20)) else if 15 ≤ k ∧ k < 15 + 5 then (bv i.rs1).getLsbD ((k - 15)) else if 7 ≤ k ∧ k < 7 + 5 then (bv i.rd).getLsbD ((k - 7)) else if 12 ≤ k ∧ k < 12 + 3 then (bv p.f3).getLsbD ((k - 12)) else (bv p.code).getLsbD k := fun k hk => by rw [hX, low_bits _ _ hk, bit_8 p i k hk]
  rw [← hX]
  clear hX
  refine insn_ext _ _ rfl ?_ ?_ ?_ ?_ ?_ ?_ ?_ ?_
  · show (if hasL [1, 2, 3, 4, 7, 8, 11, 12] 8 then sn (Part X 7 5) else 0) = i.rd
    rw [if_pos (by decide)]
    have kr := reg_key i.rd (by simp [h])
    refine part_back X 7 5 i.rd (by decide) kr.1 kr.2 (fun k hk => ?_)
    rw [hb _ (by omega)]
    repeat (first | rw [if_pos (by omega)] | rw [if_neg (by omega)])
    rw [Nat.add_sub_cancel_left]
  · show (if hasL [3, 4, 7, 8, 11, 12, 5, 6] 8 then sn (Part X 15 5) else 0) = i.rs1
    rw [if_pos (by decide)]
    have kr := reg_key i.rs1 (by simp [h])
    refine part_back X 15 5 i.rs1 (by decide) kr.1 kr.2 (fun k hk => ?_)
    rw [hb _ (by omega)]
    repeat (first | rw [if_pos (by omega)] | rw [if_neg (by omega)])
    rw [Nat.add_sub_cancel_left]
  · show (if hasL [5, 6, 8, 12] 8 then sn (Part X 20 5) else 0) = i.rs2
    rw [if_pos (by decide)]
    have kr := reg_key i.rs2 (by simp [h])
    refine part_back X 20 5 i.rs2 (by decide) kr.1 kr.2 (fun k hk => ?_)
    rw [hb _ (by omega)]
    repeat (first | rw [if_pos (by omega)] | rw [if_neg (by omega)])
    rw [Nat.add_sub_cancel_left]
  · refine (imm_out 8 i.op X (by decide) (by decide)).trans ?_
    exact (by simp [h] : i.imm = 0).symm
  · show (hasL [11, 12] 8 && (un (Part X 26 1) == 1)) = i.aq
    rw [show hasL [11, 12] 8 = false by decide, Bool.false_and]; exact (by simp [h] : i.aq = false).symm
  · show (hasL [11, 12] 8 && (un (Part X 25 1) == 1)) = i.rl
    rw [show hasL [11, 12] 8 = false by decide, Bool.false_and]; exact (by simp [h] : i.rl = false).symm
  · show (if (8 : Int) = 9 then sn (Part X 24 4) else 0) = i.pred
    rw [if_neg (by decide)]; exact (by simp [h] : i.pred = 0).symm
  · show (if (8 : Int) = 9 then sn (Part X 20 4) else 0) = i.succ
    rw [if_neg (by decide)]; exact (by simp [h] : i.succ = 0).symm
theorem dec_9 (p : PartV) (s : Bool) (i : InsnV) (h : formOk 9 s i = true) : decV 9 i.op (((wordG 9 p i).setWidth 32).setWidth 64) = i := by
  unfold formOk at h
  simp [badIn] at h
  obtain ⟨X, hX⟩ : ∃ X, X = ((wordG 9 p i).setWidth 32).setWidth 64 := ⟨_, rfl⟩
  have hb : ∀ k, k < 32 → X.getLsbD k = if 24 ≤ k ∧ k < 24 + 4 then (bv i.pred).getLsbD ((k - 24)) else if 20 ≤ k ∧ k < 20 + 4 then (bv i.succ).getLsbD ((k - 20)) else if 12 ≤ k ∧ k < 12 + 3 then (bv p.f3).getLsbD ((k - 12)) else (bv p.code).getLsbD k := fun k hk => by rw [hX, low_bits _ _ hk, bit_9 p i k hk]
  rw [← hX]
  clear hX
  refine insn_ext _ _ rfl ?_ ?_ ?_ ?_ ?_ ?_ ?_ ?_
  · show (if hasL [1, 2, 3, 4, 7, 8, 11, 12] 9 then sn (Part X 7 5) else 0) = i.rd
    rw [if_neg (by decide)]; exact (by simp [h] : i.rd = 0).symm
  · show (if hasL [3, 4, 7, 8, 11, 12, 5, 6] 9 then sn (Part X 15 5) else 0) = i.rs1
    rw [if_neg (by decide)]; exact (by simp [h] : i.rs1 = 0).symm
  · show (if hasL [5, 6, 8, 12] 9 then sn (Part X 20 5) else 0) = i.rs2
    rw [if_neg (by decide)]; exact (by simp [h] : i.rs2 = 0).symm
  · refine (imm_out 9 i.op X (by decide) (by decide)).trans ?_
    exact (by simp [h] : i.imm = 0).symm
  · show (hasL [11, 12] 9 && (un (Part X 26 1) == 1)) = i.aq
    rw [show hasL [11, 12] 9 = false by decide, Bool.false_and]; exact (by simp [h] : i.aq = false).symm
  · show (hasL [11, 12] 9 && (un (Part X 25 1) == 1)) = i.rl
    rw [show hasL [11, 12] 9 = false by decide, Bool.false_and]; exact (by simp [h] : i.rl = false).symm
  · show (if (9 : Int) = 9 then sn (Part X 24 4) else 0) = i.pred
    rw [if_pos rfl]
    refine part_back X 24 4 i.pred (by decide) (by simp [h]) (by show i.pred < 16; omega) (fun k hk => ?_)
    rw [hb _ (by omega)]
    repeat (first | rw [if_pos (by omega)] | rw [if_neg (by omega)])
    rw [Nat.add_sub_cancel_left]
  · show (if (9 : Int) = 9 then sn (Part X 20 4) else 0) = i.succ
    rw [if_pos rfl]
    refine part_back X 20 4 i.succ (by decide) (by simp [h]) (by show i.succ < 16; omega) (fun k hk => ?_)
    rw [hb _ (by omega)]
    repeat (first | rw [if_pos (by omega)] | rw [if_neg (by omega)])
    rw [Nat.add_sub_cancel_left]
theorem dec_10 (p : PartV) (s : Bool) (i : InsnV) (h : formOk 10 s i = true) : decV 10 i.op (((wordG 10 p i).setWidth 32).setWidth 64) = i := by
  unfold formOk at h
  simp [badIn] at h
  obtain ⟨X, hX⟩ : ∃ X, X = ((wordG 10 p i).setWidth 32).setWidth 64 := ⟨_, rfl⟩
  have hb : ∀ k, k < 32 → X.getLsbD k = ((if 12 ≤ k ∧ k < 12 + 3 then (bv p.f3).getLsbD ((k - 12)) else (bv p.code).getLsbD k) || (!decide (k < 20) && (decide (k - 20 = 0) && (i.op == 65)))) := fun k hk => by rw [hX, low_bits _ _ hk, bit_10 p i k hk]
  rw [← hX]
  clear hX
  refine insn_ext _ _ rfl ?_ ?_ ?_ ?_ ?_ ?_ ?_ ?_
  · show (if hasL [1, 2, 3, 4, 7, 8, 11, 12] 10 then sn (Part X 7 5) else 0) = i.rd
    rw [if_neg (by decide)]; exact (by simp [h] : i.rd = 0).symm
  · show (if hasL [3, 4, 7, 8, 11, 12, 5, 6] 10 then sn (Part X 15 5) else 0) = i.rs1
    rw [if_neg (by decide)]; exact (by simp [h] : i.rs1 = 0).symm
  · show (if hasL [5, 6, 8, 12] 10 then sn (Part X 20 5) else 0) = i.rs2
    rw [if_neg (by decide)]; exact (by simp [h] : i.rs2 = 0).symm
  · refine (imm_out 10 i.op X (by decide) (by decide)).trans ?_
    exact (by simp [h] : i.imm = 0).symm
  · show (hasL [11, 12] 10 && (un (Part X 26 1) == 1)) = i.aq
    rw [show hasL [11, 12] 10 = false by decide, Bool.false_and]; exact (by simp [h] : i.aq = false).symm
  · show (hasL [11, 12] 10 && (un (Part X 25 1) == 1)) = i.rl
    rw [show hasL [11, 12] 10 = false by decide, Bool.false_and]; exact (by simp [h] : i.rl = false).symm
  · show (if (10 : Int) = 9 then sn (Part X 24 4) else 0) = i.pred
    rw [if_neg (by decide)]; exact (by simp [h] : i.pred = 0).symm
  · show (if (10 : Int) = 9 then sn (Part X 20 4) else 0) = i.succ
    rw [if_neg (by decide)]; exact (by simp [h] : i.succ = 0).symm
theorem dec_11 (p : PartV) (s : Bool) (i : InsnV) (h : formOk 11 s i = true) (hp : 0 ≤ p.f7 ∧ p.f7 < 128 ∧ (bv p.f7).getLsbD 0 = false ∧ (bv p.f7).getLsbD 1 = false) : decV 11 i.op (((wordG 11 p i).setWidth 32).setWidth 64) = i := by
  unfold formOk at h
  simp [badIn] at h
  obtain ⟨X, hX⟩ : ∃ X, X = ((wordG 11 p i).setWidth 32).setWidth 64 := ⟨_, rfl⟩
  have hb : ∀ k, k < 32 → X.getLsbD k = if 25 ≤ k ∧ k < 25 + 7 then ((bv p.f7).getLsbD ((k - 25)) || (!decide ((k - 25) < 1) && (decide ((k - 25) - 1 = 0) && i.aq)) || (decide ((k - 25) = 0) && i.rl)) else if 20 ≤ k ∧ k < 20 + 5 then (bv i.rs2).getLsbD ((k - 20)) else if 15 ≤ k ∧ k < 15 + 5 then (bv i.rs1).getLsbD ((k - 15)) else if 7 ≤ k ∧ k < 7 + 5 then (bv i.rd).getLsbD ((k - 7)) else if 12 ≤ k ∧ k < 12 + 3 then (bv p.f3).getLsbD ((k - 12)) else (bv p.code).getLsbD k := fun k hk => by rw [hX, low_bits _ _ hk, bit_11 p i k hk]
  rw [← hX]
  clear hX
  refine insn_ext _ _ rfl ?_ ?_ ?_ ?_ ?_ ?_ ?_ ?_
  · show (if hasL [1, 2, 3, 4, 7, 8, 11, 12] 11 then sn (Part X 7 5) else 0) = i.rd
    rw [if_pos (by decide)]
    have kr := reg_key i.rd (by simp [h])
    refine part_back X 7 5 i.rd (by decide) kr.1 kr.2 (fun k hk => ?_)
    rw [hb _ (by omega)]
    repeat (first | rw [if_pos (by omega)] | rw [if_neg (by omega)])
    rw [Nat.add_sub_cancel_left]
  · show (if hasL [3, 4, 7, 8, 11, 12, 5, 6] 11 then sn (Part X 15 5) else 0) = i.rs1
    rw [if_pos (by decide)]
    have kr := reg_key i.rs1 (by simp [h])
    refine part_back X 15 5 i.rs1 (by decide) kr.1 kr.2 (fun k hk => ?_)
    rw [hb _ (by omega)]
    repeat (first | rw [if_pos (by omega)] | rw [if_neg (by omega)])
    rw [Nat.add_sub_cancel_left]
  · show (if hasL [5, 6, 8, 12] 11 then sn (Part X 20 5) else 0) = i.rs2
    rw [if_neg (by decide)]; exact (by simp [h] : i.rs2 = 0).symm
  · refine (imm_out 11 i.op X (by decide) (by decide)).trans ?_
    exact (by simp [h] : i.imm = 0).symm
  · show (hasL [11, 12] 11 && (un (Part X 26 1) == 1)) = i.aq
    have e := part_flag X 26
    rw [show un (Part X 26 1) = un (Part X ((26 : Nat) : Int) 1) from rfl, e, hb _ (by decide)]
    rw [if_pos (by decide), show 26 - 25 = 1 from rfl, hp.2.2.2, show hasL [11, 12] 11 = true by decide]
    simp
  · show (hasL [11, 12] 11 && (un (Part X 25 1) == 1)) = i.rl
    have e := part_flag X 25
    rw [show un (Part X 25 1) = un (Part X ((25 : Nat) : Int) 1) from rfl, e, hb _ (by decide)]
    rw [if_pos (by decide), show 25 - 25 = 0 from rfl, hp.2.2.1, show hasL [11, 12] 11 = true by decide]
    simp
  · show (if (11 : Int) = 9 then sn (Part X 24 4) else 0) = i.pred
    rw [if_neg (by decide)]; exact (by simp [h] : i.pred = 0).symm
  · show (if (11 : Int) = 9 then sn (Part X 20 4) else 0) = i.succ
    rw [if_neg (by decide)]; exact (by simp [h] : i.succ = 0).symm
theorem dec_12 (p : PartV) (s : Bool) (i : InsnV) (h : formOk 12 s i = true) (hp : 0 ≤ p.f7 ∧ p.f7 < 128 ∧ (bv p.f7).getLsbD 0 = false ∧ (bv p.f7).getLsbD 1 = false) : decV 12 i.op (((wordG 12 p i).setWidth 32).setWidth 64) = i := by
  unfold formOk at h
  simp [badIn] at h
  obtain ⟨X, hX⟩ : ∃ X, X = ((wordG 12 p i).setWidth 32).setWidth 64 := ⟨_, rfl⟩
  have hb : ∀ k, k < 32 → X.getLsbD k = if 25 ≤ k ∧ k < 25 + 7 then ((bv p.f7).getLsbD ((k - 25)) || (!decide ((k - 25) < 1) && (decide ((k - 25) - 1 = 0) && i.aq)) || (decide ((k - 25) = 0) && i.rl)) else if 20 ≤ k ∧ k < 20 + 5 then (bv i.rs2).getLsbD ((k - 20)) else if 15 ≤ k ∧ k < 15 + 5 then (bv i.rs1).getLsbD ((k - 15)) else if 7 ≤ k ∧ k < 7 + 5 then (bv i.rd).getLsbD ((k - 7)) else if 12 ≤ k ∧ k < 12 + 3 then (bv p.f3).getLsbD ((k - 12)) else (bv p.code).getLsbD k := fun k hk => by rw [hX, low_bits _ _ hk, bit_12 p i k hk]
  rw [← hX]
  clear hX
  refine insn_ext _ _ rfl ?_ ?_ ?_ ?_ ?_ ?_ ?_ ?_
  · show (if hasL [1, 2, 3, 4, 7, 8, 11, 12] 12 then sn (Part X 7 5) else 0) = i.rd
    rw [if_pos (by decide)]
    have kr := reg_key i.rd (by simp [h])
    refine part_back X 7 5 i.rd (by decide) kr.1 kr.2 (fun k hk => ?_)
    rw [hb _ (by omega)]
    repeat (first | rw [if_pos (by omega)] | rw [if_neg (by omega)])
    rw [Nat.add_sub_cancel_left]
  · show (if hasL [3, 4, 7, 8, 11, 12, 5, 6] 12 then sn (Part X 15 5) else 0) = i.rs1
    rw [if_pos (by decide)]
    have kr := reg_key i.rs1 (by simp [h])
    refine part_back X 15 5 i.rs1 (by decide) kr.1 kr.2 (fun k hk => ?_)
    rw [hb _ (by omega)]
    repeat (first | rw [if_pos (by omega)] | rw [if_neg (by omega)])
    rw [Nat.add_sub_cancel_left]
  · show (if hasL [5, 6, 8, 12] 12 then sn (Part X 20 5) else 0) = i.rs2
    rw [if_pos (by decide)]
    have kr := reg_key i.rs2 (by simp [h])
    refine part_back X 20 5 i.rs2 (by decide) kr.1 kr.2 (fun k hk => ?_)
    rw [hb _ (by omega)]
    repeat (first | rw [if_pos (by omega)] | rw [if_neg (by omega)])
    rw [Nat.add_sub_cancel_left]
  · refine (imm_out 12 i.op X (by decide) (by decide)).trans ?_
    exact (by simp [h] : i.imm = 0).symm
  · show (hasL [11, 12] 12 && (un (Part X 26 1) == 1)) = i.aq
    have e := part_flag X 26
    rw [show un (Part X 26 1) = un (Part X ((26 : Nat) : Int) 1) from rfl, e, hb _ (by decide)]
    rw [if_pos (by decide), show 26 - 25 = 1 from rfl, hp.2.2.2, show hasL [11, 12] 12 = true by decide]
    simp
  · show (hasL [11, 12] 12 && (un (Part X 25 1) == 1)) = i.rl
    have e := part_flag X 25
    rw [show un (Part X 25 1) = un (Part X ((25 : Nat) : Int) 1) from rfl, e, hb _ (by decide)]
    rw [if_pos (by decide), show 25 - 25 = 0 from rfl, hp.2.2.1, show hasL [11, 12] 12 = true by decide]
    simp
  · show (if (12 : Int) = 9 then sn (Part X 24 4) else 0) = i.pred
    rw [if_neg (by decide)]; exact (by simp [h] : i.pred = 0).symm
  · show (if (12 : Int) = 9 then sn (Part X 20 4) else 0) = i.succ
    rw [if_neg (by decide)]; exact (by simp [h] : i.succ = 0).symm
/-- The bits that an op fixes. -/
def fixB (f : Int) (k : Nat) : Bool := decide (k < 7) || (decide (3 ≤ f) && decide (12 ≤ k ∧ k < 15)) || (f == 7 && decide (26 ≤ k)) || (f == 8 && decide (25 ≤ k)) || ((f == 11 || f == 12) && decide (27 ≤ k)) || f == 10
def zeroOf (op : Int) : InsnV := ⟨op, 0, 0, 0, 0, false, false, 0, 0⟩
def fixW (op : Int) : BitVec 32 := (wordG (opOf op).form (madeT op) (zeroOf op)).setWidth 32
theorem fix_1 (p : PartV) (s : Bool) (i : InsnV) (h : formOk 1 s i = true) (k : Nat) (hk : k < 32) (hf : fixB 1 k = true) : (wordG 1 p i).getLsbD k = (wordG 1 p (zeroOf i.op)).getLsbD k := by
  simp [fixB] at hf
  rw [bit_1 _ _ _ hk, bit_1 _ _ _ hk]
  repeat (first | rw [if_pos (by omega)] | rw [if_neg (by omega)])
theorem fix_2 (p : PartV) (s : Bool) (i : InsnV) (h : formOk 2 s i = true) (k : Nat) (hk : k < 32) (hf : fixB 2 k = true) : (wordG 2 p i).getLsbD k = (wordG 2 p (zeroOf i.op)).getLsbD k := by
  simp [fixB] at hf
  rw [bit_2 _ _ _ hk, bit_2 _ _ _ hk]
  repeat (first | rw [if_pos (by omega)] | rw [if_neg (by omega)])
theorem fix_3 (p : PartV) (s : Bool) (i : InsnV) (h : formOk 3 s i = true) (k : Nat) (hk : k < 32) (hf : fixB 3 k = true) : (wordG 3 p i).getLsbD k = (wordG 3 p (zeroOf i.op)).getLsbD k := by
  simp [fixB] at hf
  rw [bit_3 _ _ _ hk, bit_3 _ _ _ hk]
  repeat (first | rw [if_pos (by omega)] | rw [if_neg (by omega)])
  all_goals (by_cases h12 : 12 ≤ k ∧ k < 15 <;> (by_cases h25 : 25 ≤ k <;> (first | (exfalso; omega) | (repeat (first | rw [if_pos (by omega)] | rw [if_neg (by omega)])))))
theorem fix_4 (p : PartV) (s : Bool) (i : InsnV) (h : formOk 4 s i = true) (k : Nat) (hk : k < 32) (hf : fixB 4 k = true) : (wordG 4 p i).getLsbD k = (wordG 4 p (zeroOf i.op)).getLsbD k := by
  simp [fixB] at hf
  rw [bit_4 _ _ _ hk, bit_4 _ _ _ hk]
  repeat (first | rw [if_pos (by omega)] | rw [if_neg (by omega)])
  all_goals (by_cases h12 : 12 ≤ k ∧ k < 15 <;> (by_cases h25 : 25 ≤ k <;> (first | (exfalso; omega) | (repeat (first | rw [if_pos (by omega)] | rw [if_neg (by omega)])))))
theorem fix_5 (p : PartV) (s : Bool) (i : InsnV) (h : formOk 5 s i = true) (k : Nat) (hk : k < 32) (hf : fixB 5 k = true) : (wordG 5 p i).getLsbD k = (wordG 5 p (zeroOf i.op)).getLsbD k := by
  simp [fixB] at hf
  rw [bit_5 _ _ _ hk, bit_5 _ _ _ hk]
  repeat (first | rw [if_pos (by omega)] | rw [if_neg (by omega)])
  all_goals (by_cases h12 : 12 ≤ k ∧ k < 15 <;> (by_cases h25 : 25 ≤ k <;> (first | (exfalso; omega) | (repeat (first | rw [if_pos (by omega)] | rw [if_neg (by omega)])))))
theorem fix_6 (p : PartV) (s : Bool) (i : InsnV) (h : formOk 6 s i = true) (k : Nat) (hk : k < 32) (hf : fixB 6 k = true) : (wordG 6 p i).getLsbD k = (wordG 6 p (zeroOf i.op)).getLsbD k := by
  simp [fixB] at hf
  rw [bit_6 _ _ _ hk, bit_6 _ _ _ hk]
  repeat (first | rw [if_pos (by omega)] | rw [if_neg (by omega)])
  all_goals (by_cases h12 : 12 ≤ k ∧ k < 15 <;> (by_cases h25 : 25 ≤ k <;> (first | (exfalso; omega) | (repeat (first | rw [if_pos (by omega)] | rw [if_neg (by omega)])))))
theorem fix_7 (p : PartV) (s : Bool) (i : InsnV) (h : formOk 7 s i = true) (k : Nat) (hk : k < 32) (hf : fixB 7 k = true) : (wordG 7 p i).getLsbD k = (wordG 7 p (zeroOf i.op)).getLsbD k := by
  simp [fixB] at hf
  rw [bit_7 _ _ _ hk, bit_7 _ _ _ hk]
  unfold formOk at h
  simp [badIn] at h
  have e : (!decide (k < 20) && (bv i.imm).getLsbD (k - 20)) = (!decide (k < 20) && (bv (zeroOf i.op).imm).getLsbD (k - 20)) := by
    by_cases h20 : k < 20
    · simp [h20]
    · rw [bv_hi i.imm 6 (k - 20) (by omega) (by show i.imm < 64; omega) (by omega), bv_hi (zeroOf i.op).imm 6 (k - 20) (by show (0 : Int) ≤ 0; decide) (by show (0 : Int) < 64; decide) (by omega)]
  rw [e]
  congr 1
  repeat (first | rw [if_pos (by omega)] | rw [if_neg (by omega)])
  all_goals (by_cases h12 : 12 ≤ k ∧ k < 15 <;> (by_cases h25 : 25 ≤ k <;> (first | (exfalso; omega) | (repeat (first | rw [if_pos (by omega)] | rw [if_neg (by omega)])))))
theorem fix_8 (p : PartV) (s : Bool) (i : InsnV) (h : formOk 8 s i = true) (k : Nat) (hk : k < 32) (hf : fixB 8 k = true) : (wordG 8 p i).getLsbD k = (wordG 8 p (zeroOf i.op)).getLsbD k := by
  simp [fixB] at hf
  rw [bit_8 _ _ _ hk, bit_8 _ _ _ hk]
  repeat (first | rw [if_pos (by omega)] | rw [if_neg (by omega)])
  all_goals (by_cases h12 : 12 ≤ k ∧ k < 15 <;> (by_cases h25 : 25 ≤ k <;> (first | (exfalso; omega) | (repeat (first | rw [if_pos (by omega)] | rw [if_neg (by omega)])))))
theorem fix_9 (p : PartV) (s : Bool) (i : InsnV) (h : formOk 9 s i = true) (k : Nat) (hk : k < 32) (hf : fixB 9 k = true) : (wordG 9 p i).getLsbD k = (wordG 9 p (zeroOf i.op)).getLsbD k := by
  simp [fixB] at hf
  rw [bit_9 _ _ _ hk, bit_9 _ _ _ hk]
  repeat (first | rw [if_pos (by omega)] | rw [if_neg (by omega)])
  all_goals (by_cases h12 : 12 ≤ k ∧ k < 15 <;> (by_cases h25 : 25 ≤ k <;> (first | (exfalso; omega) | (repeat (first | rw [if_pos (by omega)] | rw [if_neg (by omega)])))))
theorem fix_10 (p : PartV) (s : Bool) (i : InsnV) (h : formOk 10 s i = true) (k : Nat) (hk : k < 32) (hf : fixB 10 k = true) : (wordG 10 p i).getLsbD k = (wordG 10 p (zeroOf i.op)).getLsbD k := by
  rw [bit_10 _ _ _ hk, bit_10 _ _ _ hk]; rfl
theorem fix_11 (p : PartV) (s : Bool) (i : InsnV) (h : formOk 11 s i = true) (k : Nat) (hk : k < 32) (hf : fixB 11 k = true) : (wordG 11 p i).getLsbD k = (wordG 11 p (zeroOf i.op)).getLsbD k := by
  simp [fixB] at hf
  rw [bit_11 _ _ _ hk, bit_11 _ _ _ hk]
  repeat (first | rw [if_pos (by omega)] | rw [if_neg (by omega)])
  by_cases h27 : 27 ≤ k
  · repeat rw [if_pos (by omega)]
    rw [show decide (k - 25 - 1 = 0) = false by simp; omega, show decide (k - 25 = 0) = false by simp; omega]
    simp
  · by_cases h12 : 12 ≤ k
    · repeat (first | rw [if_pos (by omega)] | rw [if_neg (by omega)])
    · repeat (first | rw [if_pos (by omega)] | rw [if_neg (by omega)])
theorem fix_12 (p : PartV) (s : Bool) (i : InsnV) (h : formOk 12 s i = true) (k : Nat) (hk : k < 32) (hf : fixB 12 k = true) : (wordG 12 p i).getLsbD k = (wordG 12 p (zeroOf i.op)).getLsbD k := by
  simp [fixB] at hf
  rw [bit_12 _ _ _ hk, bit_12 _ _ _ hk]
  repeat (first | rw [if_pos (by omega)] | rw [if_neg (by omega)])
  by_cases h27 : 27 ≤ k
  · repeat rw [if_pos (by omega)]
    rw [show decide (k - 25 - 1 = 0) = false by simp; omega, show decide (k - 25 = 0) = false by simp; omega]
    simp
  · by_cases h12 : 12 ≤ k
    · repeat (first | rw [if_pos (by omega)] | rw [if_neg (by omega)])
    · repeat (first | rw [if_pos (by omega)] | rw [if_neg (by omega)])
end Go.Proofs.YtcgflnkgekkidaaGreatDoor
namespace Go.Proofs.YtcgflnkgekkidaaGreatDoor
/-- The bits that a form fixes. -/
def maskF (f : Int) : BitVec 32 := if f = 1 ∨ f = 2 then 0x7f#32 else if f = 3 ∨ f = 4 ∨ f = 5 ∨ f = 6 ∨ f = 9 then 0x707f#32 else if f = 7 then 0xfc00707f#32 else if f = 8 then 0xfe00707f#32 else if f = 10 then 0xffffffff#32 else if f = 11 ∨ f = 12 then 0xf800707f#32 else 0#32
theorem mask_all : ((List.range 13).all fun f => (List.range 32).all fun k => decide ((f : Nat) = 0) || ((maskF (f : Nat)).getLsbD k == fixB (f : Nat) k)) = true := by decide +kernel
theorem mask_bit (f : Int) (h1 : 1 ≤ f) (h12 : f ≤ 12) (k : Nat) (hk : k < 32) : (maskF f).getLsbD k = fixB f k := by
  obtain ⟨m, rfl⟩ := Int.eq_ofNat_of_zero_le (show 0 ≤ f by omega)
  have := List.all_eq_true.1 (List.all_eq_true.1 mask_all m (List.mem_range.2 (by omega))) k (List.mem_range.2 hk)
  simp only [Bool.or_eq_true, decide_eq_true_eq, beq_iff_eq] at this
  rcases this with h | h
  · omega
  · exact h
def opTab : List (Int × BitVec 32) := [(0, 0x0#32), (1, 0x37#32), (1, 0x17#32), (2, 0x6f#32), (3, 0x67#32), (6, 0x63#32), (6, 0x1063#32), (6, 0x4063#32), (6, 0x5063#32), (6, 0x6063#32), (6, 0x7063#32), (4, 0x3#32), (4, 0x1003#32), (4, 0x2003#32), (4, 0x3003#32), (4, 0x4003#32), (4, 0x5003#32), (4, 0x6003#32), (5, 0x23#32), (5, 0x1023#32), (5, 0x2023#32), (5, 0x3023#32), (3, 0x13#32), (3, 0x2013#32), (3, 0x3013#32), (3, 0x4013#32), (3, 0x6013#32), (3, 0x7013#32), (7, 0x1013#32), (7, 0x5013#32), (7, 0x40005013#32), (3, 0x1b#32), (7, 0x101b#32), (7, 0x501b#32), (7, 0x4000501b#32), (8, 0x33#32), (8, 0x40000033#32), (8, 0x1033#32), (8, 0x2033#32), (8, 0x3033#32), (8, 0x4033#32), (8, 0x5033#32), (8, 0x40005033#32), (8, 0x6033#32), (8, 0x7033#32), (8, 0x3b#32), (8, 0x4000003b#32), (8, 0x103b#32), (8, 0x503b#32), (8, 0x4000503b#32), (8, 0x2000033#32), (8, 0x2001033#32), (8, 0x2002033#32), (8, 0x2003033#32), (8, 0x2004033#32), (8, 0x2005033#32), (8, 0x2006033#32), (8, 0x2007033#32), (8, 0x200003b#32), (8, 0x200403b#32), (8, 0x200503b#32), (8, 0x200603b#32), (8, 0x200703b#32), (9, 0xf#32), (10, 0x73#32), (10, 0x100073#32), (11, 0x1000202f#32), (11, 0x1000302f#32), (12, 0x1800202f#32), (12, 0x1800302f#32), (12, 0x800202f#32), (12, 0x202f#32), (12, 0x2000202f#32), (12, 0x6000202f#32), (12, 0x4000202f#32), (12, 0x8000202f#32), (12, 0xa000202f#32), (12, 0xc000202f#32), (12, 0xe000202f#32), (12, 0x800302f#32), (12, 0x302f#32), (12, 0x2000302f#32), (12, 0x6000302f#32), (12, 0x4000302f#32), (12, 0x8000302f#32), (12, 0xa000302f#32), (12, 0xc000302f#32), (12, 0xe000302f#32)]
theorem tab_ok : ((List.range 88).all fun n => ((opOf (n : Nat)).form == (opTab.getD n (0, 0#32)).1) && (fixW (n : Nat) == (opTab.getD n (0, 0#32)).2)) = true := by decide +kernel
theorem tab_apart : ((List.range 88).all fun a => (List.range 88).all fun b => a == 0 || b == 0 || a == b || !(((opTab.getD a (0, 0#32)).2 &&& maskF (opTab.getD a (0, 0#32)).1 &&& maskF (opTab.getD b (0, 0#32)).1) == ((opTab.getD b (0, 0#32)).2 &&& maskF (opTab.getD b (0, 0#32)).1 &&& maskF (opTab.getD a (0, 0#32)).1))) = true := by decide +kernel
theorem parts_ok : ((List.range 88).all fun n => decide (0 ≤ (madeT (n : Nat)).f7) && decide ((madeT (n : Nat)).f7 < 128) && decide (0 ≤ (madeT (n : Nat)).code) && decide ((madeT (n : Nat)).code < 128) && (decide ((n : Nat) = 0) || decide ((madeT (n : Nat)).code % 4 = 3)) && (!((opOf (n : Nat)).form == 7) || ((madeT (n : Nat)).f7 % 2 == 0)) && (!((opOf (n : Nat)).form == 11 || (opOf (n : Nat)).form == 12) || ((madeT (n : Nat)).f7 % 4 == 0))) = true := by decide +kernel
/-- What is valid is one of the ops. -/
theorem ok_op (i : InsnV) (h : checkE i = 0) : 1 ≤ i.op ∧ i.op ≤ 87 := by
  obtain ⟨-, -, -, -, -, -, h1, -⟩ := ok_facts i h
  by_cases h0 : i.op < 1
  · unfold opOf at h1; rw [if_pos h0] at h1; exact absurd h1 (by decide)
  · by_cases h8 : 87 < i.op
    · rw [opOf_big i.op h8] at h1; exact absurd h1 (by decide)
    · omega
theorem ok_form (i : InsnV) (h : checkE i = 0) : formOk (opOf i.op).form (shortName (opOf i.op).name) i = true := by
  unfold checkE checkOk at h
  cases hk : formOk (opOf i.op).form (shortName (opOf i.op).name) i with
  | true => rfl
  | false => rw [hk] at h; cases h
theorem nat_op (op : Int) (h1 : 1 ≤ op) (h87 : op ≤ 87) : ∃ m : Nat, op = (m : Int) ∧ 1 ≤ m ∧ m < 88 := by
  obtain ⟨m, rfl⟩ := Int.eq_ofNat_of_zero_le (show 0 ≤ op by omega)
  exact ⟨m, rfl, by omega, by omega⟩
theorem low_bit0 (v : Int) (h : v % 2 = 0) : (bv v).getLsbD 0 = false := by
  obtain ⟨m, rfl⟩ : ∃ m, v = m * 2 ^ 1 := ⟨v / 2, by omega⟩
  rw [bv_shl, BitVec.getLsbD_shiftLeft]; simp
theorem low_bit1 (v : Int) (h : v % 4 = 0) : (bv v).getLsbD 0 = false ∧ (bv v).getLsbD 1 = false := by
  obtain ⟨m, rfl⟩ : ∃ m, v = m * 2 ^ 2 := ⟨v / 4, by omega⟩
  rw [bv_shl, BitVec.getLsbD_shiftLeft, BitVec.getLsbD_shiftLeft]; simp
/-- What there is to know of an op's parts. -/
theorem parts_op (op : Int) (h1 : 1 ≤ op) (h87 : op ≤ 87) : 0 ≤ (madeT op).f7 ∧ (madeT op).f7 < 128 ∧ 0 ≤ (madeT op).code ∧ (madeT op).code < 128 ∧ (madeT op).code % 4 = 3 ∧ ((opOf op).form = 7 → (madeT op).f7 % 2 = 0) ∧ ((opOf op).form = 11 ∨ (opOf op).form = 12 → (madeT op).f7 % 4 = 0) := by
  obtain ⟨m, rfl, hm1, hm⟩ := nat_op op h1 h87
  have := List.all_eq_true.1 parts_ok m (List.mem_range.2 hm)
  simp only [Bool.and_eq_true, Bool.or_eq_true, Bool.not_eq_true', decide_eq_true_eq, beq_iff_eq, beq_eq_false_iff_ne, Bool.or_eq_false_iff] at this
  obtain ⟨⟨⟨⟨⟨⟨a, b⟩, c⟩, d⟩, e⟩, f⟩, g⟩ := this
  refine ⟨a, b, c, d, by omega, fun h => ?_, fun h => ?_⟩
  · rcases f with f | f
    · exact absurd h f
    · exact f
  · rcases g with g | g
    · rcases h with h | h
      · exact absurd h g.1
      · exact absurd h g.2
    · exact g
theorem word_eq (i : InsnV) (h : checkE i = 0) : wordV i = (wordG (opOf i.op).form (madeT i.op) i).setWidth 32 := if_pos h
theorem dec_word (i : InsnV) (h : checkE i = 0) : decI i.op (wordV i) = i := by
  obtain ⟨-, -, -, -, -, -, f1, f12⟩ := ok_facts i h
  obtain ⟨o1, o87⟩ := ok_op i h
  obtain ⟨p1, p2, p3, p4, p5, p6, p7⟩ := parts_op i.op o1 o87
  have hk := ok_form i h
  rw [word_eq i h]
  unfold decI
  generalize (opOf i.op).form = f at *
  generalize madeT i.op = p at *
  generalize shortName (opOf i.op).name = s at *
  rcases (show f = 1 ∨ f = 2 ∨ f = 3 ∨ f = 4 ∨ f = 5 ∨ f = 6 ∨ f = 7 ∨ f = 8 ∨ f = 9 ∨ f = 10 ∨ f = 11 ∨ f = 12 by omega) with rfl | rfl | rfl | rfl | rfl | rfl | rfl | rfl | rfl | rfl | rfl | rfl
  · exact dec_1 p s i hk
  · exact dec_2 p s i hk
  · exact dec_3 p s i hk
  · exact dec_4 p s i hk
  · exact dec_5 p s i hk
  · exact dec_6 p s i hk
  · exact dec_7 p s i hk ⟨p1, p2, low_bit0 _ (p6 rfl), p3, p4⟩
  · exact dec_8 p s i hk
  · exact dec_9 p s i hk
  · exact dec_10 p s i hk
  · exact dec_11 p s i hk ⟨p1, p2, low_bit1 _ (p7 (.inl rfl))⟩
  · exact dec_12 p s i hk ⟨p1, p2, low_bit1 _ (p7 (.inr rfl))⟩
/-- The bits that an op fixes are those of its word with all fields zero. -/
theorem word_fix (i : InsnV) (h : checkE i = 0) : wordV i &&& maskF (opOf i.op).form = fixW i.op &&& maskF (opOf i.op).form := by
  obtain ⟨-, -, -, -, -, -, f1, f12⟩ := ok_facts i h
  have hk := ok_form i h
  rw [word_eq i h]
  unfold fixW
  apply BitVec.eq_of_getLsbD_eq
  intro k hk32
  rw [BitVec.getLsbD_and, BitVec.getLsbD_and, mask_bit _ f1 f12 k hk32, BitVec.getLsbD_setWidth, BitVec.getLsbD_setWidth]
  by_cases hm : fixB (opOf i.op).form k = true
  · congr 2
    generalize (opOf i.op).form = f at *
    generalize madeT i.op = p at *
    generalize shortName (opOf i.op).name = s at *
    rcases (show f = 1 ∨ f = 2 ∨ f = 3 ∨ f = 4 ∨ f = 5 ∨ f = 6 ∨ f = 7 ∨ f = 8 ∨ f = 9 ∨ f = 10 ∨ f = 11 ∨ f = 12 by omega) with rfl | rfl | rfl | rfl | rfl | rfl | rfl | rfl | rfl | rfl | rfl | rfl
    · exact fix_1 p s i hk k hk32 hm
    · exact fix_2 p s i hk k hk32 hm
    · exact fix_3 p s i hk k hk32 hm
    · exact fix_4 p s i hk k hk32 hm
    · exact fix_5 p s i hk k hk32 hm
    · exact fix_6 p s i hk k hk32 hm
    · exact fix_7 p s i hk k hk32 hm
    · exact fix_8 p s i hk k hk32 hm
    · exact fix_9 p s i hk k hk32 hm
    · exact fix_10 p s i hk k hk32 hm
    · exact fix_11 p s i hk k hk32 hm
    · exact fix_12 p s i hk k hk32 hm
  · rw [Bool.eq_false_iff.2 hm, Bool.and_false, Bool.and_false]
theorem op_apart (i o : InsnV) (hi : checkE i = 0) (ho : checkE o = 0) (h : wordV i = wordV o) : i.op = o.op := by
  have h1 := word_fix i hi
  have h2 := word_fix o ho
  rw [h] at h1
  obtain ⟨a1, a87⟩ := ok_op i hi
  obtain ⟨b1, b87⟩ := ok_op o ho
  obtain ⟨a, ea, ha1, ha⟩ := nat_op _ a1 a87
  obtain ⟨b, eb, hb1, hb⟩ := nat_op _ b1 b87
  have ta := List.all_eq_true.1 tab_ok a (List.mem_range.2 ha)
  have tb := List.all_eq_true.1 tab_ok b (List.mem_range.2 hb)
  have tt := List.all_eq_true.1 (List.all_eq_true.1 tab_apart a (List.mem_range.2 ha)) b (List.mem_range.2 hb)
  simp only [Bool.and_eq_true, beq_iff_eq] at ta tb
  rw [← ta.1, ← ta.2, ← tb.1, ← tb.2, ← ea, ← eb] at tt
  have e : fixW i.op &&& maskF (opOf i.op).form &&& maskF (opOf o.op).form = fixW o.op &&& maskF (opOf o.op).form &&& maskF (opOf i.op).form := by
    rw [← h1, ← h2, BitVec.and_assoc, BitVec.and_comm (maskF (opOf i.op).form), ← BitVec.and_assoc]
  rw [e] at tt
  simp at tt
  omega
theorem decI_op (op : Int) (w : BitVec 32) : (decI op w).op = op := rfl
/-- A valid instruction's word is its op's. -/
theorem isOp_word (i : InsnV) (h : checkE i = 0) : isOp (wordV i) i.op = true := by
  obtain ⟨o1, o87⟩ := ok_op i h
  obtain ⟨p1, p2, p3, p4, p5, p6, p7⟩ := parts_op i.op o1 o87
  unfold isOp
  rw [dec_word i h, h]
  simp only [beq_self_eq_true, Bool.and_true]
  rw [beq_iff_eq]
  have hf := word_fix i h
  obtain ⟨-, -, -, -, -, -, f1, f12⟩ := ok_facts i h
  have e : Low ((wordV i).setWidth 64) 7 = bv (madeT i.op).code := by
    apply BitVec.eq_of_getLsbD_eq
    intro k hk
    rw [Low_bit, cl_7]
    by_cases h7 : k < 7
    · have hb := congrArg (fun y => y.getLsbD k) hf
      simp only [BitVec.getLsbD_and, mask_bit _ f1 f12 k (by omega)] at hb
      rw [show fixB (opOf i.op).form k = true by unfold fixB; simp [h7], Bool.and_true, Bool.and_true] at hb
      rw [BitVec.getLsbD_setWidth, hb]
      unfold fixW
      rw [BitVec.getLsbD_setWidth]
      simp only [h7, hk, show k < 32 by omega, decide_true, Bool.true_and]
      generalize (opOf i.op).form = f at *
      generalize madeT i.op = p at *
      rcases (show f = 1 ∨ f = 2 ∨ f = 3 ∨ f = 4 ∨ f = 5 ∨ f = 6 ∨ f = 7 ∨ f = 8 ∨ f = 9 ∨ f = 10 ∨ f = 11 ∨ f = 12 by omega) with rfl | rfl | rfl | rfl | rfl | rfl | rfl | rfl | rfl | rfl | rfl | rfl
      · rw [bit_1 _ _ _ (by omega)]; repeat rw [if_neg (by omega)]
      · rw [bit_2 _ _ _ (by omega)]; repeat rw [if_neg (by omega)]
      · rw [bit_3 _ _ _ (by omega)]; repeat rw [if_neg (by omega)]
      · rw [bit_4 _ _ _ (by omega)]; repeat rw [if_neg (by omega)]
      · rw [bit_5 _ _ _ (by omega)]; repeat rw [if_neg (by omega)]
      · rw [bit_6 _ _ _ (by omega)]; repeat rw [if_neg (by omega)]
      · rw [bit_7 _ _ _ (by omega)]; repeat rw [if_neg (by omega)]
        simp; omega
      · rw [bit_8 _ _ _ (by omega)]; repeat rw [if_neg (by omega)]
      · rw [bit_9 _ _ _ (by omega)]; repeat rw [if_neg (by omega)]
      · rw [bit_10 _ _ _ (by omega)]; repeat rw [if_neg (by omega)]
        simp; omega
      · rw [bit_11 _ _ _ (by omega)]; repeat rw [if_neg (by omega)]
      · rw [bit_12 _ _ _ (by omega)]; repeat rw [if_neg (by omega)]
    · rw [bv_hi _ 7 k p3 (by show (madeT i.op).code < 128; exact p4) (by omega)]; simp [h7]
  rw [e, un_bv _ (by omega)]
theorem insnFrom_hit (w : BitVec 32) (op : Int) (h : isOp w op = true) : ∀ (n : Nat) (a : Int), a ≤ op → op < a + n → (∀ b, a ≤ b → b < op → isOp w b = false) → insnFrom w a n = (decI op w, 0)
  | 0, a, h1, h2, _ => by omega
  | n + 1, a, h1, h2, hno => by
    unfold insnFrom
    by_cases e : a = op
    · subst e; rw [if_pos h]
    · rw [if_neg (by rw [hno a (Int.le_refl _) (by omega)]; decide)]
      exact insnFrom_hit w op h n (a + 1) (by omega) (by omega) (fun b hb hb2 => hno b (by omega) hb2)
theorem isOp_iff (w : BitVec 32) (op : Int) (h : isOp w op = true) : checkE (decI op w) = 0 ∧ wordV (decI op w) = w := by
  unfold isOp at h
  simp only [Bool.and_eq_true, beq_iff_eq] at h
  exact ⟨h.1.2, h.2⟩
/-- An instruction has its word. -/
theorem insn_word (i : InsnV) (h : checkE i = 0) : insnW (wordV i) = (i, 0) := by
  obtain ⟨o1, o87⟩ := ok_op i h
  have := insnFrom_hit (wordV i) i.op (isOp_word i h) 87 1 o1 (by omega) (fun b hb hb2 => by
    cases hq : isOp (wordV i) b with
    | false => rfl
    | true =>
      obtain ⟨h1, h2⟩ := isOp_iff _ _ hq
      have := op_apart (decI b (wordV i)) i h1 h h2
      rw [decI_op] at this
      omega)
  unfold insnW
  rw [this, dec_word i h]
end Go.Proofs.YtcgflnkgekkidaaGreatDoor
