/- Plain: the reference's words are the program's. No program in sight. Conditions: none. -/
import Derived.Test.YtbglinhglnbfmaaGreatDoorBytesDefs
namespace Go.Proofs.YtbglinhglnbfmaaGreatDoor
def OnesK : Nat → BitVec 64
  | 0 => 0#64
  | k + 1 => OnesK k * 2#64 + 1#64
theorem OnesK_nat (k : Nat) (h : k ≤ 64) : (OnesK k).toNat = 2 ^ k - 1 := by
  induction k with
  | zero => rfl
  | succ k ih =>
    unfold OnesK
    rw [BitVec.toNat_add, BitVec.toNat_mul, ih (by omega)]
    have h1 : 1 ≤ 2 ^ k := Nat.one_le_two_pow
    have h2 : 2 ^ k ≤ 2 ^ 63 := Nat.pow_le_pow_right (by decide) (by omega)
    rw [Nat.pow_succ]
    simp only [BitVec.toNat_ofNat]
    omega
theorem OnesK_eq (n : Int) : OnesK (cl n) = Ones n := by
  apply BitVec.eq_of_getLsbD_eq
  intro i hi
  rw [Ones_bit, ← BitVec.testBit_toNat, OnesK_nat _ (cl_le n), Nat.testBit_two_pow_sub_one]
theorem Part_far (x : BitVec 64) (f n : Int) (h : 63 < f) : Part x f n = 0#64 := by
  unfold Part Low
  rw [BitVec.ushiftRight_eq_zero (by omega), BitVec.zero_and]
theorem Put_far (x : BitVec 64) (f n : Int) (v : BitVec 64) (h : 63 < f) : Put x f n v = x := by
  unfold Put
  rw [BitVec.shiftLeft_eq_zero (by omega), BitVec.shiftLeft_eq_zero (by omega), BitVec.and_zero, BitVec.or_zero]
  exact BitVec.and_allOnes
theorem Put_ref (x : BitVec 64) (f n : Int) (v : BitVec 64) : x &&& ~~~ (Ones n <<< f.toNat) ||| Low v n <<< f.toNat = Put x f n v := by
  unfold Put Low; rw [BitVec.shiftLeft_and_distrib]
theorem Sign_zero (x : BitVec 64) (n : Int) (h : cl n = 0) : Sign x n = Low x n := by
  apply BitVec.eq_of_getLsbD_eq
  intro i hi
  have e : Sign x n = Sign x ((0 : Nat) : Int) := by unfold Sign; rw [h]; rfl
  have e2 := Sign_ext x 0 (by decide)
  rw [e, e2, Low_bit, h, BitVec.getLsbD_signExtend, BitVec.msb_setWidth]; simp
theorem Sign_bits (x : BitVec 64) (n : Int) (i : Nat) (hi : i < 64) (h : 1 ≤ cl n) : (Sign x n).getLsbD i = if i < cl n then x.getLsbD i else x.getLsbD (cl n - 1) := by
  have e : Sign x n = Sign x ((cl n : Nat) : Int) := by unfold Sign; rw [cl_nat _ (cl_le n)]
  rw [e, Sign_ext x (cl n) (cl_le n), BitVec.getLsbD_signExtend, BitVec.getLsbD_setWidth, BitVec.msb_setWidth]
  by_cases h1 : i < cl n
  · simp [hi, h1]
  · simp [hi, h1]; omega
theorem part_1_zero (x : BitVec 64) (i : Nat) : Part x i 1 = 0#64 ↔ x.getLsbD i = false := by
  rw [Part_one]
  constructor
  · intro h
    have := congrArg (fun y => y.getLsbD 0) h
    simpa using this
  · intro h
    apply BitVec.eq_of_getLsbD_eq
    intro j _
    rw [one_bit]
    rcases j with _ | j <;> simp [h]
theorem Sign_pos (x : BitVec 64) (n : Int) (h : 1 ≤ cl n) (h0 : Part x ((cl n : Int) - 1) 1 = 0#64) : Sign x n = Low x n := by
  rw [show (cl n : Int) - 1 = ((cl n - 1 : Nat) : Int) by omega, part_1_zero] at h0
  apply BitVec.eq_of_getLsbD_eq
  intro i hi
  rw [Sign_bits x n i hi h, Low_bit]
  by_cases h1 : i < cl n
  · simp [h1]
  · simp [h1, h0]
theorem Sign_neg (x : BitVec 64) (n : Int) (h : 1 ≤ cl n) (h0 : ¬ Part x ((cl n : Int) - 1) 1 = 0#64) : Sign x n = x ||| ~~~ Ones n := by
  rw [show (cl n : Int) - 1 = ((cl n - 1 : Nat) : Int) by omega, part_1_zero] at h0
  simp at h0
  apply BitVec.eq_of_getLsbD_eq
  intro i hi
  rw [Sign_bits x n i hi h, BitVec.getLsbD_or, BitVec.getLsbD_not, Ones_bit]
  by_cases h1 : i < cl n
  · simp [h1]
  · simp [h1, h0, hi]
theorem cl_self (n : Int) : cl (cl n : Int) = cl n := cl_nat _ (cl_le n)
theorem Ones_cl (n : Int) : Ones (cl n : Int) = Ones n := by unfold Ones; rw [cl_self]
theorem Low_cl (x : BitVec 64) (n : Int) : Low x (cl n : Int) = Low x n := by unfold Low; rw [Ones_cl]
/-- the reference's number of bytes, put one by one -/
def OfP (f : Nat → Int) : Nat → BitVec 64
  | 0 => 0#64
  | k + 1 => Put (OfP f k) (8 * (k : Int)) 8 (bv (f k))
theorem OfP_eq (f : Nat → Int) (hf : ∀ i, 0 ≤ f i ∧ f i < 256) (k : Nat) (hk : k ≤ 8) : OfP f k = OfK f k := by
  induction k with
  | zero => rfl
  | succ k ih =>
    unfold OfP
    rw [ih (by omega)]
    apply BitVec.eq_of_getLsbD_eq
    intro i hi
    rw [Put_bit _ _ _ _ _ hi, OfK_bit f hf (k + 1) i hi, OfK_bit f hf k i hi, show cl 8 = 8 from rfl]
    rw [show (8 * (k : Int)).toNat = 8 * k by omega]
    by_cases h1 : i < 8 * k
    · simp [h1, show i < 8 * (k + 1) by omega, show ¬ 8 * k ≤ i by omega]
    · by_cases h2 : i < 8 * k + 8
      · have e : i / 8 = k := by omega
        have e' : i % 8 = i - 8 * k := by omega
        simp [h2, show 8 * k ≤ i by omega, show i < 8 * (k + 1) by omega, e, e']
      · simp [h1, h2, show ¬ i < 8 * (k + 1) by omega]
end Go.Proofs.YtbglinhglnbfmaaGreatDoor
