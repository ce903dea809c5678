/- Plain: laws of signed parts, of parts of parts. No program in sight. Conditions: none. -/
import Derived.Test.YtdbpnbmaineniaaGreatDoorWordDefs
namespace Go.Proofs.YtdbpnbmaineniaaGreatDoor

theorem Sign_ext (x : BitVec 64) (n : Nat) (h : n ≤ 64) : Sign x n = (x.setWidth n).signExtend 64 := by
  apply BitVec.eq_of_getLsbD_eq
  intro i hi
  unfold Sign
  rw [cl_nat n h, BitVec.getLsbD_sshiftRight, BitVec.getLsbD_signExtend, BitVec.getLsbD_setWidth, BitVec.msb_setWidth]
  by_cases h1 : i < n
  · rw [if_pos (show 64 - n + i < 64 by omega), if_pos h1, BitVec.getLsbD_shiftLeft]
    simp [hi, h1, show ¬ (64 - n + i < 64 - n) by omega, show 64 - n + i < 64 by omega]
  · rw [if_neg (show ¬ (64 - n + i < 64) by omega), if_neg h1, BitVec.msb_shiftLeft]
    rw [BitVec.getMsbD_eq_getLsbD]
    rcases n with _ | n
    · simp
    · simp [hi, show ¬ 64 ≤ i by omega, show 63 - n < 64 by omega, show 63 - (63 - n) = n by omega]
theorem Sign_int (x : BitVec 64) (n : Nat) (h : n ≤ 64) : sn (Sign x n) = (sn x).bmod (2 ^ n) := by
  unfold sn
  rw [Sign_ext x n h, BitVec.toInt_signExtend_of_le h, BitVec.toInt_setWidth]
  rw [BitVec.toInt_eq_toNat_bmod, Int.bmod_bmod_of_dvd (Nat.pow_dvd_pow 2 h)]
theorem two_pow_pred (n : Nat) (h : 1 ≤ n) : 2 ^ n = 2 * 2 ^ (n - 1) := by
  obtain ⟨m, rfl⟩ : ∃ m, n = m + 1 := ⟨n - 1, by omega⟩
  rw [Nat.pow_succ, Nat.mul_comm]; rfl
/-- within the bounds of n bits -/
theorem Sign_le (x : BitVec 64) (n : Nat) (h1 : 1 ≤ n) (h : n ≤ 64) : -(2 ^ (n - 1) : Int) ≤ sn (Sign x n) ∧ sn (Sign x n) < 2 ^ (n - 1) := by
  rw [Sign_int x n h]
  have e := two_pow_pred n h1
  have hp : 0 < 2 ^ (n - 1) := Nat.two_pow_pos _
  have a := Int.le_bmod (x := sn x) (m := 2 ^ n) (by omega)
  have b := Int.bmod_lt (x := sn x) (m := 2 ^ n) (by omega)
  rw [e] at *
  have c : ((2 : Int) ^ (n - 1)) = ((2 ^ (n - 1) : Nat) : Int) := by simp
  rw [c]; omega
theorem bmod_self (v : Int) (n : Nat) (h1 : 1 ≤ n) : v.bmod (2 ^ n) = v ↔ -(2 ^ (n - 1) : Int) ≤ v ∧ v < 2 ^ (n - 1) := by
  have e := two_pow_pred n h1
  have hp : 0 < 2 ^ (n - 1) := Nat.two_pow_pos _
  have c : ((2 : Int) ^ (n - 1)) = ((2 ^ (n - 1) : Nat) : Int) := by simp
  rw [c]
  constructor
  · intro hv
    have a := Int.le_bmod (x := v) (m := 2 ^ n) (by omega)
    have b := Int.bmod_lt (x := v) (m := 2 ^ n) (by omega)
    rw [hv] at a b
    rw [e] at a b; omega
  · intro hv
    rw [e]
    exact Int.bmod_eq_of_le_mul_two (by omega) (by omega)
theorem Sign_self (y : BitVec 64) (n : Nat) (h1 : 1 ≤ n) (h : n ≤ 64) : Sign y n = y ↔ -(2 ^ (n - 1) : Int) ≤ sn y ∧ sn y < 2 ^ (n - 1) := by
  rw [← bmod_self (sn y) n h1, ← Sign_int y n h, sn_inj]
theorem Fits_iff (y : BitVec 64) (n : Nat) (h1 : 1 ≤ n) (h : n ≤ 64) : Fits (sn y) n = true ↔ -(2 ^ (n - 1) : Int) ≤ sn y ∧ sn y < 2 ^ (n - 1) := by
  rw [← Sign_self y n h1 h]; unfold Fits; rw [bv_sn, beq_iff_eq, sn_inj]
theorem Sign_Sign (x : BitVec 64) (n : Nat) (h : n ≤ 64) : Sign (Sign x n) n = Sign x n := by
  rcases Nat.eq_zero_or_pos n with rfl | h1
  · rw [← sn_inj, Sign_int _ 0 (by omega), Sign_int _ 0 (by omega), Int.bmod_bmod]
  · rw [← sn_inj, Sign_int _ n h, Sign_int _ n h, Int.bmod_bmod]
theorem Fits_Sign (x : BitVec 64) (n : Nat) (h : n ≤ 64) : Fits (sn (Sign x n)) n = true := by
  unfold Fits; rw [bv_sn, Sign_Sign x n h]; simp
theorem Sign_bit (x : BitVec 64) (n i : Nat) (h : n ≤ 64) (hi : i < n) : (Sign x n).getLsbD i = x.getLsbD i := by
  rw [Sign_ext x n h, BitVec.getLsbD_signExtend, if_pos hi, BitVec.getLsbD_setWidth]; simp [hi]; omega
theorem Low_Sign (x : BitVec 64) (n : Nat) (h : n ≤ 64) : Low (Sign x n) n = Low x n := by
  apply BitVec.eq_of_getLsbD_eq
  intro i hi
  rw [Low_bit, Low_bit, cl_nat n h]
  by_cases h1 : i < n
  · rw [Sign_bit x n i h h1]
  · simp [h1]
theorem Sign_64 (x : BitVec 64) : Sign x 64 = x := by
  have e := Sign_ext x 64 (Nat.le_refl _)
  rw [show ((64 : Nat) : Int) = 64 from rfl] at e
  rw [e]; simp
theorem Part_Part (x : BitVec 64) (f n c d : Nat) (h : f + n ≤ 64) (h' : c + d ≤ n) : Part (Part x f n) c d = Part x ((f : Int) + c) d := by
  apply BitVec.eq_of_getLsbD_eq
  intro i hi
  rw [Part_bit, Part_bit, Part_bit, cl_nat n (by omega), cl_nat d (by omega)]
  have e : ((f : Int) + c).toNat = f + c := by omega
  rw [e, Int.toNat_natCast, Int.toNat_natCast, Nat.add_assoc]
  by_cases h1 : i < d
  · simp [h1, show c + i < n by omega]
  · simp [h1]
theorem Low_Low (x : BitVec 64) (n c : Nat) (h : n ≤ 64) (h' : c ≤ n) : Low (Low x n) c = Low x c := by
  apply BitVec.eq_of_getLsbD_eq
  intro i hi
  rw [Low_bit, Low_bit, Low_bit, cl_nat n h, cl_nat c (by omega)]
  by_cases h1 : i < c
  · simp [show i < n by omega]
  · simp [h1]
theorem Put_Put (x v w : BitVec 64) (f n : Int) : Put (Put x f n v) f n w = Put x f n w := by
  apply BitVec.eq_of_getLsbD_eq
  intro i hi
  rw [Put_bit _ _ _ _ _ hi, Put_bit _ _ _ _ _ hi, Put_bit _ _ _ _ _ hi]
  split <;> rfl
theorem Short_Short (x : BitVec 64) : Short (Short x) = Short x := Sign_Sign x 32 (by omega)
end Go.Proofs.YtdbpnbmaineniaaGreatDoor
