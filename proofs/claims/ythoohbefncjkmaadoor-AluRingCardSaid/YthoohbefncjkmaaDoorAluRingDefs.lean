/- Plain: the laws of a ring, of bitwise operations and of shifts, for what alu.Do answers. No program in sight. Conditions: none. -/
import Derived.Test.YthoohbefncjkmaaDoorAluDivDefs
namespace Go.Proofs.YthoohbefncjkmaaDoor
theorem un_ofNat (k : Nat) (h : k < 18446744073709551616) : un (BitVec.ofNat 64 k) = (k : Int) := by
  unfold un; rw [BitVec.toNat_ofNat, Nat.mod_eq_of_lt h]
theorem and63 (k : Nat) (h : k < 64) : (BitVec.ofNat 64 k &&& 63#64).toNat = k ∧ ((BitVec.ofNat 64 k + 64#64) &&& 63#64).toNat = k := by
  have : ∀ k, k < 64 → (BitVec.ofNat 64 k &&& 63#64).toNat = k ∧ ((BitVec.ofNat 64 k + 64#64) &&& 63#64).toNat = k := by decide +kernel
  exact this k h
theorem sh_ofNat (k : Nat) (h : k < 64) : sh (BitVec.ofNat 64 k) 63#64 = k := by
  unfold sh un; rw [(and63 k h).1]; omega
theorem sh_ofNat64 (k : Nat) (h : k < 64) : sh (BitVec.ofNat 64 k + 64#64) 63#64 = k := by
  unfold sh un; rw [(and63 k h).2]; omega
theorem mul_pow (a : BitVec 64) (k : Nat) (h : k < 64) : a * (1#64 <<< k) = a <<< k := by
  apply BitVec.eq_of_toNat_eq
  have h2 : 2 ^ k < 2 ^ 64 := Nat.pow_lt_pow_right (by omega) h
  rw [BitVec.toNat_mul, BitVec.toNat_shiftLeft, BitVec.toNat_shiftLeft, Nat.shiftLeft_eq, Nat.shiftLeft_eq]
  simp [Nat.mod_eq_of_lt h2]
theorem divu_pow (a : BitVec 64) (k : Nat) (h : k < 64) : divuF a (1#64 <<< k) = a >>> k := by
  have h2 : 2 ^ k < 2 ^ 64 := Nat.pow_lt_pow_right (by omega) h
  have e : (1#64 <<< k).toNat = 2 ^ k := by
    rw [BitVec.toNat_shiftLeft, Nat.shiftLeft_eq]; simp [Nat.mod_eq_of_lt h2]
  have h0 : 0 < 2 ^ k := Nat.pow_pos (by omega)
  unfold divuF
  rw [if_neg (by rw [bv_zero_iff, e]; omega)]
  apply BitVec.eq_of_toNat_eq
  rw [BitVec.toNat_udiv, e, BitVec.toNat_ushiftRight, Nat.shiftRight_eq_div_pow]
theorem and_add_xor (a b : BitVec 64) : (a &&& b) + (a ^^^ b) = a ||| b := by
  rw [BitVec.add_eq_or_of_and_eq_zero]
  · ext i hi; simp; cases a[i] <;> cases b[i] <;> rfl
  · ext i hi; simp; cases a[i] <;> cases b[i] <;> simp
theorem xor_back (a b : BitVec 64) : (a ^^^ b) ^^^ b = a := by
  ext i hi; simp
theorem sar_not (a : BitVec 64) (k : Nat) : ((a ^^^ BitVec.allOnes 64).sshiftRight k) ^^^ BitVec.allOnes 64 = a.sshiftRight k := by
  rw [BitVec.xor_allOnes, BitVec.xor_allOnes]
  ext i hi
  have hm : (~~~a).msb = !a.msb := by rw [BitVec.msb_not]; simp
  simp only [BitVec.getElem_not, BitVec.getElem_sshiftRight, hm]
  split <;> simp
theorem sar_nonneg (a : BitVec 64) (k : Nat) (h : 0 ≤ sn a) : a.sshiftRight k = a >>> k := by
  have hm : a.msb = false := by
    rw [BitVec.msb_eq_toInt]; unfold sn at h; simp; omega
  exact BitVec.sshiftRight_eq_of_msb_false hm
theorem dist (a b c : BitVec 64) : a * c + b * c = (a + b) * c := (BitVec.add_mul).symm
end Go.Proofs.YthoohbefncjkmaaDoor
