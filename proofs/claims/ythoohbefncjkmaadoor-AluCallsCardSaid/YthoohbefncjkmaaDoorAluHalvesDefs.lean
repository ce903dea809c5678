/- Plain: the product by parts of 32 bits. No program in sight. Conditions: none. -/
import Derived.Test.YthoohbefncjkmaaDoorAluDivDefs
namespace Go.Proofs.YthoohbefncjkmaaDoor
def HQ0 (a b : BitVec 64) : BitVec 64 := (a &&& 4294967295#64) * (b &&& 4294967295#64) &&& 4294967295#64
def HQ1 (a b : BitVec 64) : BitVec 64 := ((a &&& 4294967295#64) * (b &&& 4294967295#64)) >>> 32 + ((a &&& 4294967295#64) * (b >>> 32) &&& 4294967295#64) + ((a >>> 32) * (b &&& 4294967295#64) &&& 4294967295#64)
def HQ2 (a b : BitVec 64) : BitVec 64 := ((a &&& 4294967295#64) * (b >>> 32)) >>> 32 + ((a >>> 32) * (b &&& 4294967295#64)) >>> 32 + ((a >>> 32) * (b >>> 32) &&& 4294967295#64)
def HQ3 (a b : BitVec 64) : BitVec 64 := ((a >>> 32) * (b >>> 32)) >>> 32
def HS1 (a b : BitVec 64) : BitVec 64 := HQ1 a b + HQ0 a b >>> 32
def HS2 (a b : BitVec 64) : BitVec 64 := HQ2 a b + HS1 a b >>> 32
def HS3 (a b : BitVec 64) : BitVec 64 := HQ3 a b + HS2 a b >>> 32
theorem and_low (x : BitVec 64) : (x &&& 4294967295#64).toNat = x.toNat % 4294967296 := by
  rw [BitVec.toNat_and]; exact Nat.and_two_pow_sub_one_eq_mod x.toNat 32
theorem shr_32 (x : BitVec 64) : (x >>> 32).toNat = x.toNat / 4294967296 := by
  rw [BitVec.toNat_ushiftRight, Nat.shiftRight_eq_div_pow]
theorem or_parts (x y : BitVec 64) (hx : x.toNat < 4294967296) (hy : y.toNat < 4294967296) : (x ||| y <<< 32).toNat = x.toNat + y.toNat * 4294967296 := by
  rw [BitVec.toNat_or, BitVec.toNat_shiftLeft, Nat.mod_eq_of_lt (by rw [Nat.shiftLeft_eq]; omega), Nat.or_comm, ← Nat.shiftLeft_add_eq_or_of_lt (by omega), Nat.shiftLeft_eq]; omega
theorem mul_32 (x y : BitVec 64) (hx : x.toNat < 4294967296) (hy : y.toNat < 4294967296) : (x * y).toNat = x.toNat * y.toNat ∧ x.toNat * y.toNat ≤ 18446744065119617025 := by
  have h : x.toNat * y.toNat ≤ 4294967295 * 4294967295 := Nat.mul_le_mul (by omega) (by omega)
  rw [BitVec.toNat_mul]; omega
theorem halves (a b : BitVec 64) : (HQ0 a b &&& 4294967295#64) ||| (HS1 a b &&& 4294967295#64) <<< 32 = a * b ∧ (HS2 a b &&& 4294967295#64) ||| HS3 a b <<< 32 = mulhu a b := by
  have ha : a.toNat < 18446744073709551616 := a.isLt
  have hb : b.toNat < 18446744073709551616 := b.isLt
  have ea : a.toNat = a.toNat % 4294967296 + a.toNat / 4294967296 * 4294967296 := by omega
  have eb : b.toNat = b.toNat % 4294967296 + b.toNat / 4294967296 * 4294967296 := by omega
  obtain ⟨A0, hA0⟩ : ∃ A0, (a &&& 4294967295#64) = A0 := ⟨_, rfl⟩
  obtain ⟨A1, hA1⟩ : ∃ A0, a >>> 32 = A0 := ⟨_, rfl⟩
  obtain ⟨B0, hB0⟩ : ∃ A0, (b &&& 4294967295#64) = A0 := ⟨_, rfl⟩
  obtain ⟨B1, hB1⟩ : ∃ A0, b >>> 32 = A0 := ⟨_, rfl⟩
  have a0 := and_low a
  have a1 := shr_32 a
  have b0 := and_low b
  have b1 := shr_32 b
  rw [hA0] at a0; rw [hA1] at a1; rw [hB0] at b0; rw [hB1] at b1
  rw [← a0, ← a1] at ea
  rw [← b0, ← b1] at eb
  have la0 : A0.toNat < 4294967296 := by omega
  have la1 : A1.toNat < 4294967296 := by omega
  have lb0 : B0.toNat < 4294967296 := by omega
  have lb1 : B1.toNat < 4294967296 := by omega
  obtain ⟨m00, l00⟩ := mul_32 A0 B0 la0 lb0
  obtain ⟨m01, l01⟩ := mul_32 A0 B1 la0 lb1
  obtain ⟨m10, l10⟩ := mul_32 A1 B0 la1 lb0
  obtain ⟨m11, l11⟩ := mul_32 A1 B1 la1 lb1
  have ep : a.toNat * b.toNat = A0.toNat * B0.toNat + (A0.toNat * B1.toNat + A1.toNat * B0.toNat) * 4294967296 + A1.toNat * B1.toNat * 18446744073709551616 := by
    rw [ea, eb, Nat.add_mul, Nat.mul_add, Nat.mul_add]
    have e1 : A0.toNat * (B1.toNat * 4294967296) = A0.toNat * B1.toNat * 4294967296 := by rw [Nat.mul_assoc]
    have e2 : A1.toNat * 4294967296 * B0.toNat = A1.toNat * B0.toNat * 4294967296 := by rw [Nat.mul_assoc, Nat.mul_comm 4294967296, ← Nat.mul_assoc]
    have e3 : A1.toNat * 4294967296 * (B1.toNat * 4294967296) = A1.toNat * B1.toNat * 18446744073709551616 := by
      rw [Nat.mul_assoc, Nat.mul_comm 4294967296 (B1.toNat * 4294967296), Nat.mul_assoc B1.toNat, ← Nat.mul_assoc]
    rw [e1, e2, e3]; omega
  have hlt : a.toNat * b.toNat ≤ 18446744073709551615 * 18446744073709551615 := Nat.mul_le_mul (by omega) (by omega)
  clear ea eb ha hb
  have q0 : (HQ0 a b).toNat = A0.toNat * B0.toNat % 4294967296 := by unfold HQ0; rw [hA0, hB0, and_low, m00]
  have q1 : (HQ1 a b).toNat = A0.toNat * B0.toNat / 4294967296 + A0.toNat * B1.toNat % 4294967296 + A1.toNat * B0.toNat % 4294967296 := by
    unfold HQ1; rw [hA0, hB0, hA1, hB1, BitVec.toNat_add, BitVec.toNat_add, shr_32, and_low, and_low, m00, m01, m10]; omega
  have q2 : (HQ2 a b).toNat = A0.toNat * B1.toNat / 4294967296 + A1.toNat * B0.toNat / 4294967296 + A1.toNat * B1.toNat % 4294967296 := by
    unfold HQ2; rw [hA0, hB0, hA1, hB1, BitVec.toNat_add, BitVec.toNat_add, shr_32, shr_32, and_low, m01, m10, m11]; omega
  have q3 : (HQ3 a b).toNat = A1.toNat * B1.toNat / 4294967296 := by unfold HQ3; rw [hA1, hB1, shr_32, m11]
  clear m00 m01 m10 m11 hA0 hA1 hB0 hB1 a0 a1 b0 b1
  generalize A0.toNat * B0.toNat = P at *
  generalize A0.toNat * B1.toNat = Q at *
  generalize A1.toNat * B0.toNat = R at *
  generalize A1.toNat * B1.toNat = S at *
  clear la0 la1 lb0 lb1
  have s1 : (HS1 a b).toNat = P / 4294967296 + Q % 4294967296 + R % 4294967296 := by
    unfold HS1; rw [BitVec.toNat_add, shr_32, q0, q1]; omega
  have s2 : (HS2 a b).toNat = Q / 4294967296 + R / 4294967296 + S % 4294967296 + (HS1 a b).toNat / 4294967296 := by
    unfold HS2; rw [BitVec.toNat_add, shr_32, q2]; omega
  have s3 : (HS3 a b).toNat = S / 4294967296 + (HS2 a b).toNat / 4294967296 := by
    unfold HS3; rw [BitVec.toNat_add, shr_32, q3]; omega
  refine ⟨BitVec.eq_of_toNat_eq ?_, BitVec.eq_of_toNat_eq ?_⟩
  · rw [or_parts _ _ (by rw [and_low]; omega) (by rw [and_low]; omega), and_low, and_low, BitVec.toNat_mul, ep, q0, s1]; omega
  · rw [or_parts _ _ (by rw [and_low]; omega) (by omega), and_low]
    unfold mulhu
    rw [BitVec.toNat_ofNat, ep, s3, s2, s1]; omega
theorem mulhu_comm (a b : BitVec 64) : mulhu a b = mulhu b a := by unfold mulhu; rw [Nat.mul_comm]
def signedA (a b : BitVec 64) : BitVec 64 := if sn a < 0 then mulhu a b - b else mulhu a b
def signedB (a b : BitVec 64) : BitVec 64 := if sn b < 0 then signedA a b - a else signedA a b
theorem highF_tf (a b : BitVec 64) : highF a b true false = signedA a b := by
  unfold highF signedA; simp
theorem highF_ff (a b : BitVec 64) : highF a b false false = mulhu a b := by
  unfold highF; simp
theorem highF_tt (a b : BitVec 64) : highF a b true true = signedB a b := by
  unfold highF signedB signedA; simp
theorem highF_swap (a b : BitVec 64) : highF b a true true = signedB a b := by
  rw [highF_tt]; unfold signedB signedA; rw [mulhu_comm b a]
  by_cases h1 : sn a < 0 <;> by_cases h2 : sn b < 0 <;> simp [h1, h2]
  rw [BitVec.sub_eq_add_neg, BitVec.sub_eq_add_neg, BitVec.sub_eq_add_neg, BitVec.sub_eq_add_neg, BitVec.add_assoc, BitVec.add_comm (-a), ← BitVec.add_assoc]
end Go.Proofs.YthoohbefncjkmaaDoor
