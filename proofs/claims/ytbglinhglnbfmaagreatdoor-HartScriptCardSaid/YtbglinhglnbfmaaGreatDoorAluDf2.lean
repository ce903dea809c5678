/- Plain: laws of quotients and rests, of 64 and of 32 bits. No program in sight. Plain: the product by parts of 32 bits. No program in sight. Conditions: as each theorem says. -/
import Derived.Test.YtbglinhglnbfmaaGreatDoorAluDefs
namespace Go.Proofs.YtbglinhglnbfmaaGreatDoor
theorem doF_long (p : Nat) (h : (35 ≤ p ∧ p ≤ 44) ∨ (50 ≤ p ∧ p ≤ 57)) (a b : BitVec 64) : doF (p : Int) a b = aluF p a b := by
  have hp : plainOf (p : Int) = p := plainOf_self _ (by omega)
  have hs : ¬ shortOp (p : Int) = true := by unfold shortOp; simp; omega
  unfold doF
  rw [if_neg (by omega), hp, if_neg (by omega), if_neg hs]; rfl
theorem doF_short (p : Nat) (h : (45 ≤ p ∧ p ≤ 49) ∨ (58 ≤ p ∧ p ≤ 62)) (a b : BitVec 64) : doF (p : Int) a b = Short (aluF p (Short a) (Short b)) := by
  have hp : plainOf (p : Int) = p := plainOf_self _ (by omega)
  have hs : shortOp (p : Int) = true := by unfold shortOp; simp; omega
  unfold doF
  rw [if_neg (by omega), hp, if_neg (by omega), if_pos hs]; rfl
theorem un_lt_iff (a b : BitVec 64) : un a < un b ↔ a.toNat < b.toNat := by unfold un; omega
theorem bv_zero_iff (b : BitVec 64) : b = 0#64 ↔ b.toNat = 0 := by
  constructor
  · intro h; rw [h]; rfl
  · intro h; apply BitVec.eq_of_toNat_eq; rw [h]; rfl
theorem divu_law (a b : BitVec 64) (h : b ≠ 0#64) : divuF a b * b + remuF a b = a := by
  unfold divuF remuF
  rw [if_neg h, if_neg h]
  apply BitVec.eq_of_toNat_eq
  rw [BitVec.toNat_add, BitVec.toNat_mul, BitVec.toNat_udiv, BitVec.toNat_umod, Nat.mod_add_mod]
  have e := Nat.div_add_mod a.toNat b.toNat
  rw [Nat.mul_comm] at e
  rw [e]; exact Nat.mod_eq_of_lt a.isLt
theorem remu_lt (a b : BitVec 64) (h : b ≠ 0#64) : un (remuF a b) < un b := by
  unfold remuF
  rw [if_neg h, un_lt_iff, BitVec.toNat_umod]
  exact Nat.mod_lt _ (by have := mt (bv_zero_iff b).2 h; omega)
theorem sdiv_bv (a b : BitVec 64) : a.sdiv b = bv ((sn a).tdiv (sn b)) := by
  apply BitVec.eq_of_toInt_eq; unfold bv sn; rw [BitVec.toInt_ofInt, BitVec.toInt_sdiv]
theorem srem_bv (a b : BitVec 64) : a.srem b = bv ((sn a).tmod (sn b)) := by
  rw [← sn_inj, sn_bv]
  · unfold sn; rw [BitVec.toInt_srem]
  · have := sn_lt (a.srem b); unfold sn at this ⊢; rw [BitVec.toInt_srem] at this; exact this
theorem div_law (a b : BitVec 64) (h : b ≠ 0#64) : divF a b * b + remF a b = a := by
  unfold divF remF
  rw [if_neg h, if_neg h]
  by_cases h1 : a = leastB ∧ b = BitVec.allOnes 64
  · rw [if_pos h1, if_pos h1, h1.1, h1.2]; decide
  · rw [if_neg h1, if_neg h1, sdiv_bv, srem_bv]
    have e : bv ((sn a).tdiv (sn b)) * b = bv ((sn a).tdiv (sn b) * sn b) := by rw [bv_mul, bv_sn]
    rw [e, ← bv_add, Int.mul_comm, Int.mul_tdiv_add_tmod, bv_sn]
theorem sn_remF (a b : BitVec 64) (h : b ≠ 0#64) : sn (remF a b) = (sn a).tmod (sn b) := by
  unfold remF
  rw [if_neg h]
  by_cases h1 : a = leastB ∧ b = BitVec.allOnes 64
  · rw [if_pos h1, h1.1, h1.2]; decide
  · rw [if_neg h1]; unfold sn; rw [BitVec.toInt_srem]
theorem sn_zero_iff (b : BitVec 64) : sn b = 0 ↔ b = 0#64 := by
  have : sn 0#64 = 0 := rfl
  rw [← this, sn_inj]
theorem rem_sign (a b : BitVec 64) (h : b ≠ 0#64) (hr : remF a b ≠ 0#64) : decide (sn (remF a b) < 0) = decide (sn a < 0) := by
  rw [decide_eq_decide, sn_remF a b h]
  have hr' : (sn a).tmod (sn b) ≠ 0 := by rw [← sn_remF a b h]; exact mt (sn_zero_iff _).1 hr
  rcases Int.lt_or_le (sn a) 0 with ha | ha
  · have h1 : 0 ≤ (-sn a).tmod (sn b) := Int.tmod_nonneg _ (by omega)
    rw [Int.neg_tmod] at h1; omega
  · have h1 : 0 ≤ (sn a).tmod (sn b) := Int.tmod_nonneg _ ha
    omega
/-- how great a signed number is -/
def sizeF (x : BitVec 64) : BitVec 64 := if sn x < 0 then -x else x
theorem un_sizeF (x : BitVec 64) : un (sizeF x) = (sn x).natAbs := by
  have hs := sn_lt x
  unfold sizeF
  split
  · rename_i h
    have e : -x = bv (-(sn x)) := by rw [bv_neg, bv_sn]
    rw [e, un_bv _ (by omega)]; omega
  · rename_i h
    have e : x = bv (sn x) := (bv_sn x).symm
    conv => lhs; rw [e]
    rw [un_bv _ (by omega)]; omega
theorem rem_size (a b : BitVec 64) (h : b ≠ 0#64) : un (sizeF (remF a b)) < un (sizeF b) := by
  rw [un_sizeF, un_sizeF, sn_remF a b h]
  have hb : sn b ≠ 0 := mt (sn_zero_iff b).1 h
  have h2 := Int.natAbs_tmod (sn a) (sn b)
  rw [h2]
  have := Nat.mod_lt (sn a).natAbs (show 0 < (sn b).natAbs by omega)
  omega
/-! 32 bits -/
theorem Low32_nat (x : BitVec 64) : (Low x 32).toNat = x.toNat % 4294967296 := by
  unfold Low
  have e : Ones 32 = 4294967295#64 := by decide
  rw [e, BitVec.toNat_and]
  exact Nat.and_two_pow_sub_one_eq_mod _ 32
theorem Short_of_Low (x y : BitVec 64) (h : Low x 32 = Low y 32) : Short x = Short y := by
  apply BitVec.eq_of_getLsbD_eq
  intro i hi
  have hb : ∀ j, j < 32 → x.getLsbD j = y.getLsbD j := fun j hj => by
    have := congrArg (fun z => z.getLsbD j) h
    simp only [Low_bit] at this
    rw [show cl 32 = 32 from rfl] at this
    simpa [hj] using this
  have hs : ∀ z : BitVec 64, (Short z).getLsbD i = if i < 32 then z.getLsbD i else z.getLsbD 31 := fun z => by
    unfold Short
    have e := Sign_ext z 32 (by omega)
    rw [show ((32 : Nat) : Int) = 32 from rfl] at e
    rw [e, BitVec.getLsbD_signExtend, BitVec.getLsbD_setWidth, BitVec.msb_setWidth]
    by_cases h1 : i < 32
    · simp [hi, h1]
    · simp [hi, h1]
  rw [hs, hs]
  split
  · exact hb i ‹_›
  · exact hb 31 (by omega)
theorem Low_Short (x : BitVec 64) : Low (Short x) 32 = Low x 32 := Low_Sign x 32 (by omega)
theorem Low_eq_iff (x y : BitVec 64) : Low x 32 = Low y 32 ↔ x.toNat % 4294967296 = y.toNat % 4294967296 := by
  rw [← Low32_nat, ← Low32_nat]
  constructor
  · intro h; rw [h]
  · intro h; exact BitVec.eq_of_toNat_eq h
theorem Low_add_mul (x y z x' z' : BitVec 64) (h : Low x 32 = Low x' 32) (h' : Low z 32 = Low z' 32) : Low (x * y + z) 32 = Low (x' * y + z') 32 := by
  rw [Low_eq_iff] at *
  rw [BitVec.toNat_add, BitVec.toNat_add, BitVec.toNat_mul, BitVec.toNat_mul]
  have hm : x.toNat * y.toNat % 4294967296 = x'.toNat * y.toNat % 4294967296 := by rw [Nat.mul_mod, h, ← Nat.mul_mod]
  generalize x.toNat * y.toNat = A at *
  generalize x'.toNat * y.toNat = B at *
  omega
theorem Short_allOnes : Short (BitVec.allOnes 64) = BitVec.allOnes 64 := by decide
/-- short quotient and rest -/
theorem divw_law (x y : BitVec 64) (hx : Short x = x) : Short (Short (divF x y) * y + Short (remF x y)) = x := by
  by_cases h : y = 0#64
  · subst h
    have : remF x 0#64 = x := by unfold remF; rw [if_pos rfl]
    rw [this, BitVec.mul_zero, BitVec.zero_add, hx, hx]
  · have := Low_add_mul (Short (divF x y)) y (Short (remF x y)) (divF x y) (remF x y) (Low_Short _) (Low_Short _)
    rw [div_law x y h] at this
    rw [Short_of_Low _ _ this, hx]
theorem Low_small (x : BitVec 64) (h : x.toNat < 4294967296) : Low x 32 = x := by
  apply BitVec.eq_of_toNat_eq; rw [Low32_nat]; omega
theorem Low_lt (x : BitVec 64) : (Low x 32).toNat < 4294967296 := by rw [Low32_nat]; omega
theorem divuw_law (a b : BitVec 64) (h : Low b 32 ≠ 0#64) : Low (Short (divuF (Low a 32) (Low b 32))) 32 = Low a 32 / Low b 32 := by
  rw [Low_Short]; unfold divuF; rw [if_neg h]
  refine Low_small _ ?_
  rw [BitVec.toNat_udiv]
  exact Nat.lt_of_le_of_lt (Nat.div_le_self _ _) (Low_lt a)
theorem remuw_law (a b : BitVec 64) (h : Low b 32 ≠ 0#64) : Low (Short (remuF (Low a 32) (Low b 32))) 32 = Low a 32 % Low b 32 := by
  rw [Low_Short]; unfold remuF; rw [if_neg h]
  refine Low_small _ ?_
  rw [BitVec.toNat_umod]
  exact Nat.lt_of_le_of_lt (Nat.mod_le _ _) (Low_lt a)
theorem Short_Low (x : BitVec 64) : Short (Low x 32) = Short x := Short_of_Low _ _ (Low_Low x 32 32 (by omega) (by omega))
end Go.Proofs.YtbglinhglnbfmaaGreatDoor
namespace Go.Proofs.YtbglinhglnbfmaaGreatDoor
def HQ0 (a b : BitVec 64) : BitVec 64 := (a &&& 4294967295#64) * (b &&& 4294967295#64) &&& 4294967295#64
def HQ1 (a b : BitVec 64) : BitVec 64 := ((a &&& 4294967295#64) * (b &&& 4294967295#64)) >>> 32 + ((a &&& 4294967295#64) * (b >>> 32) &&& 4294967295#64) + ((a >>> 32) * (b &&& 4294967295#64) &&& 4294967295#64)
def HQ2 (a b : BitVec 64) : BitVec 64 := ((a &&& 4294967295#64) * (b >>> 32)) >>> 32 + ((a >>> 32) * (b &&& 4294967295#64)) >>> 32 + ((a >>> 32) * (b >>> 32) &&& 4294967295#64)
def HQ3 (a b : BitVec 64) : BitVec 64 := ((a >>> 32) * (b >>> 32)) >>> 32
def HS1 (a b : BitVec 64) : BitVec 64 := HQ1 a b + HQ0 a b >>> 32
def HS2 (a b : BitVec 64) : BitVec 64 := HQ2 a b + HS1 a b >>> 32
def HS3 (a b : BitVec 64) : BitVec 64 := HQ3 a b + HS2 a b >>> 32
theorem and_low (x : BitVec 64) : (x &&& 4294967295#64).toNat = x.toNat % 4294967296 := by
  rw [BitVec.toNat_and]; exact Nat.and_two_pow_sub_one_eq_mod x.toNat 32
theorem shr_32 (x : BitVec 64) : (x >>> 32).toNat = x.toNat / 4294967296 := by
  rw [BitVec.toNat_ushiftRight, Nat.shiftRight_eq_div_pow]
theorem or_parts (x y : BitVec 64) (hx : x.toNat < 4294967296) (hy : y.toNat < 4294967296) : (x ||| y <<< 32).toNat = x.toNat + y.toNat * 4294967296 := by
  rw [BitVec.toNat_or, BitVec.toNat_shiftLeft, Nat.mod_eq_of_lt (by rw [Nat.shiftLeft_eq]; omega), Nat.or_comm, ← Nat.shiftLeft_add_eq_or_of_lt (by omega), Nat.shiftLeft_eq]; omega
theorem mul_32 (x y : BitVec 64) (hx : x.toNat < 4294967296) (hy : y.toNat < 4294967296) : (x * y).toNat = x.toNat * y.toNat ∧ x.toNat * y.toNat ≤ 18446744065119617025 := by
  have h : x.toNat * y.toNat ≤ 4294967295 * 4294967295 := Nat.mul_le_mul (by omega) (by omega)
  rw [BitVec.toNat_mul]; omega
theorem halves (a b : BitVec 64) : (HQ0 a b &&& 4294967295#64) ||| (HS1 a b &&& 4294967295#64) <<< 32 = a * b ∧ (HS2 a b &&& 4294967295#64) ||| HS3 a b <<< 32 = mulhu a b := by
  have ha : a.toNat < 18446744073709551616 := a.isLt
  have hb : b.toNat < 18446744073709551616 := b.isLt
  have ea : a.toNat = a.toNat % 4294967296 + a.toNat / 4294967296 * 4294967296 := by omega
  have eb : b.toNat = b.toNat % 4294967296 + b.toNat / 4294967296 * 4294967296 := by omega
  obtain ⟨A0, hA0⟩ : ∃ A0, (a &&& 4294967295#64) = A0 := ⟨_, rfl⟩
  obtain ⟨A1, hA1⟩ : ∃ A0, a >>> 32 = A0 := ⟨_, rfl⟩
  obtain ⟨B0, hB0⟩ : ∃ A0, (b &&& 4294967295#64) = A0 := ⟨_, rfl⟩
  obtain ⟨B1, hB1⟩ : ∃ A0, b >>> 32 = A0 := ⟨_, rfl⟩
  have a0 := and_low a
  have a1 := shr_32 a
  have b0 := and_low b
  have b1 := shr_32 b
  rw [hA0] at a0; rw [hA1] at a1; rw [hB0] at b0; rw [hB1] at b1
  rw [← a0, ← a1] at ea
  rw [← b0, ← b1] at eb
  have la0 : A0.toNat < 4294967296 := by omega
  have la1 : A1.toNat < 4294967296 := by omega
  have lb0 : B0.toNat < 4294967296 := by omega
  have lb1 : B1.toNat < 4294967296 := by omega
  obtain ⟨m00, l00⟩ := mul_32 A0 B0 la0 lb0
  obtain ⟨m01, l01⟩ := mul_32 A0 B1 la0 lb1
  obtain ⟨m10, l10⟩ := mul_32 A1 B0 la1 lb0
  obtain ⟨m11, l11⟩ := mul_32 A1 B1 la1 lb1
  have ep : a.toNat * b.toNat = A0.toNat * B0.toNat + (A0.toNat * B1.toNat + A1.toNat * B0.toNat) * 4294967296 + A1.toNat * B1.toNat * 18446744073709551616 := by
    rw [ea, eb, Nat.add_mul, Nat.mul_add, Nat.mul_add]
    have e1 : A0.toNat * (B1.toNat * 4294967296) = A0.toNat * B1.toNat * 4294967296 := by rw [Nat.mul_assoc]
    have e2 : A1.toNat * 4294967296 * B0.toNat = A1.toNat * B0.toNat * 4294967296 := by rw [Nat.mul_assoc, Nat.mul_comm 4294967296, ← Nat.mul_assoc]
    have e3 : A1.toNat * 4294967296 * (B1.toNat * 4294967296) = A1.toNat * B1.toNat * 18446744073709551616 := by
      rw [Nat.mul_assoc, Nat.mul_comm 4294967296 (B1.toNat * 4294967296), Nat.mul_assoc B1.toNat, ← Nat.mul_assoc]
    rw [e1, e2, e3]; omega
  have hlt : a.toNat * b.toNat ≤ 18446744073709551615 * 18446744073709551615 := Nat.mul_le_mul (by omega) (by omega)
  clear ea eb ha hb
  have q0 : (HQ0 a b).toNat = A0.toNat * B0.toNat % 4294967296 := by unfold HQ0; rw [hA0, hB0, and_low, m00]
  have q1 : (HQ1 a b).toNat = A0.toNat * B0.toNat / 4294967296 + A0.toNat * B1.toNat % 4294967296 + A1.toNat * B0.toNat % 4294967296 := by
    unfold HQ1; rw [hA0, hB0, hA1, hB1, BitVec.toNat_add, BitVec.toNat_add, shr_32, and_low, and_low, m00, m01, m10]; omega
  have q2 : (HQ2 a b).toNat = A0.toNat * B1.toNat / 4294967296 + A1.toNat * B0.toNat / 4294967296 + A1.toNat * B1.toNat % 4294967296 := by
    unfold HQ2; rw [hA0, hB0, hA1, hB1, BitVec.toNat_add, BitVec.toNat_add, shr_32, shr_32, and_low, m01, m10, m11]; omega
  have q3 : (HQ3 a b).toNat = A1.toNat * B1.toNat / 4294967296 := by unfold HQ3; rw [hA1, hB1, shr_32, m11]
  clear m00 m01 m10 m11 hA0 hA1 hB0 hB1 a0 a1 b0 b1
  generalize A0.toNat * B0.toNat = P at *
  generalize A0.toNat * B1.toNat = Q at *
  generalize A1.toNat * B0.toNat = R at *
  generalize A1.toNat * B1.toNat = S at *
  clear la0 la1 lb0 lb1
  have s1 : (HS1 a b).toNat = P / 4294967296 + Q % 4294967296 + R % 4294967296 := by
    unfold HS1; rw [BitVec.toNat_add, shr_32, q0, q1]; omega
  have s2 : (HS2 a b).toNat = Q / 4294967296 + R / 4294967296 + S % 4294967296 + (HS1 a b).toNat / 4294967296 := by
    unfold HS2; rw [BitVec.toNat_add, shr_32, q2]; omega
  have s3 : (HS3 a b).toNat = S / 4294967296 + (HS2 a b).toNat / 4294967296 := by
    unfold HS3; rw [BitVec.toNat_add, shr_32, q3]; omega
  refine ⟨BitVec.eq_of_toNat_eq ?_, BitVec.eq_of_toNat_eq ?_⟩
  · rw [or_parts _ _ (by rw [and_low]; omega) (by rw [and_low]; omega), and_low, and_low, BitVec.toNat_mul, ep, q0, s1]; omega
  · rw [or_parts _ _ (by rw [and_low]; omega) (by omega), and_low]
    unfold mulhu
    rw [BitVec.toNat_ofNat, ep, s3, s2, s1]; omega
theorem mulhu_comm (a b : BitVec 64) : mulhu a b = mulhu b a := by unfold mulhu; rw [Nat.mul_comm]
def signedA (a b : BitVec 64) : BitVec 64 := if sn a < 0 then mulhu a b - b else mulhu a b
def signedB (a b : BitVec 64) : BitVec 64 := if sn b < 0 then signedA a b - a else signedA a b
theorem highF_tf (a b : BitVec 64) : highF a b true false = signedA a b := by
  unfold highF signedA; simp
theorem highF_ff (a b : BitVec 64) : highF a b false false = mulhu a b := by
  unfold highF; simp
theorem highF_tt (a b : BitVec 64) : highF a b true true = signedB a b := by
  unfold highF signedB signedA; simp
theorem highF_swap (a b : BitVec 64) : highF b a true true = signedB a b := by
  rw [highF_tt]; unfold signedB signedA; rw [mulhu_comm b a]
  by_cases h1 : sn a < 0 <;> by_cases h2 : sn b < 0 <;> simp [h1, h2]
  rw [BitVec.sub_eq_add_neg, BitVec.sub_eq_add_neg, BitVec.sub_eq_add_neg, BitVec.sub_eq_add_neg, BitVec.add_assoc, BitVec.add_comm (-a), ← BitVec.add_assoc]
end Go.Proofs.YtbglinhglnbfmaaGreatDoor
