/- Plain: laws of quotients and rests, of 64 and of 32 bits. No program in sight. Conditions: none. -/
import Derived.Test.YthoohbefncjkmaaDoorAluDefs
namespace Go.Proofs.YthoohbefncjkmaaDoor
theorem doF_long (p : Nat) (h : (35 ≤ p ∧ p ≤ 44) ∨ (50 ≤ p ∧ p ≤ 57)) (a b : BitVec 64) : doF (p : Int) a b = aluF p a b := by
  have hp : plainOf (p : Int) = p := plainOf_self _ (by omega)
  have hs : ¬ shortOp (p : Int) = true := by unfold shortOp; simp; omega
  unfold doF
  rw [if_neg (by omega), hp, if_neg (by omega), if_neg hs]; rfl
theorem doF_short (p : Nat) (h : (45 ≤ p ∧ p ≤ 49) ∨ (58 ≤ p ∧ p ≤ 62)) (a b : BitVec 64) : doF (p : Int) a b = Short (aluF p (Short a) (Short b)) := by
  have hp : plainOf (p : Int) = p := plainOf_self _ (by omega)
  have hs : shortOp (p : Int) = true := by unfold shortOp; simp; omega
  unfold doF
  rw [if_neg (by omega), hp, if_neg (by omega), if_pos hs]; rfl
theorem un_lt_iff (a b : BitVec 64) : un a < un b ↔ a.toNat < b.toNat := by unfold un; omega
theorem bv_zero_iff (b : BitVec 64) : b = 0#64 ↔ b.toNat = 0 := by
  constructor
  · intro h; rw [h]; rfl
  · intro h; apply BitVec.eq_of_toNat_eq; rw [h]; rfl
theorem divu_law (a b : BitVec 64) (h : b ≠ 0#64) : divuF a b * b + remuF a b = a := by
  unfold divuF remuF
  rw [if_neg h, if_neg h]
  apply BitVec.eq_of_toNat_eq
  rw [BitVec.toNat_add, BitVec.toNat_mul, BitVec.toNat_udiv, BitVec.toNat_umod, Nat.mod_add_mod]
  have e := Nat.div_add_mod a.toNat b.toNat
  rw [Nat.mul_comm] at e
  rw [e]; exact Nat.mod_eq_of_lt a.isLt
theorem remu_lt (a b : BitVec 64) (h : b ≠ 0#64) : un (remuF a b) < un b := by
  unfold remuF
  rw [if_neg h, un_lt_iff, BitVec.toNat_umod]
  exact Nat.mod_lt _ (by have := mt (bv_zero_iff b).2 h; omega)
theorem sdiv_bv (a b : BitVec 64) : a.sdiv b = bv ((sn a).tdiv (sn b)) := by
  apply BitVec.eq_of_toInt_eq; unfold bv sn; rw [BitVec.toInt_ofInt, BitVec.toInt_sdiv]
theorem srem_bv (a b : BitVec 64) : a.srem b = bv ((sn a).tmod (sn b)) := by
  rw [← sn_inj, sn_bv]
  · unfold sn; rw [BitVec.toInt_srem]
  · have := sn_lt (a.srem b); unfold sn at this ⊢; rw [BitVec.toInt_srem] at this; exact this
theorem div_law (a b : BitVec 64) (h : b ≠ 0#64) : divF a b * b + remF a b = a := by
  unfold divF remF
  rw [if_neg h, if_neg h]
  by_cases h1 : a = leastB ∧ b = BitVec.allOnes 64
  · rw [if_pos h1, if_pos h1, h1.1, h1.2]; decide
  · rw [if_neg h1, if_neg h1, sdiv_bv, srem_bv]
    have e : bv ((sn a).tdiv (sn b)) * b = bv ((sn a).tdiv (sn b) * sn b) := by rw [bv_mul, bv_sn]
    rw [e, ← bv_add, Int.mul_comm, Int.mul_tdiv_add_tmod, bv_sn]
theorem sn_remF (a b : BitVec 64) (h : b ≠ 0#64) : sn (remF a b) = (sn a).tmod (sn b) := by
  unfold remF
  rw [if_neg h]
  by_cases h1 : a = leastB ∧ b = BitVec.allOnes 64
  · rw [if_pos h1, h1.1, h1.2]; decide
  · rw [if_neg h1]; unfold sn; rw [BitVec.toInt_srem]
theorem sn_zero_iff (b : BitVec 64) : sn b = 0 ↔ b = 0#64 := by
  have : sn 0#64 = 0 := rfl
  rw [← this, sn_inj]
theorem rem_sign (a b : BitVec 64) (h : b ≠ 0#64) (hr : remF a b ≠ 0#64) : decide (sn (remF a b) < 0) = decide (sn a < 0) := by
  rw [decide_eq_decide, sn_remF a b h]
  have hr' : (sn a).tmod (sn b) ≠ 0 := by rw [← sn_remF a b h]; exact mt (sn_zero_iff _).1 hr
  rcases Int.lt_or_le (sn a) 0 with ha | ha
  · have h1 : 0 ≤ (-sn a).tmod (sn b) := Int.tmod_nonneg _ (by omega)
    rw [Int.neg_tmod] at h1; omega
  · have h1 : 0 ≤ (sn a).tmod (sn b) := Int.tmod_nonneg _ ha
    omega
/-- how great a signed number is -/
def sizeF (x : BitVec 64) : BitVec 64 := if sn x < 0 then -x else x
theorem un_sizeF (x : BitVec 64) : un (sizeF x) = (sn x).natAbs := by
  have hs := sn_lt x
  unfold sizeF
  split
  · rename_i h
    have e : -x = bv (-(sn x)) := by rw [bv_neg, bv_sn]
    rw [e, un_bv _ (by omega)]; omega
  · rename_i h
    have e : x = bv (sn x) := (bv_sn x).symm
    conv => lhs; rw [e]
    rw [un_bv _ (by omega)]; omega
theorem rem_size (a b : BitVec 64) (h : b ≠ 0#64) : un (sizeF (remF a b)) < un (sizeF b) := by
  rw [un_sizeF, un_sizeF, sn_remF a b h]
  have hb : sn b ≠ 0 := mt (sn_zero_iff b).1 h
  have h2 := Int.natAbs_tmod (sn a) (sn b)
  rw [h2]
  have := Nat.mod_lt (sn a).natAbs (show 0 < (sn b).natAbs by omega)
  omega
/-! 32 bits -/
theorem Low32_nat (x : BitVec 64) : (Low x 32).toNat = x.toNat % 4294967296 := by
  unfold Low
  have e : Ones 32 = 4294967295#64 := by decide
  rw [e, BitVec.toNat_and]
  exact Nat.and_two_pow_sub_one_eq_mod _ 32
theorem Short_of_Low (x y : BitVec 64) (h : Low x 32 = Low y 32) : Short x = Short y := by
  apply BitVec.eq_of_getLsbD_eq
  intro i hi
  have hb : ∀ j, j < 32 → x.getLsbD j = y.getLsbD j := fun j hj => by
    have := congrArg (fun z => z.getLsbD j) h
    simp only [Low_bit] at this
    rw [show cl 32 = 32 from rfl] at this
    simpa [hj] using this
  have hs : ∀ z : BitVec 64, (Short z).getLsbD i = if i < 32 then z.getLsbD i else z.getLsbD 31 := fun z => by
    unfold Short
    have e := Sign_ext z 32 (by omega)
    rw [show ((32 : Nat) : Int) = 32 from rfl] at e
    rw [e, BitVec.getLsbD_signExtend, BitVec.getLsbD_setWidth, BitVec.msb_setWidth]
    by_cases h1 : i < 32
    · simp [hi, h1]
    · simp [hi, h1]
  rw [hs, hs]
  split
  · exact hb i ‹_›
  · exact hb 31 (by omega)
theorem Low_Short (x : BitVec 64) : Low (Short x) 32 = Low x 32 := Low_Sign x 32 (by omega)
theorem Low_eq_iff (x y : BitVec 64) : Low x 32 = Low y 32 ↔ x.toNat % 4294967296 = y.toNat % 4294967296 := by
  rw [← Low32_nat, ← Low32_nat]
  constructor
  · intro h; rw [h]
  · intro h; exact BitVec.eq_of_toNat_eq h
theorem Low_add_mul (x y z x' z' : BitVec 64) (h : Low x 32 = Low x' 32) (h' : Low z 32 = Low z' 32) : Low (x * y + z) 32 = Low (x' * y + z') 32 := by
  rw [Low_eq_iff] at *
  rw [BitVec.toNat_add, BitVec.toNat_add, BitVec.toNat_mul, BitVec.toNat_mul]
  have hm : x.toNat * y.toNat % 4294967296 = x'.toNat * y.toNat % 4294967296 := by rw [Nat.mul_mod, h, ← Nat.mul_mod]
  generalize x.toNat * y.toNat = A at *
  generalize x'.toNat * y.toNat = B at *
  omega
theorem Short_allOnes : Short (BitVec.allOnes 64) = BitVec.allOnes 64 := by decide
/-- short quotient and rest -/
theorem divw_law (x y : BitVec 64) (hx : Short x = x) : Short (Short (divF x y) * y + Short (remF x y)) = x := by
  by_cases h : y = 0#64
  · subst h
    have : remF x 0#64 = x := by unfold remF; rw [if_pos rfl]
    rw [this, BitVec.mul_zero, BitVec.zero_add, hx, hx]
  · have := Low_add_mul (Short (divF x y)) y (Short (remF x y)) (divF x y) (remF x y) (Low_Short _) (Low_Short _)
    rw [div_law x y h] at this
    rw [Short_of_Low _ _ this, hx]
theorem Low_small (x : BitVec 64) (h : x.toNat < 4294967296) : Low x 32 = x := by
  apply BitVec.eq_of_toNat_eq; rw [Low32_nat]; omega
theorem Low_lt (x : BitVec 64) : (Low x 32).toNat < 4294967296 := by rw [Low32_nat]; omega
theorem divuw_law (a b : BitVec 64) (h : Low b 32 ≠ 0#64) : Low (Short (divuF (Low a 32) (Low b 32))) 32 = Low a 32 / Low b 32 := by
  rw [Low_Short]; unfold divuF; rw [if_neg h]
  refine Low_small _ ?_
  rw [BitVec.toNat_udiv]
  exact Nat.lt_of_le_of_lt (Nat.div_le_self _ _) (Low_lt a)
theorem remuw_law (a b : BitVec 64) (h : Low b 32 ≠ 0#64) : Low (Short (remuF (Low a 32) (Low b 32))) 32 = Low a 32 % Low b 32 := by
  rw [Low_Short]; unfold remuF; rw [if_neg h]
  refine Low_small _ ?_
  rw [BitVec.toNat_umod]
  exact Nat.lt_of_le_of_lt (Nat.mod_le _ _) (Low_lt a)
theorem Short_Low (x : BitVec 64) : Short (Low x 32) = Short x := Short_of_Low _ _ (Low_Low x 32 32 (by omega) (by omega))
end Go.Proofs.YthoohbefncjkmaaDoor
