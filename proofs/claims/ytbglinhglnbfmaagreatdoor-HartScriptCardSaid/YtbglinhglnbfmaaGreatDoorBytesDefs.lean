/- Plain: bytes of a word, and the word of bytes. No program in sight. Conditions: none. -/
import Derived.Test.YtbglinhglnbfmaaGreatDoorWordSign
import Derived.Laws.BytesArg
namespace Go.Proofs.YtbglinhglnbfmaaGreatDoor
/-- byte i of x, as the walk has it -/
def byteAt (x : BitVec 64) (i : Nat) : Int := un (x >>> (8 * i)) % 256
/-- m bytes of x, k of them written -/
def stepL (x : BitVec 64) (m k : Nat) : List Value := (List.range m).map fun i => .int .u8 (if i < k then byteAt x i else 0)
def bytesL (x : BitVec 64) (m : Nat) : List Int := (List.range m).map (byteAt x)
theorem stepL_0 (x : BitVec 64) (m : Nat) : List.replicate m (Value.int .u8 0) = stepL x m 0 := by
  unfold stepL; apply List.ext_getElem <;> simp
theorem stepL_set (x : BitVec 64) (m k : Nat) : (stepL x m k).set k (.int .u8 (byteAt x k)) = stepL x m (k + 1) := by
  unfold stepL
  apply List.ext_getElem
  · simp
  · intro i h1 h2
    simp only [List.getElem_set, List.getElem_map, List.getElem_range]
    by_cases h : k = i
    · subst h; simp
    · rw [if_neg h]
      by_cases h' : i < k
      · rw [if_pos h', if_pos (by omega)]
      · rw [if_neg h', if_neg (by omega)]
theorem bytesL_len (x : BitVec 64) (m : Nat) : (bytesL x m).length = m := by simp [bytesL]
theorem stepL_full (x : BitVec 64) (m : Nat) : stepL x m m = (bytesL x m).map (Value.int .u8) := by
  unfold stepL bytesL
  rw [List.map_map]
  exact List.map_congr_left fun i hi => by simp at hi; simp [hi]
theorem stepL_get (x : BitVec 64) (m i : Nat) (h : i < m) : (stepL x m m)[i]? = some (.int .u8 ((bytesL x m).getD i 0)) := by
  simp [stepL, bytesL, h, List.getD]
/-- The number of the first k bytes. -/
def OfK (f : Nat → Int) : Nat → BitVec 64
  | 0 => 0#64
  | k + 1 => OfK f k ||| bv (f k) <<< (8 * k)

theorem byte_part (x : BitVec 64) (i : Nat) : byteAt x i = un (Part x (8 * (i : Int)) 8) := by
  unfold byteAt un
  have h : (Part x (8 * (i : Int)) 8).toNat = (x >>> (8 * i)).toNat % 256 := by
    unfold Part Low
    rw [show (8 * (i : Int)).toNat = 8 * i by omega]
    have e : Ones 8 = 255#64 := by decide
    rw [e, BitVec.toNat_and]
    exact Nat.and_two_pow_sub_one_eq_mod _ 8
  rw [h]; simp
theorem byteAt_lt (x : BitVec 64) (i : Nat) : 0 ≤ byteAt x i ∧ byteAt x i < 256 := by
  unfold byteAt; omega
theorem bv_bit (a : Int) (h : 0 ≤ a) (i : Nat) (hi : i < 64) : (bv a).getLsbD i = a.toNat.testBit i := by
  obtain ⟨n, rfl⟩ := Int.eq_ofNat_of_zero_le h
  rw [bv_nat, BitVec.getLsbD_ofNat, Int.toNat_natCast]; simp [hi]
theorem bv_byte_bit (a : Int) (h : 0 ≤ a) (h' : a < 256) (i : Nat) (hi : 8 ≤ i) : (bv a).getLsbD i = false := by
  obtain ⟨n, rfl⟩ := Int.eq_ofNat_of_zero_le h
  rw [bv_nat, BitVec.getLsbD_ofNat, Nat.testBit_lt_two_pow (Nat.lt_of_lt_of_le (show n < 2 ^ 8 by omega) (Nat.pow_le_pow_right (by decide) hi))]
  simp
/-- the bits of the first k bytes' number -/
theorem OfK_bit (f : Nat → Int) (hf : ∀ i, 0 ≤ f i ∧ f i < 256) (k : Nat) : ∀ i, i < 64 → (OfK f k).getLsbD i = (decide (i < 8 * k) && (bv (f (i / 8))).getLsbD (i % 8)) := by
  induction k with
  | zero => intro i _; simp [OfK]
  | succ k ih =>
    intro i hi
    unfold OfK
    rw [BitVec.getLsbD_or, BitVec.getLsbD_shiftLeft, ih i hi]
    by_cases h1 : i < 8 * k
    · simp [h1, show i < 8 * (k + 1) by omega]
    · by_cases h2 : i < 8 * (k + 1)
      · have e : i / 8 = k := by omega
        have e' : i % 8 = i - 8 * k := by omega
        simp [hi, h1, h2, e, e']
      · have := bv_byte_bit (f k) (hf k).1 (hf k).2 (i - 8 * k) (by omega)
        simp [h1, h2, this]
theorem OfK_congr (f g : Nat → Int) (k : Nat) (h : ∀ i, i < k → f i = g i) : OfK f k = OfK g k := by
  induction k with
  | zero => rfl
  | succ k ih =>
    unfold OfK; rw [ih (fun i hi => h i (by omega)), h k (by omega)]
theorem byteAt_bit (x : BitVec 64) (i j : Nat) (hj : j < 8) : (bv (byteAt x i)).getLsbD j = x.getLsbD (8 * i + j) := by
  rw [byte_part, bv_un, Part_bit, show cl 8 = 8 from rfl]
  rw [show (8 * (i : Int)).toNat = 8 * i by omega]; simp [hj]
theorem OfK_byteAt (x : BitVec 64) (k : Nat) (hk : k ≤ 8) : OfK (byteAt x) k = Low x (8 * (k : Int)) := by
  apply BitVec.eq_of_getLsbD_eq
  intro i hi
  rw [OfK_bit _ (fun i => byteAt_lt x i) k i hi, Low_bit, byteAt_bit _ _ _ (by omega)]
  rw [show (8 * (k : Int)) = ((8 * k : Nat) : Int) by omega, cl_nat _ (by omega)]
  rw [show 8 * (i / 8) + i % 8 = i by omega]
theorem testBit_255 (n i : Nat) : (n % 256).testBit i = (decide (i < 8) && n.testBit i) := Nat.testBit_mod_two_pow n 8 i
theorem byteAt_OfK (f : Nat → Int) (hf : ∀ i, 0 ≤ f i ∧ f i < 256) (k i : Nat) (hk : k ≤ 8) (hi : i < k) : byteAt (OfK f k) i = f i := by
  have h : bv (byteAt (OfK f k) i) = bv (f i) := by
    apply BitVec.eq_of_getLsbD_eq
    intro j hj
    by_cases h8 : j < 8
    · rw [byteAt_bit _ _ _ h8, OfK_bit f hf k _ (by omega)]
      rw [show (8 * i + j) / 8 = i by omega, show (8 * i + j) % 8 = j by omega]; simp; omega
    · rw [bv_byte_bit _ (byteAt_lt _ _).1 (byteAt_lt _ _).2 j (by omega), bv_byte_bit _ (hf i).1 (hf i).2 j (by omega)]
  have a := byteAt_lt (OfK f k) i
  have b := hf i
  rw [← un_bv (byteAt (OfK f k) i) (by omega), h, un_bv (f i) (by omega)]
end Go.Proofs.YtbglinhglnbfmaaGreatDoor
