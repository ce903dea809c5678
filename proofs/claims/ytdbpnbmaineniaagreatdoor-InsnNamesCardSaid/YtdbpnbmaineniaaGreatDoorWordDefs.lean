/- Plain: what the functions of package word compute, on bit vectors, and its laws bit by bit. No program in sight. Conditions: none. -/
import Derived.Test.YtdbpnbmaineniaaGreatDoorBase
namespace Go.Proofs.YtdbpnbmaineniaaGreatDoor

/-- min (max n 0) 64 as a number. -/
def cl (n : Int) : Nat := (min (max n 0) 64).toNat
theorem cl_le (n : Int) : cl n ≤ 64 := by unfold cl; omega
theorem cl_int (n : Int) : min (max n 0) 64 = (cl n : Int) := by unfold cl; omega
def Ones (n : Int) : BitVec 64 := ~~~ (BitVec.allOnes 64 <<< cl n)
def Low (x : BitVec 64) (n : Int) : BitVec 64 := x &&& Ones n
def Part (x : BitVec 64) (f n : Int) : BitVec 64 := Low (x >>> f.toNat) n
def Put (x : BitVec 64) (f n : Int) (v : BitVec 64) : BitVec 64 :=
  (x &&& ~~~ (Ones n <<< f.toNat)) ||| (v <<< f.toNat &&& (Ones n <<< f.toNat))
def Sign (x : BitVec 64) (n : Int) : BitVec 64 := (x <<< (64 - cl n)).sshiftRight (64 - cl n)
def Fits (v : Int) (n : Int) : Bool := sn (Sign (bv v) n) == v
def Short (x : BitVec 64) : BitVec 64 := Sign x 32


theorem Ones_bit (n : Int) (i : Nat) : (Ones n).getLsbD i = decide (i < cl n) := by
  have := cl_le n
  unfold Ones
  rw [BitVec.getLsbD_not, BitVec.getLsbD_shiftLeft, BitVec.getLsbD_allOnes]
  rw [Bool.eq_iff_iff]; simp; omega
theorem Low_bit (x : BitVec 64) (n : Int) (i : Nat) : (Low x n).getLsbD i = (decide (i < cl n) && x.getLsbD i) := by
  unfold Low; rw [BitVec.getLsbD_and, Ones_bit, Bool.and_comm]
theorem Part_bit (x : BitVec 64) (f n : Int) (i : Nat) : (Part x f n).getLsbD i = (decide (i < cl n) && x.getLsbD (f.toNat + i)) := by
  unfold Part; rw [Low_bit, BitVec.getLsbD_ushiftRight]
theorem Put_bit (x : BitVec 64) (f n : Int) (v : BitVec 64) (i : Nat) (hi : i < 64) :
    (Put x f n v).getLsbD i = if f.toNat ≤ i ∧ i < f.toNat + cl n then v.getLsbD (i - f.toNat) else x.getLsbD i := by
  unfold Put
  rw [BitVec.getLsbD_or, BitVec.getLsbD_and, BitVec.getLsbD_and, BitVec.getLsbD_not, BitVec.getLsbD_shiftLeft, BitVec.getLsbD_shiftLeft, Ones_bit]
  by_cases h1 : f.toNat ≤ i <;> by_cases h2 : i < f.toNat + cl n
  · rw [if_pos ⟨h1, h2⟩]; simp [hi, show ¬ i < f.toNat by omega, show i - f.toNat < cl n by omega]
  · rw [if_neg (by omega)]; simp [hi, show ¬ i < f.toNat by omega, show ¬ i - f.toNat < cl n by omega]
  · rw [if_neg (by omega)]; simp [hi, show i < f.toNat by omega]
  · rw [if_neg (by omega)]; simp [hi, show i < f.toNat by omega]
theorem cl_nat (n : Nat) (h : n ≤ 64) : cl (n : Int) = n := by unfold cl; omega
theorem cl_1 : cl 1 = 1 := rfl
theorem one_bit (x : BitVec 64) (i j : Nat) : (x >>> i &&& 1#64).getLsbD j = (decide (j < 1) && x.getLsbD (i + j)) := by
  rw [BitVec.getLsbD_and, BitVec.getLsbD_ushiftRight, BitVec.getLsbD_one]
  rcases j with _ | j <;> simp
theorem Part_one (y : BitVec 64) (i : Nat) : Part y (i : Int) 1 = y >>> i &&& 1#64 := by
  apply BitVec.eq_of_getLsbD_eq
  intro j _
  rw [Part_bit, one_bit, cl_1, Int.toNat_natCast]
theorem Put_one_in (x v : BitVec 64) (f n i : Nat) (hn : f + n ≤ 64) (h1 : f ≤ i) (h2 : i < f + n) :
    Part (Put x f n v) i 1 = v >>> (i - f) &&& 1#64 := by
  rw [Part_one]
  apply BitVec.eq_of_getLsbD_eq
  intro j hj
  rw [one_bit, one_bit]
  rcases j with _ | j
  · rw [Put_bit _ _ _ _ _ (by omega), cl_nat _ (by omega), Int.toNat_natCast, if_pos (by omega)]; simp
  · simp
theorem Put_one_out (x v : BitVec 64) (f n i : Nat) (hi : i < 64) (hn : f + n ≤ 64) (h : ¬ (f ≤ i ∧ i < f + n)) :
    Part (Put x f n v) i 1 = x >>> i &&& 1#64 := by
  rw [Part_one]
  apply BitVec.eq_of_getLsbD_eq
  intro j hj
  rw [one_bit, one_bit]
  rcases j with _ | j
  · rw [Put_bit _ _ _ _ _ (by omega), cl_nat _ (by omega), Int.toNat_natCast, if_neg (by omega)]
  · simp
theorem Put_part (x v : BitVec 64) (f n : Nat) (hn : f + n ≤ 64) : Part (Put x f n v) f n = Low v n := by
  apply BitVec.eq_of_getLsbD_eq
  intro i hi
  rw [Part_bit, Low_bit, cl_nat _ (by omega), Int.toNat_natCast]
  by_cases h : i < n
  · rw [Put_bit _ _ _ _ _ (by omega), cl_nat _ (by omega), Int.toNat_natCast, if_pos (by omega)]; simp
  · simp [h]
theorem Put_back (x v : BitVec 64) (f n : Nat) (hn : f + n ≤ 64) : Put (Put x f n v) f n (x >>> f) = x := by
  apply BitVec.eq_of_getLsbD_eq
  intro i hi
  rw [Put_bit _ _ _ _ _ hi, Put_bit _ _ _ _ _ hi, cl_nat _ (by omega), Int.toNat_natCast]
  split
  · rw [BitVec.getLsbD_ushiftRight]; congr 1; omega
  · rfl
theorem Put_none (x v : BitVec 64) (f : Int) : Put x f 0 v = x := by
  apply BitVec.eq_of_getLsbD_eq
  intro i hi
  rw [Put_bit _ _ _ _ _ hi, if_neg (by have : cl 0 = 0 := rfl; omega)]

/-- fencepostkit.Pick -/
def Pick (n m : Int) : Int := if m < 1 then 0 else n % m
theorem Pick_lt (n m : Int) (h : 1 ≤ m) : 0 ≤ Pick n m ∧ Pick n m < m := by
  unfold Pick; rw [if_neg (by omega)]; exact ⟨Int.emod_nonneg _ (by omega), Int.emod_lt_of_pos _ (by omega)⟩
theorem Pick_nat (n m : Int) (h : 1 ≤ m) : ∃ k : Nat, Pick n m = k ∧ (k : Int) < m := by
  have := Pick_lt n m h; exact ⟨(Pick n m).toNat, by omega, by omega⟩
theorem tmod_neg_add (n m : Int) (h : 1 ≤ m) (h' : n.tmod m < 0) : n.tmod m + m = n % m := by
  rw [Int.tmod_def] at *
  have h1 := Int.mul_tdiv_add_tmod n m
  have h2 := Int.emod_nonneg n (show m ≠ 0 by omega)
  have h3 := Int.emod_lt_of_pos n (show 0 < m by omega)
  rw [Int.tdiv_eq_ediv] at *
  split at h' <;> rename_i hs
  · have := Int.mul_ediv_add_emod n m; simp at *; omega
  · have e := Int.mul_ediv_add_emod n m
    rw [Int.sign_eq_one_of_pos (by omega), Int.mul_add, Int.mul_one] at *
    simp [hs]; omega
theorem tmod_nonneg' (n m : Int) (h : 1 ≤ m) (h' : 0 ≤ n.tmod m) : n.tmod m = n % m := by
  rcases Int.le_total 0 n with hn | hn
  · exact Int.tmod_eq_emod_of_nonneg hn
  · have h1 : (-n).tmod m = (-n) % m := Int.tmod_eq_emod_of_nonneg (by omega)
    rw [Int.neg_tmod] at h1
    have h2 := Int.emod_nonneg (-n) (show m ≠ 0 by omega)
    have h3 : n.tmod m = 0 := by omega
    have h4 : (-n) % m = 0 := by omega
    rw [h3]; rw [Int.emod_eq_zero_of_dvd]
    exact (Int.dvd_neg).1 (Int.dvd_of_emod_eq_zero h4)
end Go.Proofs.YtdbpnbmaineniaaGreatDoor
