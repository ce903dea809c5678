/- Plain: what the functions of package word compute, on bit vectors, and its laws bit by bit. No program in sight. Plain: laws of signed parts, of parts of parts. No program in sight. Conditions: as each theorem says. -/
import Derived.Test.YtcgflnkgekkidaaGreatDoorBase
namespace Go.Proofs.YtcgflnkgekkidaaGreatDoor

/-- min (max n 0) 64 as a number. -/
def cl (n : Int) : Nat := (min (max n 0) 64).toNat
theorem cl_le (n : Int) : cl n ≤ 64 := by unfold cl; omega
theorem cl_int (n : Int) : min (max n 0) 64 = (cl n : Int) := by unfold cl; omega
def Ones (n : Int) : BitVec 64 := ~~~ (BitVec.allOnes 64 <<< cl n)
def Low (x : BitVec 64) (n : Int) : BitVec 64 := x &&& Ones n
def Part (x : BitVec 64) (f n : Int) : BitVec 64 := Low (x >>> f.toNat) n
def Put (x : BitVec 64) (f n : Int) (v : BitVec 64) : BitVec 64 :=
  (x &&& ~~~ (Ones n <<< f.toNat)) ||| (v <<< f.toNat &&& (Ones n <<< f.toNat))
def Sign (x : BitVec 64) (n : Int) : BitVec 64 := (x <<< (64 - cl n)).sshiftRight (64 - cl n)
def Fits (v : Int) (n : Int) : Bool := sn (Sign (bv v) n) == v
def Short (x : BitVec 64) : BitVec 64 := Sign x 32


theorem Ones_bit (n : Int) (i : Nat) : (Ones n).getLsbD i = decide (i < cl n) := by
  have := cl_le n
  unfold Ones
  rw [BitVec.getLsbD_not, BitVec.getLsbD_shiftLeft, BitVec.getLsbD_allOnes]
  rw [Bool.eq_iff_iff]; simp; omega
theorem Low_bit (x : BitVec 64) (n : Int) (i : Nat) : (Low x n).getLsbD i = (decide (i < cl n) && x.getLsbD i) := by
  unfold Low; rw [BitVec.getLsbD_and, Ones_bit, Bool.and_comm]
theorem Part_bit (x : BitVec 64) (f n : Int) (i : Nat) : (Part x f n).getLsbD i = (decide (i < cl n) && x.getLsbD (f.toNat + i)) := by
  unfold Part; rw [Low_bit, BitVec.getLsbD_ushiftRight]
theorem Put_bit (x : BitVec 64) (f n : Int) (v : BitVec 64) (i : Nat) (hi : i < 64) :
    (Put x f n v).getLsbD i = if f.toNat ≤ i ∧ i < f.toNat + cl n then v.getLsbD (i - f.toNat) else x.getLsbD i := by
  unfold Put
  rw [BitVec.getLsbD_or, BitVec.getLsbD_and, BitVec.getLsbD_and, BitVec.getLsbD_not, BitVec.getLsbD_shiftLeft, BitVec.getLsbD_shiftLeft, Ones_bit]
  by_cases h1 : f.toNat ≤ i <;> by_cases h2 : i < f.toNat + cl n
  · rw [if_pos ⟨h1, h2⟩]; simp [hi, show ¬ i < f.toNat by omega, show i - f.toNat < cl n by omega]
  · rw [if_neg (by omega)]; simp [hi, show ¬ i < f.toNat by omega, show ¬ i - f.toNat < cl n by omega]
  · rw [if_neg (by omega)]; simp [hi, show i < f.toNat by omega]
  · rw [if_neg (by omega)]; simp [hi, show i < f.toNat by omega]
theorem cl_nat (n : Nat) (h : n ≤ 64) : cl (n : Int) = n := by unfold cl; omega
theorem cl_1 : cl 1 = 1 := rfl
theorem one_bit (x : BitVec 64) (i j : Nat) : (x >>> i &&& 1#64).getLsbD j = (decide (j < 1) && x.getLsbD (i + j)) := by
  rw [BitVec.getLsbD_and, BitVec.getLsbD_ushiftRight, BitVec.getLsbD_one]
  rcases j with _ | j <;> simp
theorem Part_one (y : BitVec 64) (i : Nat) : Part y (i : Int) 1 = y >>> i &&& 1#64 := by
  apply BitVec.eq_of_getLsbD_eq
  intro j _
  rw [Part_bit, one_bit, cl_1, Int.toNat_natCast]
theorem Put_one_in (x v : BitVec 64) (f n i : Nat) (hn : f + n ≤ 64) (h1 : f ≤ i) (h2 : i < f + n) :
    Part (Put x f n v) i 1 = v >>> (i - f) &&& 1#64 := by
  rw [Part_one]
  apply BitVec.eq_of_getLsbD_eq
  intro j hj
  rw [one_bit, one_bit]
  rcases j with _ | j
  · rw [Put_bit _ _ _ _ _ (by omega), cl_nat _ (by omega), Int.toNat_natCast, if_pos (by omega)]; simp
  · simp
theorem Put_one_out (x v : BitVec 64) (f n i : Nat) (hi : i < 64) (hn : f + n ≤ 64) (h : ¬ (f ≤ i ∧ i < f + n)) :
    Part (Put x f n v) i 1 = x >>> i &&& 1#64 := by
  rw [Part_one]
  apply BitVec.eq_of_getLsbD_eq
  intro j hj
  rw [one_bit, one_bit]
  rcases j with _ | j
  · rw [Put_bit _ _ _ _ _ (by omega), cl_nat _ (by omega), Int.toNat_natCast, if_neg (by omega)]
  · simp
theorem Put_part (x v : BitVec 64) (f n : Nat) (hn : f + n ≤ 64) : Part (Put x f n v) f n = Low v n := by
  apply BitVec.eq_of_getLsbD_eq
  intro i hi
  rw [Part_bit, Low_bit, cl_nat _ (by omega), Int.toNat_natCast]
  by_cases h : i < n
  · rw [Put_bit _ _ _ _ _ (by omega), cl_nat _ (by omega), Int.toNat_natCast, if_pos (by omega)]; simp
  · simp [h]
theorem Put_back (x v : BitVec 64) (f n : Nat) (hn : f + n ≤ 64) : Put (Put x f n v) f n (x >>> f) = x := by
  apply BitVec.eq_of_getLsbD_eq
  intro i hi
  rw [Put_bit _ _ _ _ _ hi, Put_bit _ _ _ _ _ hi, cl_nat _ (by omega), Int.toNat_natCast]
  split
  · rw [BitVec.getLsbD_ushiftRight]; congr 1; omega
  · rfl
theorem Put_none (x v : BitVec 64) (f : Int) : Put x f 0 v = x := by
  apply BitVec.eq_of_getLsbD_eq
  intro i hi
  rw [Put_bit _ _ _ _ _ hi, if_neg (by have : cl 0 = 0 := rfl; omega)]

/-- fencepostkit.Pick -/
def Pick (n m : Int) : Int := if m < 1 then 0 else n % m
theorem Pick_lt (n m : Int) (h : 1 ≤ m) : 0 ≤ Pick n m ∧ Pick n m < m := by
  unfold Pick; rw [if_neg (by omega)]; exact ⟨Int.emod_nonneg _ (by omega), Int.emod_lt_of_pos _ (by omega)⟩
theorem Pick_nat (n m : Int) (h : 1 ≤ m) : ∃ k : Nat, Pick n m = k ∧ (k : Int) < m := by
  have := Pick_lt n m h; exact ⟨(Pick n m).toNat, by omega, by omega⟩
theorem tmod_neg_add (n m : Int) (h : 1 ≤ m) (h' : n.tmod m < 0) : n.tmod m + m = n % m := by
  rw [Int.tmod_def] at *
  have h1 := Int.mul_tdiv_add_tmod n m
  have h2 := Int.emod_nonneg n (show m ≠ 0 by omega)
  have h3 := Int.emod_lt_of_pos n (show 0 < m by omega)
  rw [Int.tdiv_eq_ediv] at *
  split at h' <;> rename_i hs
  · have := Int.mul_ediv_add_emod n m; simp at *; omega
  · have e := Int.mul_ediv_add_emod n m
    rw [Int.sign_eq_one_of_pos (by omega), Int.mul_add, Int.mul_one] at *
    simp [hs]; omega
theorem tmod_nonneg' (n m : Int) (h : 1 ≤ m) (h' : 0 ≤ n.tmod m) : n.tmod m = n % m := by
  rcases Int.le_total 0 n with hn | hn
  · exact Int.tmod_eq_emod_of_nonneg hn
  · have h1 : (-n).tmod m = (-n) % m := Int.tmod_eq_emod_of_nonneg (by omega)
    rw [Int.neg_tmod] at h1
    have h2 := Int.emod_nonneg (-n) (show m ≠ 0 by omega)
    have h3 : n.tmod m = 0 := by omega
    have h4 : (-n) % m = 0 := by omega
    rw [h3]; rw [Int.emod_eq_zero_of_dvd]
    exact (Int.dvd_neg).1 (Int.dvd_of_emod_eq_zero h4)
end Go.Proofs.YtcgflnkgekkidaaGreatDoor
namespace Go.Proofs.YtcgflnkgekkidaaGreatDoor

theorem Sign_ext (x : BitVec 64) (n : Nat) (h : n ≤ 64) : Sign x n = (x.setWidth n).signExtend 64 := by
  apply BitVec.eq_of_getLsbD_eq
  intro i hi
  unfold Sign
  rw [cl_nat n h, BitVec.getLsbD_sshiftRight, BitVec.getLsbD_signExtend, BitVec.getLsbD_setWidth, BitVec.msb_setWidth]
  by_cases h1 : i < n
  · rw [if_pos (show 64 - n + i < 64 by omega), if_pos h1, BitVec.getLsbD_shiftLeft]
    simp [hi, h1, show ¬ (64 - n + i < 64 - n) by omega, show 64 - n + i < 64 by omega]
  · rw [if_neg (show ¬ (64 - n + i < 64) by omega), if_neg h1, BitVec.msb_shiftLeft]
    rw [BitVec.getMsbD_eq_getLsbD]
    rcases n with _ | n
    · simp
    · simp [hi, show ¬ 64 ≤ i by omega, show 63 - n < 64 by omega, show 63 - (63 - n) = n by omega]
theorem Sign_int (x : BitVec 64) (n : Nat) (h : n ≤ 64) : sn (Sign x n) = (sn x).bmod (2 ^ n) := by
  unfold sn
  rw [Sign_ext x n h, BitVec.toInt_signExtend_of_le h, BitVec.toInt_setWidth]
  rw [BitVec.toInt_eq_toNat_bmod, Int.bmod_bmod_of_dvd (Nat.pow_dvd_pow 2 h)]
theorem two_pow_pred (n : Nat) (h : 1 ≤ n) : 2 ^ n = 2 * 2 ^ (n - 1) := by
  obtain ⟨m, rfl⟩ : ∃ m, n = m + 1 := ⟨n - 1, by omega⟩
  rw [Nat.pow_succ, Nat.mul_comm]; rfl
/-- within the bounds of n bits -/
theorem Sign_le (x : BitVec 64) (n : Nat) (h1 : 1 ≤ n) (h : n ≤ 64) : -(2 ^ (n - 1) : Int) ≤ sn (Sign x n) ∧ sn (Sign x n) < 2 ^ (n - 1) := by
  rw [Sign_int x n h]
  have e := two_pow_pred n h1
  have hp : 0 < 2 ^ (n - 1) := Nat.two_pow_pos _
  have a := Int.le_bmod (x := sn x) (m := 2 ^ n) (by omega)
  have b := Int.bmod_lt (x := sn x) (m := 2 ^ n) (by omega)
  rw [e] at *
  have c : ((2 : Int) ^ (n - 1)) = ((2 ^ (n - 1) : Nat) : Int) := by simp
  rw [c]; omega
theorem bmod_self (v : Int) (n : Nat) (h1 : 1 ≤ n) : v.bmod (2 ^ n) = v ↔ -(2 ^ (n - 1) : Int) ≤ v ∧ v < 2 ^ (n - 1) := by
  have e := two_pow_pred n h1
  have hp : 0 < 2 ^ (n - 1) := Nat.two_pow_pos _
  have c : ((2 : Int) ^ (n - 1)) = ((2 ^ (n - 1) : Nat) : Int) := by simp
  rw [c]
  constructor
  · intro hv
    have a := Int.le_bmod (x := v) (m := 2 ^ n) (by omega)
    have b := Int.bmod_lt (x := v) (m := 2 ^ n) (by omega)
    rw [hv] at a b
    rw [e] at a b; omega
  · intro hv
    rw [e]
    exact Int.bmod_eq_of_le_mul_two (by omega) (by omega)
theorem Sign_self (y : BitVec 64) (n : Nat) (h1 : 1 ≤ n) (h : n ≤ 64) : Sign y n = y ↔ -(2 ^ (n - 1) : Int) ≤ sn y ∧ sn y < 2 ^ (n - 1) := by
  rw [← bmod_self (sn y) n h1, ← Sign_int y n h, sn_inj]
theorem Fits_iff (y : BitVec 64) (n : Nat) (h1 : 1 ≤ n) (h : n ≤ 64) : Fits (sn y) n = true ↔ -(2 ^ (n - 1) : Int) ≤ sn y ∧ sn y < 2 ^ (n - 1) := by
  rw [← Sign_self y n h1 h]; unfold Fits; rw [bv_sn, beq_iff_eq, sn_inj]
theorem Sign_Sign (x : BitVec 64) (n : Nat) (h : n ≤ 64) : Sign (Sign x n) n = Sign x n := by
  rcases Nat.eq_zero_or_pos n with rfl | h1
  · rw [← sn_inj, Sign_int _ 0 (by omega), Sign_int _ 0 (by omega), Int.bmod_bmod]
  · rw [← sn_inj, Sign_int _ n h, Sign_int _ n h, Int.bmod_bmod]
theorem Fits_Sign (x : BitVec 64) (n : Nat) (h : n ≤ 64) : Fits (sn (Sign x n)) n = true := by
  unfold Fits; rw [bv_sn, Sign_Sign x n h]; simp
theorem Sign_bit (x : BitVec 64) (n i : Nat) (h : n ≤ 64) (hi : i < n) : (Sign x n).getLsbD i = x.getLsbD i := by
  rw [Sign_ext x n h, BitVec.getLsbD_signExtend, if_pos hi, BitVec.getLsbD_setWidth]; simp [hi]; omega
theorem Low_Sign (x : BitVec 64) (n : Nat) (h : n ≤ 64) : Low (Sign x n) n = Low x n := by
  apply BitVec.eq_of_getLsbD_eq
  intro i hi
  rw [Low_bit, Low_bit, cl_nat n h]
  by_cases h1 : i < n
  · rw [Sign_bit x n i h h1]
  · simp [h1]
theorem Sign_64 (x : BitVec 64) : Sign x 64 = x := by
  have e := Sign_ext x 64 (Nat.le_refl _)
  rw [show ((64 : Nat) : Int) = 64 from rfl] at e
  rw [e]; simp
theorem Part_Part (x : BitVec 64) (f n c d : Nat) (h : f + n ≤ 64) (h' : c + d ≤ n) : Part (Part x f n) c d = Part x ((f : Int) + c) d := by
  apply BitVec.eq_of_getLsbD_eq
  intro i hi
  rw [Part_bit, Part_bit, Part_bit, cl_nat n (by omega), cl_nat d (by omega)]
  have e : ((f : Int) + c).toNat = f + c := by omega
  rw [e, Int.toNat_natCast, Int.toNat_natCast, Nat.add_assoc]
  by_cases h1 : i < d
  · simp [h1, show c + i < n by omega]
  · simp [h1]
theorem Low_Low (x : BitVec 64) (n c : Nat) (h : n ≤ 64) (h' : c ≤ n) : Low (Low x n) c = Low x c := by
  apply BitVec.eq_of_getLsbD_eq
  intro i hi
  rw [Low_bit, Low_bit, Low_bit, cl_nat n h, cl_nat c (by omega)]
  by_cases h1 : i < c
  · simp [show i < n by omega]
  · simp [h1]
theorem Put_Put (x v w : BitVec 64) (f n : Int) : Put (Put x f n v) f n w = Put x f n w := by
  apply BitVec.eq_of_getLsbD_eq
  intro i hi
  rw [Put_bit _ _ _ _ _ hi, Put_bit _ _ _ _ _ hi, Put_bit _ _ _ _ _ hi]
  split <;> rfl
theorem Short_Short (x : BitVec 64) : Short (Short x) = Short x := Sign_Sign x 32 (by omega)
end Go.Proofs.YtcgflnkgekkidaaGreatDoor
