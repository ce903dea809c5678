/- Plain: 64-bit words as bit vectors, and how the walk's integers read as such words. No program in sight. Plain: what the functions of package word compute, on bit vectors, and its laws bit by bit. No program in sight. Plain: laws of signed parts, of parts of parts. No program in sight. Plain: what there is to know of an op, by its number. No program in sight. Plain: what the operations of package alu answer, on bit vectors. No program in sight. Plain: bounds of what there is to know of an op. No program in sight. Plain: which instructions may be, by the form of their op. No program in sight. Plain: what is valid has fields that are ones. No program in sight. Moves through a region that draws its order, in few words. Conditions: as each theorem says. -/
import Derived.WalkKit
import Derived.Deep.Draws
import Derived.Lib.Fields
import Derived.Lib.Strings
import Derived.Lib.Bytealg
import Derived.OrdersHeld
import Derived.ProofKit
namespace Go.Proofs.YtcgflnkgekkidaaGreatDoor
open Go.RowKit

/-- A uint64's integer. -/
def un (x : BitVec 64) : Int := (x.toNat : Int)
/-- An int64's integer. -/
def sn (x : BitVec 64) : Int := x.toInt
/-- An integer's lowest 64 bits. -/
def bv (a : Int) : BitVec 64 := BitVec.ofInt 64 a

theorem sn_lt (x : BitVec 64) : -9223372036854775808 ≤ sn x ∧ sn x < 9223372036854775808 := by
  unfold sn; have h1 := BitVec.le_toInt x; have h2 := BitVec.toInt_lt (x := x); simp at h1 h2; omega
theorem wrap_u64_bv (a : Int) : IntKind.u64.wrap a = un (bv a) := by
  unfold un bv; rw [IntKind.wrap_u64, BitVec.toNat_ofInt]
  have : (0 : Int) ≤ a % 18446744073709551616 := Int.emod_nonneg _ (by decide)
  simp; omega
theorem wrap_i64_sn (a : Int) : IntKind.i64.wrap a = sn (bv a) := by
  unfold sn bv; rw [IntKind.wrap_i64, BitVec.toInt_ofInt, Int.bmod_def]
  simp; split <;> omega
theorem bv_un (x : BitVec 64) : bv (un x) = x := by unfold bv un; simp
theorem bv_sn (x : BitVec 64) : bv (sn x) = x := by unfold bv sn; simp
theorem un_bv (a : Int) (h : 0 ≤ a ∧ a < 18446744073709551616) : un (bv a) = a := by
  rw [← wrap_u64_bv, IntKind.wrap_u64]; omega
theorem sn_bv (a : Int) (h : -9223372036854775808 ≤ a ∧ a < 9223372036854775808) : sn (bv a) = a := by
  rw [← wrap_i64_sn, IntKind.wrap_i64]; omega
theorem bv_add (a b : Int) : bv (a + b) = bv a + bv b := by unfold bv; exact BitVec.ofInt_add ..
theorem bv_mul (a b : Int) : bv (a * b) = bv a * bv b := by unfold bv; exact BitVec.ofInt_mul ..
theorem bv_neg (a : Int) : bv (-a) = -bv a := by unfold bv; exact BitVec.ofInt_neg ..
theorem bv_sub (a b : Int) : bv (a - b) = bv a - bv b := by
  rw [Int.sub_eq_add_neg, bv_add, bv_neg, BitVec.sub_eq_add_neg]
theorem bv_shl (a : Int) (k : Nat) : bv (a * 2 ^ k) = bv a <<< k := by
  apply BitVec.eq_of_toInt_eq
  unfold bv
  rw [BitVec.toInt_ofInt, BitVec.toInt_shiftLeft, Nat.shiftLeft_eq, Int.natCast_mul, BitVec.toNat_ofInt]
  rw [Int.toNat_of_nonneg (Int.emod_nonneg _ (by decide))]
  rw [Int.natCast_pow]
  show _ = (a % ((2 ^ 64 : Nat) : Int) * 2 ^ k).bmod (2 ^ 64)
  rw [← Int.emod_bmod (x := a * 2 ^ k), ← Int.emod_bmod (x := a % _ * 2 ^ k)]
  congr 1
  conv => rhs; rw [Int.mul_emod, Int.emod_emod_of_dvd _ (Int.dvd_refl _), ← Int.mul_emod]
theorem mul_bvpow (x : BitVec 64) (k : Nat) : x * bv (2 ^ k) = x <<< k := by
  have h := bv_shl (un x) k
  rw [bv_mul, bv_un] at h; exact h
theorem bv_lit (n : Nat) : bv (no_index (OfNat.ofNat n)) = BitVec.ofNat 64 n := by unfold bv; exact BitVec.ofInt_natCast ..
theorem bv_0 : bv 0 = 0#64 := rfl
theorem bv_1 : bv 1 = 1#64 := rfl
theorem bv_nat (n : Nat) : bv (n : Int) = BitVec.ofNat 64 n := by unfold bv; exact BitVec.ofInt_natCast ..
theorem un_shr (x : BitVec 64) (k : Nat) : un x / 2 ^ k = un (x >>> k) := by
  unfold un; rw [BitVec.toNat_ushiftRight, Nat.shiftRight_eq_div_pow]; simp
theorem sn_shr (x : BitVec 64) (k : Nat) : sn x / 2 ^ k = sn (x.sshiftRight k) := by
  unfold sn; rw [BitVec.toInt_sshiftRight, Int.shiftRight_eq_div_pow]; simp
theorem shr_min (x : BitVec 64) (k : Nat) : x >>> min k 64 = x >>> k := by
  rcases Nat.le_total k 64 with h | h
  · rw [Nat.min_eq_left h]
  · rw [Nat.min_eq_right h, BitVec.ushiftRight_eq_zero (Nat.le_refl _), BitVec.ushiftRight_eq_zero h]
theorem shl_min (x : BitVec 64) (k : Nat) : x <<< min k 64 = x <<< k := by
  rcases Nat.le_total k 64 with h | h
  · rw [Nat.min_eq_left h]
  · rw [Nat.min_eq_right h, BitVec.shiftLeft_eq_zero (Nat.le_refl _), BitVec.shiftLeft_eq_zero h]
theorem sshr_min (x : BitVec 64) (k : Nat) : x.sshiftRight (min k 64) = x.sshiftRight k := by
  rcases Nat.le_total k 64 with h | h
  · rw [Nat.min_eq_left h]
  · rw [Nat.min_eq_right h]
    apply BitVec.eq_of_getLsbD_eq
    intro i hi
    rw [BitVec.getLsbD_sshiftRight, BitVec.getLsbD_sshiftRight, if_neg (by omega), if_neg (by omega)]
theorem wrap_i64_un (x : BitVec 64) : IntKind.i64.wrap (un x) = sn x := by rw [wrap_i64_sn, bv_un]
theorem wrap64_un (x : BitVec 64) : wrap64 (un x) = sn x := by rw [← IntWalk.i64_left, wrap_i64_un]
theorem bits_u64_and (a b : Int) : bits .and .u64 a b = un (bv a &&& bv b) := by
  show IntKind.u64.wrap (un (bv a &&& bv b)) = _; rw [wrap_u64_bv, bv_un]
theorem bits_u64_or (a b : Int) : bits .or .u64 a b = un (bv a ||| bv b) := by
  show IntKind.u64.wrap (un (bv a ||| bv b)) = _; rw [wrap_u64_bv, bv_un]
theorem bits_u64_xor (a b : Int) : bits .xor .u64 a b = un (bv a ^^^ bv b) := by
  show IntKind.u64.wrap (un (bv a ^^^ bv b)) = _; rw [wrap_u64_bv, bv_un]
theorem bits_u64_andNot (a b : Int) : bits .andNot .u64 a b = un (bv a &&& ~~~ bv b) := by
  show IntKind.u64.wrap (un (bv a &&& ~~~ bv b)) = _; rw [wrap_u64_bv, bv_un]
theorem bv_max : bv IntKind.u64.max = BitVec.allOnes 64 := by decide
theorem u64_unsigned : IntKind.u64.signed = false := rfl
theorem un_inj {x y : BitVec 64} : un x = un y ↔ x = y :=
  ⟨fun h => by rw [← bv_un x, h, bv_un], fun h => by rw [h]⟩
theorem un_beq (x y : BitVec 64) : (un x == un y) = (x == y) := by
  rw [Bool.eq_iff_iff]; simp [un_inj]
theorem exists_un {a : Int} (h : (Lit.int .u64 a).wf = true) : ∃ x, a = un x := by
  refine ⟨bv a, (un_bv a ?_).symm⟩
  simp [Lit.wf, IntKind.min, IntKind.max, IntKind.signed, IntKind.bits] at h; omega
theorem i64_bounds {a : Int} (h : (Lit.int .i64 a).wf = true) : -9223372036854775808 ≤ a ∧ a ≤ 9223372036854775807 := by
  simp [Lit.wf, IntKind.min, IntKind.max, IntKind.signed, IntKind.bits] at h; omega
/-- A contract that leaves the world alone, as a quiet region wants it. -/
theorem quiet_same {P : Program} {f : FuncId} {args : Array Value} {w : World} {n : Nat} {v : Value}
    (h : Calls P f args (w.drewN n) fun e w' => e = .returned v ∧ w.drewN n = w') : Calls P f args (w.drewN n) fun e w'' => e = .returned v ∧ ∃ m, w'' = w.drewN m :=
  h.mono fun _ _ ⟨he, hm⟩ => ⟨he, n, hm.symm⟩
theorem beq_self_true {α : Type} [BEq α] [LawfulBEq α] (b a : α) (h : a = b) : (a == b) = true := by rw [h]; simp
theorem run_index_array' {P : Program} (w : World) (t : TypeId) (cs : Array Value) (k : IntKind) (i : Int) (h : P.underlying t = some (.array (P.arrayLen t) (P.elem t))) (h0 : 0 ≤ i) (h1 : i < P.arrayLen t) :
    (Instr.index t (.agg cs) (.int k i)).run P w = ((sizeOf (P.elem t)).run P w).andThen fun s w => (part (P.elem t) cs (i.toNat * s)).run P w := by
  simp [Instr.index, run_underlying h, asIntOf, h0, h1]
theorem run_part_plain {P : Program} (w : World) (t : TypeId) (cs : Array Value) (off : Nat) (ha : (isAgg t).run P w = .ok false w) :
    (part t cs off).run P w = match cs[off]? with | some v => .ok v w | none => (stuck "part: no such cell" : Sem Value).run P w := by
  unfold part
  simp only [Sem.run_bind, ha, Result.andThen]
  cases cs[off]? <;> simp
theorem ret_int {k : IntKind} {a b : Int} (h : a = b) : Ending.returned (.int k a) = .returned (.int k b) := by rw [h]
theorem ret_bool {a b : Bool} (h : a = b) : Ending.returned (.bool a) = .returned (.bool b) := by rw [h]
end Go.Proofs.YtcgflnkgekkidaaGreatDoor
namespace Go.Proofs.YtcgflnkgekkidaaGreatDoor

/-- min (max n 0) 64 as a number. -/
def cl (n : Int) : Nat := (min (max n 0) 64).toNat
theorem cl_le (n : Int) : cl n ≤ 64 := by unfold cl; omega
theorem cl_int (n : Int) : min (max n 0) 64 = (cl n : Int) := by unfold cl; omega
def Ones (n : Int) : BitVec 64 := ~~~ (BitVec.allOnes 64 <<< cl n)
def Low (x : BitVec 64) (n : Int) : BitVec 64 := x &&& Ones n
def Part (x : BitVec 64) (f n : Int) : BitVec 64 := Low (x >>> f.toNat) n
def Put (x : BitVec 64) (f n : Int) (v : BitVec 64) : BitVec 64 :=
  (x &&& ~~~ (Ones n <<< f.toNat)) ||| (v <<< f.toNat &&& (Ones n <<< f.toNat))
def Sign (x : BitVec 64) (n : Int) : BitVec 64 := (x <<< (64 - cl n)).sshiftRight (64 - cl n)
def Fits (v : Int) (n : Int) : Bool := sn (Sign (bv v) n) == v
def Short (x : BitVec 64) : BitVec 64 := Sign x 32


theorem Ones_bit (n : Int) (i : Nat) : (Ones n).getLsbD i = decide (i < cl n) := by
  have := cl_le n
  unfold Ones
  rw [BitVec.getLsbD_not, BitVec.getLsbD_shiftLeft, BitVec.getLsbD_allOnes]
  rw [Bool.eq_iff_iff]; simp; omega
theorem Low_bit (x : BitVec 64) (n : Int) (i : Nat) : (Low x n).getLsbD i = (decide (i < cl n) && x.getLsbD i) := by
  unfold Low; rw [BitVec.getLsbD_and, Ones_bit, Bool.and_comm]
theorem Part_bit (x : BitVec 64) (f n : Int) (i : Nat) : (Part x f n).getLsbD i = (decide (i < cl n) && x.getLsbD (f.toNat + i)) := by
  unfold Part; rw [Low_bit, BitVec.getLsbD_ushiftRight]
theorem Put_bit (x : BitVec 64) (f n : Int) (v : BitVec 64) (i : Nat) (hi : i < 64) :
    (Put x f n v).getLsbD i = if f.toNat ≤ i ∧ i < f.toNat + cl n then v.getLsbD (i - f.toNat) else x.getLsbD i := by
  unfold Put
  rw [BitVec.getLsbD_or, BitVec.getLsbD_and, BitVec.getLsbD_and, BitVec.getLsbD_not, BitVec.getLsbD_shiftLeft, BitVec.getLsbD_shiftLeft, Ones_bit]
  by_cases h1 : f.toNat ≤ i <;> by_cases h2 : i < f.toNat + cl n
  · rw [if_pos ⟨h1, h2⟩]; simp [hi, show ¬ i < f.toNat by omega, show i - f.toNat < cl n by omega]
  · rw [if_neg (by omega)]; simp [hi, show ¬ i < f.toNat by omega, show ¬ i - f.toNat < cl n by omega]
  · rw [if_neg (by omega)]; simp [hi, show i < f.toNat by omega]
  · rw [if_neg (by omega)]; simp [hi, show i < f.toNat by omega]
theorem cl_nat (n : Nat) (h : n ≤ 64) : cl (n : Int) = n := by unfold cl; omega
theorem cl_1 : cl 1 = 1 := rfl
theorem one_bit (x : BitVec 64) (i j : Nat) : (x >>> i &&& 1#64).getLsbD j = (decide (j < 1) && x.getLsbD (i + j)) := by
  rw [BitVec.getLsbD_and, BitVec.getLsbD_ushiftRight, BitVec.getLsbD_one]
  rcases j with _ | j <;> simp
theorem Part_one (y : BitVec 64) (i : Nat) : Part y (i : Int) 1 = y >>> i &&& 1#64 := by
  apply BitVec.eq_of_getLsbD_eq
  intro j _
  rw [Part_bit, one_bit, cl_1, Int.toNat_natCast]
/-- fencepostkit.Pick -/
def Pick (n m : Int) : Int := if m < 1 then 0 else n % m
theorem Pick_lt (n m : Int) (h : 1 ≤ m) : 0 ≤ Pick n m ∧ Pick n m < m := by
  unfold Pick; rw [if_neg (by omega)]; exact ⟨Int.emod_nonneg _ (by omega), Int.emod_lt_of_pos _ (by omega)⟩
theorem Pick_nat (n m : Int) (h : 1 ≤ m) : ∃ k : Nat, Pick n m = k ∧ (k : Int) < m := by
  have := Pick_lt n m h; exact ⟨(Pick n m).toNat, by omega, by omega⟩
theorem tmod_neg_add (n m : Int) (h : 1 ≤ m) (h' : n.tmod m < 0) : n.tmod m + m = n % m := by
  rw [Int.tmod_def] at *
  have h1 := Int.mul_tdiv_add_tmod n m
  have h2 := Int.emod_nonneg n (show m ≠ 0 by omega)
  have h3 := Int.emod_lt_of_pos n (show 0 < m by omega)
  rw [Int.tdiv_eq_ediv] at *
  split at h' <;> rename_i hs
  · have := Int.mul_ediv_add_emod n m; simp at *; omega
  · have e := Int.mul_ediv_add_emod n m
    rw [Int.sign_eq_one_of_pos (by omega), Int.mul_add, Int.mul_one] at *
    simp [hs]; omega
theorem tmod_nonneg' (n m : Int) (h : 1 ≤ m) (h' : 0 ≤ n.tmod m) : n.tmod m = n % m := by
  rcases Int.le_total 0 n with hn | hn
  · exact Int.tmod_eq_emod_of_nonneg hn
  · have h1 : (-n).tmod m = (-n) % m := Int.tmod_eq_emod_of_nonneg (by omega)
    rw [Int.neg_tmod] at h1
    have h2 := Int.emod_nonneg (-n) (show m ≠ 0 by omega)
    have h3 : n.tmod m = 0 := by omega
    have h4 : (-n) % m = 0 := by omega
    rw [h3]; rw [Int.emod_eq_zero_of_dvd]
    exact (Int.dvd_neg).1 (Int.dvd_of_emod_eq_zero h4)
end Go.Proofs.YtcgflnkgekkidaaGreatDoor
namespace Go.Proofs.YtcgflnkgekkidaaGreatDoor

theorem Sign_ext (x : BitVec 64) (n : Nat) (h : n ≤ 64) : Sign x n = (x.setWidth n).signExtend 64 := by
  apply BitVec.eq_of_getLsbD_eq
  intro i hi
  unfold Sign
  rw [cl_nat n h, BitVec.getLsbD_sshiftRight, BitVec.getLsbD_signExtend, BitVec.getLsbD_setWidth, BitVec.msb_setWidth]
  by_cases h1 : i < n
  · rw [if_pos (show 64 - n + i < 64 by omega), if_pos h1, BitVec.getLsbD_shiftLeft]
    simp [hi, h1, show ¬ (64 - n + i < 64 - n) by omega, show 64 - n + i < 64 by omega]
  · rw [if_neg (show ¬ (64 - n + i < 64) by omega), if_neg h1, BitVec.msb_shiftLeft]
    rw [BitVec.getMsbD_eq_getLsbD]
    rcases n with _ | n
    · simp
    · simp [hi, show ¬ 64 ≤ i by omega, show 63 - n < 64 by omega, show 63 - (63 - n) = n by omega]
end Go.Proofs.YtcgflnkgekkidaaGreatDoor
namespace Go.Proofs.YtcgflnkgekkidaaGreatDoor
/-- The rows' texts and forms. -/
def rowText : Nat → List UInt8
  | 0 => [108, 117, 105, 32, 97, 117, 105, 112, 99]
  | 1 => [106, 97, 108]
  | 2 => [106, 97, 108, 114]
  | 3 => [98, 101, 113, 32, 98, 110, 101, 32, 98, 108, 116, 32, 98, 103, 101, 32, 98, 108, 116, 117, 32, 98, 103, 101, 117]
  | 4 => [108, 98, 32, 108, 104, 32, 108, 119, 32, 108, 100, 32, 108, 98, 117, 32, 108, 104, 117, 32, 108, 119, 117]
  | 5 => [115, 98, 32, 115, 104, 32, 115, 119, 32, 115, 100]
  | 6 => [97, 100, 100, 105, 32, 115, 108, 116, 105, 32, 115, 108, 116, 105, 117, 32, 120, 111, 114, 105, 32, 111, 114, 105, 32, 97, 110, 100, 105]
  | 7 => [115, 108, 108, 105, 32, 115, 114, 108, 105, 32, 115, 114, 97, 105]
  | 8 => [97, 100, 100, 105, 119]
  | 9 => [115, 108, 108, 105, 119, 32, 115, 114, 108, 105, 119, 32, 115, 114, 97, 105, 119]
  | 10 => [97, 100, 100, 32, 115, 117, 98, 32, 115, 108, 108, 32, 115, 108, 116, 32, 115, 108, 116, 117, 32, 120, 111, 114, 32, 115, 114, 108, 32, 115, 114, 97, 32, 111, 114, 32, 97, 110, 100, 32, 97, 100, 100, 119, 32, 115, 117, 98, 119, 32, 115, 108, 108, 119, 32, 115, 114, 108, 119, 32, 115, 114, 97, 119, 32, 109, 117, 108, 32, 109, 117, 108, 104, 32, 109, 117, 108, 104, 115, 117, 32, 109, 117, 108, 104, 117, 32, 100, 105, 118, 32, 100, 105, 118, 117, 32, 114, 101, 109, 32, 114, 101, 109, 117, 32, 109, 117, 108, 119, 32, 100, 105, 118, 119, 32, 100, 105, 118, 117, 119, 32, 114, 101, 109, 119, 32, 114, 101, 109, 117, 119]
  | 11 => [102, 101, 110, 99, 101]
  | 12 => [101, 99, 97, 108, 108, 32, 101, 98, 114, 101, 97, 107]
  | 13 => [108, 114, 46, 119, 32, 108, 114, 46, 100]
  | 14 => [115, 99, 46, 119, 32, 115, 99, 46, 100, 32, 97, 109, 111, 115, 119, 97, 112, 46, 119, 32, 97, 109, 111, 97, 100, 100, 46, 119, 32, 97, 109, 111, 120, 111, 114, 46, 119, 32, 97, 109, 111, 97, 110, 100, 46, 119, 32, 97, 109, 111, 111, 114, 46, 119, 32, 97, 109, 111, 109, 105, 110, 46, 119, 32, 97, 109, 111, 109, 97, 120, 46, 119, 32, 97, 109, 111, 109, 105, 110, 117, 46, 119, 32, 97, 109, 111, 109, 97, 120, 117, 46, 119, 32, 97, 109, 111, 115, 119, 97, 112, 46, 100, 32, 97, 109, 111, 97, 100, 100, 46, 100, 32, 97, 109, 111, 120, 111, 114, 46, 100, 32, 97, 109, 111, 97, 110, 100, 46, 100, 32, 97, 109, 111, 111, 114, 46, 100, 32, 97, 109, 111, 109, 105, 110, 46, 100, 32, 97, 109, 111, 109, 97, 120, 46, 100, 32, 97, 109, 111, 109, 105, 110, 117, 46, 100, 32, 97, 109, 111, 109, 97, 120, 117, 46, 100]
  | _ => []
def rowForm : Nat → Int
  | 0 => 1
  | 1 => 2
  | 2 => 3
  | 3 => 6
  | 4 => 4
  | 5 => 5
  | 6 => 3
  | 7 => 7
  | 8 => 3
  | 9 => 7
  | 10 => 8
  | 11 => 9
  | 12 => 10
  | 13 => 11
  | 14 => 12
  | _ => 0
def rowStr (k : Nat) : ByteArray := ⟨(rowText k).toArray⟩
/-- how many ops a row has, how many stand ahead of it -/
def rowCnt (k : Nat) : Nat := (rowText k).count 32 + 1
def rowCum : Nat → Nat
  | 0 => 0
  | k + 1 => rowCum k + rowCnt k
/-- the name of op j of row k -/
def rowName (k j : Nat) : List UInt8 := (Lib.fields (rowText k)).getD j []
structure OpInfo where
  name : List UInt8
  form : Int
  loads : Bool
  stores : Bool
  size : Int
  deriving DecidableEq
def lastLetter (s : List UInt8) : UInt8 := s.getLastD 0
def opLetter (s : List UInt8) (f : Int) : UInt8 := if f = 4 then s.getD 1 0 else lastLetter s
def bhwd : List UInt8 := [98, 104, 119, 100]
def knownL (s : List UInt8) (f : Int) : Bool := f == 4 || f == 11 || Lib.hasPrefix s [97, 109, 111]
def knownS (f : Int) : Bool := f == 5 || f == 12
def knownSize (s : List UInt8) (f : Int) : Int := if knownL s f || knownS f then 2 ^ (Lib.indexByte bhwd (opLetter s f)).toNat else 0
/-- insn.known -/
def known (s : List UInt8) (f : Int) : OpInfo := ⟨s, f, knownL s f, knownS f, knownSize s f⟩
def noOp : OpInfo := ⟨[], 0, false, false, 0⟩
/-- insn.of: from row k on, n ops ahead -/
def ofFrom : Nat → Nat → Nat → OpInfo
  | 0, _, _ => noOp
  | fuel + 1, k, n => if n ≤ rowCnt k then known (rowName k (n - 1)) (rowForm k) else ofFrom fuel (k + 1) (n - rowCnt k)
def opOf (n : Int) : OpInfo := if n < 1 then noOp else ofFrom 15 0 n.toNat
/-- what known asks of a name: where there is a size its letter is one of bhwd -/
def knownOk (s : List UInt8) (f : Int) : Bool := if knownL s f || knownS f then decide (2 ≤ s.length) && decide (0 ≤ Lib.indexByte bhwd (opLetter s f)) else true
theorem rows_ok : ((List.range 15).all fun k => decide ((Lib.fields (rowText k)).length = rowCnt k) && (List.range (rowCnt k)).all fun j => knownOk (rowName k j) (rowForm k)) = true := by decide +kernel
theorem rows_ascii : ((List.range 15).all fun k => (rowText k).all fun c => decide (c.toNat < 128)) = true := by decide +kernel
theorem row_fields (k : Nat) (h : k < 15) : (Lib.fields (rowText k)).length = rowCnt k := by
  have := List.all_eq_true.1 rows_ok k (List.mem_range.2 h)
  simp only [Bool.and_eq_true, decide_eq_true_eq] at this; exact this.1
theorem row_ok (k j : Nat) (h : k < 15) (hj : j < rowCnt k) : knownOk (rowName k j) (rowForm k) = true := by
  have := List.all_eq_true.1 rows_ok k (List.mem_range.2 h)
  simp only [Bool.and_eq_true] at this
  exact List.all_eq_true.1 this.2 j (List.mem_range.2 hj)
theorem row_ascii (k : Nat) (h : k < 15) (j : Nat) (c : UInt8) (hc : (rowText k)[j]? = some c) : c.toNat < 128 := by
  have := List.all_eq_true.1 rows_ascii k (List.mem_range.2 h)
  have := List.all_eq_true.1 this c (List.mem_of_getElem? hc)
  simpa using this
theorem rowCnt_le : ((List.range 15).all fun k => decide (rowCnt k ≤ 28)) = true := by decide +kernel
theorem rowCnt_lt (k : Nat) (h : k < 15) : 1 ≤ rowCnt k ∧ rowCnt k ≤ 28 := by
  have := List.all_eq_true.1 rowCnt_le k (List.mem_range.2 h)
  simp only [decide_eq_true_eq] at this
  exact ⟨by unfold rowCnt; omega, this⟩
theorem rowCum_15 : rowCum 15 = 87 := by decide +kernel
theorem ofFrom_hit (fuel k n : Nat) (h : n ≤ rowCnt k) : ofFrom (fuel + 1) k n = known (rowName k (n - 1)) (rowForm k) := by
  show (if n ≤ rowCnt k then _ else _) = _; rw [if_pos h]
theorem ofFrom_miss (fuel k n : Nat) (h : ¬ n ≤ rowCnt k) : ofFrom (fuel + 1) k n = ofFrom fuel (k + 1) (n - rowCnt k) := by
  show (if n ≤ rowCnt k then _ else _) = _; rw [if_neg h]
end Go.Proofs.YtcgflnkgekkidaaGreatDoor
namespace Go.Proofs.YtcgflnkgekkidaaGreatDoor
/-- how far is shifted -/
def sh (b m : BitVec 64) : Nat := (un (b &&& m)).toNat
/-- alu.Plain -/
def plainOf (n : Int) : Int :=
  if n = 22 then 35 else if n = 23 then 38 else if n = 24 then 39 else if n = 25 then 40 else if n = 26 then 43 else if n = 27 then 44
  else if n = 28 then 37 else if n = 29 then 41 else if n = 30 then 42 else if n = 31 then 45 else if n = 32 then 47 else if n = 33 then 48 else if n = 34 then 49
  else if (opOf n).form = 8 then n else 0
theorem opOf_big (n : Int) (h : 87 < n) : opOf n = noOp := by
  unfold opOf
  rw [if_neg (by omega)]
  have hn : 87 < n.toNat := by omega
  generalize n.toNat = m at hn
  have : ∀ fuel k m, k + fuel = 15 → rowCum 15 - rowCum k < m → ofFrom fuel k m = noOp := by
    intro fuel
    induction fuel with
    | zero => intro k m _ _; rfl
    | succ fuel ih =>
      intro k m hk hm
      have hc : rowCum (k + 1) = rowCum k + rowCnt k := rfl
      have hle : rowCum (k + 1) ≤ rowCum 15 := by
        have : ∀ j, j ≤ 15 → rowCum j ≤ rowCum 15 := by decide +kernel
        exact this _ (by omega)
      rw [ofFrom_miss _ _ _ (by omega)]
      exact ih (k + 1) _ (by omega) (by omega)
  exact this 15 0 m rfl (by rw [rowCum_15]; show 87 - 0 < m; omega)
theorem plainOf_other (n : Int) (h : ¬ (22 ≤ n ∧ n ≤ 34)) : plainOf n = if (opOf n).form = 8 then n else 0 := by
  unfold plainOf
  rw [if_neg (by omega), if_neg (by omega), if_neg (by omega), if_neg (by omega), if_neg (by omega), if_neg (by omega), if_neg (by omega), if_neg (by omega), if_neg (by omega), if_neg (by omega), if_neg (by omega), if_neg (by omega), if_neg (by omega)]
end Go.Proofs.YtcgflnkgekkidaaGreatDoor
namespace Go.Proofs.YtcgflnkgekkidaaGreatDoor
theorem info_all : ((List.range 88).all fun n => decide (0 ≤ (opOf (n : Int)).form) && decide ((opOf (n : Int)).form ≤ 12) && decide ((opOf (n : Int)).name.length ≤ 20)) = true := by decide +kernel
theorem info_op (n : Int) : 0 ≤ (opOf n).form ∧ (opOf n).form ≤ 12 ∧ (opOf n).name.length ≤ 20 := by
  by_cases h0 : n < 1
  · unfold opOf; rw [if_pos h0]; decide
  · by_cases h1 : 87 < n
    · rw [opOf_big n h1]; decide
    · obtain ⟨m, rfl⟩ := Int.eq_ofNat_of_zero_le (show 0 ≤ n by omega)
      have := List.all_eq_true.1 info_all m (List.mem_range.2 (by omega))
      simp only [Bool.and_eq_true, decide_eq_true_eq] at this
      exact ⟨this.1.1, this.1.2, this.2⟩
end Go.Proofs.YtcgflnkgekkidaaGreatDoor
namespace Go.Proofs.YtcgflnkgekkidaaGreatDoor
structure InsnV where
  op : Int
  rd : Int
  rs1 : Int
  rs2 : Int
  imm : Int
  aq : Bool
  rl : Bool
  pred : Int
  succ : Int
  deriving DecidableEq
def InsnV.cells (i : InsnV) : Array Value := #[.int .i64 i.op, .int .i64 i.rd, .int .i64 i.rs1, .int .i64 i.rs2, .int .i64 i.imm, .bool i.aq, .bool i.rl, .int .i64 i.pred, .int .i64 i.succ]
/-- A register that is none. -/
def regBad (r : Int) : Bool := decide (r < 0) || decide (32 ≤ r)
/-- A short op's name ends with w. -/
def shortName (s : List UInt8) : Bool := !s.isEmpty && lastLetter s == 119
/-- Some register of these is none. -/
def badIn (l : List Int) : Bool := l.any regBad
/-- whether an op of this form may have these fields -/
def formOk (f : Int) (short : Bool) (i : InsnV) : Bool :=
  if f = 1 then i.rs1 == 0 && i.rs2 == 0 && !i.aq && !i.rl && i.pred == 0 && i.succ == 0 && Fits i.imm 20 && !badIn [i.rd]
  else if f = 2 then i.rs1 == 0 && i.rs2 == 0 && !i.aq && !i.rl && i.pred == 0 && i.succ == 0 && Fits i.imm 21 && !(i.imm.tmod 2 != 0) && !badIn [i.rd]
  else if f = 3 then i.rs2 == 0 && !i.aq && !i.rl && i.pred == 0 && i.succ == 0 && Fits i.imm 12 && !badIn [i.rd, i.rs1]
  else if f = 4 then i.rs2 == 0 && !i.aq && !i.rl && i.pred == 0 && i.succ == 0 && Fits i.imm 12 && !badIn [i.rd, i.rs1]
  else if f = 5 then i.rd == 0 && !i.aq && !i.rl && i.pred == 0 && i.succ == 0 && Fits i.imm 12 && !badIn [i.rs1, i.rs2]
  else if f = 6 then i.rd == 0 && !i.aq && !i.rl && i.pred == 0 && i.succ == 0 && Fits i.imm 13 && !(i.imm.tmod 2 != 0) && !badIn [i.rs1, i.rs2]
  else if f = 7 then decide (0 ≤ i.imm) && decide (i.imm ≤ 63) && (!short || decide (i.imm ≤ 31)) && i.rs2 == 0 && !i.aq && !i.rl && i.pred == 0 && i.succ == 0 && !badIn [i.rd, i.rs1]
  else if f = 8 then i.imm == 0 && !i.aq && !i.rl && i.pred == 0 && i.succ == 0 && !badIn [i.rd, i.rs1, i.rs2]
  else if f = 9 then decide (0 ≤ i.pred) && decide (i.pred ≤ 15) && decide (0 ≤ i.succ) && decide (i.succ ≤ 15) && i.rd == 0 && i.rs1 == 0 && i.rs2 == 0 && i.imm == 0 && !i.aq && !i.rl && !badIn []
  else if f = 10 then i.rd == 0 && i.rs1 == 0 && i.rs2 == 0 && i.imm == 0 && !i.aq && !i.rl && i.pred == 0 && i.succ == 0 && !badIn []
  else if f = 11 then i.rs2 == 0 && i.imm == 0 && i.pred == 0 && i.succ == 0 && !badIn [i.rd, i.rs1]
  else if f = 12 then i.imm == 0 && i.pred == 0 && i.succ == 0 && !badIn [i.rd, i.rs1, i.rs2]
  else false
/-- insn.Check -/
def checkOk (i : InsnV) : Bool := formOk (opOf i.op).form (shortName (opOf i.op).name) i
def checkE (i : InsnV) : Int := if checkOk i then 0 else 2
end Go.Proofs.YtcgflnkgekkidaaGreatDoor
namespace Go.Proofs.YtcgflnkgekkidaaGreatDoor
theorem ok_facts (i : InsnV) (h : checkE i = 0) : (0 ≤ i.rd ∧ i.rd ≤ 31) ∧ (0 ≤ i.rs1 ∧ i.rs1 ≤ 31) ∧ (0 ≤ i.rs2 ∧ i.rs2 ≤ 31) ∧ (0 ≤ i.pred ∧ i.pred ≤ 15) ∧ (0 ≤ i.succ ∧ i.succ ≤ 15) ∧ ((opOf i.op).form = 11 ∨ (opOf i.op).form = 12 ∨ (i.aq = false ∧ i.rl = false)) ∧ 1 ≤ (opOf i.op).form ∧ (opOf i.op).form ≤ 12 := by
  replace h : checkOk i = true := by
    unfold checkE at h
    cases hk : checkOk i with
    | true => rfl
    | false => rw [hk] at h; cases h
  unfold checkOk at h
  generalize (opOf i.op).form = f at h ⊢
  generalize shortName (opOf i.op).name = s at h
  unfold formOk at h
  have key : ∀ r : Int, regBad r = false → 0 ≤ r ∧ r ≤ 31 := fun r hr => by unfold regBad at hr; simp at hr; omega
  by_cases h1 : f = 1
  · rw [if_pos h1] at h; simp [badIn] at h; have krd := key i.rd (by simp [h])
    exact ⟨by omega, by omega, by omega, by omega, by omega, .inr (.inr ⟨by simp [h], by simp [h]⟩), by omega, by omega⟩
  rw [if_neg h1] at h
  by_cases h2 : f = 2
  · rw [if_pos h2] at h; simp [badIn] at h; have krd := key i.rd (by simp [h])
    exact ⟨by omega, by omega, by omega, by omega, by omega, .inr (.inr ⟨by simp [h], by simp [h]⟩), by omega, by omega⟩
  rw [if_neg h2] at h
  by_cases h3 : f = 3
  · rw [if_pos h3] at h; simp [badIn] at h; have krd := key i.rd (by simp [h]); have krs1 := key i.rs1 (by simp [h])
    exact ⟨by omega, by omega, by omega, by omega, by omega, .inr (.inr ⟨by simp [h], by simp [h]⟩), by omega, by omega⟩
  rw [if_neg h3] at h
  by_cases h4 : f = 4
  · rw [if_pos h4] at h; simp [badIn] at h; have krd := key i.rd (by simp [h]); have krs1 := key i.rs1 (by simp [h])
    exact ⟨by omega, by omega, by omega, by omega, by omega, .inr (.inr ⟨by simp [h], by simp [h]⟩), by omega, by omega⟩
  rw [if_neg h4] at h
  by_cases h5 : f = 5
  · rw [if_pos h5] at h; simp [badIn] at h; have krs1 := key i.rs1 (by simp [h]); have krs2 := key i.rs2 (by simp [h])
    exact ⟨by omega, by omega, by omega, by omega, by omega, .inr (.inr ⟨by simp [h], by simp [h]⟩), by omega, by omega⟩
  rw [if_neg h5] at h
  by_cases h6 : f = 6
  · rw [if_pos h6] at h; simp [badIn] at h; have krs1 := key i.rs1 (by simp [h]); have krs2 := key i.rs2 (by simp [h])
    exact ⟨by omega, by omega, by omega, by omega, by omega, .inr (.inr ⟨by simp [h], by simp [h]⟩), by omega, by omega⟩
  rw [if_neg h6] at h
  by_cases h7 : f = 7
  · rw [if_pos h7] at h; simp [badIn] at h; have krd := key i.rd (by simp [h]); have krs1 := key i.rs1 (by simp [h])
    exact ⟨by omega, by omega, by omega, by omega, by omega, .inr (.inr ⟨by simp [h], by simp [h]⟩), by omega, by omega⟩
  rw [if_neg h7] at h
  by_cases h8 : f = 8
  · rw [if_pos h8] at h; simp [badIn] at h; have krd := key i.rd (by simp [h]); have krs1 := key i.rs1 (by simp [h]); have krs2 := key i.rs2 (by simp [h])
    exact ⟨by omega, by omega, by omega, by omega, by omega, .inr (.inr ⟨by simp [h], by simp [h]⟩), by omega, by omega⟩
  rw [if_neg h8] at h
  by_cases h9 : f = 9
  · rw [if_pos h9] at h; simp [badIn] at h
    exact ⟨by omega, by omega, by omega, by omega, by omega, .inr (.inr ⟨by simp [h], by simp [h]⟩), by omega, by omega⟩
  rw [if_neg h9] at h
  by_cases h10 : f = 10
  · rw [if_pos h10] at h; simp [badIn] at h
    exact ⟨by omega, by omega, by omega, by omega, by omega, .inr (.inr ⟨by simp [h], by simp [h]⟩), by omega, by omega⟩
  rw [if_neg h10] at h
  by_cases h11 : f = 11
  · rw [if_pos h11] at h; simp [badIn] at h; have krd := key i.rd (by simp [h]); have krs1 := key i.rs1 (by simp [h])
    exact ⟨by omega, by omega, by omega, by omega, by omega, .inl h11, by omega, by omega⟩
  rw [if_neg h11] at h
  by_cases h12 : f = 12
  · rw [if_pos h12] at h; simp [badIn] at h; have krd := key i.rd (by simp [h]); have krs1 := key i.rs1 (by simp [h]); have krs2 := key i.rs2 (by simp [h])
    exact ⟨by omega, by omega, by omega, by omega, by omega, .inr (.inl h12), by omega, by omega⟩
  rw [if_neg h12] at h
  cases h
end Go.Proofs.YtcgflnkgekkidaaGreatDoor
namespace Go.Proofs.YtcgflnkgekkidaaGreatDoor
open Go.RowKit
section
variable {P : Program} {md : Region.Mode} {ops : Array Oper} {Q : Exit → Act → World → Prop} {S : World → Prop}
/-- An operation that yields what stands in the act alone. -/
theorem tkS (i : Nat) (v : Value) {oi : Oper} {fuel : Nat} {listed : Array Bool} {a : Act} {w : World} (hS : S w)
    (h : wpAnyH P md ops Q S fuel (listed.setIfInBounds i true) (a.put oi.dst v) w) (hi : ops[i]? = some oi := by rfl)
    (hs : Region.noSelect ops = true := by kernel_rfl) (hf : Region.free md ops listed i = true := by kernel_rfl) (hr : (Region.ready md ops listed).contains i = true := by kernel_rfl)
    (hQ : ∀ c a w, Q (.panic c) (a.put oi.dst v) w → Q (.panic c) a w := by exact fun _ _ _ h => h) (hy : YieldsIf P ops S oi v a := by exact Or.inl ⟨by rfl, fun W _ => by kernel_rfl⟩) : wpAnyH P md ops Q S (fuel + 1) listed a w :=
  wpAnyH_take hi hs hf hr hQ hy hS h
/-- The same, by simp. -/
theorem tkG (i : Nat) (v : Value) {oi : Oper} {fuel : Nat} {listed : Array Bool} {a : Act} {w : World} (hS : S w)
    (h : wpAnyH P md ops Q S fuel (listed.setIfInBounds i true) (a.put oi.dst v) w) (hi : ops[i]? = some oi := by rfl)
    (hs : Region.noSelect ops = true := by kernel_rfl) (hf : Region.free md ops listed i = true := by kernel_rfl) (hr : (Region.ready md ops listed).contains i = true := by kernel_rfl)
    (hQ : ∀ c a w, Q (.panic c) (a.put oi.dst v) w → Q (.panic c) a w := by exact fun _ _ _ h => h) (hy : YieldsIf P ops S oi v a := by exact Or.inl ⟨by rfl, fun W _ => by go_simp⟩) : wpAnyH P md ops Q S (fuel + 1) listed a w :=
  wpAnyH_take hi hs hf hr hQ hy hS h
end
end Go.Proofs.YtcgflnkgekkidaaGreatDoor
