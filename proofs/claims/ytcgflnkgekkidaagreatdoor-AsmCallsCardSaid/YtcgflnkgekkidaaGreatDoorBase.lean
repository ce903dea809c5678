/- Plain: 64-bit words as bit vectors, and how the walk's integers read as such words. No program in sight. Conditions: none. -/
import Derived.WalkKit
import Derived.Deep.Draws
namespace Go.Proofs.YtcgflnkgekkidaaGreatDoor
open Go.RowKit

/-- A uint64's integer. -/
def un (x : BitVec 64) : Int := (x.toNat : Int)
/-- An int64's integer. -/
def sn (x : BitVec 64) : Int := x.toInt
/-- An integer's lowest 64 bits. -/
def bv (a : Int) : BitVec 64 := BitVec.ofInt 64 a

theorem un_lt (x : BitVec 64) : 0 ≤ un x ∧ un x < 18446744073709551616 := by
  unfold un; have := x.isLt; omega
theorem sn_lt (x : BitVec 64) : -9223372036854775808 ≤ sn x ∧ sn x < 9223372036854775808 := by
  unfold sn; have h1 := BitVec.le_toInt x; have h2 := BitVec.toInt_lt (x := x); simp at h1 h2; omega
theorem wrap_u64_bv (a : Int) : IntKind.u64.wrap a = un (bv a) := by
  unfold un bv; rw [IntKind.wrap_u64, BitVec.toNat_ofInt]
  have : (0 : Int) ≤ a % 18446744073709551616 := Int.emod_nonneg _ (by decide)
  simp; omega
theorem wrap_i64_sn (a : Int) : IntKind.i64.wrap a = sn (bv a) := by
  unfold sn bv; rw [IntKind.wrap_i64, BitVec.toInt_ofInt, Int.bmod_def]
  simp; split <;> omega
theorem bv_un (x : BitVec 64) : bv (un x) = x := by unfold bv un; simp
theorem bv_sn (x : BitVec 64) : bv (sn x) = x := by unfold bv sn; simp
theorem un_bv (a : Int) (h : 0 ≤ a ∧ a < 18446744073709551616) : un (bv a) = a := by
  rw [← wrap_u64_bv, IntKind.wrap_u64]; omega
theorem sn_bv (a : Int) (h : -9223372036854775808 ≤ a ∧ a < 9223372036854775808) : sn (bv a) = a := by
  rw [← wrap_i64_sn, IntKind.wrap_i64]; omega
theorem bv_add (a b : Int) : bv (a + b) = bv a + bv b := by unfold bv; exact BitVec.ofInt_add ..
theorem bv_mul (a b : Int) : bv (a * b) = bv a * bv b := by unfold bv; exact BitVec.ofInt_mul ..
theorem bv_neg (a : Int) : bv (-a) = -bv a := by unfold bv; exact BitVec.ofInt_neg ..
theorem bv_sub (a b : Int) : bv (a - b) = bv a - bv b := by
  rw [Int.sub_eq_add_neg, bv_add, bv_neg, BitVec.sub_eq_add_neg]
theorem bv_shl (a : Int) (k : Nat) : bv (a * 2 ^ k) = bv a <<< k := by
  apply BitVec.eq_of_toInt_eq
  unfold bv
  rw [BitVec.toInt_ofInt, BitVec.toInt_shiftLeft, Nat.shiftLeft_eq, Int.natCast_mul, BitVec.toNat_ofInt]
  rw [Int.toNat_of_nonneg (Int.emod_nonneg _ (by decide))]
  rw [Int.natCast_pow]
  show _ = (a % ((2 ^ 64 : Nat) : Int) * 2 ^ k).bmod (2 ^ 64)
  rw [← Int.emod_bmod (x := a * 2 ^ k), ← Int.emod_bmod (x := a % _ * 2 ^ k)]
  congr 1
  conv => rhs; rw [Int.mul_emod, Int.emod_emod_of_dvd _ (Int.dvd_refl _), ← Int.mul_emod]
theorem mul_bvpow (x : BitVec 64) (k : Nat) : x * bv (2 ^ k) = x <<< k := by
  have h := bv_shl (un x) k
  rw [bv_mul, bv_un] at h; exact h
theorem bv_lit (n : Nat) : bv (no_index (OfNat.ofNat n)) = BitVec.ofNat 64 n := by unfold bv; exact BitVec.ofInt_natCast ..
theorem bv_0 : bv 0 = 0#64 := rfl
theorem bv_1 : bv 1 = 1#64 := rfl
theorem bv_nat (n : Nat) : bv (n : Int) = BitVec.ofNat 64 n := by unfold bv; exact BitVec.ofInt_natCast ..
theorem un_shr (x : BitVec 64) (k : Nat) : un x / 2 ^ k = un (x >>> k) := by
  unfold un; rw [BitVec.toNat_ushiftRight, Nat.shiftRight_eq_div_pow]; simp
theorem sn_shr (x : BitVec 64) (k : Nat) : sn x / 2 ^ k = sn (x.sshiftRight k) := by
  unfold sn; rw [BitVec.toInt_sshiftRight, Int.shiftRight_eq_div_pow]; simp
theorem shr_min (x : BitVec 64) (k : Nat) : x >>> min k 64 = x >>> k := by
  rcases Nat.le_total k 64 with h | h
  · rw [Nat.min_eq_left h]
  · rw [Nat.min_eq_right h, BitVec.ushiftRight_eq_zero (Nat.le_refl _), BitVec.ushiftRight_eq_zero h]
theorem shl_min (x : BitVec 64) (k : Nat) : x <<< min k 64 = x <<< k := by
  rcases Nat.le_total k 64 with h | h
  · rw [Nat.min_eq_left h]
  · rw [Nat.min_eq_right h, BitVec.shiftLeft_eq_zero (Nat.le_refl _), BitVec.shiftLeft_eq_zero h]
theorem sshr_min (x : BitVec 64) (k : Nat) : x.sshiftRight (min k 64) = x.sshiftRight k := by
  rcases Nat.le_total k 64 with h | h
  · rw [Nat.min_eq_left h]
  · rw [Nat.min_eq_right h]
    apply BitVec.eq_of_getLsbD_eq
    intro i hi
    rw [BitVec.getLsbD_sshiftRight, BitVec.getLsbD_sshiftRight, if_neg (by omega), if_neg (by omega)]
theorem wrap_i64_un (x : BitVec 64) : IntKind.i64.wrap (un x) = sn x := by rw [wrap_i64_sn, bv_un]
theorem wrap_i64_sn' (x : BitVec 64) : IntKind.i64.wrap (sn x) = sn x := by rw [wrap_i64_sn, bv_sn]
theorem wrap64_un (x : BitVec 64) : wrap64 (un x) = sn x := by rw [← IntWalk.i64_left, wrap_i64_un]
theorem bits_u64_and (a b : Int) : bits .and .u64 a b = un (bv a &&& bv b) := by
  show IntKind.u64.wrap (un (bv a &&& bv b)) = _; rw [wrap_u64_bv, bv_un]
theorem bits_u64_or (a b : Int) : bits .or .u64 a b = un (bv a ||| bv b) := by
  show IntKind.u64.wrap (un (bv a ||| bv b)) = _; rw [wrap_u64_bv, bv_un]
theorem bits_u64_xor (a b : Int) : bits .xor .u64 a b = un (bv a ^^^ bv b) := by
  show IntKind.u64.wrap (un (bv a ^^^ bv b)) = _; rw [wrap_u64_bv, bv_un]
theorem bits_u64_andNot (a b : Int) : bits .andNot .u64 a b = un (bv a &&& ~~~ bv b) := by
  show IntKind.u64.wrap (un (bv a &&& ~~~ bv b)) = _; rw [wrap_u64_bv, bv_un]
theorem bv_max : bv IntKind.u64.max = BitVec.allOnes 64 := by decide
theorem u64_unsigned : IntKind.u64.signed = false := rfl
theorem un_inj {x y : BitVec 64} : un x = un y ↔ x = y :=
  ⟨fun h => by rw [← bv_un x, h, bv_un], fun h => by rw [h]⟩
theorem sn_inj {x y : BitVec 64} : sn x = sn y ↔ x = y :=
  ⟨fun h => by rw [← bv_sn x, h, bv_sn], fun h => by rw [h]⟩
theorem un_beq (x y : BitVec 64) : (un x == un y) = (x == y) := by
  rw [Bool.eq_iff_iff]; simp [un_inj]
theorem sn_beq (x y : BitVec 64) : (sn x == sn y) = (x == y) := by
  rw [Bool.eq_iff_iff]; simp [sn_inj]
theorem exists_un {a : Int} (h : (Lit.int .u64 a).wf = true) : ∃ x, a = un x := by
  refine ⟨bv a, (un_bv a ?_).symm⟩
  simp [Lit.wf, IntKind.min, IntKind.max, IntKind.signed, IntKind.bits] at h; omega
theorem exists_sn {a : Int} (h : (Lit.int .i64 a).wf = true) : ∃ x, a = sn x := by
  refine ⟨bv a, (sn_bv a ?_).symm⟩
  simp [Lit.wf, IntKind.min, IntKind.max, IntKind.signed, IntKind.bits] at h; omega
theorem i64_bounds {a : Int} (h : (Lit.int .i64 a).wf = true) : -9223372036854775808 ≤ a ∧ a ≤ 9223372036854775807 := by
  simp [Lit.wf, IntKind.min, IntKind.max, IntKind.signed, IntKind.bits] at h; omega
theorem un_num (a : Int) (h : 0 ≤ a ∧ a < 18446744073709551616) : a = un (bv a) := (un_bv a h).symm

/-- A contract that leaves the world alone, as a quiet region wants it. -/
theorem quiet_same {P : Program} {f : FuncId} {args : Array Value} {w : World} {n : Nat} {v : Value}
    (h : Calls P f args (w.drewN n) fun e w' => e = .returned v ∧ w.drewN n = w') : Calls P f args (w.drewN n) fun e w'' => e = .returned v ∧ ∃ m, w'' = w.drewN m :=
  h.mono fun _ _ ⟨he, hm⟩ => ⟨he, n, hm.symm⟩
theorem bne_self_false {α : Type} [BEq α] [LawfulBEq α] (b a : α) (h : a = b) : (a != b) = false := by rw [h]; simp
theorem beq_self_true {α : Type} [BEq α] [LawfulBEq α] (b a : α) (h : a = b) : (a == b) = true := by rw [h]; simp
theorem run_index_array' {P : Program} (w : World) (t : TypeId) (cs : Array Value) (k : IntKind) (i : Int) (h : P.underlying t = some (.array (P.arrayLen t) (P.elem t))) (h0 : 0 ≤ i) (h1 : i < P.arrayLen t) :
    (Instr.index t (.agg cs) (.int k i)).run P w = ((sizeOf (P.elem t)).run P w).andThen fun s w => (part (P.elem t) cs (i.toNat * s)).run P w := by
  simp [Instr.index, run_underlying h, asIntOf, h0, h1]
theorem run_part_plain {P : Program} (w : World) (t : TypeId) (cs : Array Value) (off : Nat) (ha : (isAgg t).run P w = .ok false w) :
    (part t cs off).run P w = match cs[off]? with | some v => .ok v w | none => (stuck "part: no such cell" : Sem Value).run P w := by
  unfold part
  simp only [Sem.run_bind, ha, Result.andThen]
  cases cs[off]? <;> simp
theorem ret_int {k : IntKind} {a b : Int} (h : a = b) : Ending.returned (.int k a) = .returned (.int k b) := by rw [h]
theorem ret_bool {a b : Bool} (h : a = b) : Ending.returned (.bool a) = .returned (.bool b) := by rw [h]
end Go.Proofs.YtcgflnkgekkidaaGreatDoor
