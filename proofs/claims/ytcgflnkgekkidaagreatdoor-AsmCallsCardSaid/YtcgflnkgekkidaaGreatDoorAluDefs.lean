/- Plain: what the operations of package alu answer, on bit vectors. No program in sight. Conditions: none. -/
import Derived.Test.YtcgflnkgekkidaaGreatDoorWordDS
import Derived.Test.YtcgflnkgekkidaaGreatDoorInsnDefs
namespace Go.Proofs.YtcgflnkgekkidaaGreatDoor
/-- how far is shifted -/
def sh (b m : BitVec 64) : Nat := (un (b &&& m)).toNat
def truthF (b : Bool) : BitVec 64 := if b then 1#64 else 0#64
def mulhu (a b : BitVec 64) : BitVec 64 := BitVec.ofNat 64 (a.toNat * b.toNat / 18446744073709551616)
def leastB : BitVec 64 := 9223372036854775808#64
def divF (a b : BitVec 64) : BitVec 64 := if b = 0#64 then BitVec.allOnes 64 else if a = leastB ∧ b = BitVec.allOnes 64 then a else a.sdiv b
def remF (a b : BitVec 64) : BitVec 64 := if b = 0#64 then a else if a = leastB ∧ b = BitVec.allOnes 64 then 0#64 else a.srem b
def divuF (a b : BitVec 64) : BitVec 64 := if b = 0#64 then BitVec.allOnes 64 else a / b
def remuF (a b : BitVec 64) : BitVec 64 := if b = 0#64 then a else a % b
def highF (a b : BitVec 64) (sa sb : Bool) : BitVec 64 :=
  let h := mulhu a b
  let h := if sa && decide (sn a < 0) then h - b else h
  if sb && decide (sn b < 0) then h - a else h
/-- what a plain op answers -/
def aluF : Nat → BitVec 64 → BitVec 64 → BitVec 64
  | 35, a, b => a + b
  | 36, a, b => a - b
  | 37, a, b => a <<< sh b 63#64
  | 38, a, b => truthF (decide (sn a < sn b))
  | 39, a, b => truthF (decide (un a < un b))
  | 40, a, b => a ^^^ b
  | 41, a, b => a >>> sh b 63#64
  | 42, a, b => a.sshiftRight (sh b 63#64)
  | 43, a, b => a ||| b
  | 44, a, b => a &&& b
  | 45, a, b => a + b
  | 46, a, b => a - b
  | 47, a, b => a <<< sh b 31#64
  | 48, a, b => Low a 32 >>> sh b 31#64
  | 49, a, b => a.sshiftRight (sh b 31#64)
  | 50, a, b => a * b
  | 51, a, b => highF a b true true
  | 52, a, b => highF a b true false
  | 53, a, b => highF a b false false
  | 54, a, b => divF a b
  | 55, a, b => divuF a b
  | 56, a, b => remF a b
  | 57, a, b => remuF a b
  | 58, a, b => a * b
  | 59, a, b => divF a b
  | 60, a, b => divuF (Low a 32) (Low b 32)
  | 61, a, b => remF a b
  | 62, a, b => remuF (Low a 32) (Low b 32)
  | _, _, _ => 0#64
/-- alu.Plain -/
def plainOf (n : Int) : Int :=
  if n = 22 then 35 else if n = 23 then 38 else if n = 24 then 39 else if n = 25 then 40 else if n = 26 then 43 else if n = 27 then 44
  else if n = 28 then 37 else if n = 29 then 41 else if n = 30 then 42 else if n = 31 then 45 else if n = 32 then 47 else if n = 33 then 48 else if n = 34 then 49
  else if (opOf n).form = 8 then n else 0
def shortOp (p : Int) : Bool := (decide (45 ≤ p) && decide (p ≤ 49)) || (decide (58 ≤ p) && decide (p ≤ 62))
/-- alu.Do: the answer; whether there is none -/
def doF (op : Int) (a b : BitVec 64) : BitVec 64 :=
  if op = 1 then Short (b <<< 12)
  else if plainOf op = 0 then 0#64
  else if shortOp (plainOf op) then Short (aluF (plainOf op).toNat (Short a) (Short b))
  else aluF (plainOf op).toNat a b
def doE (op : Int) : Int := if op = 1 then 0 else if plainOf op = 0 then 2 else 0
theorem sh_lt (b m : BitVec 64) (k : Nat) (h : m.toNat ≤ k) : 0 ≤ un (b &&& m) ∧ un (b &&& m) ≤ k := by
  have := BitVec.toNat_and b m
  have h2 : (b &&& m).toNat ≤ m.toNat := by rw [this]; exact Nat.and_le_right
  unfold un; omega
/-- forms of ops: which have form 8 -/
theorem form8 : ((List.range 88).all fun n => decide ((opOf (n : Int)).form = 8) == (decide (35 ≤ n) && decide (n ≤ 62))) = true := by decide +kernel
theorem opOf_big (n : Int) (h : 87 < n) : opOf n = noOp := by
  unfold opOf
  rw [if_neg (by omega)]
  have hn : 87 < n.toNat := by omega
  generalize n.toNat = m at hn
  have : ∀ fuel k m, k + fuel = 15 → rowCum 15 - rowCum k < m → ofFrom fuel k m = noOp := by
    intro fuel
    induction fuel with
    | zero => intro k m _ _; rfl
    | succ fuel ih =>
      intro k m hk hm
      have hc : rowCum (k + 1) = rowCum k + rowCnt k := rfl
      have hle : rowCum (k + 1) ≤ rowCum 15 := by
        have : ∀ j, j ≤ 15 → rowCum j ≤ rowCum 15 := by decide +kernel
        exact this _ (by omega)
      rw [ofFrom_miss _ _ _ (by omega)]
      exact ih (k + 1) _ (by omega) (by omega)
  exact this 15 0 m rfl (by rw [rowCum_15]; show 87 - 0 < m; omega)
theorem form_8 (n : Int) : (opOf n).form = 8 ↔ 35 ≤ n ∧ n ≤ 62 := by
  by_cases h0 : n < 1
  · unfold opOf; rw [if_pos h0]; constructor
    · intro h; exact absurd h (by decide)
    · intro h; omega
  · by_cases h1 : 87 < n
    · rw [opOf_big n h1]; constructor
      · intro h; exact absurd h (by decide)
      · intro h; omega
    · obtain ⟨m, rfl⟩ := Int.eq_ofNat_of_zero_le (show 0 ≤ n by omega)
      have := List.all_eq_true.1 form8 m (List.mem_range.2 (by omega))
      rw [beq_iff_eq] at this
      constructor
      · intro h; rw [decide_eq_true h] at this; have := this.symm; simp at this; omega
      · intro h
        have e : (decide (35 ≤ m) && decide (m ≤ 62)) = true := by simp; omega
        rw [e] at this; simpa using this
theorem plainOf_other (n : Int) (h : ¬ (22 ≤ n ∧ n ≤ 34)) : plainOf n = if (opOf n).form = 8 then n else 0 := by
  unfold plainOf
  rw [if_neg (by omega), if_neg (by omega), if_neg (by omega), if_neg (by omega), if_neg (by omega), if_neg (by omega), if_neg (by omega), if_neg (by omega), if_neg (by omega), if_neg (by omega), if_neg (by omega), if_neg (by omega), if_neg (by omega)]
theorem plainOf_range (n : Int) : plainOf n = 0 ∨ 35 ≤ plainOf n ∧ plainOf n ≤ 62 := by
  by_cases h : 22 ≤ n ∧ n ≤ 34
  · have hn : n = 22 ∨ n = 23 ∨ n = 24 ∨ n = 25 ∨ n = 26 ∨ n = 27 ∨ n = 28 ∨ n = 29 ∨ n = 30 ∨ n = 31 ∨ n = 32 ∨ n = 33 ∨ n = 34 := by omega
    right
    rcases hn with rfl | rfl | rfl | rfl | rfl | rfl | rfl | rfl | rfl | rfl | rfl | rfl | rfl <;> decide
  · rw [plainOf_other n h]
    by_cases h8 : (opOf n).form = 8
    · rw [if_pos h8]; exact Or.inr ((form_8 n).1 h8)
    · rw [if_neg h8]; exact Or.inl rfl
theorem plainOf_self (p : Int) (h : 35 ≤ p ∧ p ≤ 62) : plainOf p = p := by
  rw [plainOf_other p (by omega), if_pos ((form_8 p).2 h)]
end Go.Proofs.YtcgflnkgekkidaaGreatDoor
