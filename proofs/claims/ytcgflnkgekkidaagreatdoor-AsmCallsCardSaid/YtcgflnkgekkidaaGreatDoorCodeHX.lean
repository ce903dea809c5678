/- Plain: the lines of a dump, by the word. No program in sight. Plain: the lines of a dump as values. Conditions: as each theorem says. -/
import Derived.Test.YtcgflnkgekkidaaGreatDoorCodeA
import Derived.Test.YtcgflnkgekkidaaGreatDoorTextAB
set_option linter.unusedSimpArgs false
set_option linter.unusedVariables false
namespace Go.Proofs.YtcgflnkgekkidaaGreatDoor
def hexD (n : Nat) : UInt8 := ([48, 49, 50, 51, 52, 53, 54, 55, 56, 57, 97, 98, 99, 100, 101, 102] : List UInt8).getD n 48
/-- The first k hexadecimal digits of a word. -/
def hexL (w : BitVec 32) : Nat → List UInt8
  | 0 => []
  | k + 1 => hexL w k ++ [hexD (w.toNat / 2 ^ (28 - 4 * k) % 16)]
theorem hexL_len (w : BitVec 32) : ∀ k, (hexL w k).length = k
  | 0 => rfl
  | k + 1 => by unfold hexL; rw [List.length_append, hexL_len w k]; rfl
/-- A line of a dump. -/
def dumpT (w : BitVec 32) : List UInt8 := if (insnW w).2 = 0 then textT (insnW w).1 else 46 :: hexL w 8
theorem insnW_bd (w : BitVec 32) : ((insnW w).1.op ≤ 9223372036854775807) ∧ (-9223372036854775808 ≤ (insnW w).1.imm ∧ (insnW w).1.imm ≤ 9223372036854775807) := by
  have key : ∀ (n : Nat) (op : Int), op + n ≤ 100 → ((insnFrom w op n).1.op ≤ 9223372036854775807) ∧ (-9223372036854775808 ≤ (insnFrom w op n).1.imm ∧ (insnFrom w op n).1.imm ≤ 9223372036854775807) := by
    intro n
    induction n with
    | zero => intro op ho; exact ⟨(by decide : (0 : Int) ≤ 9223372036854775807), (by decide : (-9223372036854775808 : Int) ≤ 0), (by decide : (0 : Int) ≤ 9223372036854775807)⟩
    | succ n ih =>
      intro op ho
      unfold insnFrom
      split
      · refine ⟨by show op ≤ _; omega, ?_⟩
        have hs : ∀ y : BitVec 64, -9223372036854775808 ≤ sn y ∧ sn y ≤ 9223372036854775807 := fun y => by
          have := sn_lt y; omega
        show -9223372036854775808 ≤ (decV _ _ _).imm ∧ (decV _ _ _).imm ≤ 9223372036854775807
        unfold decV
        simp only
        split
        · exact hs _
        · split
          · exact hs _
          · decide
      · exact ih (op + 1) (by omega)
  exact key 87 1 (by decide)
def bv32H (a : Int) : BitVec 32 := BitVec.ofInt 32 a
theorem bv32_un32H (x : BitVec 32) : bv32H (un32 x) = x := by unfold bv32H un32; simp
theorem wrap_u32_bvH (a : Int) : IntKind.u32.wrap a = un32 (bv32H a) := by
  unfold un32 bv32H
  rw [BitVec.toNat_ofInt]
  have : (0 : Int) ≤ a % 4294967296 := Int.emod_nonneg _ (by decide)
  simp [IntKind.wrap, IntKind.bits, IntKind.signed]; omega
theorem bits_u32_andH (a b : Int) : bits .and .u32 a b = un32 (bv32H a &&& bv32H b) := by
  show IntKind.u32.wrap (un32 (bv32H a &&& bv32H b)) = _; rw [wrap_u32_bvH, bv32_un32H]
theorem un32_shrH (x : BitVec 32) (k : Nat) : un32 x / 2 ^ k = un32 (x >>> k) := by
  unfold un32; rw [BitVec.toNat_ushiftRight, Nat.shiftRight_eq_div_pow]; simp
end Go.Proofs.YtcgflnkgekkidaaGreatDoor
namespace Go.Proofs.YtcgflnkgekkidaaGreatDoor
open Go.RowKit
theorem Tryz.info_strD : (Tryz.prog.info? 9).map (fun i => (i.zero, i.size, i.bytes)) = some (some (.string ⟨#[]⟩), 1, 16) := by kernel_rfl
/-- The first k lines of a dump. -/
def dumpsV (F : Nat → BitVec 32) : Nat → List Value
  | 0 => []
  | k + 1 => dumpsV F k ++ [.string ⟨(dumpT (F k)).toArray⟩]
theorem dumpsV_len (F : Nat → BitVec 32) : ∀ k, (dumpsV F k).length = k
  | 0 => rfl
  | k + 1 => by unfold dumpsV; rw [List.length_append, dumpsV_len F k]; rfl
theorem dumpsV_at (F : Nat → BitVec 32) : ∀ (n k : Nat), k < n → (dumpsV F n)[k]? = some (.string ⟨(dumpT (F k)).toArray⟩)
  | 0, k, hk => absurd hk (Nat.not_lt_zero _)
  | n + 1, k, hk => by
    unfold dumpsV
    by_cases h : k < n
    · rw [List.getElem?_append_left (by rw [dumpsV_len]; exact h)]; exact dumpsV_at F n k h
    · obtain rfl : k = n := by omega
      rw [List.getElem?_append_right (by rw [dumpsV_len]; exact Nat.le_refl _), dumpsV_len, Nat.sub_self]; rfl
end Go.Proofs.YtcgflnkgekkidaaGreatDoor
