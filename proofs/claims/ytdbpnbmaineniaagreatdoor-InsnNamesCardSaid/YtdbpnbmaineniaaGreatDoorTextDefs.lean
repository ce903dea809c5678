/- Plain: the texts of numbers, registers, parts of fences, and instructions, as the document writes them. No program in sight. Conditions: none. -/
import Derived.Test.YtdbpnbmaineniaaGreatDoorInsnDf
import Derived.Test.YtdbpnbmaineniaaGreatDoorInsnKn
import Derived.Test.YtdbpnbmaineniaaGreatDoorWordDefs
namespace Go.Proofs.YtdbpnbmaineniaaGreatDoor
/-- A number's digits. -/
def digF : Nat → Nat → List UInt8
  | 0, n => [UInt8.ofNat (48 + n % 10)]
  | k + 1, n => if 9 < n then digF k (n / 10) ++ [UInt8.ofNat (48 + n % 10)] else [UInt8.ofNat (48 + n % 10)]
def digN (n : Nat) : List UInt8 := digF 20 n
theorem digF_le : ∀ (k n : Nat), n < 10 ^ (k + 1) → digF (k + 1) n = digF k n
  | 0, n, h => by
    unfold digF; rw [if_neg (by omega)]
  | k + 1, n, h => by
    show (if 9 < n then digF (k + 1) (n / 10) ++ _ else _) = (if 9 < n then digF k (n / 10) ++ _ else _)
    by_cases h9 : 9 < n
    · rw [if_pos h9, if_pos h9, digF_le k (n / 10) (by rw [Nat.pow_succ] at h; omega)]
    · rw [if_neg h9, if_neg h9]
theorem digN_step (n : Nat) (h : n < 2 ^ 64) : digN n = if 9 < n then digN (n / 10) ++ [UInt8.ofNat (48 + n % 10)] else [UInt8.ofNat (48 + n % 10)] := by
  unfold digN
  rw [← digF_le 20 n (by omega)]
  rfl
theorem digF_len : ∀ k n, (digF k n).length ≤ k + 1
  | 0, n => by simp [digF]
  | k + 1, n => by
    unfold digF
    have := digF_len k (n / 10)
    split
    · simp; omega
    · simp
theorem digN_len (n : Nat) : (digN n).length ≤ 21 := digF_len 20 n
/-- A signed number's. -/
def signL (n : Int) : List UInt8 := if n < 0 then 45 :: digN n.natAbs else digN n.natAbs
/-- A register. -/
def regT (n : Int) : List UInt8 := 120 :: digN n.toNat
/-- A part of a fence: the letters up to the k-th. -/
def partK (n : Nat) : Nat → List UInt8
  | 0 => []
  | k + 1 => if n.testBit (3 - k) then partK n k ++ [[105, 111, 114, 119].getD k 0] else partK n k
def partT (n : Nat) : List UInt8 := if partK n 4 = [] then [48] else partK n 4
theorem partK_len (n : Nat) : ∀ k, (partK n k).length ≤ k
  | 0 => Nat.le_refl 0
  | k + 1 => by
    have := partK_len n k
    unfold partK; split
    · simp; omega
    · omega
/-- An instruction's text: its operation with the flags. -/
def headT (i : InsnV) : List UInt8 :=
  let a := (opOf i.op).name
  let b := if i.aq || i.rl then a ++ [46] else a
  let c := if i.aq then b ++ [97, 113] else b
  if i.rl then c ++ [114, 108] else c
def bodyT (i : InsnV) : List UInt8 :=
  let s := headT i
  let f := (opOf i.op).form
  if f = 1 ∨ f = 2 then s ++ [32] ++ regT i.rd ++ [44, 32] ++ signL i.imm
  else if f = 3 ∨ f = 7 then if i.op = 4 then (opOf i.op).name ++ [32] ++ regT i.rd ++ [44, 32] ++ signL i.imm ++ [40] ++ regT i.rs1 ++ [41] else s ++ [32] ++ regT i.rd ++ [44, 32] ++ regT i.rs1 ++ [44, 32] ++ signL i.imm
  else if f = 4 then s ++ [32] ++ regT i.rd ++ [44, 32] ++ signL i.imm ++ [40] ++ regT i.rs1 ++ [41]
  else if f = 5 then s ++ [32] ++ regT i.rs2 ++ [44, 32] ++ signL i.imm ++ [40] ++ regT i.rs1 ++ [41]
  else if f = 6 then s ++ [32] ++ regT i.rs1 ++ [44, 32] ++ regT i.rs2 ++ [44, 32] ++ signL i.imm
  else if f = 8 then s ++ [32] ++ regT i.rd ++ [44, 32] ++ regT i.rs1 ++ [44, 32] ++ regT i.rs2
  else if f = 9 then s ++ [32] ++ partT i.pred.toNat ++ [44, 32] ++ partT i.succ.toNat
  else if f = 11 then s ++ [32] ++ regT i.rd ++ [44, 32, 40] ++ regT i.rs1 ++ [41]
  else if f = 12 then s ++ [32] ++ regT i.rd ++ [44, 32] ++ regT i.rs2 ++ [44, 32, 40] ++ regT i.rs1 ++ [41]
  else s
/-- An instruction's text, nothing where it is none. -/
def textT (i : InsnV) : List UInt8 := if checkE i = 0 then bodyT i else []
end Go.Proofs.YtdbpnbmaineniaaGreatDoor
