/- Plain: what there is to know of an op, by its number. No program in sight. Conditions: none. -/
import Derived.Test.YtcgflnkgekkidaaGreatDoorBase
import Derived.Lib.Fields
import Derived.Lib.Strings
import Derived.Lib.Bytealg
namespace Go.Proofs.YtcgflnkgekkidaaGreatDoor
/-- The rows' texts and forms. -/
def rowText : Nat → List UInt8
  | 0 => [108, 117, 105, 32, 97, 117, 105, 112, 99]
  | 1 => [106, 97, 108]
  | 2 => [106, 97, 108, 114]
  | 3 => [98, 101, 113, 32, 98, 110, 101, 32, 98, 108, 116, 32, 98, 103, 101, 32, 98, 108, 116, 117, 32, 98, 103, 101, 117]
  | 4 => [108, 98, 32, 108, 104, 32, 108, 119, 32, 108, 100, 32, 108, 98, 117, 32, 108, 104, 117, 32, 108, 119, 117]
  | 5 => [115, 98, 32, 115, 104, 32, 115, 119, 32, 115, 100]
  | 6 => [97, 100, 100, 105, 32, 115, 108, 116, 105, 32, 115, 108, 116, 105, 117, 32, 120, 111, 114, 105, 32, 111, 114, 105, 32, 97, 110, 100, 105]
  | 7 => [115, 108, 108, 105, 32, 115, 114, 108, 105, 32, 115, 114, 97, 105]
  | 8 => [97, 100, 100, 105, 119]
  | 9 => [115, 108, 108, 105, 119, 32, 115, 114, 108, 105, 119, 32, 115, 114, 97, 105, 119]
  | 10 => [97, 100, 100, 32, 115, 117, 98, 32, 115, 108, 108, 32, 115, 108, 116, 32, 115, 108, 116, 117, 32, 120, 111, 114, 32, 115, 114, 108, 32, 115, 114, 97, 32, 111, 114, 32, 97, 110, 100, 32, 97, 100, 100, 119, 32, 115, 117, 98, 119, 32, 115, 108, 108, 119, 32, 115, 114, 108, 119, 32, 115, 114, 97, 119, 32, 109, 117, 108, 32, 109, 117, 108, 104, 32, 109, 117, 108, 104, 115, 117, 32, 109, 117, 108, 104, 117, 32, 100, 105, 118, 32, 100, 105, 118, 117, 32, 114, 101, 109, 32, 114, 101, 109, 117, 32, 109, 117, 108, 119, 32, 100, 105, 118, 119, 32, 100, 105, 118, 117, 119, 32, 114, 101, 109, 119, 32, 114, 101, 109, 117, 119]
  | 11 => [102, 101, 110, 99, 101]
  | 12 => [101, 99, 97, 108, 108, 32, 101, 98, 114, 101, 97, 107]
  | 13 => [108, 114, 46, 119, 32, 108, 114, 46, 100]
  | 14 => [115, 99, 46, 119, 32, 115, 99, 46, 100, 32, 97, 109, 111, 115, 119, 97, 112, 46, 119, 32, 97, 109, 111, 97, 100, 100, 46, 119, 32, 97, 109, 111, 120, 111, 114, 46, 119, 32, 97, 109, 111, 97, 110, 100, 46, 119, 32, 97, 109, 111, 111, 114, 46, 119, 32, 97, 109, 111, 109, 105, 110, 46, 119, 32, 97, 109, 111, 109, 97, 120, 46, 119, 32, 97, 109, 111, 109, 105, 110, 117, 46, 119, 32, 97, 109, 111, 109, 97, 120, 117, 46, 119, 32, 97, 109, 111, 115, 119, 97, 112, 46, 100, 32, 97, 109, 111, 97, 100, 100, 46, 100, 32, 97, 109, 111, 120, 111, 114, 46, 100, 32, 97, 109, 111, 97, 110, 100, 46, 100, 32, 97, 109, 111, 111, 114, 46, 100, 32, 97, 109, 111, 109, 105, 110, 46, 100, 32, 97, 109, 111, 109, 97, 120, 46, 100, 32, 97, 109, 111, 109, 105, 110, 117, 46, 100, 32, 97, 109, 111, 109, 97, 120, 117, 46, 100]
  | _ => []
def rowForm : Nat → Int
  | 0 => 1
  | 1 => 2
  | 2 => 3
  | 3 => 6
  | 4 => 4
  | 5 => 5
  | 6 => 3
  | 7 => 7
  | 8 => 3
  | 9 => 7
  | 10 => 8
  | 11 => 9
  | 12 => 10
  | 13 => 11
  | 14 => 12
  | _ => 0
def rowStr (k : Nat) : ByteArray := ⟨(rowText k).toArray⟩
/-- how many ops a row has, how many stand ahead of it -/
def rowCnt (k : Nat) : Nat := (rowText k).count 32 + 1
def rowCum : Nat → Nat
  | 0 => 0
  | k + 1 => rowCum k + rowCnt k
/-- the name of op j of row k -/
def rowName (k j : Nat) : List UInt8 := (Lib.fields (rowText k)).getD j []
structure OpInfo where
  name : List UInt8
  form : Int
  loads : Bool
  stores : Bool
  size : Int
  deriving DecidableEq
def lastLetter (s : List UInt8) : UInt8 := s.getLastD 0
def opLetter (s : List UInt8) (f : Int) : UInt8 := if f = 4 then s.getD 1 0 else lastLetter s
def bhwd : List UInt8 := [98, 104, 119, 100]
def knownL (s : List UInt8) (f : Int) : Bool := f == 4 || f == 11 || Lib.hasPrefix s [97, 109, 111]
def knownS (f : Int) : Bool := f == 5 || f == 12
def knownSize (s : List UInt8) (f : Int) : Int := if knownL s f || knownS f then 2 ^ (Lib.indexByte bhwd (opLetter s f)).toNat else 0
/-- insn.known -/
def known (s : List UInt8) (f : Int) : OpInfo := ⟨s, f, knownL s f, knownS f, knownSize s f⟩
def noOp : OpInfo := ⟨[], 0, false, false, 0⟩
/-- insn.of: from row k on, n ops ahead -/
def ofFrom : Nat → Nat → Nat → OpInfo
  | 0, _, _ => noOp
  | fuel + 1, k, n => if n ≤ rowCnt k then known (rowName k (n - 1)) (rowForm k) else ofFrom fuel (k + 1) (n - rowCnt k)
def opOf (n : Int) : OpInfo := if n < 1 then noOp else ofFrom 15 0 n.toNat
/-- what known asks of a name: where there is a size its letter is one of bhwd -/
def knownOk (s : List UInt8) (f : Int) : Bool := if knownL s f || knownS f then decide (2 ≤ s.length) && decide (0 ≤ Lib.indexByte bhwd (opLetter s f)) else true
theorem rows_ok : ((List.range 15).all fun k => decide ((Lib.fields (rowText k)).length = rowCnt k) && (List.range (rowCnt k)).all fun j => knownOk (rowName k j) (rowForm k)) = true := by decide +kernel
theorem rows_ascii : ((List.range 15).all fun k => (rowText k).all fun c => decide (c.toNat < 128)) = true := by decide +kernel
theorem row_fields (k : Nat) (h : k < 15) : (Lib.fields (rowText k)).length = rowCnt k := by
  have := List.all_eq_true.1 rows_ok k (List.mem_range.2 h)
  simp only [Bool.and_eq_true, decide_eq_true_eq] at this; exact this.1
theorem row_ok (k j : Nat) (h : k < 15) (hj : j < rowCnt k) : knownOk (rowName k j) (rowForm k) = true := by
  have := List.all_eq_true.1 rows_ok k (List.mem_range.2 h)
  simp only [Bool.and_eq_true] at this
  exact List.all_eq_true.1 this.2 j (List.mem_range.2 hj)
theorem row_ascii (k : Nat) (h : k < 15) (j : Nat) (c : UInt8) (hc : (rowText k)[j]? = some c) : c.toNat < 128 := by
  have := List.all_eq_true.1 rows_ascii k (List.mem_range.2 h)
  have := List.all_eq_true.1 this c (List.mem_of_getElem? hc)
  simpa using this
theorem rowCnt_le : ((List.range 15).all fun k => decide (rowCnt k ≤ 28)) = true := by decide +kernel
theorem rowCnt_lt (k : Nat) (h : k < 15) : 1 ≤ rowCnt k ∧ rowCnt k ≤ 28 := by
  have := List.all_eq_true.1 rowCnt_le k (List.mem_range.2 h)
  simp only [decide_eq_true_eq] at this
  exact ⟨by unfold rowCnt; omega, this⟩
theorem rowCum_15 : rowCum 15 = 87 := by decide +kernel
theorem ofFrom_hit (fuel k n : Nat) (h : n ≤ rowCnt k) : ofFrom (fuel + 1) k n = known (rowName k (n - 1)) (rowForm k) := by
  show (if n ≤ rowCnt k then _ else _) = _; rw [if_pos h]
theorem ofFrom_miss (fuel k n : Nat) (h : ¬ n ≤ rowCnt k) : ofFrom (fuel + 1) k n = ofFrom fuel (k + 1) (n - rowCnt k) := by
  show (if n ≤ rowCnt k then _ else _) = _; rw [if_neg h]
end Go.Proofs.YtcgflnkgekkidaaGreatDoor
