/- Plain: bounds of what there is to know of an op. No program in sight. Plain: which instructions may be, by the form of their op. No program in sight. Plain: what is valid has fields that are ones. No program in sight. Conditions: as each theorem says. -/
import Derived.Test.YtcgflnkgekkidaaGreatDoorAluDefs
import Derived.Test.YtcgflnkgekkidaaGreatDoorInsnDefs
import Derived.Test.YtcgflnkgekkidaaGreatDoorWordDS
namespace Go.Proofs.YtcgflnkgekkidaaGreatDoor
theorem info_all : ((List.range 88).all fun n => decide (0 ≤ (opOf (n : Int)).form) && decide ((opOf (n : Int)).form ≤ 12) && decide ((opOf (n : Int)).name.length ≤ 20)) = true := by decide +kernel
theorem info_op (n : Int) : 0 ≤ (opOf n).form ∧ (opOf n).form ≤ 12 ∧ (opOf n).name.length ≤ 20 := by
  by_cases h0 : n < 1
  · unfold opOf; rw [if_pos h0]; decide
  · by_cases h1 : 87 < n
    · rw [opOf_big n h1]; decide
    · obtain ⟨m, rfl⟩ := Int.eq_ofNat_of_zero_le (show 0 ≤ n by omega)
      have := List.all_eq_true.1 info_all m (List.mem_range.2 (by omega))
      simp only [Bool.and_eq_true, decide_eq_true_eq] at this
      exact ⟨this.1.1, this.1.2, this.2⟩
end Go.Proofs.YtcgflnkgekkidaaGreatDoor
namespace Go.Proofs.YtcgflnkgekkidaaGreatDoor
structure InsnV where
  op : Int
  rd : Int
  rs1 : Int
  rs2 : Int
  imm : Int
  aq : Bool
  rl : Bool
  pred : Int
  succ : Int
  deriving DecidableEq
def InsnV.cells (i : InsnV) : Array Value := #[.int .i64 i.op, .int .i64 i.rd, .int .i64 i.rs1, .int .i64 i.rs2, .int .i64 i.imm, .bool i.aq, .bool i.rl, .int .i64 i.pred, .int .i64 i.succ]
/-- A register that is none. -/
def regBad (r : Int) : Bool := decide (r < 0) || decide (32 ≤ r)
/-- A short op's name ends with w. -/
def shortName (s : List UInt8) : Bool := !s.isEmpty && lastLetter s == 119
/-- Some register of these is none. -/
def badIn (l : List Int) : Bool := l.any regBad
/-- whether an op of this form may have these fields -/
def formOk (f : Int) (short : Bool) (i : InsnV) : Bool :=
  if f = 1 then i.rs1 == 0 && i.rs2 == 0 && !i.aq && !i.rl && i.pred == 0 && i.succ == 0 && Fits i.imm 20 && !badIn [i.rd]
  else if f = 2 then i.rs1 == 0 && i.rs2 == 0 && !i.aq && !i.rl && i.pred == 0 && i.succ == 0 && Fits i.imm 21 && !(i.imm.tmod 2 != 0) && !badIn [i.rd]
  else if f = 3 then i.rs2 == 0 && !i.aq && !i.rl && i.pred == 0 && i.succ == 0 && Fits i.imm 12 && !badIn [i.rd, i.rs1]
  else if f = 4 then i.rs2 == 0 && !i.aq && !i.rl && i.pred == 0 && i.succ == 0 && Fits i.imm 12 && !badIn [i.rd, i.rs1]
  else if f = 5 then i.rd == 0 && !i.aq && !i.rl && i.pred == 0 && i.succ == 0 && Fits i.imm 12 && !badIn [i.rs1, i.rs2]
  else if f = 6 then i.rd == 0 && !i.aq && !i.rl && i.pred == 0 && i.succ == 0 && Fits i.imm 13 && !(i.imm.tmod 2 != 0) && !badIn [i.rs1, i.rs2]
  else if f = 7 then decide (0 ≤ i.imm) && decide (i.imm ≤ 63) && (!short || decide (i.imm ≤ 31)) && i.rs2 == 0 && !i.aq && !i.rl && i.pred == 0 && i.succ == 0 && !badIn [i.rd, i.rs1]
  else if f = 8 then i.imm == 0 && !i.aq && !i.rl && i.pred == 0 && i.succ == 0 && !badIn [i.rd, i.rs1, i.rs2]
  else if f = 9 then decide (0 ≤ i.pred) && decide (i.pred ≤ 15) && decide (0 ≤ i.succ) && decide (i.succ ≤ 15) && i.rd == 0 && i.rs1 == 0 && i.rs2 == 0 && i.imm == 0 && !i.aq && !i.rl && !badIn []
  else if f = 10 then i.rd == 0 && i.rs1 == 0 && i.rs2 == 0 && i.imm == 0 && !i.aq && !i.rl && i.pred == 0 && i.succ == 0 && !badIn []
  else if f = 11 then i.rs2 == 0 && i.imm == 0 && i.pred == 0 && i.succ == 0 && !badIn [i.rd, i.rs1]
  else if f = 12 then i.imm == 0 && i.pred == 0 && i.succ == 0 && !badIn [i.rd, i.rs1, i.rs2]
  else false
/-- insn.Check -/
def checkOk (i : InsnV) : Bool := formOk (opOf i.op).form (shortName (opOf i.op).name) i
def checkE (i : InsnV) : Int := if checkOk i then 0 else 2
end Go.Proofs.YtcgflnkgekkidaaGreatDoor
namespace Go.Proofs.YtcgflnkgekkidaaGreatDoor
theorem ok_facts (i : InsnV) (h : checkE i = 0) : (0 ≤ i.rd ∧ i.rd ≤ 31) ∧ (0 ≤ i.rs1 ∧ i.rs1 ≤ 31) ∧ (0 ≤ i.rs2 ∧ i.rs2 ≤ 31) ∧ (0 ≤ i.pred ∧ i.pred ≤ 15) ∧ (0 ≤ i.succ ∧ i.succ ≤ 15) ∧ ((opOf i.op).form = 11 ∨ (opOf i.op).form = 12 ∨ (i.aq = false ∧ i.rl = false)) ∧ 1 ≤ (opOf i.op).form ∧ (opOf i.op).form ≤ 12 := by
  replace h : checkOk i = true := by
    unfold checkE at h
    cases hk : checkOk i with
    | true => rfl
    | false => rw [hk] at h; cases h
  unfold checkOk at h
  generalize (opOf i.op).form = f at h ⊢
  generalize shortName (opOf i.op).name = s at h
  unfold formOk at h
  have key : ∀ r : Int, regBad r = false → 0 ≤ r ∧ r ≤ 31 := fun r hr => by unfold regBad at hr; simp at hr; omega
  by_cases h1 : f = 1
  · rw [if_pos h1] at h; simp [badIn] at h; have krd := key i.rd (by simp [h])
    exact ⟨by omega, by omega, by omega, by omega, by omega, .inr (.inr ⟨by simp [h], by simp [h]⟩), by omega, by omega⟩
  rw [if_neg h1] at h
  by_cases h2 : f = 2
  · rw [if_pos h2] at h; simp [badIn] at h; have krd := key i.rd (by simp [h])
    exact ⟨by omega, by omega, by omega, by omega, by omega, .inr (.inr ⟨by simp [h], by simp [h]⟩), by omega, by omega⟩
  rw [if_neg h2] at h
  by_cases h3 : f = 3
  · rw [if_pos h3] at h; simp [badIn] at h; have krd := key i.rd (by simp [h]); have krs1 := key i.rs1 (by simp [h])
    exact ⟨by omega, by omega, by omega, by omega, by omega, .inr (.inr ⟨by simp [h], by simp [h]⟩), by omega, by omega⟩
  rw [if_neg h3] at h
  by_cases h4 : f = 4
  · rw [if_pos h4] at h; simp [badIn] at h; have krd := key i.rd (by simp [h]); have krs1 := key i.rs1 (by simp [h])
    exact ⟨by omega, by omega, by omega, by omega, by omega, .inr (.inr ⟨by simp [h], by simp [h]⟩), by omega, by omega⟩
  rw [if_neg h4] at h
  by_cases h5 : f = 5
  · rw [if_pos h5] at h; simp [badIn] at h; have krs1 := key i.rs1 (by simp [h]); have krs2 := key i.rs2 (by simp [h])
    exact ⟨by omega, by omega, by omega, by omega, by omega, .inr (.inr ⟨by simp [h], by simp [h]⟩), by omega, by omega⟩
  rw [if_neg h5] at h
  by_cases h6 : f = 6
  · rw [if_pos h6] at h; simp [badIn] at h; have krs1 := key i.rs1 (by simp [h]); have krs2 := key i.rs2 (by simp [h])
    exact ⟨by omega, by omega, by omega, by omega, by omega, .inr (.inr ⟨by simp [h], by simp [h]⟩), by omega, by omega⟩
  rw [if_neg h6] at h
  by_cases h7 : f = 7
  · rw [if_pos h7] at h; simp [badIn] at h; have krd := key i.rd (by simp [h]); have krs1 := key i.rs1 (by simp [h])
    exact ⟨by omega, by omega, by omega, by omega, by omega, .inr (.inr ⟨by simp [h], by simp [h]⟩), by omega, by omega⟩
  rw [if_neg h7] at h
  by_cases h8 : f = 8
  · rw [if_pos h8] at h; simp [badIn] at h; have krd := key i.rd (by simp [h]); have krs1 := key i.rs1 (by simp [h]); have krs2 := key i.rs2 (by simp [h])
    exact ⟨by omega, by omega, by omega, by omega, by omega, .inr (.inr ⟨by simp [h], by simp [h]⟩), by omega, by omega⟩
  rw [if_neg h8] at h
  by_cases h9 : f = 9
  · rw [if_pos h9] at h; simp [badIn] at h
    exact ⟨by omega, by omega, by omega, by omega, by omega, .inr (.inr ⟨by simp [h], by simp [h]⟩), by omega, by omega⟩
  rw [if_neg h9] at h
  by_cases h10 : f = 10
  · rw [if_pos h10] at h; simp [badIn] at h
    exact ⟨by omega, by omega, by omega, by omega, by omega, .inr (.inr ⟨by simp [h], by simp [h]⟩), by omega, by omega⟩
  rw [if_neg h10] at h
  by_cases h11 : f = 11
  · rw [if_pos h11] at h; simp [badIn] at h; have krd := key i.rd (by simp [h]); have krs1 := key i.rs1 (by simp [h])
    exact ⟨by omega, by omega, by omega, by omega, by omega, .inl h11, by omega, by omega⟩
  rw [if_neg h11] at h
  by_cases h12 : f = 12
  · rw [if_pos h12] at h; simp [badIn] at h; have krd := key i.rd (by simp [h]); have krs1 := key i.rs1 (by simp [h]); have krs2 := key i.rs2 (by simp [h])
    exact ⟨by omega, by omega, by omega, by omega, by omega, .inr (.inl h12), by omega, by omega⟩
  rw [if_neg h12] at h
  cases h
end Go.Proofs.YtcgflnkgekkidaaGreatDoor
