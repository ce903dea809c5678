/- Plain: items; the instructions of a number. No program in sight. Conditions: none. -/
import Derived.Test.YtcgflnkgekkidaaGreatDoorInsnDf
import Derived.Test.YtcgflnkgekkidaaGreatDoorWordDS
set_option linter.unusedSimpArgs false
set_option linter.unusedVariables false
namespace Go.Proofs.YtcgflnkgekkidaaGreatDoor
structure ItemV where
  kind : Int
  insn : InsnV
  label : Int
  addr : BitVec 64
  deriving DecidableEq
def ItemV.cells (i : ItemV) : Array Value := #[.int .i64 i.kind, .int .i64 i.insn.op, .int .i64 i.insn.rd, .int .i64 i.insn.rs1, .int .i64 i.insn.rs2, .int .i64 i.insn.imm, .bool i.insn.aq, .bool i.insn.rl, .int .i64 i.insn.pred, .int .i64 i.insn.succ, .int .i64 i.label, .int .u64 (un i.addr)]
/-- Cells of instructions, one behind the other. -/
def insnsC (l : List InsnV) : List Value := l.flatMap fun i => i.cells.toList
theorem insnsC_len (l : List InsnV) : (insnsC l).length = l.length * 9 := by
  induction l with
  | nil => rfl
  | cons x l ih => unfold insnsC at *; rw [List.flatMap_cons, List.length_append, ih, List.length_cons, show x.cells.toList.length = 9 from rfl]; omega
theorem insnsC_app (l m : List InsnV) : insnsC (l ++ m) = insnsC l ++ insnsC m := by unfold insnsC; rw [List.flatMap_append]
def restV (x : BitVec 64) : BitVec 64 := Sign x 12
def upV (x : BitVec 64) : BitVec 64 := (x - restV x).sshiftRight 12
/-- A number's instructions. -/
def numF : Nat → Int → BitVec 64 → List InsnV
  | 0, _, _ => []
  | f + 1, rd, x =>
    if Fits (sn x) 12 = true then [⟨22, rd, 0, 0, sn x, false, false, 0, 0⟩]
    else if (Fits (sn x) 32 && Fits (sn (upV x)) 20) = true then
      (if sn (restV x) = 0 then [⟨1, rd, 0, 0, sn (upV x), false, false, 0, 0⟩] else [⟨1, rd, 0, 0, sn (upV x), false, false, 0, 0⟩, ⟨31, rd, rd, 0, sn (restV x), false, false, 0, 0⟩])
    else if sn (restV x) = 0 then numF f rd (upV x) ++ [⟨28, rd, rd, 0, 12, false, false, 0, 0⟩]
    else numF f rd (upV x) ++ [⟨28, rd, rd, 0, 12, false, false, 0, 0⟩] ++ [⟨22, rd, rd, 0, sn (restV x), false, false, 0, 0⟩]
def numV (rd : Int) (x : BitVec 64) : List InsnV := numF 6 rd x
theorem numF_len : ∀ (f : Nat) (rd : Int) (x : BitVec 64), (numF f rd x).length ≤ 2 * f
  | 0, _, _ => Nat.le_refl _
  | f + 1, rd, x => by
    have ih := numF_len f rd (upV x)
    unfold numF
    repeat' split
    all_goals simp only [List.length_append, List.length_cons, List.length_nil]
    all_goals omega
/-- What the lowest twelve bits are, as a signed number. -/
theorem rest_bd (x : BitVec 64) : -2048 ≤ sn (restV x) ∧ sn (restV x) ≤ 2047 := by
  unfold restV Sign sn
  rw [show (64 - cl 12) = 52 by decide, BitVec.toInt_sshiftRight]
  have h1 := BitVec.le_toInt (x <<< 52)
  have h2 := BitVec.toInt_lt (x := x <<< 52)
  simp only [Int.shiftRight_eq_div_pow] at *
  omega
theorem rest_mod (x : BitVec 64) : (sn x - sn (restV x)) % 4096 = 0 := by
  unfold restV Sign sn
  rw [show (64 - cl 12) = 52 by decide, BitVec.toInt_sshiftRight, BitVec.toInt_shiftLeft, BitVec.toInt_eq_toNat_bmod]
  have hN := x.isLt
  generalize x.toNat = N at *
  rw [Int.shiftRight_eq_div_pow]
  simp only [Int.bmod_def, Nat.shiftLeft_eq]
  omega
theorem up_eq (x : BitVec 64) (h1 : -4611686018427387904 ≤ sn x) (h2 : sn x ≤ 4611686018427387904) : sn (upV x) * 4096 = sn x - sn (restV x) := by
  have hb := rest_bd x
  have hm := rest_mod x
  unfold upV
  have e : sn ((x - restV x).sshiftRight 12) = sn (x - restV x) / 4096 := (sn_shr _ 12).symm
  have e2 : sn (x - restV x) = sn x - sn (restV x) := by
    unfold sn at *
    rw [BitVec.toInt_sub]
    rw [Int.bmod_eq_of_le (by omega) (by omega)]
  rw [e, e2]
  omega
theorem up_all (x : BitVec 64) : -2251799813685248 ≤ sn (upV x) ∧ sn (upV x) ≤ 2251799813685248 := by
  unfold upV
  have e : sn ((x - restV x).sshiftRight 12) = sn (x - restV x) / 4096 := (sn_shr _ 12).symm
  rw [e]
  have := sn_lt (x - restV x)
  omega
theorem fits12 (x : BitVec 64) (h1 : -2048 ≤ sn x) (h2 : sn x ≤ 2047) : Fits (sn x) 12 = true := by
  unfold Fits
  rw [bv_sn, beq_iff_eq]
  have hb := rest_bd x
  have hm := rest_mod x
  unfold restV at hb hm
  omega
end Go.Proofs.YtcgflnkgekkidaaGreatDoor
