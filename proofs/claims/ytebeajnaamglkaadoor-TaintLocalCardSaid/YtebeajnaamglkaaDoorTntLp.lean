/- Plain: what taint.Step computes at the law's examples. No program in sight. Conditions: none. -/
import Derived.Test.YtebeajnaamglkaaDoorTntSd
import Derived.Test.YtebeajnaamglkaaDoorFieldsPl
namespace Go.Proofs.YtebeajnaamglkaaDoor
def zeroT : List (List Int) := List.replicate 33 []
def startT : List (List Int) := (zeroT.set 5 [3]).set 6 [4]
/-- add x7, x5, x6 · sd x6, 0(x5) · beq x5, x0, 8 -/
def iv1 : InsnV := ⟨35, 7, 5, 6, 0, false, false, 0, 0⟩
def iv2 : InsnV := ⟨21, 0, 5, 6, 0, false, false, 0, 0⟩
def iv3 : InsnV := ⟨5, 0, 5, 0, 8, false, false, 0, 0⟩
theorem start_ok : taintE startT = 0 ∧ checkE iv1 = 0 ∧ checkE iv2 = 0 ∧ checkE iv3 = 0 := by decide +kernel
theorem start_len : ∀ l ∈ startT, l.length ≤ 100000 := by decide +kernel
theorem rp1 : readsP iv1 = [5, 6] := by
  unfold readsP; rw [if_neg (by decide), ms2, if_pos (by decide), compact2]; decide
theorem rp3 : readsP iv3 = [5] := by
  unfold readsP; rw [if_neg (by decide), ms2, if_neg (by decide), compact2]; decide
theorem lv1 : addrT startT iv1 = [] ∧ dataT startT iv1 = [] ∧ startT.getD 32 [] = [] := by decide +kernel
theorem lv2 : addrT startT iv2 = [3] ∧ dataT startT iv2 = [4] := by decide +kernel
theorem st1 : (stepT startT iv1 (-1)).getD 7 [] = [3, 4] := by
  unfold stepT outT readT
  rw [rp1]
  decide +kernel
theorem st3 : (stepT startT iv3 (-1)).getD 32 [] = [3] := by
  unfold stepT outT wayT readT
  rw [rp3]
  decide +kernel
end Go.Proofs.YtebeajnaamglkaaDoor
