/- The document's answers of layer 4 at the operations of a number's instructions, and whether a branch is taken. The document's hart at an instruction that is no branch, no jump and no access to memory: Check, may, address, target, end, Step. Plain: a number's instructions compute it, and are at most eight. No program in sight. Conditions: as each theorem says. -/
import Derived.Test.YtcgflnkgekkidaaGreatDoorAsmC
import Derived.Test.YtcgflnkgekkidaaGreatDoorRefCheck
import Derived.Test.YtcgflnkgekkidaaGreatDoorAsmA
set_option linter.unusedSimpArgs false
set_option linter.unusedVariables false
namespace Go.Proofs.YtcgflnkgekkidaaGreatDoor
open Go.RowKit
theorem quo_sn (a b : BitVec 64) : IntKind.i64.wrap ((sn a).tdiv (sn b)) = sn (a.sdiv b) := by
  rw [wrap_i64_sn]; congr 1
  apply BitVec.eq_of_toInt_eq
  unfold bv sn
  rw [BitVec.toInt_ofInt, BitVec.toInt_sdiv]
theorem rem_sn (a b : BitVec 64) : (sn a).tmod (sn b) = sn (a.srem b) := by
  unfold sn; rw [BitVec.toInt_srem]
theorem quo_un (a b : BitVec 64) : IntKind.u64.wrap ((un a).tdiv (un b)) = un (a / b) := by
  have h : (un a).tdiv (un b) = un (a / b) := by
    unfold un; rw [BitVec.toNat_udiv]; rfl
  rw [h, wrap_u64_bv, bv_un]
theorem bv_quo_un (a b : BitVec 64) : bv ((un a).tdiv (un b)) = a / b := by
  have h := quo_un a b
  rw [wrap_u64_bv] at h; exact un_inj.1 h
theorem rem_un (a b : BitVec 64) : (un a).tmod (un b) = un (a % b) := by
  unfold un; rw [BitVec.toNat_umod]; rfl
def takesF (op : Int) (a b : BitVec 64) : Bool :=
  if op = 5 then un a == un b else if op = 6 then un a != un b else if op = 7 then decide (sn a < sn b) else if op = 8 then decide (sn b ≤ sn a)
  else if op = 9 then decide (un a < un b) else if op = 10 then decide (un b ≤ un a) else false
def takesE (op : Int) : Int := if 5 ≤ op ∧ op ≤ 10 then 0 else 2
theorem sdiv_bv (a b : BitVec 64) : a.sdiv b = bv ((sn a).tdiv (sn b)) := by
  apply BitVec.eq_of_toInt_eq; unfold bv sn; rw [BitVec.toInt_ofInt, BitVec.toInt_sdiv]
theorem divF_ones (a : BitVec 64) : divF a (BitVec.allOnes 64) = -a := by
  unfold divF
  rw [if_neg (by decide)]
  by_cases h : a = leastB
  · rw [if_pos ⟨h, rfl⟩, h]; decide
  · rw [if_neg (by simp [h]), sdiv_bv]
    show bv ((sn a).tdiv (-1)) = _
    rw [Int.tdiv_neg, Int.tdiv_one, bv_neg, bv_sn]
theorem srem_bv (a b : BitVec 64) : a.srem b = bv ((sn a).tmod (sn b)) := by
  rw [← sn_inj, sn_bv]
  · unfold sn; rw [BitVec.toInt_srem]
  · have := sn_lt (a.srem b); unfold sn at this ⊢; rw [BitVec.toInt_srem] at this; exact this
theorem remF_ones (a : BitVec 64) : remF a (BitVec.allOnes 64) = 0#64 := by
  unfold remF
  rw [if_neg (by decide)]
  by_cases h : a = leastB
  · rw [if_pos ⟨h, rfl⟩]
  · rw [if_neg (by simp [h]), srem_bv]
    show bv ((sn a).tmod (-1)) = _
    rw [Int.tmod_neg, Int.tmod_one]; rfl
theorem sn_zero_iff (b : BitVec 64) : sn b = 0 ↔ b = 0#64 := by
  have : sn 0#64 = 0 := rfl
  rw [← this, sn_inj]
theorem Low_Short (x : BitVec 64) : Low (Short x) 32 = Low x 32 := Low_Sign x 32 (by omega)
theorem Low32_nat (x : BitVec 64) : (Low x 32).toNat = x.toNat % 4294967296 := by
  unfold Low
  have e : Ones 32 = 4294967295#64 := by decide
  rw [e, BitVec.toNat_and]
  exact Nat.and_two_pow_sub_one_eq_mod _ 32
theorem Low_eq_iff (x y : BitVec 64) : Low x 32 = Low y 32 ↔ x.toNat % 4294967296 = y.toNat % 4294967296 := by
  rw [← Low32_nat, ← Low32_nat]
  constructor
  · intro h; rw [h]
  · intro h; exact BitVec.eq_of_toNat_eq h
theorem Low32_add (x y : BitVec 64) : Low (Short x + Short y) 32 = Low (x + y) 32 := by
  have hx := (Low_eq_iff _ _).1 (Low_Short x)
  have hy := (Low_eq_iff _ _).1 (Low_Short y)
  rw [Low_eq_iff, BitVec.toNat_add, BitVec.toNat_add]; omega
theorem Short_of_Low (x y : BitVec 64) (h : Low x 32 = Low y 32) : Short x = Short y := by
  apply BitVec.eq_of_getLsbD_eq
  intro i hi
  have hb : ∀ j, j < 32 → x.getLsbD j = y.getLsbD j := fun j hj => by
    have := congrArg (fun z => z.getLsbD j) h
    simp only [Low_bit] at this
    rw [show cl 32 = 32 from rfl] at this
    simpa [hj] using this
  have hs : ∀ z : BitVec 64, (Short z).getLsbD i = if i < 32 then z.getLsbD i else z.getLsbD 31 := fun z => by
    unfold Short
    have e := Sign_ext z 32 (by omega)
    rw [show ((32 : Nat) : Int) = 32 from rfl] at e
    rw [e, BitVec.getLsbD_signExtend, BitVec.getLsbD_setWidth, BitVec.msb_setWidth]
    by_cases h1 : i < 32
    · simp [hi, h1]
    · simp [hi, h1]
  rw [hs, hs]
  split
  · exact hb i ‹_›
  · exact hb 31 (by omega)
/-- what a short op answers, as the document says it -/
theorem short_45 (a b : BitVec 64) : Short (Short a + Short b) = Short (a + b) := Short_of_Low _ _ (Low32_add a b)
attribute [local go_sem] wrap_u64_bv bv_un bv_sn bv_add bv_mul bv_neg bv_sub mul_bvpow shr_min shl_min sshr_min bv_lit bv_0 bv_1 un_shr sn_shr wrap_i64_un bits_u64_and bits_u64_or bits_u64_xor bits_u64_andNot bv_max u64_unsigned quo_sn rem_sn bv_quo_un rem_un
section
attribute [local irreducible] un sn
theorem RTakes_any (op : Int) (a b : BitVec 64) (w : World) :
    Calls Tryz.prog 85 #[.int .i64 op, .int .u64 (un a), .int .u64 (un b)] w fun e w' => e = .returned (.tuple #[.bool (takesF op a b), .int .i64 (takesE op)]) ∧ w = w' := by
  have hF : Hid (takesF op a b = if op = 5 then un a == un b else if op = 6 then un a != un b else if op = 7 then decide (sn a < sn b) else if op = 8 then decide (sn b ≤ sn a) else if op = 9 then decide (un a < un b) else if op = 10 then decide (un b ≤ un a) else false) := Lib.hid rfl
  have hE : Hid (takesE op = if 5 ≤ op ∧ op ≤ 10 then 0 else 2) := Lib.hid rfl
  by_cases h : 5 ≤ op ∧ op ≤ 10
  · have hx : op = 5 ∨ op = 6 ∨ op = 7 ∨ op = 8 ∨ op = 9 ∨ op = 10 := by omega
    clear h
    rcases hx with rfl | rfl | rfl | rfl | rfl | rfl
    all_goals
      go_enter Tryz.func85, Tryz.ntmps85
      go_wp2
      all_goals
        go_ret2
        exact ⟨by rw [hF.out, hE.out]; simp; try omega, rfl⟩
  · have hE' := Lib.hid (hE.out.trans (if_neg h))
    have t5 : (op == 5) = false := by rw [beq_eq_false_iff_ne]; omega
    have t6 : (op == 6) = false := by rw [beq_eq_false_iff_ne]; omega
    have t7 : (op == 7) = false := by rw [beq_eq_false_iff_ne]; omega
    have t8 : (op == 8) = false := by rw [beq_eq_false_iff_ne]; omega
    have t9 : (op == 9) = false := by rw [beq_eq_false_iff_ne]; omega
    have t10 : (op == 10) = false := by rw [beq_eq_false_iff_ne]; omega
    have hF' : Hid (takesF op a b = false) := Lib.hid (by rw [hF.out, if_neg (by omega), if_neg (by omega), if_neg (by omega), if_neg (by omega), if_neg (by omega), if_neg (by omega)])
    clear hE hF h
    go_enter Tryz.func85, Tryz.ntmps85
    go_wp2
    go_ret2
    exact ⟨by rw [hF'.out, hE'.out] <;> rfl, rfl⟩
theorem RPlain_any (n : Int) (w : World) :
    Calls Tryz.prog 81 #[.int .i64 n] w fun e w' => e = .returned (.int .i64 (plainOf n)) ∧ w = w' := by
  by_cases h : 22 ≤ n ∧ n ≤ 34
  · have hx : n = 22 ∨ n = 23 ∨ n = 24 ∨ n = 25 ∨ n = 26 ∨ n = 27 ∨ n = 28 ∨ n = 29 ∨ n = 30 ∨ n = 31 ∨ n = 32 ∨ n = 33 ∨ n = 34 := by omega
    clear h
    rcases hx with rfl | rfl | rfl | rfl | rfl | rfl | rfl | rfl | rfl | rfl | rfl | rfl | rfl
    all_goals
      go_enter Tryz.func81, Tryz.ntmps81
      go_wp2_with fail
      go_ret
      exact ⟨rfl, rfl⟩
  · have hp := Lib.hid (plainOf_other n h)
    have t22 : (n == 22) = false := by rw [beq_eq_false_iff_ne]; omega
    have t23 : (n == 23) = false := by rw [beq_eq_false_iff_ne]; omega
    have t24 : (n == 24) = false := by rw [beq_eq_false_iff_ne]; omega
    have t25 : (n == 25) = false := by rw [beq_eq_false_iff_ne]; omega
    have t26 : (n == 26) = false := by rw [beq_eq_false_iff_ne]; omega
    have t27 : (n == 27) = false := by rw [beq_eq_false_iff_ne]; omega
    have t28 : (n == 28) = false := by rw [beq_eq_false_iff_ne]; omega
    have t29 : (n == 29) = false := by rw [beq_eq_false_iff_ne]; omega
    have t30 : (n == 30) = false := by rw [beq_eq_false_iff_ne]; omega
    have t31 : (n == 31) = false := by rw [beq_eq_false_iff_ne]; omega
    have t32 : (n == 32) = false := by rw [beq_eq_false_iff_ne]; omega
    have t33 : (n == 33) = false := by rw [beq_eq_false_iff_ne]; omega
    have t34 : (n == 34) = false := by rw [beq_eq_false_iff_ne]; omega
    clear h
    cases hf : (rform n == 8) with
    | true =>
      have hq : Hid (plainOf n = n) := Lib.hid (by rw [hp.out, rform_eq, if_pos (by simpa using hf)])
      go_enter Tryz.func81, Tryz.ntmps81
      go_wp2_with (go_at_call 46; (with_reducible refine (R2Form_any _ _).mono ?_); rintro e w1 ⟨rfl, rfl⟩)
      go_ret
      exact ⟨ret_int (by rw [hq.out] <;> rfl), rfl⟩
    | false =>
      have hq : Hid (plainOf n = 0) := Lib.hid (by rw [hp.out, rform_eq, if_neg (by simpa using hf)])
      go_enter Tryz.func81, Tryz.ntmps81
      go_wp2_with (go_at_call 46; (with_reducible refine (R2Form_any _ _).mono ?_); rintro e w1 ⟨rfl, rfl⟩)
      go_ret
      exact ⟨ret_int (by rw [hq.out] <;> rfl), rfl⟩
theorem Rdivide_any (a b : BitVec 64) (w : World) :
    Calls Tryz.prog 107 #[.int .i64 (sn a), .int .i64 (sn b)] w fun e w' => e = .returned (.tuple #[.int .i64 (sn (divF a b)), .int .i64 (sn (remF a b))]) ∧ Below w.heap.size w w' := by
  by_cases h0 : b = 0#64
  · have hq : Hid (sn (divF a b) = -1) := Lib.hid (by unfold divF; rw [if_pos h0]; decide +kernel)
    have hr : Hid (sn (remF a b) = sn a) := Lib.hid (by unfold remF; rw [if_pos h0])
    have t : (sn b == 0) = true := by rw [h0]; decide +kernel
    clear h0
    go_enter Tryz.func107, Tryz.ntmps107
    go_wp2
    go_ret2
    exact ⟨by rw [hq.out, hr.out] <;> rfl, Below.refl _ _⟩
  · have t : (sn b == 0) = false := by
      rw [beq_eq_false_iff_ne]; intro h; exact h0 ((sn_zero_iff b).1 h)
    by_cases h1 : b = BitVec.allOnes 64
    · have hq : Hid (divF a b = -a) := Lib.hid (by rw [h1]; exact divF_ones a)
      have hr : Hid (sn (remF a b) = 0) := Lib.hid (by rw [h1, remF_ones]; decide +kernel)
      have t1 : (sn b == -1) = true := by rw [h1]; decide +kernel
      have hw : IntKind.i64.wrap (-sn a) = sn (-a) := by rw [wrap_i64_sn, bv_neg, bv_sn]
      clear h0 h1
      go_enter Tryz.func107, Tryz.ntmps107
      go_wp2
      go_ret2
      exact ⟨by rw [hq.out, hr.out, ← hw] <;> rfl, Below.refl _ _⟩
    · have t1 : (sn b == -1) = false := by
        rw [beq_eq_false_iff_ne]; intro h; exact h1 (sn_inj.1 (h.trans (by decide +kernel)))
      have n0 : ¬ sn b = 0 := fun h => h0 ((sn_zero_iff b).1 h)
      have hq : Hid (divF a b = a.sdiv b) := Lib.hid (by unfold divF; rw [if_neg h0, if_neg (fun h => h1 h.2)])
      have hr : Hid (remF a b = a.srem b) := Lib.hid (by unfold remF; rw [if_neg h0, if_neg (fun h => h1 h.2)])
      clear h0 h1
      go_enter Tryz.func107, Tryz.ntmps107
      go_wp2
      go_region
      all_goals
        go_wp2
        go_ret2
        exact ⟨by rw [hq.out, hr.out] <;> rfl, (Below.refl _ _).drew⟩
set_option maxRecDepth 100000 in
set_option maxHeartbeats 2000000 in
theorem Rlong_35 (a b : BitVec 64) (w : World) :
    Calls Tryz.prog 83 #[.int .i64 35, .int .u64 (un a), .int .u64 (un b)] w fun e w' => e = .returned (.int .u64 (un (aluF 35 a b))) ∧ Below w.heap.size w w' := by
  obtain ⟨R, hR⟩ : ∃ R, aluF 35 a b = R := ⟨_, rfl⟩
  rw [hR]
  have hR := Lib.hid hR
  go_enter Tryz.func83, Tryz.ntmps83
  go_wp2_with (first | (go_at_call 94; (with_reducible refine (RLow_any _ _ _).mono ?_); rintro e w' ⟨rfl, rfl⟩) | (go_at_call 107; (with_reducible refine (Rdivide_any _ _ _).mono ?_); rintro e w' ⟨rfl, hb⟩))
  go_ret
  exact ⟨ret_int (by rw [← hR.out]; rfl), hb⟩
set_option maxRecDepth 100000 in
set_option maxHeartbeats 2000000 in
theorem Rlong_37 (a b : BitVec 64) (w : World) :
    Calls Tryz.prog 83 #[.int .i64 37, .int .u64 (un a), .int .u64 (un b)] w fun e w' => e = .returned (.int .u64 (un (aluF 37 a b))) ∧ Below w.heap.size w w' := by
  obtain ⟨R, hR⟩ : ∃ R, aluF 37 a b = R := ⟨_, rfl⟩
  rw [hR]
  have hR := Lib.hid hR
  have hk0 := (un_lt (Low b 6)).1
  go_enter Tryz.func83, Tryz.ntmps83
  go_wp2_with (first | (go_at_call 94; (with_reducible refine (RLow_any _ _ _).mono ?_); rintro e w' ⟨rfl, rfl⟩) | (go_at_call 107; (with_reducible refine (Rdivide_any _ _ _).mono ?_); rintro e w' ⟨rfl, hb⟩))
  go_ret
  exact ⟨ret_int (by rw [← hR.out]; rfl), hb⟩
set_option maxRecDepth 100000 in
set_option maxHeartbeats 2000000 in
theorem Rshort_45 (a b : BitVec 64) (w : World) :
    Calls Tryz.prog 82 #[.int .i64 45, .int .u64 (un a), .int .u64 (un b)] w fun e w' => e = .returned (.int .u64 (un (Short (aluF 45 (Short a) (Short b))))) ∧ Below w.heap.size w w' := by
  obtain ⟨R, hR⟩ : ∃ R, Short (aluF 45 (Short a) (Short b)) = R := ⟨_, rfl⟩
  rw [hR]
  have hR := Lib.hid hR
  go_enter Tryz.func82, Tryz.ntmps82
  go_wp2_with (first | (go_at_call 94; (with_reducible refine (RLow_any _ _ _).mono ?_); rintro e w' ⟨rfl, rfl⟩) | (go_at_call 107; (with_reducible refine (Rdivide_any _ _ _).mono ?_); rintro e w' ⟨rfl, hb⟩) | (go_at_call 63; (with_reducible refine (RSign_any _ _ _).mono ?_); rintro e w' ⟨rfl, rfl⟩) | (go_at_call 80; (with_reducible refine (RShort_any _ _).mono ?_); rintro e w' ⟨rfl, rfl⟩))
  go_ret
  exact ⟨ret_int (by rw [← hR.out]; exact congrArg un (short_45 a b).symm), hb⟩
set_option maxHeartbeats 1000000 in
/-- The document's Do at an instruction of a number. -/
theorem RDo_q (op : Int) (ho : op = 1 ∨ op = 22 ∨ op = 28 ∨ op = 31) (a b : BitVec 64) (w : World) :
    Calls Tryz.prog 47 #[.int .i64 op, .int .u64 (un a), .int .u64 (un b)] w fun e w' => e = .returned (.tuple #[.int .u64 (un (doF op a b)), .int .i64 0]) ∧ Below w.heap.size w w' := by
  rcases ho with rfl | rfl | rfl | rfl
  · have hF : Hid (doF 1 a b = Short (b <<< 12)) := Lib.hid rfl
    have hm : b * 4096#64 = b <<< 12 := mul_bvpow b 12
    go_enter Tryz.func47, Tryz.ntmps47
    go_wp2_with (go_at_call 80; (with_reducible refine (RShort_any _ _).mono ?_); rintro e w' ⟨rfl, rfl⟩)
    go_ret2
    exact ⟨by rw [hF.out] <;> rfl, Below.refl _ _⟩
  · have hF : Hid (doF 22 a b = aluF 35 a b) := Lib.hid rfl
    have hP : Hid (∀ w, Calls Tryz.prog 81 #[.int .i64 22] w fun e w' => e = .returned (.int .i64 35) ∧ w = w') := Lib.hid (fun w => RPlain_any 22 w)
    have hS := Lib.hid (fun w => Rlong_35 a b w)
    go_enter Tryz.func47, Tryz.ntmps47
    go_wp2_with (first | (go_at_call 81; refine (hP.out _).mono ?_; rintro e w1 ⟨rfl, rfl⟩) | (go_at_call 83; refine (hS.out _).mono ?_; rintro e w1 ⟨rfl, hb⟩))
    go_ret2
    exact ⟨by rw [hF.out] <;> rfl, hb⟩
  · have hF : Hid (doF 28 a b = aluF 37 a b) := Lib.hid rfl
    have hP : Hid (∀ w, Calls Tryz.prog 81 #[.int .i64 28] w fun e w' => e = .returned (.int .i64 37) ∧ w = w') := Lib.hid (fun w => RPlain_any 28 w)
    have hS := Lib.hid (fun w => Rlong_37 a b w)
    go_enter Tryz.func47, Tryz.ntmps47
    go_wp2_with (first | (go_at_call 81; refine (hP.out _).mono ?_; rintro e w1 ⟨rfl, rfl⟩) | (go_at_call 83; refine (hS.out _).mono ?_; rintro e w1 ⟨rfl, hb⟩))
    go_ret2
    exact ⟨by rw [hF.out] <;> rfl, hb⟩
  · have hF : Hid (doF 31 a b = Short (aluF 45 (Short a) (Short b))) := Lib.hid rfl
    have hP : Hid (∀ w, Calls Tryz.prog 81 #[.int .i64 31] w fun e w' => e = .returned (.int .i64 45) ∧ w = w') := Lib.hid (fun w => RPlain_any 31 w)
    have hS := Lib.hid (fun w => Rshort_45 a b w)
    go_enter Tryz.func47, Tryz.ntmps47
    go_wp2_with (first | (go_at_call 81; refine (hP.out _).mono ?_; rintro e w1 ⟨rfl, rfl⟩) | (go_at_call 82; refine (hS.out _).mono ?_; rintro e w1 ⟨rfl, hb⟩))
    go_ret2
    exact ⟨by rw [hF.out] <;> rfl, hb⟩
end
end Go.Proofs.YtcgflnkgekkidaaGreatDoor
namespace Go.Proofs.YtcgflnkgekkidaaGreatDoor
open Go.RowKit
structure HartV where
  pc : BitVec 64
  x : Nat → BitVec 64
  fin : Int
  code : BitVec 64
/-- Where a hart goes on. -/
def HartV.goes (h : HartV) (n : BitVec 64) : HartV := { h with pc := n }
/-- A hart with another register. -/
def HartV.set (h : HartV) (d : Nat) (v : BitVec 64) : HartV := { h with x := fun r => if r = d then v else h.x r }
def hartCell (h : HartV) (j : Nat) : Value := if j = 0 then .int .u64 (un h.pc) else if j ≤ 32 then .int .u64 (un (h.x (j - 1))) else if j = 33 then .int .i64 h.fin else .int .u64 (un h.code)
/-- The cells of a hart in block a. -/
def HC (a : Nat) (h : HartV) (W : World) : Prop := ∀ j, j < 35 → W.cell? ⟨a, j, none⟩ = some (hartCell h j)
/-- A hart's cells. -/
def hartL (h : HartV) : List Value := (List.range 35).map (hartCell h)
theorem hartL_at (h : HartV) (j : Nat) (hj : j < 35) : (hartL h)[j]? = some (hartCell h j) := by
  unfold hartL; simp [hj]
theorem hartL_len (h : HartV) : (hartL h).length = 35 := by unfold hartL; simp
theorem hart_range {h : HartV} {b : Nat} {w : World} (hc : ∀ j, j < 35 → w.cell? ⟨b, j, none⟩ = some (hartCell h j)) : w.rangeAt b 0 (hartL h) := fun j v hv => by
  rcases Nat.lt_or_ge j 35 with hj | hj
  · rw [hartL_at h j hj] at hv; rw [Nat.zero_add, hc j hj, hv]
  · rw [List.getElem?_eq_none (by rw [hartL_len]; exact hj)] at hv; cases hv
theorem HC.range {a : Nat} {h : HartV} {W : World} (hc : HC a h W) : W.rangeAt a 0 (hartL h) := hart_range hc
theorem HC.of_range {a : Nat} {h : HartV} {W : World} (hr : W.rangeAt a 0 (hartL h)) : HC a h W := fun j hj => by
  have := hr j _ (hartL_at h j hj); rw [Nat.zero_add] at this; exact this
theorem hartCell_x (h : HartV) (r : Nat) (hr : r < 32) : hartCell h (1 + r) = .int .u64 (un (h.x r)) := by
  unfold hartCell; rw [if_neg (by omega), if_pos (by omega)]; rw [show 1 + r - 1 = r by omega]
theorem setCell_at {W : World} {b o j : Nat} {v u : Value} (hc : W.cell? ⟨b, o, none⟩ = some u) : (W.setCell ⟨b, o, none⟩ v).cell? ⟨b, j, none⟩ = if j = o then some v else W.cell? ⟨b, j, none⟩ := by
  split
  · rename_i e; subst e; exact World.cell?_setCell_same _ _ _ hc
  · rename_i e; exact World.cell?_setCell_other _ _ _ _ (fun h => e (by injection h with _ h2 _; exact h2.symm))
theorem HC.setX {a : Nat} {h : HartV} {W : World} (hc : HC a h W) (d : Nat) (hd : d < 32) (v : BitVec 64) : HC a (h.set d v) (W.setCell ⟨a, 1 + d, none⟩ (.int .u64 (un v))) := fun j hj => by
  rw [setCell_at (hc (1 + d) (by omega))]
  split
  · rename_i e; subst e; rw [hartCell_x _ d hd]; simp [HartV.set]
  · rename_i e
    rw [hc j hj]; unfold hartCell
    by_cases j0 : j = 0
    · rw [if_pos j0, if_pos j0]; rfl
    · rw [if_neg j0, if_neg j0]
      by_cases j32 : j ≤ 32
      · rw [if_pos j32, if_pos j32]; simp only [HartV.set]; rw [if_neg (by omega)]
      · rw [if_neg j32, if_neg j32]; rfl
theorem HC.goes {a : Nat} {h : HartV} {W : World} (hc : HC a h W) (n : BitVec 64) : HC a (h.goes n) (W.setCell ⟨a, 0, none⟩ (.int .u64 (un n))) := fun j hj => by
  rw [setCell_at (hc 0 (by decide))]
  split
  · rename_i e; subst e; rfl
  · rename_i e; rw [hc j hj]; unfold hartCell; rw [if_neg e, if_neg e]; rfl
/-- A hart's registers. -/
def regL (f : Nat → BitVec 64) : List Value := (List.range 32).map fun j => .int .u64 (un (f j))
theorem regL_at (f : Nat → BitVec 64) (j : Nat) (hj : j < 32) : (regL f)[j]? = some (.int .u64 (un (f j))) := by unfold regL; simp [hj]
theorem regL_len (f : Nat → BitVec 64) : (regL f).length = 32 := by unfold regL; simp
theorem HC.regs {a : Nat} {h : HartV} {W : World} (hc : HC a h W) : W.rangeAt a 1 (regL h.x) := fun j v hv => by
  rcases Nat.lt_or_ge j 32 with hj | hj
  · rw [regL_at h.x j hj] at hv; rw [hc (1 + j) (by omega), hartCell_x h j hj]; exact hv
  · rw [List.getElem?_eq_none (by rw [regL_len]; exact hj)] at hv; cases hv
def insnCell (i : InsnV) (j : Nat) : Value := i.cells.getD j undef
/-- What begin's frame holds, begun in world w: a copy of the hart, a copy of the instruction. -/
structure BK (w : World) (h : HartV) (i : InsnV) (W : World) : Prop where
  h : ∀ j, j < 35 → W.cell? ⟨w.heap.size, j, none⟩ = some (hartCell h j)
  c : ∀ j, j < 9 → W.cell? ⟨w.heap.size + 1, j, none⟩ = some (insnCell i j)
  bl : Below w.heap.size w W
  sz : w.heap.size + 2 ≤ W.heap.size
theorem BK.keep {w W W' : World} {h : HartV} {i : InsnV} (hB : BK w h i W) (hb : Below W.heap.size W W') : BK w h i W' := by
  have sz := hB.sz
  exact ⟨fun j hj => by rw [hb.cell (p := ⟨w.heap.size, j, none⟩) (by show w.heap.size < _; omega)]; exact hB.h j hj,
    fun j hj => by rw [hb.cell (p := ⟨w.heap.size + 1, j, none⟩) (by show w.heap.size + 1 < _; omega)]; exact hB.c j hj, hB.bl.trans (hb.mono (by omega)), Nat.le_trans sz hb.size⟩
theorem BK.drew {w W : World} {h : HartV} {i : InsnV} (hB : BK w h i W) : BK w h i W.drew := hB.keep ((Below.refl _ _).drew)
/-- A hart by value. -/
def hartArr (h : HartV) : Array Value := (hartL h).toArray
theorem hartArr_at (h : HartV) (j : Nat) (hj : j < 35) : (hartArr h)[j]? = some (hartCell h j) := by
  unfold hartArr; simp [hartL_at h j hj]
theorem BK.start (w : World) (h : HartV) (i : InsnV) (t t' : TypeId) : BK w h i ((w.alloc (.cells (hartArr h) t)).alloc (.cells i.cells t')) := by
  have s1 : (w.alloc (.cells (hartArr h) t)).heap.size = w.heap.size + 1 := by simp
  refine ⟨fun j hj => ?_, fun j hj => ?_, ((Below.refl _ _).alloc (Nat.le_refl _) _).alloc (by simp) _, by simp⟩
  · rw [((Below.refl _ _).alloc (Nat.le_refl _) _ : Below _ (w.alloc (.cells (hartArr h) t)) _).cell (p := ⟨w.heap.size, j, none⟩) (by rw [s1]; show w.heap.size < _; omega), World.cell?_alloc_new, hartArr_at h j hj]
  · rw [← s1, World.cell?_alloc_new]
    rcases (show j = 0 ∨ j = 1 ∨ j = 2 ∨ j = 3 ∨ j = 4 ∨ j = 5 ∨ j = 6 ∨ j = 7 ∨ j = 8 by omega) with rfl | rfl | rfl | rfl | rfl | rfl | rfl | rfl | rfl <;> rfl
theorem insn_range {i : InsnV} {b o : Nat} {w : World} (hc : ∀ j, j < 9 → w.cell? ⟨b, o + j, none⟩ = some (insnCell i j)) : w.rangeAt b o i.cells.toList := fun j v hv => by
  rcases (show j = 0 ∨ j = 1 ∨ j = 2 ∨ j = 3 ∨ j = 4 ∨ j = 5 ∨ j = 6 ∨ j = 7 ∨ j = 8 ∨ 9 ≤ j by omega) with rfl | rfl | rfl | rfl | rfl | rfl | rfl | rfl | rfl | hj
  all_goals first
    | (rw [hc _ (by decide)]; exact hv)
    | (rw [List.getElem?_eq_none (show i.cells.toList.length ≤ j from hj)] at hv; cases hv)
theorem BK.facts {w W : World} {h : HartV} {op rd r1 r2 imm : Int} {aq rl : Bool} {pred succ : Int} (hB : BK w h ⟨op, rd, r1, r2, imm, aq, rl, pred, succ⟩ W) :
    W.rangeAt w.heap.size 0 (hartL h) ∧ W.rangeAt (w.heap.size + 1) 0 (InsnV.cells ⟨op, rd, r1, r2, imm, aq, rl, pred, succ⟩).toList ∧ W.cell? ⟨w.heap.size, 33, none⟩ = some (.int .i64 h.fin) ∧ W.cell? ⟨w.heap.size + 1, 0, none⟩ = some (Value.int .i64 op) ∧ W.cell? ⟨w.heap.size + 1, 1, none⟩ = some (Value.int .i64 rd) ∧ W.cell? ⟨w.heap.size + 1, 2, none⟩ = some (Value.int .i64 r1) ∧ W.cell? ⟨w.heap.size + 1, 3, none⟩ = some (Value.int .i64 r2) ∧ W.cell? ⟨w.heap.size + 1, 4, none⟩ = some (Value.int .i64 imm) ∧ W.cell? ⟨w.heap.size + 1, 5, none⟩ = some (Value.bool aq) ∧ W.cell? ⟨w.heap.size + 1, 6, none⟩ = some (Value.bool rl) ∧ W.cell? ⟨w.heap.size + 1, 7, none⟩ = some (Value.int .i64 pred) ∧ W.cell? ⟨w.heap.size + 1, 8, none⟩ = some (Value.int .i64 succ) :=
  ⟨hart_range hB.h, insn_range (fun j hj => by rw [Nat.zero_add]; exact hB.c j hj), hB.h 33 (by decide), hB.c 0 (by decide), hB.c 1 (by decide), hB.c 2 (by decide), hB.c 3 (by decide), hB.c 4 (by decide), hB.c 5 (by decide), hB.c 6 (by decide), hB.c 7 (by decide), hB.c 8 (by decide)⟩
/-- What the frame of the document's Step holds, begun in world w. -/
structure RK (w : World) (h : HartV) (i : InsnV) (W : World) : Prop where
  h : HC w.heap.size h W
  hf : ∀ j, j < 35 → W.frozen? ⟨w.heap.size, j, none⟩ = false
  c : ∀ j, j < 9 → W.cell? ⟨w.heap.size + 1, j, none⟩ = some (insnCell i j)
  z : W.there (w.heap.size + 2) 0 35
  bl : Below w.heap.size w W
  sz : w.heap.size + 3 ≤ W.heap.size
theorem RK.keep {w W W' : World} {h : HartV} {i : InsnV} (hE : RK w h i W) (hb : Below W.heap.size W W') : RK w h i W' := by
  have sz := hE.sz
  have cl : ∀ (x j : Nat), x < w.heap.size + 3 → W'.cell? ⟨x, j, none⟩ = W.cell? ⟨x, j, none⟩ := fun x j hx => hb.cell (p := ⟨x, j, none⟩) (by show x < _; omega)
  have fl : ∀ (x j : Nat), x < w.heap.size + 3 → W'.frozen? ⟨x, j, none⟩ = W.frozen? ⟨x, j, none⟩ := fun x j hx => hb.frozen (p := ⟨x, j, none⟩) (by show x < _; omega)
  exact ⟨fun j hj => by rw [cl _ _ (by omega)]; exact hE.h j hj, fun j hj => by rw [fl _ _ (by omega)]; exact hE.hf j hj, fun j hj => by rw [cl _ _ (by omega)]; exact hE.c j hj,
    fun j hj => by rw [cl _ _ (by omega), fl _ _ (by omega)]; exact hE.z j hj, hE.bl.trans (hb.mono (by omega)), Nat.le_trans hE.sz hb.size⟩
theorem RK.drew {w W : World} {h : HartV} {i : InsnV} (hE : RK w h i W) : RK w h i W.drew := hE.keep (Below.refl _ _).drew
theorem setCell_size (W : World) (a : Addr) (v : Value) : W.heap.size ≤ (W.setCell a v).heap.size := ((Below.refl 0 W).setCell (Nat.zero_le _) v).size
/-- A cell of the hart is stored. -/
theorem RK.put {w W : World} {h h' : HartV} {i : InsnV} (hE : RK w h i W) (o : Nat) (v : Value) (hc : HC w.heap.size h' (W.setCell ⟨w.heap.size, o, none⟩ v)) : RK w h' i (W.setCell ⟨w.heap.size, o, none⟩ v) := by
  have sz := setCell_size W ⟨w.heap.size, o, none⟩ v
  have cl : ∀ (x j : Nat), x ≠ w.heap.size → (W.setCell ⟨w.heap.size, o, none⟩ v).cell? ⟨x, j, none⟩ = W.cell? ⟨x, j, none⟩ := fun x j hx => World.cell?_setCell_other _ _ _ _ (fun e => hx (by injection e with e1 _ _; exact e1.symm))
  have fl : ∀ (x j : Nat), (W.setCell ⟨w.heap.size, o, none⟩ v).frozen? ⟨x, j, none⟩ = W.frozen? ⟨x, j, none⟩ := fun x j => World.frozen?_setCells w.heap.size [v] o W ⟨x, j, none⟩
  exact ⟨hc, fun j hj => by rw [fl]; exact hE.hf j hj, fun j hj => by rw [cl _ _ (by omega)]; exact hE.c j hj, fun j hj => by rw [cl _ _ (by omega), fl]; exact hE.z j hj, hE.bl.setCell (p := ⟨w.heap.size, o, none⟩) (Nat.le_refl _) v, Nat.le_trans hE.sz sz⟩
theorem fresh_thaw (w : World) (cs : Array Value) (t : TypeId) (j : Nat) : (w.alloc (.cells cs t)).frozen? ⟨w.heap.size, j, none⟩ = false := by
  rw [frozen?_alloc_cells]; unfold World.frozen?; rw [Array.getElem?_eq_none (Nat.le_refl _)]
theorem there_fresh (w : World) (cs : Array Value) (t : TypeId) (n : Nat) (hn : n ≤ cs.size) : (w.alloc (.cells cs t)).there w.heap.size 0 n := fun j hj => by
  refine ⟨?_, fresh_thaw w cs t _⟩
  rw [World.cell?_alloc_new, Nat.zero_add, Array.getElem?_eq_getElem (by omega)]; rfl
theorem RK.start (w : World) (h : HartV) (i : InsnV) (t1 t2 t3 : TypeId) : RK w h i (((((w.alloc (.cells (hartArr h) t1)).alloc (.cells i.cells t2)).alloc (.cells #[.int .u64 0, .int .u64 0, .int .u64 0, .int .u64 0, .int .u64 0, .int .u64 0, .int .u64 0, .int .u64 0, .int .u64 0, .int .u64 0, .int .u64 0, .int .u64 0, .int .u64 0, .int .u64 0, .int .u64 0, .int .u64 0, .int .u64 0, .int .u64 0, .int .u64 0, .int .u64 0, .int .u64 0, .int .u64 0, .int .u64 0, .int .u64 0, .int .u64 0, .int .u64 0, .int .u64 0, .int .u64 0, .int .u64 0, .int .u64 0, .int .u64 0, .int .u64 0, .int .u64 0, .int .i64 0, .int .u64 0] t3)))) := by
  have n1 : (w.alloc (.cells (hartArr h) t1)).heap.size = w.heap.size + 1 := by simp
  have n2 : ((w.alloc (.cells (hartArr h) t1)).alloc (.cells i.cells t2)).heap.size = w.heap.size + 2 := by simp
  have k1 : Below (w.heap.size + 1) (w.alloc (.cells (hartArr h) t1)) (((((w.alloc (.cells (hartArr h) t1)).alloc (.cells i.cells t2)).alloc (.cells #[.int .u64 0, .int .u64 0, .int .u64 0, .int .u64 0, .int .u64 0, .int .u64 0, .int .u64 0, .int .u64 0, .int .u64 0, .int .u64 0, .int .u64 0, .int .u64 0, .int .u64 0, .int .u64 0, .int .u64 0, .int .u64 0, .int .u64 0, .int .u64 0, .int .u64 0, .int .u64 0, .int .u64 0, .int .u64 0, .int .u64 0, .int .u64 0, .int .u64 0, .int .u64 0, .int .u64 0, .int .u64 0, .int .u64 0, .int .u64 0, .int .u64 0, .int .u64 0, .int .u64 0, .int .i64 0, .int .u64 0] t3)))) := ((Below.refl _ _).alloc (by omega) _).alloc (by omega) _
  have k2 : Below (w.heap.size + 2) ((w.alloc (.cells (hartArr h) t1)).alloc (.cells i.cells t2)) (((((w.alloc (.cells (hartArr h) t1)).alloc (.cells i.cells t2)).alloc (.cells #[.int .u64 0, .int .u64 0, .int .u64 0, .int .u64 0, .int .u64 0, .int .u64 0, .int .u64 0, .int .u64 0, .int .u64 0, .int .u64 0, .int .u64 0, .int .u64 0, .int .u64 0, .int .u64 0, .int .u64 0, .int .u64 0, .int .u64 0, .int .u64 0, .int .u64 0, .int .u64 0, .int .u64 0, .int .u64 0, .int .u64 0, .int .u64 0, .int .u64 0, .int .u64 0, .int .u64 0, .int .u64 0, .int .u64 0, .int .u64 0, .int .u64 0, .int .u64 0, .int .u64 0, .int .i64 0, .int .u64 0] t3)))) := (Below.refl _ _).alloc (by omega) _
  refine ⟨fun j hj => ?_, fun j hj => ?_, fun j hj => ?_, ?_, (((Below.refl _ _).alloc (Nat.le_refl _) _).alloc (by omega) _).alloc (by omega) _, by simp⟩
  · rw [k1.cell (p := ⟨w.heap.size, j, none⟩) (by show w.heap.size < _; omega), World.cell?_alloc_new, hartArr_at h j hj]
  · rw [k1.frozen (p := ⟨w.heap.size, j, none⟩) (by show w.heap.size < _; omega)]; exact fresh_thaw _ _ _ _
  · rw [k2.cell (p := ⟨w.heap.size + 1, j, none⟩) (by show w.heap.size + 1 < _; omega), ← n1, World.cell?_alloc_new]
    rcases (show j = 0 ∨ j = 1 ∨ j = 2 ∨ j = 3 ∨ j = 4 ∨ j = 5 ∨ j = 6 ∨ j = 7 ∨ j = 8 by omega) with rfl | rfl | rfl | rfl | rfl | rfl | rfl | rfl | rfl <;> rfl
  · rw [← n2]; exact there_fresh _ _ _ 35 (by simp)
theorem RK.facts {w W : World} {h : HartV} {op rd r1 r2 imm : Int} {aq rl : Bool} {pred succ : Int} (hE : RK w h ⟨op, rd, r1, r2, imm, aq, rl, pred, succ⟩ W) :
    W.rangeAt w.heap.size 0 (hartL h) ∧ W.cell? ⟨w.heap.size + 1, 0, none⟩ = some (Value.int .i64 op) ∧ W.cell? ⟨w.heap.size + 1, 1, none⟩ = some (Value.int .i64 rd) ∧ W.cell? ⟨w.heap.size + 1, 2, none⟩ = some (Value.int .i64 r1) ∧ W.cell? ⟨w.heap.size + 1, 3, none⟩ = some (Value.int .i64 r2) ∧ W.cell? ⟨w.heap.size + 1, 4, none⟩ = some (Value.int .i64 imm) ∧ W.cell? ⟨w.heap.size + 1, 5, none⟩ = some (Value.bool aq) ∧ W.cell? ⟨w.heap.size + 1, 6, none⟩ = some (Value.bool rl) ∧ W.cell? ⟨w.heap.size + 1, 7, none⟩ = some (Value.int .i64 pred) ∧ W.cell? ⟨w.heap.size + 1, 8, none⟩ = some (Value.int .i64 succ) :=
  ⟨hE.h.range, hE.c 0 (by decide), hE.c 1 (by decide), hE.c 2 (by decide), hE.c 3 (by decide), hE.c 4 (by decide), hE.c 5 (by decide), hE.c 6 (by decide), hE.c 7 (by decide), hE.c 8 (by decide)⟩
def rgoneV (h : HartV) (i : InsnV) (n : BitVec 64) (v : BitVec 64) : HartV := if i.rd = 0 then h.goes n else (h.goes n).set i.rd.toNat v
theorem zeros_there (w : World) (t : TypeId) : (w.alloc (.cells #[.int .u64 0, .int .u64 0, .int .u64 0, .int .u64 0, .int .u64 0, .int .u64 0, .int .u64 0, .int .u64 0, .int .u64 0, .int .u64 0, .int .u64 0, .int .u64 0, .int .u64 0, .int .u64 0, .int .u64 0, .int .u64 0, .int .u64 0, .int .u64 0, .int .u64 0, .int .u64 0, .int .u64 0, .int .u64 0, .int .u64 0, .int .u64 0, .int .u64 0, .int .u64 0, .int .u64 0, .int .u64 0, .int .u64 0, .int .u64 0, .int .u64 0, .int .u64 0, .int .u64 0, .int .i64 0, .int .u64 0] t)).there w.heap.size 0 35 := there_fresh w _ t 35 (by simp)
theorem regs_equalIn (d : Nat) (f g : Nat → BitVec 64) (w : World) : (Op.equalIn (d + 2) 45 (.agg (regL f).toArray) (.agg (regL g).toArray)).run Tryz.prog w = .ok ((List.range 32).all fun j => f j == g j) w := by
  have hsz : ∀ w, (sizeOf 27).run Tryz.prog w = .ok 1 w := fun w => by kernel_rfl
  have he := Tryz.underlying27
  rw [Op.equalIn]
  simp only [Sem.run_bind, run_underlying Tryz.underlying45, Result.andThen_ok, hsz, Std.Legacy.Range.forIn_eq_forIn_range', Std.Legacy.Range.size, Nat.sub_zero, Nat.add_sub_cancel, Nat.div_one]
  rw [List.range_eq_range']
  have hl : ∀ i ∈ List.range' 0 32 1, i < 32 := fun i hi => by simpa using (List.mem_range'_1.1 hi).2
  generalize List.range' 0 32 1 = l at hl ⊢
  induction l with
  | nil => simp
  | cons i l ih =>
    have hi : i < 32 := hl i (by simp)
    have px : ∀ q : Nat → BitVec 64, (part 27 (regL q).toArray (i * 1)).run Tryz.prog w = .ok (.int .u64 (un (q i))) w := fun q => by
      simp [part, isAgg, run_underlying he, regL_at q i hi]
    have pe : (Op.equalIn (d + 1) 27 (.int .u64 (un (f i))) (.int .u64 (un (g i)))).run Tryz.prog w = .ok (f i == g i) w := by
      rw [run_equalIn_int w d 27 .u64 .u64 _ _ he]
      rw [← un_beq]
    simp only [List.forIn_cons, Sem.run_bind, px, pe, Result.andThen_ok, List.all_cons]
    cases hb : (f i == g i)
    · simp
    · simp only [Bool.not_true, Bool.false_eq_true, if_false, Sem.run_pure, Result.andThen_ok, Bool.true_and]
      exact ih fun j hj => hl j (by simp [hj])
set_option maxRecDepth 100000 in
theorem regs_eql (f g : Nat → BitVec 64) (w : World) : (binOp .eql 45 (.agg (regL f).toArray) (.agg (regL g).toArray)).run Tryz.prog w = .ok (.bool ((List.range 32).all fun j => f j == g j)) w := by
  have hq := regs_equalIn 9998 f g w
  rw [show (9998 + 2 : Nat) = 10000 from rfl] at hq
  rw [run_eql_struct, hq]
  rfl
theorem below_setCells {B a : Nat} {w : World} (ha : B ≤ a) : ∀ (vs : List Value) (o : Nat) (W : World), Below B w W → Below B w (W.setCells a o vs)
  | [], _, _, h => h
  | v :: vs, o, _, h => below_setCells ha vs (o + 1) _ (h.setCell ha v)
theorem hartL_one (h : HartV) : (hartL h).toArray.all (·.oneCell') = true := all_oneCell_toArray (fun v hv => by
  obtain ⟨j, _, rfl⟩ := List.mem_map.1 hv
  unfold hartCell
  split
  · rfl
  · split
    · rfl
    · split <;> rfl)
theorem size_hart (h : HartV) : (Tryz.prog.info? 47).map (·.size) = some (hartL h).length := by rw [hartL_len]; kernel_rfl
theorem result_hart (W : World) (a : Nat) (h : HartV) (hr : W.rangeAt a 0 (hartL h)) : (loadVar 47 ⟨a, 0, none⟩).run Tryz.prog W = .ok (.agg (hartL h).toArray) W := run_loadVar_mid W a 0 47 (hartL h) _ hr Tryz.underlying47 rfl (size_hart h)
theorem hartArr_size (h : HartV) : (hartArr h).size = 35 := by unfold hartArr; simp [hartL_len]
theorem hartL_size (h : HartV) : (hartL h).toArray.size = 35 := hartArr_size h
theorem size_hartA (h : HartV) : (Tryz.prog.info? 47).map (·.size) = some (hartL h).toArray.size := by rw [hartL_size]; kernel_rfl
theorem there_hart {W : World} {a : Nat} (hz : W.there a 0 35) (h : HartV) : W.there a 0 (hartL h).toArray.size := by rw [hartL_size]; exact hz
attribute [local go_sem] wrap_u64_bv bv_un bv_sn bv_add bv_mul bv_neg bv_sub mul_bvpow shr_min shl_min sshr_min bv_lit bv_0 bv_1 un_shr sn_shr wrap_i64_un bits_u64_and bits_u64_or bits_u64_xor bits_u64_andNot bv_max u64_unsigned
section
attribute [local irreducible] un sn hartL
set_option maxRecDepth 100000 in
theorem RHCheck_5 (h : HartV) (w : World) (h0 : un (h.x 0) = 0) (h1 : 0 ≤ h.fin) (h2 : h.fin ≤ 6) (h3 : h.fin ≠ 1) (h4 : un h.code = 0) :
    Calls Tryz.prog 78 #[.agg (hartArr h)] w fun e w' => e = .returned (.int .i64 0) ∧ Below w.heap.size w w' := by
  have hund : ∀ b : Bool, (some undef = some (Value.bool b)) = False := fun b => by simp [undef]
  have a1 : (hartArr h)[1]? = some (.int .u64 (un (h.x 0))) := hartArr_at h 1 (by decide)
  have a33 : (hartArr h)[33]? = some (.int .i64 h.fin) := hartArr_at h 33 (by decide)
  have a34 : (hartArr h)[34]? = some (.int .u64 (un h.code)) := hartArr_at h 34 (by decide)
  have t0 : (un (h.x 0) != 0) = false := by rw [h0]; rfl
  have t1 : decide (h.fin < 0) = false := by rw [decide_eq_false_iff_not]; omega
  have t2 : decide (6 < h.fin) = false := by rw [decide_eq_false_iff_not]; omega
  have t3 : (h.fin != 1) = true := by simpa using h3
  have t4 : (un h.code != 0) = false := by rw [h4]; rfl
  generalize hartArr h = A at a1 a33 a34 ⊢
  go_enter Tryz.func78, Tryz.ntmps78
  go_wp2
  go_ret
  exact ⟨rfl, (Below.refl _ _).alloc (Nat.le_refl _) _⟩
set_option maxRecDepth 100000 in
set_option maxHeartbeats 4000000 in
theorem RMay_on (h : HartV) (op rd r1 r2 imm : Int) (aq rl : Bool) (pred succ : Int) (w : World) (hx : un (h.x 0) = 0) (hf : h.fin = 0) (hcd : un h.code = 0) :
    Calls Tryz.prog 44 #[.agg (hartArr h), .agg #[.int .i64 op, .int .i64 rd, .int .i64 r1, .int .i64 r2, .int .i64 imm, .bool aq, .bool rl, .int .i64 pred, .int .i64 succ]] w fun e w' => e = .returned (.int .i64 (checkE ⟨op, rd, r1, r2, imm, aq, rl, pred, succ⟩)) ∧ Below w.heap.size w w' := by
  have hB0 := BK.start w h ⟨op, rd, r1, r2, imm, aq, rl, pred, succ⟩ 47 26
  have hu := Tryz.underlying47
  have hE := Lib.hid (fun W => RHCheck_5 h W hx (by omega) (by omega) (by omega) hcd)
  have hR := Lib.hid (fun W => R2Check_any ⟨op, rd, r1, r2, imm, aq, rl, pred, succ⟩ W)
  have tf : (h.fin != 0) = false := by rw [hf]; rfl
  clear hf hx hcd
  obtain ⟨rh, ri, x33, c0, c1, c2, c3, c4, c5, c6, c7, c8⟩ := hB0.facts
  go_enter Tryz.func44, Tryz.ntmps44
  go_wp2_with (first | (refine wpList_load_mid rfl 47 _ rfl w.heap.size 0 rfl (hartL h) _ rh hu rfl (size_hart _) ?_) | (go_at_call 78; refine (hE.out _).mono ?_; rintro e w2 ⟨rfl, hb2⟩; have hB := hB0.keep hb2; clear hb2 rh ri x33 c0 c1 c2 c3 c4 c5 c6 c7 c8; obtain ⟨rh, ri, x33, c0, c1, c2, c3, c4, c5, c6, c7, c8⟩ := hB.facts) | (go_at_call 65; refine (hR.out _).mono ?_; rintro e w3 ⟨rfl, hb3⟩; replace hB := hB.keep hb3))
  go_ret
  exact ⟨rfl, hB.bl⟩
set_option maxRecDepth 100000 in
set_option maxHeartbeats 4000000 in
theorem RAddr_q (h : HartV) (op : Int) (d r1 r2 : Nat) (imm : Int) (aq rl : Bool) (pred succ : Int) (w : World) (hr1 : r1 < 32) (hMem : Hid (∀ W, Calls Tryz.prog 48 #[.int .i64 op] W fun e w' => e = .returned (.tuple #[.bool false, .bool false, .int .i64 0]) ∧ Below W.heap.size W w')) :
    Calls Tryz.prog 79 #[.agg (hartArr h), .agg #[.int .i64 op, .int .i64 d, .int .i64 r1, .int .i64 r2, .int .i64 imm, .bool aq, .bool rl, .int .i64 pred, .int .i64 succ]] w fun e w' => e = .returned (.tuple #[.int .u64 (un (h.x r1 + bv imm)), .int .i64 0]) ∧ Below w.heap.size w w' := by
  have hB0 := BK.start w h ⟨op, d, r1, r2, imm, aq, rl, pred, succ⟩ 47 26
  obtain ⟨_, _, _, c0, c1, c2, c3, c4, c5, c6, c7, c8⟩ := hB0.facts
  go_enter Tryz.func79, Tryz.ntmps79
  go_upto_region 2 with (go_at_call 48; refine (hMem.out _).mono ?_; rintro e w1 ⟨rfl, hb1⟩; have hB := hB0.keep hb1; clear hb1 hB0 c0 c1 c2 c3 c4 c5 c6 c7 c8; obtain ⟨_, _, _, c0, c1, c2, c3, c4, c5, c6, c7, c8⟩ := hB.facts)
  have x1 : w1.cell? ⟨w.heap.size, 1 + r1, none⟩ = some (.int .u64 (un (h.x r1))) := (hB.h (1 + r1) (by omega)).trans (congrArg some (hartCell_x h r1 hr1))
  have hlr : 0 ≤ (r1 : Int) ∧ (r1 : Int) < 32 := by omega
  go_quiet (fail)
  go_wp2
  go_ret2
  exact ⟨rfl, hB.bl.trans ⟨rfl, rfl, rfl, Nat.le_refl _, fun _ _ => rfl⟩⟩
set_option maxRecDepth 100000 in
set_option maxHeartbeats 4000000 in
theorem RTgt_q (h : HartV) (op : Int) (d r1 r2 : Nat) (imm : Int) (aq rl : Bool) (pred succ : Int) (w : World) (hr1 : r1 < 32) (hr2 : r2 < 32) (t3 : (op == 3) = false) (h4 : op ≠ 4) (tb : Bool) (te : Int) (t0 : (te == 0) = false) (hT : Hid (∀ W, Calls Tryz.prog 85 #[.int .i64 op, .int .u64 (un (h.x r1)), .int .u64 (un (h.x r2))] W fun e w' => e = .returned (.tuple #[.bool tb, .int .i64 te]) ∧ W = w')) :
    Calls Tryz.prog 49 #[.agg (hartArr h), .agg #[.int .i64 op, .int .i64 d, .int .i64 r1, .int .i64 r2, .int .i64 imm, .bool aq, .bool rl, .int .i64 pred, .int .i64 succ]] w fun e w' => e = .returned (.tuple #[.int .u64 (un (h.pc + 4#64)), .bool false]) ∧ Below w.heap.size w w' := by
  have hB0 := BK.start w h ⟨op, d, r1, r2, imm, aq, rl, pred, succ⟩ 47 26
  have hl1 : 0 ≤ (r1 : Int) ∧ (r1 : Int) < 32 := by omega
  have hl2 : 0 ≤ (r2 : Int) ∧ (r2 : Int) < 32 := by omega
  have t4 : (op == 4) = false := by rw [beq_eq_false_iff_ne]; exact h4
  clear h4
  have hund : ∀ b : Bool, (some undef = some (Value.bool b)) = False := fun b => by simp [undef]
  go_enter Tryz.func49, Tryz.ntmps49
  go_upto_region 1 with fail
  refine wp_region_held_drew (S := fun W => BK w h ⟨op, d, r1, r2, imm, aq, rl, pred, succ⟩ W) (by kernel_rfl) hB0.drew (fun hHeld => ?_)
  refine wpAnyH_take (i := 0) (v := .pointer (some ⟨(w.heap.size + 1), 0, none⟩)) rfl (by kernel_rfl) (by kernel_rfl) (by kernel_rfl) (fun _ _ _ h => h) (Or.inl ⟨by rfl, fun W _ => by kernel_rfl⟩) hHeld ?_
  try simp only [Act.put, List.getElem_toArray, List.getElem_cons_zero, List.setIfInBounds_toArray, List.set_cons_zero, List.set_cons_succ]
  refine wpAnyH_take (i := 1) (v := .int .i64 op) rfl (by kernel_rfl) (by kernel_rfl) (by kernel_rfl) (fun _ _ _ h => h) (Or.inl ⟨by rfl, fun W hS => by (have k : W.cell? ⟨(w.heap.size + 1), 0, none⟩ = some (.int .i64 op) := hS.c 0 (by decide)); go_simp⟩) hHeld ?_
  try simp only [Act.put, List.getElem_toArray, List.getElem_cons_succ, List.getElem_cons_zero, List.setIfInBounds_toArray, List.set_cons_zero, List.set_cons_succ]
  refine wpAnyH_take (i := 2) (v := .pointer (some ⟨(w.heap.size + 1), 2, none⟩)) rfl (by kernel_rfl) (by kernel_rfl) (by kernel_rfl) (fun _ _ _ h => h) (Or.inl ⟨by rfl, fun W _ => by kernel_rfl⟩) hHeld ?_
  try simp only [Act.put, List.getElem_toArray, List.getElem_cons_succ, List.getElem_cons_zero, List.setIfInBounds_toArray, List.set_cons_zero, List.set_cons_succ]
  refine wpAnyH_take (i := 3) (v := .int .i64 r1) rfl (by kernel_rfl) (by kernel_rfl) (by kernel_rfl) (fun _ _ _ h => h) (Or.inl ⟨by rfl, fun W hS => by (have k : W.cell? ⟨(w.heap.size + 1), 2, none⟩ = some (.int .i64 r1) := hS.c 2 (by decide)); go_simp⟩) hHeld ?_
  try simp only [Act.put, List.getElem_toArray, List.getElem_cons_succ, List.getElem_cons_zero, List.setIfInBounds_toArray, List.set_cons_zero, List.set_cons_succ]
  refine wpAnyH_take (i := 4) (v := .pointer (some ⟨w.heap.size, 1, none⟩)) rfl (by kernel_rfl) (by kernel_rfl) (by kernel_rfl) (fun _ _ _ h => h) (Or.inl ⟨by rfl, fun W _ => by kernel_rfl⟩) hHeld ?_
  try simp only [Act.put, List.getElem_toArray, List.getElem_cons_succ, List.getElem_cons_zero, List.setIfInBounds_toArray, List.set_cons_zero, List.set_cons_succ]
  refine wpAnyH_take (i := 5) (v := .pointer (some ⟨w.heap.size, 1 + r1, none⟩)) rfl (by kernel_rfl) (by kernel_rfl) (by kernel_rfl) (fun _ _ _ h => h) (Or.inl ⟨by rfl, fun W _ => by go_simp⟩) hHeld ?_
  try simp only [Act.put, List.getElem_toArray, List.getElem_cons_succ, List.getElem_cons_zero, List.setIfInBounds_toArray, List.set_cons_zero, List.set_cons_succ]
  refine wpAnyH_take (i := 6) (v := .int .u64 (un (h.x r1))) rfl (by kernel_rfl) (by kernel_rfl) (by kernel_rfl) (fun _ _ _ h => h) (Or.inl ⟨by rfl, fun W hS => by (have k : W.cell? ⟨w.heap.size, 1 + r1, none⟩ = some (.int .u64 (un (h.x r1))) := (hS.h (1 + r1) (by omega)).trans (congrArg some (hartCell_x h r1 hr1))); go_simp⟩) hHeld ?_
  try simp only [Act.put, List.getElem_toArray, List.getElem_cons_succ, List.getElem_cons_zero, List.setIfInBounds_toArray, List.set_cons_zero, List.set_cons_succ]
  refine wpAnyH_take (i := 7) (v := .pointer (some ⟨(w.heap.size + 1), 3, none⟩)) rfl (by kernel_rfl) (by kernel_rfl) (by kernel_rfl) (fun _ _ _ h => h) (Or.inl ⟨by rfl, fun W _ => by kernel_rfl⟩) hHeld ?_
  try simp only [Act.put, List.getElem_toArray, List.getElem_cons_succ, List.getElem_cons_zero, List.setIfInBounds_toArray, List.set_cons_zero, List.set_cons_succ]
  refine wpAnyH_take (i := 8) (v := .int .i64 r2) rfl (by kernel_rfl) (by kernel_rfl) (by kernel_rfl) (fun _ _ _ h => h) (Or.inl ⟨by rfl, fun W hS => by (have k : W.cell? ⟨(w.heap.size + 1), 3, none⟩ = some (.int .i64 r2) := hS.c 3 (by decide)); go_simp⟩) hHeld ?_
  try simp only [Act.put, List.getElem_toArray, List.getElem_cons_succ, List.getElem_cons_zero, List.setIfInBounds_toArray, List.set_cons_zero, List.set_cons_succ]
  refine wpAnyH_take (i := 9) (v := .pointer (some ⟨w.heap.size, 1, none⟩)) rfl (by kernel_rfl) (by kernel_rfl) (by kernel_rfl) (fun _ _ _ h => h) (Or.inl ⟨by rfl, fun W _ => by kernel_rfl⟩) hHeld ?_
  try simp only [Act.put, List.getElem_toArray, List.getElem_cons_succ, List.getElem_cons_zero, List.setIfInBounds_toArray, List.set_cons_zero, List.set_cons_succ]
  refine wpAnyH_take (i := 10) (v := .pointer (some ⟨w.heap.size, 1 + r2, none⟩)) rfl (by kernel_rfl) (by kernel_rfl) (by kernel_rfl) (fun _ _ _ h => h) (Or.inl ⟨by rfl, fun W _ => by go_simp⟩) hHeld ?_
  try simp only [Act.put, List.getElem_toArray, List.getElem_cons_succ, List.getElem_cons_zero, List.setIfInBounds_toArray, List.set_cons_zero, List.set_cons_succ]
  refine wpAnyH_take (i := 11) (v := .int .u64 (un (h.x r2))) rfl (by kernel_rfl) (by kernel_rfl) (by kernel_rfl) (fun _ _ _ h => h) (Or.inl ⟨by rfl, fun W hS => by (have k : W.cell? ⟨w.heap.size, 1 + r2, none⟩ = some (.int .u64 (un (h.x r2))) := (hS.h (1 + r2) (by omega)).trans (congrArg some (hartCell_x h r2 hr2))); go_simp⟩) hHeld ?_
  try simp only [Act.put, List.getElem_toArray, List.getElem_cons_succ, List.getElem_cons_zero, List.setIfInBounds_toArray, List.set_cons_zero, List.set_cons_succ]
  refine wpAnyH_ready (rs := [12]) (by kernel_rfl) (by simp) (AllReadyH.cons rfl (fun K hK2 => ?_) AllReadyH.nil)
  rw [if_pos (by rfl)]
  simp only [List.getElem_toArray, List.getElem_cons_succ, List.getElem_cons_zero]
  go_wp2_with (go_at_call 85; refine (hT.out _).mono ?_; rintro e wb ⟨rfl, rfl⟩)
  refine hK2.out _ _ (hHeld) (fun hHeld2 => ?_)
  clear hK2 K hHeld
  have hHeld := hHeld2
  clear hHeld2
  try simp only [Act.put, List.getElem_toArray, List.getElem_cons_succ, List.getElem_cons_zero, List.setIfInBounds_toArray, List.set_cons_zero, List.set_cons_succ]
  refine wpAnyH_take (i := 13) (v := .tuple #[.bool tb, .int .i64 te]) rfl (by kernel_rfl) (by kernel_rfl) (by kernel_rfl) (fun _ _ _ h => h) (Or.inl ⟨by rfl, fun W _ => by kernel_rfl⟩) hHeld ?_
  try simp only [Act.put, List.getElem_toArray, List.getElem_cons_succ, List.getElem_cons_zero, List.setIfInBounds_toArray, List.set_cons_zero, List.set_cons_succ]
  refine wpAnyH_take (i := 14) (v := .bool tb) rfl (by kernel_rfl) (by kernel_rfl) (by kernel_rfl) (fun _ _ _ h => h) (Or.inl ⟨by rfl, fun W _ => by kernel_rfl⟩) hHeld ?_
  try simp only [Act.put, List.getElem_toArray, List.getElem_cons_succ, List.getElem_cons_zero, List.setIfInBounds_toArray, List.set_cons_zero, List.set_cons_succ]
  refine wpAnyH_take (i := 15) (v := .int .i64 te) rfl (by kernel_rfl) (by kernel_rfl) (by kernel_rfl) (fun _ _ _ h => h) (Or.inl ⟨by rfl, fun W _ => by kernel_rfl⟩) hHeld ?_
  try simp only [Act.put, List.getElem_toArray, List.getElem_cons_succ, List.getElem_cons_zero, List.setIfInBounds_toArray, List.set_cons_zero, List.set_cons_succ]
  refine wpAnyH_take (i := 16) (v := .bool tb) rfl (by kernel_rfl) (by kernel_rfl) (by kernel_rfl) (fun _ _ _ h => h) (Or.inl ⟨by rfl, fun W _ => by kernel_rfl⟩) hHeld ?_
  try simp only [Act.put, List.getElem_toArray, List.getElem_cons_succ, List.getElem_cons_zero, List.setIfInBounds_toArray, List.set_cons_zero, List.set_cons_succ]
  refine wpAnyH_take (i := 17) (v := .int .i64 te) rfl (by kernel_rfl) (by kernel_rfl) (by kernel_rfl) (fun _ _ _ h => h) (Or.inl ⟨by rfl, fun W _ => by kernel_rfl⟩) hHeld ?_
  try simp only [Act.put, List.getElem_toArray, List.getElem_cons_succ, List.getElem_cons_zero, List.setIfInBounds_toArray, List.set_cons_zero, List.set_cons_succ]
  refine wpAnyH_done (by kernel_rfl) ?_ _
  have hB := hHeld
  clear hHeld hB0
  obtain ⟨-, -, -, c0, c1, c2, c3, c4, c5, c6, c7, c8⟩ := hB.facts
  generalize World.drew _ = W0 at hB c0 c1 c2 c3 c4 c5 c6 c7 c8 ⊢
  have pc0 : W0.cell? ⟨w.heap.size, 0, none⟩ = some (.int .u64 (un h.pc)) := hB.h 0 (by decide)
  go_wp2_with fail
  go_ret2
  exact ⟨rfl, by first | exact hB.bl | exact hB.bl.trans ⟨rfl, rfl, rfl, Nat.le_refl _, fun _ _ => rfl⟩⟩
set_option maxRecDepth 100000 in
set_option maxHeartbeats 4000000 in
theorem REnd_q (h : HartV) (op : Int) (d r1 r2 : Nat) (imm : Int) (aq rl : Bool) (pred succ : Int) (w : World) (x17 ad tw : BitVec 64) (z : Int) (h17 : Hid (h.x 17 = x17)) (hA : Hid (∀ W, Calls Tryz.prog 79 #[.agg (hartArr h), .agg #[.int .i64 op, .int .i64 d, .int .i64 r1, .int .i64 r2, .int .i64 imm, .bool aq, .bool rl, .int .i64 pred, .int .i64 succ]] W fun e w' => e = .returned (.tuple #[.int .u64 (un ad), .int .i64 z]) ∧ Below W.heap.size W w')) (hT : Hid (∀ W, Calls Tryz.prog 49 #[.agg (hartArr h), .agg #[.int .i64 op, .int .i64 d, .int .i64 r1, .int .i64 r2, .int .i64 imm, .bool aq, .bool rl, .int .i64 pred, .int .i64 succ]] W fun e w' => e = .returned (.tuple #[.int .u64 (un tw), .bool false]) ∧ Below W.heap.size W w')) (t65 : (op == 65) = false) (t64 : (op == 64) = false) (s0 : decide (0 < z) = false) :
    Calls Tryz.prog 45 #[.agg (hartArr h), .agg #[.int .i64 op, .int .i64 d, .int .i64 r1, .int .i64 r2, .int .i64 imm, .bool aq, .bool rl, .int .i64 pred, .int .i64 succ]] w fun e w' => e = .returned (.int .i64 0) ∧ Below w.heap.size w w' := by
  have hB0 := BK.start w h ⟨op, d, r1, r2, imm, aq, rl, pred, succ⟩ 47 26
  have hu := Tryz.underlying47
  have hund : ∀ b : Bool, (some undef = some (Value.bool b)) = False := fun b => by simp [undef]
  obtain ⟨rh, ri, x33, c0, c1, c2, c3, c4, c5, c6, c7, c8⟩ := hB0.facts
  go_enter Tryz.func45, Tryz.ntmps45
  go_wp2_with (first | (refine wpList_load_mid rfl 47 _ rfl w.heap.size 0 rfl (hartL h) _ rh hu rfl (size_hart _) ?_) | (go_at_call 79; refine (hA.out _).mono ?_; rintro e wa ⟨rfl, hba⟩; replace hB0 := hB0.keep hba; clear hba rh ri x33 c0 c1 c2 c3 c4 c5 c6 c7 c8; obtain ⟨rh, ri, x33, c0, c1, c2, c3, c4, c5, c6, c7, c8⟩ := hB0.facts) | (go_at_call 49; refine (hT.out _).mono ?_; rintro e wt ⟨rfl, hbt⟩; have hB := hB0.keep hbt; clear hbt rh ri x33 c0 c1 c2 c3 c4 c5 c6 c7 c8; obtain ⟨rh, ri, x33, c0, c1, c2, c3, c4, c5, c6, c7, c8⟩ := hB.facts; have k17 : wt.cell? ⟨w.heap.size, 18, none⟩ = some (.int .u64 (un x17)) := by rw [← h17.out]; exact hB.h 18 (by decide)))
  go_ret
  exact ⟨rfl, hB.bl⟩
set_option maxRecDepth 100000 in
set_option maxHeartbeats 8000000 in
theorem RStep_q (h : HartV) (op : Int) (d r1 r2 : Nat) (imm : Int) (aq rl : Bool) (pred succ : Int) (found : BitVec 64) (won : Bool) (w : World) (hr1 : r1 < 32) (hr2 : r2 < 32) (hd : d < 32) (v tn : BitVec 64) (tv : Bool) (hM : Hid (∀ W, Calls Tryz.prog 44 #[.agg (hartArr h), .agg #[.int .i64 op, .int .i64 d, .int .i64 r1, .int .i64 r2, .int .i64 imm, .bool aq, .bool rl, .int .i64 pred, .int .i64 succ]] W fun e w' => e = .returned (.int .i64 0) ∧ Below W.heap.size W w')) (hN : Hid (∀ W, Calls Tryz.prog 45 #[.agg (hartArr h), .agg #[.int .i64 op, .int .i64 d, .int .i64 r1, .int .i64 r2, .int .i64 imm, .bool aq, .bool rl, .int .i64 pred, .int .i64 succ]] W fun e w' => e = .returned (.int .i64 0) ∧ Below W.heap.size W w')) (hD : Hid (∀ W, Calls Tryz.prog 47 #[.int .i64 op, .int .u64 (un (h.x r1)), .int .u64 (un (bv imm))] W fun e w' => e = .returned (.tuple #[.int .u64 (un v), .int .i64 0]) ∧ Below W.heap.size W w')) (hMem : Hid (∀ W, Calls Tryz.prog 48 #[.int .i64 op] W fun e w' => e = .returned (.tuple #[.bool false, .bool false, .int .i64 0]) ∧ Below W.heap.size W w')) (hT : Hid (∀ W, Calls Tryz.prog 49 #[.agg (hartArr h), .agg #[.int .i64 op, .int .i64 d, .int .i64 r1, .int .i64 r2, .int .i64 imm, .bool aq, .bool rl, .int .i64 pred, .int .i64 succ]] W fun e w' => e = .returned (.tuple #[.int .u64 (un tn), .bool tv]) ∧ Below W.heap.size W w')) (hWr : Hid (∀ W, Calls Tryz.prog 50 #[.agg #[.int .i64 op, .int .i64 d, .int .i64 r1, .int .i64 r2, .int .i64 imm, .bool aq, .bool rl, .int .i64 pred, .int .i64 succ]] W fun e w' => e = .returned (.int .i64 d) ∧ Below W.heap.size W w')) (t8 : (rform op != 8) = true) (t69 : (op == 69) = false) (t3 : (op == 3) = false) (t4 : (op == 4) = false) (t2 : (op == 2) = false) :
    Calls Tryz.prog 19 #[.agg (hartArr h), .agg #[.int .i64 op, .int .i64 d, .int .i64 r1, .int .i64 r2, .int .i64 imm, .bool aq, .bool rl, .int .i64 pred, .int .i64 succ], .int .u64 (un found), .bool won] w fun e w' => e = .returned (.tuple #[.agg (hartArr (rgoneV h ⟨op, d, r1, r2, imm, aq, rl, pred, succ⟩ tn v)), .int .i64 0]) ∧ Below w.heap.size w w' := by
  have hE := RK.start w h ⟨op, d, r1, r2, imm, aq, rl, pred, succ⟩ 47 26 47
  obtain ⟨rh, c0, c1, c2, c3, c4, c5, c6, c7, c8⟩ := hE.facts
  have hu := Tryz.underlying47
  have hF := Lib.hid (fun W => R2Form_any op W)
  obtain ⟨qe, hqe⟩ : ∃ qe : Int, qe = 0 := ⟨_, rfl⟩
  have tE : (qe != 0) = false := by rw [hqe]; rfl
  rw [← hqe] at hD
  clear hqe
  generalize rform op = ff at hF t8
  have hund : ∀ b : Bool, (some undef = some (Value.bool b)) = False := fun b => by simp [undef]
  have hl1 : 0 ≤ (r1 : Int) ∧ (r1 : Int) < 32 := by omega
  have hl2 : 0 ≤ (r2 : Int) ∧ (r2 : Int) < 32 := by omega
  have hld : 0 ≤ (d : Int) ∧ (d : Int) < 32 := by omega
  go_enter Tryz.func19, Tryz.ntmps19
  go_upto_region 10 with (first | (refine wpList_load_mid rfl 47 _ rfl w.heap.size 0 rfl (hartL h) _ rh hu rfl (size_hart _) ?_) | (go_at_call 44; refine (hM.out _).mono ?_; rintro e wk ⟨rfl, hbk⟩; have hE9 := hE.keep hbk; clear hbk hE rh c0 c1 c2 c3 c4 c5 c6 c7 c8; have hE := hE9; clear hE9; obtain ⟨rh, c0, c1, c2, c3, c4, c5, c6, c7, c8⟩ := hE.facts) | (go_at_call 45; refine (hN.out _).mono ?_; rintro e wk ⟨rfl, hbk⟩; have hE9 := hE.keep hbk; clear hbk hE rh c0 c1 c2 c3 c4 c5 c6 c7 c8; have hE := hE9; clear hE9; obtain ⟨rh, c0, c1, c2, c3, c4, c5, c6, c7, c8⟩ := hE.facts))
  have x2 : wk.cell? ⟨w.heap.size, 1 + r2, none⟩ = some (.int .u64 (un (h.x r2))) := (hE.h (1 + r2) (by omega)).trans (congrArg some (hartCell_x h r2 hr2))
  go_upto_region 13 with (go_at_call 46; refine (hF.out _).mono ?_; rintro e wk ⟨rfl, rfl⟩; skip)
  clear x2 rh c0 c1 c2 c3 c4 c5 c6 c7 c8
  refine wp_region_held_drew (S := fun W => RK w h ⟨op, d, r1, r2, imm, aq, rl, pred, succ⟩ W) (by kernel_rfl) hE.drew (fun hHeld => ?_)
  refine wpAnyH_take (i := 0) (v := .pointer (some ⟨(w.heap.size + 1), 0, none⟩)) rfl (by kernel_rfl) (by kernel_rfl) (by kernel_rfl) (fun _ _ _ h => h) (Or.inl ⟨by rfl, fun W _ => by kernel_rfl⟩) hHeld ?_
  try simp only [Act.put, List.getElem_toArray, List.getElem_cons_zero, List.setIfInBounds_toArray, List.set_cons_zero, List.set_cons_succ]
  refine wpAnyH_take (i := 1) (v := .int .i64 op) rfl (by kernel_rfl) (by kernel_rfl) (by kernel_rfl) (fun _ _ _ h => h) (Or.inl ⟨by rfl, fun W hS => by (have k : W.cell? ⟨(w.heap.size + 1), 0, none⟩ = some (.int .i64 op) := (hS.c 0 (by decide))); go_simp⟩) hHeld ?_
  try simp only [Act.put, List.getElem_toArray, List.getElem_cons_succ, List.getElem_cons_zero, List.setIfInBounds_toArray, List.set_cons_zero, List.set_cons_succ]
  refine wpAnyH_take (i := 2) (v := .pointer (some ⟨(w.heap.size + 1), 2, none⟩)) rfl (by kernel_rfl) (by kernel_rfl) (by kernel_rfl) (fun _ _ _ h => h) (Or.inl ⟨by rfl, fun W _ => by kernel_rfl⟩) hHeld ?_
  try simp only [Act.put, List.getElem_toArray, List.getElem_cons_succ, List.getElem_cons_zero, List.setIfInBounds_toArray, List.set_cons_zero, List.set_cons_succ]
  refine wpAnyH_take (i := 3) (v := .int .i64 r1) rfl (by kernel_rfl) (by kernel_rfl) (by kernel_rfl) (fun _ _ _ h => h) (Or.inl ⟨by rfl, fun W hS => by (have k : W.cell? ⟨(w.heap.size + 1), 2, none⟩ = some (.int .i64 r1) := (hS.c 2 (by decide))); go_simp⟩) hHeld ?_
  try simp only [Act.put, List.getElem_toArray, List.getElem_cons_succ, List.getElem_cons_zero, List.setIfInBounds_toArray, List.set_cons_zero, List.set_cons_succ]
  refine wpAnyH_take (i := 4) (v := .pointer (some ⟨w.heap.size, 1, none⟩)) rfl (by kernel_rfl) (by kernel_rfl) (by kernel_rfl) (fun _ _ _ h => h) (Or.inl ⟨by rfl, fun W _ => by kernel_rfl⟩) hHeld ?_
  try simp only [Act.put, List.getElem_toArray, List.getElem_cons_succ, List.getElem_cons_zero, List.setIfInBounds_toArray, List.set_cons_zero, List.set_cons_succ]
  refine wpAnyH_take (i := 5) (v := .pointer (some ⟨w.heap.size, 1 + r1, none⟩)) rfl (by kernel_rfl) (by kernel_rfl) (by kernel_rfl) (fun _ _ _ h => h) (Or.inl ⟨by rfl, fun W _ => by go_simp⟩) hHeld ?_
  try simp only [Act.put, List.getElem_toArray, List.getElem_cons_succ, List.getElem_cons_zero, List.setIfInBounds_toArray, List.set_cons_zero, List.set_cons_succ]
  refine wpAnyH_take (i := 6) (v := .int .u64 (un (h.x r1))) rfl (by kernel_rfl) (by kernel_rfl) (by kernel_rfl) (fun _ _ _ h => h) (Or.inl ⟨by rfl, fun W hS => by (have k : W.cell? ⟨w.heap.size, 1 + r1, none⟩ = some (.int .u64 (un (h.x r1))) := (hS.h (1 + r1) (by omega)).trans (congrArg some (hartCell_x h r1 hr1))); go_simp⟩) hHeld ?_
  try simp only [Act.put, List.getElem_toArray, List.getElem_cons_succ, List.getElem_cons_zero, List.setIfInBounds_toArray, List.set_cons_zero, List.set_cons_succ]
  refine wpAnyH_take (i := 7) (v := .int .u64 (un (bv imm))) rfl (by kernel_rfl) (by kernel_rfl) (by kernel_rfl) (fun _ _ _ h => h) (Or.inl ⟨by rfl, fun W _ => by kernel_rfl⟩) hHeld ?_
  try simp only [Act.put, List.getElem_toArray, List.getElem_cons_succ, List.getElem_cons_zero, List.setIfInBounds_toArray, List.set_cons_zero, List.set_cons_succ]
  refine wpAnyH_ready (rs := [8]) (by kernel_rfl) (by simp) (AllReadyH.cons rfl (fun K hK2 => ?_) AllReadyH.nil)
  rw [if_pos (by rfl)]
  simp only [List.getElem_toArray, List.getElem_cons_succ, List.getElem_cons_zero]
  go_wp2_with (go_at_call 47; refine (hD.out _).mono ?_; rintro e wb ⟨rfl, hbb⟩)
  refine hK2.out _ _ (hHeld.keep hbb) (fun hHeld2 => ?_)
  clear hK2 K hHeld
  have hHeld := hHeld2
  clear hHeld2
  try simp only [Act.put, List.getElem_toArray, List.getElem_cons_succ, List.getElem_cons_zero, List.setIfInBounds_toArray, List.set_cons_zero, List.set_cons_succ]
  clear hbb
  refine wpAnyH_take (i := 9) (v := .tuple #[.int .u64 (un v), .int .i64 qe]) rfl (by kernel_rfl) (by kernel_rfl) (by kernel_rfl) (fun _ _ _ h => h) (Or.inl ⟨by rfl, fun W _ => by kernel_rfl⟩) hHeld ?_
  try simp only [Act.put, List.getElem_toArray, List.getElem_cons_succ, List.getElem_cons_zero, List.setIfInBounds_toArray, List.set_cons_zero, List.set_cons_succ]
  refine wpAnyH_take (i := 10) (v := .int .u64 (un v)) rfl (by kernel_rfl) (by kernel_rfl) (by kernel_rfl) (fun _ _ _ h => h) (Or.inl ⟨by rfl, fun W _ => by kernel_rfl⟩) hHeld ?_
  try simp only [Act.put, List.getElem_toArray, List.getElem_cons_succ, List.getElem_cons_zero, List.setIfInBounds_toArray, List.set_cons_zero, List.set_cons_succ]
  refine wpAnyH_take (i := 11) (v := .int .i64 qe) rfl (by kernel_rfl) (by kernel_rfl) (by kernel_rfl) (fun _ _ _ h => h) (Or.inl ⟨by rfl, fun W _ => by kernel_rfl⟩) hHeld ?_
  try simp only [Act.put, List.getElem_toArray, List.getElem_cons_succ, List.getElem_cons_zero, List.setIfInBounds_toArray, List.set_cons_zero, List.set_cons_succ]
  refine wpAnyH_take (i := 12) (v := .int .u64 (un v)) rfl (by kernel_rfl) (by kernel_rfl) (by kernel_rfl) (fun _ _ _ h => h) (Or.inl ⟨by rfl, fun W _ => by kernel_rfl⟩) hHeld ?_
  try simp only [Act.put, List.getElem_toArray, List.getElem_cons_succ, List.getElem_cons_zero, List.setIfInBounds_toArray, List.set_cons_zero, List.set_cons_succ]
  refine wpAnyH_take (i := 13) (v := .int .i64 qe) rfl (by kernel_rfl) (by kernel_rfl) (by kernel_rfl) (fun _ _ _ h => h) (Or.inl ⟨by rfl, fun W _ => by kernel_rfl⟩) hHeld ?_
  try simp only [Act.put, List.getElem_toArray, List.getElem_cons_succ, List.getElem_cons_zero, List.setIfInBounds_toArray, List.set_cons_zero, List.set_cons_succ]
  refine wpAnyH_done (by kernel_rfl) ?_ _
  have hE := hHeld
  clear hHeld hD
  skip
  obtain ⟨rh, c0, c1, c2, c3, c4, c5, c6, c7, c8⟩ := hE.facts
  have pc0 := hE.h 0 (by decide)
  rw [show hartCell h 0 = .int .u64 (un h.pc) from rfl] at pc0
  go_upto_region 28 with (first | (go_at_call 48; refine (hMem.out _).mono ?_; rintro e wk ⟨rfl, hbk⟩; have hE9 := hE.keep hbk; clear pc0; clear hbk hE rh c0 c1 c2 c3 c4 c5 c6 c7 c8; have hE := hE9; clear hE9; obtain ⟨rh, c0, c1, c2, c3, c4, c5, c6, c7, c8⟩ := hE.facts; have pc0 : wk.cell? ⟨w.heap.size, 0, none⟩ = some (.int .u64 (un h.pc)) := hE.h 0 (by decide)) | (go_at_call 47; refine (hD1.out _).mono ?_; rintro e wk ⟨rfl, hbk⟩; have hE9 := hE.keep hbk; clear pc0; clear hbk hE rh c0 c1 c2 c3 c4 c5 c6 c7 c8; have hE := hE9; clear hE9; obtain ⟨rh, c0, c1, c2, c3, c4, c5, c6, c7, c8⟩ := hE.facts; have pc0 : wk.cell? ⟨w.heap.size, 0, none⟩ = some (.int .u64 (un h.pc)) := hE.h 0 (by decide)))
  have z0 : wk.frozen? ⟨w.heap.size, 0, none⟩ = false := hE.hf 0 (by decide)
  go_upto_region 29 with (first | (refine wpList_load_mid rfl 47 _ rfl w.heap.size 0 rfl (hartL h) _ rh hu rfl (size_hart _) ?_) | (go_at_call 49; refine (hT.out _).mono ?_; rintro e wk ⟨rfl, hbk⟩; have hE9 := hE.keep hbk; clear pc0 z0; clear hbk hE rh c0 c1 c2 c3 c4 c5 c6 c7 c8; have hE := hE9; clear hE9; obtain ⟨rh, c0, c1, c2, c3, c4, c5, c6, c7, c8⟩ := hE.facts; have pc0 : wk.cell? ⟨w.heap.size, 0, none⟩ = some (.int .u64 (un h.pc)) := hE.h 0 (by decide); have z0 : wk.frozen? ⟨w.heap.size, 0, none⟩ = false := hE.hf 0 (by decide)))
  have hE9 := hE.put 0 (.int .u64 (un tn)) (hE.h.goes tn)
  clear hE pc0 z0 rh c0 c1 c2 c3 c4 c5 c6 c7 c8
  have hE := hE9
  clear hE9
  generalize World.setCell _ _ _ = u1 at hE ⊢
  obtain ⟨rh, c0, c1, c2, c3, c4, c5, c6, c7, c8⟩ := hE.facts
  go_upto_region 30 with (go_at_call 50; refine (hWr.out _).mono ?_; rintro e wk ⟨rfl, hbk⟩; have hE9 := hE.keep hbk; clear hbk hE rh c0 c1 c2 c3 c4 c5 c6 c7 c8; have hE := hE9; clear hE9; obtain ⟨rh, c0, c1, c2, c3, c4, c5, c6, c7, c8⟩ := hE.facts)
  by_cases hz : d = 0
  · have tz : decide (0 < (d : Int)) = false := by rw [decide_eq_false_iff_not]; omega
    have tz2 : decide (0 < d) = false := by rw [decide_eq_false_iff_not]; omega
    have hres : rgoneV h ⟨op, d, r1, r2, imm, aq, rl, pred, succ⟩ tn v = h.goes tn := if_pos (show (d : Int) = 0 by omega)
    replace hres := Lib.hid hres
    clear hz
    go_wp2_with (first | (refine wpList_load_mid rfl 47 _ rfl w.heap.size 0 rfl (hartL (h.goes tn)) _ rh hu rfl (size_hart _) ?_) | (refine wpList_store_mid rfl 47 _ _ rfl (w.heap.size + 2) 0 (hartL (h.goes tn)).toArray rfl rfl (there_hart hE.z _) (size_hartA _) (hartL_one _) ?_))
    have hr := World.rangeAt_setCells_same wk (w.heap.size + 2) 0 (hartL (h.goes tn)) (by rw [hartL_len]; exact hE.z)
    have hbl : Below w.heap.size w (World.setCells wk (w.heap.size + 2) 0 (hartL (h.goes tn))) := below_setCells (Nat.le_add_right _ _) (hartL (h.goes tn)) 0 wk hE.bl
    generalize World.setCells wk (w.heap.size + 2) 0 (hartL (h.goes tn)) = W5 at hr hbl ⊢
    have hlv := result_hart W5 (w.heap.size + 2) (h.goes tn) hr
    exact bodyPost_ret (v := .tuple #[.agg (hartL (h.goes tn)).toArray, .int .i64 0]) (by simp [results, Tryz.results19, asAddr, hlv]) rfl ⟨by rw [hres.out]; rfl, hbl⟩
  · have tz : decide (0 < (d : Int)) = true := by rw [decide_eq_true_iff]; omega
    have tz2 : decide (0 < d) = true := by rw [decide_eq_true_iff]; omega
    have hres : rgoneV h ⟨op, d, r1, r2, imm, aq, rl, pred, succ⟩ tn v = (h.goes tn).set d v := if_neg (show ¬ (d : Int) = 0 by omega)
    replace hres := Lib.hid hres
    clear hz
    have xd : wk.cell? ⟨w.heap.size, 1 + d, none⟩ = some (.int .u64 (un (h.x d))) := (hE.h (1 + d) (by omega)).trans (congrArg some (hartCell_x (h.goes tn) d hd))
    have zd : wk.frozen? ⟨w.heap.size, 1 + d, none⟩ = false := hE.hf (1 + d) (by omega)
    go_upto_region 32 with fail
    have hE9 := hE.put (1 + d) (.int .u64 (un v)) (hE.h.setX d hd v)
    clear hE xd zd rh c0 c1 c2 c3 c4 c5 c6 c7 c8
    have hE := hE9
    clear hE9
    generalize World.setCell _ _ _ = u2 at hE ⊢
    have rh := hE.h.range
    go_wp2_with (first | (refine wpList_load_mid rfl 47 _ rfl w.heap.size 0 rfl (hartL ((h.goes tn).set d v)) _ rh hu rfl (size_hart _) ?_) | (refine wpList_store_mid rfl 47 _ _ rfl (w.heap.size + 2) 0 (hartL ((h.goes tn).set d v)).toArray rfl rfl (there_hart hE.z _) (size_hartA _) (hartL_one _) ?_))
    have hr := World.rangeAt_setCells_same u2 (w.heap.size + 2) 0 (hartL ((h.goes tn).set d v)) (by rw [hartL_len]; exact hE.z)
    have hbl : Below w.heap.size w (World.setCells u2 (w.heap.size + 2) 0 (hartL ((h.goes tn).set d v))) := below_setCells (Nat.le_add_right _ _) (hartL ((h.goes tn).set d v)) 0 u2 hE.bl
    generalize World.setCells u2 (w.heap.size + 2) 0 (hartL ((h.goes tn).set d v)) = W5 at hr hbl ⊢
    have hlv := result_hart W5 (w.heap.size + 2) ((h.goes tn).set d v) hr
    exact bodyPost_ret (v := .tuple #[.agg (hartL ((h.goes tn).set d v)).toArray, .int .i64 0]) (by simp [results, Tryz.results19, asAddr, hlv]) rfl ⟨by rw [hres.out]; rfl, hbl⟩
set_option maxRecDepth 100000 in
theorem R2Writes_ok (i : InsnV) (hc : checkE i = 0) (w : World) :
    Calls Tryz.prog 50 #[.agg i.cells] w fun e w' => e = .returned (.int .i64 i.rd) ∧ Below w.heap.size w w' := by
  have hK := Lib.hid (fun W => R2Check_any i W)
  rw [hc] at hK
  clear hc
  obtain ⟨op, rd, r1, r2, imm, aq, rl, pred, succ⟩ := i
  have hz : ∀ w4, Below (w.alloc (.cells (InsnV.cells ⟨op, rd, r1, r2, imm, aq, rl, pred, succ⟩) 26)).heap.size (w.alloc (.cells (InsnV.cells ⟨op, rd, r1, r2, imm, aq, rl, pred, succ⟩) 26)) w4 → w4.cell? ⟨w.heap.size, 1, none⟩ = some (.int .i64 rd) := fun w4 hb => by
    rw [hb.cell (p := ⟨w.heap.size, 1, none⟩) (by simp), World.cell?_alloc_new]; rfl
  have hz := Lib.hid hz
  unfold InsnV.cells at *
  go_enter Tryz.func50, Tryz.ntmps50
  go_wp2_with (go_at_call 65; refine (hK.out _).mono ?_; rintro e w4 ⟨rfl, hb4⟩; have k1 := hz.out w4 hb4)
  go_ret
  exact ⟨rfl, ((Below.refl _ _).alloc (Nat.le_refl _) _).trans (hb4.mono (by simp))⟩
end
end Go.Proofs.YtcgflnkgekkidaaGreatDoor
namespace Go.Proofs.YtcgflnkgekkidaaGreatDoor
/-- What an instruction of a number makes of its register. -/
def execV (r : BitVec 64) (i : InsnV) : BitVec 64 :=
  if i.op = 1 then Short (bv i.imm <<< 12)
  else if i.op = 22 then (if i.rs1 = 0 then 0#64 else r) + bv i.imm
  else if i.op = 28 then r <<< 12
  else Short (r + bv i.imm)
theorem exec_lui (r : BitVec 64) (rd m : Int) : execV r ⟨1, rd, 0, 0, m, false, false, 0, 0⟩ = Short (bv m <<< 12) := rfl
theorem exec_addi0 (r : BitVec 64) (rd m : Int) : execV r ⟨22, rd, 0, 0, m, false, false, 0, 0⟩ = 0#64 + bv m := rfl
theorem exec_addi (r : BitVec 64) (rd m : Int) (h : rd ≠ 0) : execV r ⟨22, rd, rd, 0, m, false, false, 0, 0⟩ = r + bv m := by
  show (if rd = 0 then 0#64 else r) + bv m = _
  rw [if_neg h]
theorem exec_slli (r : BitVec 64) (rd : Int) : execV r ⟨28, rd, rd, 0, 12, false, false, 0, 0⟩ = r <<< 12 := rfl
theorem exec_addiw (r : BitVec 64) (rd m : Int) : execV r ⟨31, rd, rd, 0, m, false, false, 0, 0⟩ = Short (r + bv m) := rfl
/-- What an instruction of a number looks like. -/
def numOk (rd : Int) (i : InsnV) : Prop := (∃ m, Fits m 20 = true ∧ i = ⟨1, rd, 0, 0, m, false, false, 0, 0⟩) ∨ (∃ m, Fits m 12 = true ∧ i = ⟨22, rd, 0, 0, m, false, false, 0, 0⟩) ∨ (∃ m, Fits m 12 = true ∧ i = ⟨22, rd, rd, 0, m, false, false, 0, 0⟩) ∨ i = ⟨28, rd, rd, 0, 12, false, false, 0, 0⟩ ∨ (∃ m, Fits m 12 = true ∧ i = ⟨31, rd, rd, 0, m, false, false, 0, 0⟩)
theorem shl_sshr (z : BitVec 64) (k : Nat) (hk : k ≤ 64) : (z <<< k).sshiftRight k <<< k = z <<< k := by
  apply BitVec.eq_of_getLsbD_eq
  intro i hi
  rw [BitVec.getLsbD_shiftLeft, BitVec.getLsbD_sshiftRight, BitVec.getLsbD_shiftLeft]
  by_cases h : i < k
  · simp [h]
  · simp only [hi, h, decide_true, decide_false, Bool.not_false, Bool.true_and]
    rw [show k + (i - k) = i by omega, if_pos hi, BitVec.getLsbD_shiftLeft]
    simp [h, hi, show ¬ 64 ≤ i - k by omega]
theorem short_add (a b : BitVec 64) : Short (Short a + b) = Short (a + b) := by
  unfold Short Sign
  rw [show 64 - cl 32 = 32 by decide, BitVec.shiftLeft_add_distrib, shl_sshr _ _ (by decide), ← BitVec.shiftLeft_add_distrib]
theorem short_fit (x : BitVec 64) (h : Fits (sn x) 32 = true) : Short x = x := by
  unfold Fits at h
  rw [bv_sn, beq_iff_eq] at h
  exact BitVec.eq_of_toInt_eq h
theorem up_shl (x : BitVec 64) : upV x <<< 12 = x - restV x := by
  have hm := rest_mod x
  unfold upV
  have e : ∃ z : BitVec 64, x - restV x = z <<< 12 := by
    have e2 : sn (x - restV x) % 4096 = 0 := by
      unfold sn at *
      rw [BitVec.toInt_sub, Int.bmod_def]
      split <;> omega
    refine ⟨(x - restV x) >>> 12, ?_⟩
    apply BitVec.eq_of_toNat_eq
    unfold sn at e2
    rw [BitVec.toNat_shiftLeft, BitVec.toNat_ushiftRight, Nat.shiftLeft_eq, Nat.shiftRight_eq_div_pow]
    rw [BitVec.toInt_eq_toNat_cond] at e2
    have := (x - restV x).isLt
    generalize (x - restV x).toNat = N at *
    split at e2 <;> omega
  obtain ⟨z, hz⟩ := e
  rw [hz, shl_sshr _ _ (by decide)]
theorem sn_zero {x : BitVec 64} (h : sn x = 0) : x = 0#64 := BitVec.eq_of_toInt_eq (by unfold sn at h; rw [h]; rfl)
theorem up_back (x : BitVec 64) : upV x <<< 12 + restV x = x := by rw [up_shl, BitVec.sub_add_cancel]
/-- A number's instructions compute it. -/
theorem num_exec (rd : Int) (hrd : rd ≠ 0) : ∀ (f : Nat) (x r : BitVec 64), f ≤ 5 → -(2048 * (4096 ^ f : Nat) : Int) ≤ sn x → sn x ≤ 2048 * (4096 ^ f : Nat) → (numF (f + 1) rd x).foldl execV r = x := by
  have hstep : ∀ (f : Nat) (x r : BitVec 64), (Fits (sn x) 12 = false → (Fits (sn x) 32 && Fits (sn (upV x)) 20) = false → (numF f rd (upV x)).foldl execV r = upV x) → (numF (f + 1) rd x).foldl execV r = x := by
    intro f x r h
    rw [numF_S]
    unfold numS
    by_cases h1 : Fits (sn x) 12 = true
    · rw [if_pos h1]
      rw [List.foldl_cons, List.foldl_nil]
      rw [exec_addi0, BitVec.zero_add, bv_sn]
    rw [if_neg h1]
    by_cases h2 : (Fits (sn x) 32 && Fits (sn (upV x)) 20) = true
    · rw [if_pos h2]
      have h32 := short_fit x (Bool.and_eq_true_iff.1 h2).1
      by_cases h3 : sn (restV x) = 0
      · rw [if_pos h3]
        rw [List.foldl_cons, List.foldl_nil]
        rw [exec_lui, bv_sn, up_shl, sn_zero h3, BitVec.sub_zero, h32]
      · rw [if_neg h3]
        rw [List.foldl_cons, List.foldl_cons, List.foldl_nil]
        rw [exec_lui, exec_addiw, bv_sn, bv_sn, short_add, up_back, h32]
    rw [if_neg h2]
    have ih := h (by simpa using h1) (by simpa using h2)
    by_cases h3 : sn (restV x) = 0
    · rw [if_pos h3, List.foldl_append, ih, List.foldl_cons, List.foldl_nil]
      rw [exec_slli, up_shl, sn_zero h3, BitVec.sub_zero]
    · rw [if_neg h3, List.foldl_append, List.foldl_append, ih, List.foldl_cons, List.foldl_nil, List.foldl_cons, List.foldl_nil]
      rw [exec_slli, exec_addi _ _ _ hrd, bv_sn, up_back]
  intro f
  induction f with
  | zero =>
    intro x r _ h1 h2
    have e0 : ((4096 ^ 0 : Nat) : Int) = 1 := by decide
    rw [e0] at h1 h2
    refine hstep 0 x r fun b1 b2 => ?_
    have hx : sn x = 2048 := by
      rcases Int.lt_or_le (sn x) 2048 with h | h
      · rw [fits12 x (by omega) (by omega)] at b1; cases b1
      · omega
    have hx2 : x = 2048#64 := BitVec.eq_of_toInt_eq (by show sn x = _; rw [hx]; decide)
    subst hx2
    exact absurd b2 (by decide +kernel)
  | succ f ih =>
    intro x r hf h1 h2
    refine hstep (f + 1) x r fun b1 b2 => ?_
    have hpow : ((4096 ^ (f + 1) : Nat) : Int) = 4096 * ((4096 ^ f : Nat) : Int) := by rw [Nat.pow_succ, Int.natCast_mul]; generalize 4096 ^ f = q; omega
    rw [hpow] at h1 h2
    have hb := rest_bd x
    have ha := up_all x
    have hp : (1 : Int) ≤ ((4096 ^ f : Nat) : Int) := by have := Nat.one_le_pow f 4096 (by decide); generalize 4096 ^ f = q at this ⊢; omega
    by_cases h4 : f = 4
    · subst h4
      refine ih (upV x) r (by decide) ?_ ?_
      · have e4 : ((4096 ^ 4 : Nat) : Int) = 281474976710656 := by decide
        rw [e4]; omega
      · have e4 : ((4096 ^ 4 : Nat) : Int) = 281474976710656 := by decide
        rw [e4]; omega
    · have h3 : f ≤ 3 := by omega
      have hq : ((4096 ^ f : Nat) : Int) ≤ 68719476736 := by
        have := Nat.pow_le_pow_right (show 1 ≤ 4096 by decide) h3
        have e : (4096 : Nat) ^ 3 = 68719476736 := by decide
        rw [e] at this
        generalize 4096 ^ f = q at this ⊢
        omega
      generalize ((4096 ^ f : Nat) : Int) = m at *
      have he := up_eq x (by omega) (by omega)
      exact ih (upV x) r (by omega) (by omega) (by omega)
theorem num_execV (rd : Int) (hrd : rd ≠ 0) (x r : BitVec 64) : (numV rd x).foldl execV r = x := by
  have h := sn_lt x
  have e : ((4096 ^ 5 : Nat) : Int) = 1152921504606846976 := by decide
  exact num_exec rd hrd 5 x r (Nat.le_refl _) (by rw [e]; omega) (by rw [e]; omega)
theorem fits32 (v : Int) (h1 : -2147483648 ≤ v) (h2 : v ≤ 2147483647) : Fits v 32 = true := by
  unfold Fits Sign sn
  rw [show (64 - cl 32) = 32 by decide, BitVec.toInt_sshiftRight, beq_iff_eq, BitVec.toInt_shiftLeft]
  have e : (bv v).toNat = (v % 18446744073709551616).toNat := by
    unfold bv
    simp
  rw [e, Int.shiftRight_eq_div_pow]
  simp only [Int.bmod_def, Nat.shiftLeft_eq]
  omega
theorem fits20 (v : Int) (h1 : -524288 ≤ v) (h2 : v ≤ 524287) : Fits v 20 = true := by
  unfold Fits Sign sn
  rw [show (64 - cl 20) = 44 by decide, BitVec.toInt_sshiftRight, beq_iff_eq, BitVec.toInt_shiftLeft]
  have e : (bv v).toNat = (v % 18446744073709551616).toNat := by
    unfold bv
    simp
  rw [e, Int.shiftRight_eq_div_pow]
  simp only [Int.bmod_def, Nat.shiftLeft_eq]
  omega
theorem num_len2 (f : Nat) (rd : Int) (x : BitVec 64) (h1 : -134217728 ≤ sn x) (h2 : sn x ≤ 134217728) : (numF (f + 1) rd x).length ≤ 2 := by
  have hb := rest_bd x
  have he := up_eq x (by omega) (by omega)
  rw [numF_S]
  unfold numS
  by_cases h : Fits (sn x) 12 = true
  · rw [if_pos h]; simp
  · rw [if_neg h, if_pos (by rw [fits32 _ (by omega) (by omega), fits20 _ (by omega) (by omega)]; rfl)]
    split <;> simp
theorem num_lenS (f : Nat) (rd : Int) (x : BitVec 64) (m : Nat) (hm : 2 ≤ m) (h : (numF f rd (upV x)).length ≤ m) : (numF (f + 1) rd x).length ≤ m + 2 := by
  rw [numF_S]
  unfold numS
  repeat' split
  all_goals simp only [List.length_append, List.length_cons, List.length_nil]
  all_goals omega
/-- At most eight. -/
theorem num_len8 (rd : Int) (x : BitVec 64) : (numV rd x).length ≤ 8 := by
  have b1 := up_all x
  have r1 := rest_bd (upV x)
  have e1 := up_eq (upV x) (by omega) (by omega)
  have r2 := rest_bd (upV (upV x))
  have e2 := up_eq (upV (upV x)) (by omega) (by omega)
  exact num_lenS 5 rd x 6 (by decide) (num_lenS 4 rd _ 4 (by decide) (num_lenS 3 rd _ 2 (by decide) (num_len2 2 rd _ (by omega) (by omega))))
theorem num_pos (rd : Int) (x : BitVec 64) : 1 ≤ (numV rd x).length := by
  unfold numV
  rw [numF_S]
  unfold numS
  repeat' split
  all_goals simp only [List.length_append, List.length_cons, List.length_nil]
  all_goals omega
theorem fit_rest (x : BitVec 64) : Fits (sn (restV x)) 12 = true := fits12 _ (rest_bd x).1 (rest_bd x).2
theorem num_ok (rd : Int) : ∀ (f : Nat) (x : BitVec 64), ∀ i ∈ numF f rd x, numOk rd i
  | 0, _, i, h => by cases h
  | f + 1, x, i, h => by
    have ih := num_ok rd f (upV x) i
    unfold numF at h
    by_cases h1 : Fits (sn x) 12 = true
    · rw [if_pos h1] at h
      obtain rfl := List.mem_singleton.1 h
      exact .inr (.inl ⟨_, h1, rfl⟩)
    rw [if_neg h1] at h
    by_cases h2 : (Fits (sn x) 32 && Fits (sn (upV x)) 20) = true
    · rw [if_pos h2] at h
      have h20 := (Bool.and_eq_true_iff.1 h2).2
      by_cases h3 : sn (restV x) = 0
      · rw [if_pos h3] at h
        obtain rfl := List.mem_singleton.1 h
        exact .inl ⟨_, h20, rfl⟩
      · rw [if_neg h3] at h
        simp only [List.mem_cons, List.not_mem_nil, or_false] at h
        rcases h with rfl | rfl
        · exact .inl ⟨_, h20, rfl⟩
        · exact .inr (.inr (.inr (.inr ⟨_, fit_rest x, rfl⟩)))
    rw [if_neg h2] at h
    by_cases h3 : sn (restV x) = 0
    · rw [if_pos h3, List.mem_append] at h
      rcases h with h | h
      · exact ih h
      · obtain rfl := List.mem_singleton.1 h
        exact .inr (.inr (.inr (.inl rfl)))
    · rw [if_neg h3, List.mem_append, List.mem_append] at h
      rcases h with (h | h) | h
      · exact ih h
      · obtain rfl := List.mem_singleton.1 h
        exact .inr (.inr (.inr (.inl rfl)))
      · obtain rfl := List.mem_singleton.1 h
        exact .inr (.inr (.inl ⟨_, fit_rest x, rfl⟩))
end Go.Proofs.YtcgflnkgekkidaaGreatDoor
