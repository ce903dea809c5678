/- The walks of alu.Takes and alu.Amo: whether a branch is taken, what an amo stores. Conditions: none. -/
import Derived.Test.YthoohbefncjkmaaDoorAluDo
import Derived.Lib.MinMax
namespace Go.Proofs.YthoohbefncjkmaaDoor
open Go.RowKit
def takesF (op : Int) (a b : BitVec 64) : Bool :=
  if op = 5 then un a == un b else if op = 6 then un a != un b else if op = 7 then decide (sn a < sn b) else if op = 8 then decide (sn b ≤ sn a)
  else if op = 9 then decide (un a < un b) else if op = 10 then decide (un b ≤ un a) else false
def takesE (op : Int) : Int := if 5 ≤ op ∧ op ≤ 10 then 0 else 2
def amoF : Nat → BitVec 64 → BitVec 64 → BitVec 64
  | 0, _, b => b
  | 1, a, b => a + b
  | 2, a, b => a ^^^ b
  | 3, a, b => a &&& b
  | 4, a, b => a ||| b
  | 5, a, b => if sn b < sn a then b else a
  | 6, a, b => if sn a < sn b then b else a
  | 7, a, b => if un b < un a then b else a
  | 8, a, b => if un a < un b then b else a
  | _, _, _ => 0#64
def amoOp (op : Int) (a b : BitVec 64) : BitVec 64 :=
  if 79 ≤ op ∧ op ≤ 87 then amoF (op - 79).toNat a b
  else if 77 ≤ op ∧ op ≤ 78 then Short (amoF (op - 70).toNat (Low a 32) (Low b 32))
  else if 70 ≤ op ∧ op ≤ 76 then Short (amoF (op - 70).toNat (Short a) (Short b))
  else 0#64
def amoE (op : Int) : Int := if 70 ≤ op ∧ op ≤ 87 then 0 else 2
attribute [local go_sem] wrap_u64_bv bv_un bv_sn bv_add bv_mul bv_neg bv_sub mul_bvpow shr_min shl_min sshr_min bv_lit bv_0 bv_1 un_shr sn_shr wrap_i64_un bits_u64_and bits_u64_or bits_u64_xor bits_u64_andNot bv_max u64_unsigned
theorem un_zero : un 0#64 = 0 := rfl
section
attribute [local irreducible] un sn
theorem amo0_any (a b : BitVec 64) (w : World) : Calls Tryd.prog 69 #[.int .u64 (un a), .int .u64 (un b)] w fun e w' => e = .returned (.int .u64 (un (amoF 0 a b))) ∧ w = w' := by
  go_enter Tryd.func69, Tryd.ntmps69
  go_wp2
  go_ret
  exact ⟨rfl, rfl⟩
theorem amo1_any (a b : BitVec 64) (w : World) : Calls Tryd.prog 70 #[.int .u64 (un a), .int .u64 (un b)] w fun e w' => e = .returned (.int .u64 (un (amoF 1 a b))) ∧ w = w' := by
  go_enter Tryd.func70, Tryd.ntmps70
  go_wp2
  go_ret
  exact ⟨rfl, rfl⟩
theorem amo2_any (a b : BitVec 64) (w : World) : Calls Tryd.prog 71 #[.int .u64 (un a), .int .u64 (un b)] w fun e w' => e = .returned (.int .u64 (un (amoF 2 a b))) ∧ w = w' := by
  go_enter Tryd.func71, Tryd.ntmps71
  go_wp2
  go_ret
  exact ⟨rfl, rfl⟩
theorem amo3_any (a b : BitVec 64) (w : World) : Calls Tryd.prog 72 #[.int .u64 (un a), .int .u64 (un b)] w fun e w' => e = .returned (.int .u64 (un (amoF 3 a b))) ∧ w = w' := by
  go_enter Tryd.func72, Tryd.ntmps72
  go_wp2
  go_ret
  exact ⟨rfl, rfl⟩
theorem amo4_any (a b : BitVec 64) (w : World) : Calls Tryd.prog 73 #[.int .u64 (un a), .int .u64 (un b)] w fun e w' => e = .returned (.int .u64 (un (amoF 4 a b))) ∧ w = w' := by
  go_enter Tryd.func73, Tryd.ntmps73
  go_wp2
  go_ret
  exact ⟨rfl, rfl⟩
theorem amo5_any (a b : BitVec 64) (w : World) : Calls Tryd.prog 74 #[.int .u64 (un a), .int .u64 (un b)] w fun e w' => e = .returned (.int .u64 (un (amoF 5 a b))) ∧ w = w' := by
  have hF : Hid (amoF 5 a b = if sn b < sn a then b else a) := Lib.hid rfl
  by_cases h : sn b < sn a
  · have hm : min (sn a) (sn b) = sn b := by omega
    go_enter Tryd.func74, Tryd.ntmps74
    go_wp2
    go_ret
    exact ⟨ret_int (by rw [hF.out, if_pos h] <;> rfl), rfl⟩
  · have hm : min (sn a) (sn b) = sn a := by omega
    go_enter Tryd.func74, Tryd.ntmps74
    go_wp2
    go_ret
    exact ⟨ret_int (by rw [hF.out, if_neg (Int.not_lt.2 h)] <;> rfl), rfl⟩
theorem amo6_any (a b : BitVec 64) (w : World) : Calls Tryd.prog 75 #[.int .u64 (un a), .int .u64 (un b)] w fun e w' => e = .returned (.int .u64 (un (amoF 6 a b))) ∧ w = w' := by
  have hF : Hid (amoF 6 a b = if sn a < sn b then b else a) := Lib.hid rfl
  by_cases h : sn a < sn b
  · have hm : max (sn a) (sn b) = sn b := by omega
    go_enter Tryd.func75, Tryd.ntmps75
    go_wp2
    go_ret
    exact ⟨ret_int (by rw [hF.out, if_pos h] <;> rfl), rfl⟩
  · have hm : max (sn a) (sn b) = sn a := by omega
    go_enter Tryd.func75, Tryd.ntmps75
    go_wp2
    go_ret
    exact ⟨ret_int (by rw [hF.out, if_neg (Int.not_lt.2 h)] <;> rfl), rfl⟩
theorem amo7_any (a b : BitVec 64) (w : World) : Calls Tryd.prog 76 #[.int .u64 (un a), .int .u64 (un b)] w fun e w' => e = .returned (.int .u64 (un (amoF 7 a b))) ∧ w = w' := by
  have hF : Hid (amoF 7 a b = if un b < un a then b else a) := Lib.hid rfl
  by_cases h : un b < un a
  · have hm : min (un a) (un b) = un b := by omega
    go_enter Tryd.func76, Tryd.ntmps76
    go_wp2
    go_ret
    exact ⟨ret_int (by rw [hF.out, if_pos h] <;> rfl), rfl⟩
  · have hm : min (un a) (un b) = un a := by omega
    go_enter Tryd.func76, Tryd.ntmps76
    go_wp2
    go_ret
    exact ⟨ret_int (by rw [hF.out, if_neg (Int.not_lt.2 h)] <;> rfl), rfl⟩
theorem amo8_any (a b : BitVec 64) (w : World) : Calls Tryd.prog 77 #[.int .u64 (un a), .int .u64 (un b)] w fun e w' => e = .returned (.int .u64 (un (amoF 8 a b))) ∧ w = w' := by
  have hF : Hid (amoF 8 a b = if un a < un b then b else a) := Lib.hid rfl
  by_cases h : un a < un b
  · have hm : max (un a) (un b) = un b := by omega
    go_enter Tryd.func77, Tryd.ntmps77
    go_wp2
    go_ret
    exact ⟨ret_int (by rw [hF.out, if_pos h] <;> rfl), rfl⟩
  · have hm : max (un a) (un b) = un a := by omega
    go_enter Tryd.func77, Tryd.ntmps77
    go_wp2
    go_ret
    exact ⟨ret_int (by rw [hF.out, if_neg (Int.not_lt.2 h)] <;> rfl), rfl⟩
theorem amos_op (p : Nat) (h2 : p ≤ 8) (a b : BitVec 64) (w : World) :
    Calls Tryd.prog (amosFn p) #[.int .u64 (un a), .int .u64 (un b)] w fun e w' => e = .returned (.int .u64 (un (amoF p a b))) ∧ w = w' := by
  have hp : p = 0 ∨ p = 1 ∨ p = 2 ∨ p = 3 ∨ p = 4 ∨ p = 5 ∨ p = 6 ∨ p = 7 ∨ p = 8 := by omega
  rcases hp with rfl | rfl | rfl | rfl | rfl | rfl | rfl | rfl | rfl
  · exact amo0_any a b w
  · exact amo1_any a b w
  · exact amo2_any a b w
  · exact amo3_any a b w
  · exact amo4_any a b w
  · exact amo5_any a b w
  · exact amo6_any a b w
  · exact amo7_any a b w
  · exact amo8_any a b w
theorem Takes_any (op : Int) (a b : BitVec 64) (w : World) :
    Calls Tryd.prog 18 #[.int .i64 op, .int .u64 (un a), .int .u64 (un b)] w fun e w' => e = .returned (.tuple #[.bool (takesF op a b), .int .i64 (takesE op)]) ∧ w = w' := by
  have hF : Hid (takesF op a b = if op = 5 then un a == un b else if op = 6 then un a != un b else if op = 7 then decide (sn a < sn b) else if op = 8 then decide (sn b ≤ sn a) else if op = 9 then decide (un a < un b) else if op = 10 then decide (un b ≤ un a) else false) := Lib.hid rfl
  have hE : Hid (takesE op = if 5 ≤ op ∧ op ≤ 10 then 0 else 2) := Lib.hid rfl
  by_cases h : 5 ≤ op ∧ op ≤ 10
  · have hx : op = 5 ∨ op = 6 ∨ op = 7 ∨ op = 8 ∨ op = 9 ∨ op = 10 := by omega
    clear h
    rcases hx with rfl | rfl | rfl | rfl | rfl | rfl
    all_goals
      go_enter Tryd.func18, Tryd.ntmps18
      go_wp2
      all_goals
        go_ret2
        exact ⟨by rw [hF.out, hE.out]; simp; try omega, rfl⟩
  · have hE' := Lib.hid (hE.out.trans (if_neg h))
    have t5 : (op == 5) = false := by rw [beq_eq_false_iff_ne]; omega
    have t6 : (op == 6) = false := by rw [beq_eq_false_iff_ne]; omega
    have t7 : (op == 7) = false := by rw [beq_eq_false_iff_ne]; omega
    have t8 : (op == 8) = false := by rw [beq_eq_false_iff_ne]; omega
    have t9 : (op == 9) = false := by rw [beq_eq_false_iff_ne]; omega
    have t10 : (op == 10) = false := by rw [beq_eq_false_iff_ne]; omega
    have hF' : Hid (takesF op a b = false) := Lib.hid (by rw [hF.out, if_neg (by omega), if_neg (by omega), if_neg (by omega), if_neg (by omega), if_neg (by omega), if_neg (by omega)])
    clear hE hF h
    go_enter Tryd.func18, Tryd.ntmps18
    go_wp2
    go_ret2
    exact ⟨by rw [hF'.out, hE'.out] <;> rfl, rfl⟩
set_option maxHeartbeats 1000000 in
theorem Amo_any (op : Int) (a b : BitVec 64) (w : World) :
    Calls Tryd.prog 20 #[.int .i64 op, .int .u64 (un a), .int .u64 (un b)] w fun e w' => e = .returned (.tuple #[.int .u64 (un (amoOp op a b)), .int .i64 (amoE op)]) ∧ w = w' := by
  by_cases h1 : 79 ≤ op ∧ op ≤ 87
  · obtain ⟨k, hk⟩ : ∃ k : Nat, op = 79 + (k : Int) := ⟨(op - 79).toNat, by omega⟩
    have hF : Hid (amoOp op a b = amoF k a b) := Lib.hid (by unfold amoOp; rw [if_pos h1, hk]; congr 1; omega)
    have hE : Hid (amoE op = 0) := Lib.hid (by unfold amoE; rw [if_pos (by omega)])
    have hk8 : k ≤ 8 := by omega
    have hw : IntKind.i64.wrap (op - 79) = (k : Int) := by rw [hk, show 79 + (k : Int) - 79 = k by omega]; exact IntWalk.i64_in _ (by omega)
    have hD := Lib.hid (fun w => amos_any k (Nat.zero_le _) hk8 w)
    have hcf := amos_call k (Nat.zero_le _) hk8
    have hop := Lib.hid (fun a b w => amos_op k hk8 a b w)
    have g1 : 79 ≤ op := h1.1
    have g2 : op ≤ 87 := h1.2
    clear h1 hk hk8
    go_enter Tryd.func20, Tryd.ntmps20
    go_wp2_with (go_at_call 32; (with_reducible refine (hD.out _).mono ?_); rintro e w' ⟨rfl, rfl⟩)
    refine (hop.out _ _ _).mono ?_
    rintro e w' ⟨rfl, rfl⟩
    go_wp2
    go_ret2
    exact ⟨by rw [hF.out, hE.out] <;> rfl, rfl⟩
  · by_cases h2 : 70 ≤ op ∧ op ≤ 78
    · obtain ⟨k, hk⟩ : ∃ k : Nat, op = 70 + (k : Int) := ⟨(op - 70).toNat, by omega⟩
      have hE : Hid (amoE op = 0) := Lib.hid (by unfold amoE; rw [if_pos (by omega)])
      have hk8 : k ≤ 8 := by omega
      have hw : IntKind.i64.wrap (op - 70) = (k : Int) := by rw [hk, show 70 + (k : Int) - 70 = k by omega]; exact IntWalk.i64_in _ (by omega)
      have hD := Lib.hid (fun w => amos_any k (Nat.zero_le _) hk8 w)
      have hcf := amos_call k (Nat.zero_le _) hk8
      have hop := Lib.hid (fun a b w => amos_op k hk8 a b w)
      have g1 : op < 79 := by omega
      have g2 : 70 ≤ op := h2.1
      have g3 : op ≤ 78 := h2.2
      have h1' := Lib.hid h1
      have hk' := Lib.hid hk
      by_cases h3 : 77 ≤ op
      · have hF : Hid (amoOp op a b = Short (amoF k (Low a 32) (Low b 32))) := Lib.hid (by unfold amoOp; rw [if_neg h1, if_pos ⟨h3, g3⟩, hk]; congr 2; omega)
        clear h1 hk hk8 h2
        go_enter Tryd.func20, Tryd.ntmps20
        go_wp2_with (first | (go_at_call 32; (with_reducible refine (hD.out _).mono ?_); rintro e w' ⟨rfl, rfl⟩) | (go_at_call 28; (with_reducible refine (Short_any _ _).mono ?_); rintro e w' ⟨rfl, rfl⟩) | (go_at_call 33; (with_reducible refine (unsigned_any _ _).mono ?_); rintro e w' ⟨rfl, rfl⟩))
        refine (hop.out _ _ _).mono ?_
        rintro e w' ⟨rfl, rfl⟩
        go_wp2_with (go_at_call 28; (with_reducible refine (Short_any _ _).mono ?_); rintro e w' ⟨rfl, rfl⟩)
        go_ret2
        exact ⟨by rw [hF.out, hE.out] <;> rfl, rfl⟩
      · have hF : Hid (amoOp op a b = Short (amoF k (Short a) (Short b))) := Lib.hid (by unfold amoOp; rw [if_neg h1, if_neg (by omega), if_pos (by omega), hk]; congr 2; omega)
        clear h1 hk hk8 h2
        have h3' : op < 77 := by omega
        clear h3
        go_enter Tryd.func20, Tryd.ntmps20
        go_wp2_with (first | (go_at_call 32; (with_reducible refine (hD.out _).mono ?_); rintro e w' ⟨rfl, rfl⟩) | (go_at_call 28; (with_reducible refine (Short_any _ _).mono ?_); rintro e w' ⟨rfl, rfl⟩))
        refine (hop.out _ _ _).mono ?_
        rintro e w' ⟨rfl, rfl⟩
        go_wp2_with (go_at_call 28; (with_reducible refine (Short_any _ _).mono ?_); rintro e w' ⟨rfl, rfl⟩)
        go_ret2
        exact ⟨by rw [hF.out, hE.out] <;> rfl, rfl⟩
    · have hF : Hid (amoOp op a b = 0#64) := Lib.hid (by unfold amoOp; rw [if_neg h1, if_neg (by omega), if_neg (by omega)])
      have hE : Hid (amoE op = 2) := Lib.hid (by unfold amoE; rw [if_neg (by omega)])
      have hx : op < 70 ∨ 87 < op := by omega
      clear h1 h2
      rcases hx with hx | hx
      all_goals
        go_enter Tryd.func20, Tryd.ntmps20
        go_wp2
        go_ret2
        exact ⟨by rw [hF.out, hE.out, un_zero] <;> rfl, rfl⟩
end
end Go.Proofs.YthoohbefncjkmaaDoor
