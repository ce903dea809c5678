/- The statements' own examples of alu, and the walk of do: lives answers true. Conditions: the library's table of ASCII spaces lies as its initialiser lays it. -/
import Derived.Test.YthoohbefncjkmaaDoorAluDo
namespace Go.Proofs.YthoohbefncjkmaaDoor
open Go.RowKit
attribute [local go_sem] wrap_u64_bv bv_un bv_sn bv_add bv_mul bv_neg bv_sub mul_bvpow shr_min shl_min sshr_min bv_lit bv_0 bv_1 un_shr sn_shr wrap_i64_un bits_u64_and bits_u64_or bits_u64_xor bits_u64_andNot bv_max u64_unsigned
/-- A later world, in which the table still lies. -/
structure TB (w0 w : World) : Prop where
  below : Below w0.heap.size w0 w
  tabs : Tabs w
theorem TB.refl {w : World} (h : Tabs w) : TB w w := ⟨Below.refl _ _, h⟩
theorem TB.later {w0 w w' : World} (h : TB w0 w) (hb : Below w.heap.size w w') : TB w0 w' :=
  ⟨h.below.trans (hb.mono h.below.size), h.tabs.later hb (Nat.le_refl _)⟩
theorem TB.drew {w0 w : World} (h : TB w0 w) : TB w0 w.drew := h.later ((Below.refl _ _).drew)
theorem TB.drewN {w0 w : World} (h : TB w0 w) (n : Nat) : TB w0 (w.drewN n) := h.later ⟨rfl, rfl, rfl, Nat.le_refl _, fun _ _ => rfl⟩
theorem do_tb (w0 : World) (op : Int) (hn : op ≤ 9223372036854775807) (a b : BitVec 64) (w : World) (ht : TB w0 w) :
    Calls Tryd.prog 11 #[.int .i64 op, .int .u64 (un a), .int .u64 (un b)] w fun e w' => e = .returned (.int .u64 (un (doF op a b))) ∧ TB w0 w' := by
  have hD := Lib.hid (Do_any op hn a b w ht.tabs)
  have ht' := Lib.hid ht
  clear ht
  go_enter Tryd.func11, Tryd.ntmps11
  go_wp2_with (go_at_call 16; refine hD.out.mono ?_; rintro e w1 ⟨rfl, hb⟩)
  go_ret
  exact ⟨rfl, ht'.out.later hb⟩
theorem do_num (w0 : World) (op A B R : Int) (w : World) (ht : TB w0 w) (h : (decide (op ≤ 9223372036854775807) && decide (0 ≤ A ∧ A < 18446744073709551616) && decide (0 ≤ B ∧ B < 18446744073709551616) && un (doF op (bv A) (bv B)) == R) = true) :
    Calls Tryd.prog 11 #[.int .i64 op, .int .u64 A, .int .u64 B] w fun e w' => e = .returned (.int .u64 R) ∧ TB w0 w' := by
  simp only [Bool.and_eq_true, decide_eq_true_eq, beq_iff_eq] at h
  have := do_tb w0 op h.1.1.1 (bv A) (bv B) w ht
  rw [un_bv A h.1.1.2, un_bv B h.1.2, h.2] at this; exact this
theorem below_any (x : BitVec 64) (w : World) :
    Calls Tryd.prog 19 #[.int .u64 (un x)] w fun e w' => e = .returned (.int .u64 (un (-x))) ∧ w = w' := by
  go_enter Tryd.func19, Tryd.ntmps19
  go_wp2
  go_ret
  exact ⟨rfl, rfl⟩
theorem below_num (A R : Int) (w : World) (h : (decide (0 ≤ A ∧ A < 18446744073709551616) && un (-bv A) == R) = true) :
    Calls Tryd.prog 19 #[.int .u64 A] w fun e w' => e = .returned (.int .u64 R) ∧ w = w' := by
  simp only [Bool.and_eq_true, decide_eq_true_eq, beq_iff_eq] at h
  have := below_any (bv A) w
  rw [un_bv A h.1, h.2] at this; exact this
set_option maxHeartbeats 1000000 in
theorem lives_any (w : World) (ht : Tabs w) :
    Calls Tryd.prog 10 #[] w fun e w' => e = .returned (.bool true) ∧ TB w w' := by
  have ht0 := TB.refl ht
  clear ht
  go_enter Tryd.func10, Tryd.ntmps10
  go_wp2_with (first | (go_at_call 19; (with_reducible refine (below_num 7 18446744073709551609 _ (by decide +kernel)).mono ?_); rintro e w' ⟨rfl, rfl⟩) | (go_at_call 19; (with_reducible refine (below_num 3 18446744073709551613 _ (by decide +kernel)).mono ?_); rintro e w' ⟨rfl, rfl⟩) | (go_at_call 19; (with_reducible refine (below_num 1 18446744073709551615 _ (by decide +kernel)).mono ?_); rintro e w' ⟨rfl, rfl⟩) | (go_at_call 11; (with_reducible refine (do_num w 54 18446744073709551609 2 18446744073709551613 _ (by assumption) (by decide +kernel)).mono ?_); rintro e w' ⟨rfl, hT⟩) | (go_at_call 11; (with_reducible refine (do_num w 56 18446744073709551609 2 18446744073709551615 _ (by assumption) (by decide +kernel)).mono ?_); rintro e w' ⟨rfl, hT⟩) | (go_at_call 11; (with_reducible refine (do_num w 55 5 0 18446744073709551615 _ (by assumption) (by decide +kernel)).mono ?_); rintro e w' ⟨rfl, hT⟩) | (go_at_call 11; (with_reducible refine (do_num w 56 5 0 5 _ (by assumption) (by decide +kernel)).mono ?_); rintro e w' ⟨rfl, hT⟩) | (go_at_call 11; (with_reducible refine (do_num w 49 2147483648 4 18446744073575333888 _ (by assumption) (by decide +kernel)).mono ?_); rintro e w' ⟨rfl, hT⟩) | (go_at_call 11; (with_reducible refine (do_num w 53 9223372036854775808 4 2 _ (by assumption) (by decide +kernel)).mono ?_); rintro e w' ⟨rfl, hT⟩))
  go_ret
  exact ⟨rfl, by assumption⟩
end Go.Proofs.YthoohbefncjkmaaDoor
