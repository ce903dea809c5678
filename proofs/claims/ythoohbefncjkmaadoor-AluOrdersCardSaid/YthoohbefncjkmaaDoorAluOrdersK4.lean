/- The walk of AluOrders in one case of its comparisons: it returns true. Conditions: the library's table of ASCII spaces lies as its initialiser lays it. -/
import Derived.Test.YthoohbefncjkmaaDoorAluOrdersB
namespace Go.Proofs.YthoohbefncjkmaaDoor
open Go.RowKit
attribute [local go_sem] wrap_u64_bv bv_un bv_sn bv_add bv_mul bv_neg bv_sub mul_bvpow shr_min shl_min sshr_min bv_lit bv_0 bv_1 un_shr sn_shr wrap_i64_un bits_u64_and bits_u64_or bits_u64_xor bits_u64_andNot bv_max u64_unsigned
section
attribute [local irreducible] un sn truthF
set_option maxRecDepth 100000 in
set_option maxHeartbeats 8000000 in
theorem AluOrders_case4 (a b L G I H SU SH : BitVec 64) (w : World) (ht : Tabs w) 
    (h5 : Hid (takesF 5 a b = false)) (h6 : Hid (takesF 6 a b = true)) (hx5 : Hid (takesF 5 b a = false))
    (h7 : Hid (takesF 7 a b = false)) (h8 : Hid (takesF 8 a b = true)) (hx7 : Hid (takesF 7 b a = true))
    (h9 : Hid (takesF 9 a b = false)) (h10 : Hid (takesF 10 a b = true)) (hx9 : Hid (takesF 9 b a = true))
    (k1 : Hid (amoOp 86 a b = L)) (k2 : Hid (amoOp 87 a b = G)) (k3 : Hid (amoOp 84 a b = I)) (k4 : Hid (amoOp 85 a b = H)) (k5 : Hid (amoOp 79 a b = b)) (k6 : Hid (amoOp 80 a b = SU)) (k7 : Hid (amoOp 71 a b = SH))
    (d1 : Hid (doF 35 a b = SU)) (d2 : Hid (doF 45 a b = SH)) (d3 : Hid (doF 39 a b = truthF false)) (d4 : Hid (doF 38 a b = truthF false))
    (o1 : un L ≤ un G) (o2 : (un (L + G) == un (a + b)) = true) (o3 : sn I ≤ sn H) (o4 : (un (I + H) == un (a + b)) = true)
    (e1 : decide (un a < un b) = false) (e2 : decide (sn a < sn b) = false) :
    Calls Tryd.prog 9 #[.int .u64 (un a), .int .u64 (un b)] w fun e w' => e = .returned (.bool true) ∧ TB w w' := by
  have q1 : (un b == un b) = true := beq_self_true _ _ rfl
  have q2 : (un SU == un SU) = true := beq_self_true _ _ rfl
  have q3 : (un SH == un SH) = true := beq_self_true _ _ rfl
  have q4 : (un (truthF false) == un (truthF false)) = true := beq_self_true _ _ rfl
  have q5 : (un (truthF false) == un (truthF false)) = true := beq_self_true _ _ rfl
  go_enter Tryd.func9, Tryd.ntmps9
  go_wp2_with (go_at_call 10; refine (lives_any _ ht).mono ?_; rintro e w0 ⟨rfl, hT⟩)
  go_loopw [6] (fun i wr => ∃ k : Nat, k ≤ 3 ∧ i = .int .i64 k ∧ Hid (wr.cell? ⟨w0.heap.size, 0, none⟩ = some (.int .i64 5) ∧ wr.cell? ⟨w0.heap.size, 1, none⟩ = some (.int .i64 6) ∧ wr.cell? ⟨w0.heap.size, 2, none⟩ = some (.int .i64 7) ∧ wr.cell? ⟨w0.heap.size, 3, none⟩ = some (.int .i64 8) ∧ wr.cell? ⟨w0.heap.size, 4, none⟩ = some (.int .i64 9) ∧ wr.cell? ⟨w0.heap.size, 5, none⟩ = some (.int .i64 10)) ∧ TB w wr) (fun i _ => 3 - (intOf i).toNat)
  case atStart => exact ⟨0, by omega, rfl, Lib.hid (by simp), hT.later ((Below.refl _ _).alloc (Nat.le_refl _) _)⟩
  case round =>
    obtain ⟨k, hk, rfl, hcl, hT1⟩ := hrel
    have hk' : k = 0 ∨ k = 1 ∨ k = 2 ∨ k = 3 := by omega
    clear hk
    obtain ⟨f0, f1, f2, f3, f4, f5⟩ := hcl.out
    rcases hk' with rfl | rfl | rfl | rfl
    · go_wp2_with (first | (go_at_call 18; (with_reducible refine (Takes_op 5 a b _ _ h5.out rfl).mono ?_); rintro e w' ⟨rfl, rfl⟩) | (go_at_call 18; (with_reducible refine (Takes_op 6 a b _ _ h6.out rfl).mono ?_); rintro e w' ⟨rfl, rfl⟩) | (go_at_call 18; (with_reducible refine (Takes_op 5 b a _ _ hx5.out rfl).mono ?_); rintro e w' ⟨rfl, rfl⟩))
      go_roundw
      case rel => exact ⟨1, by omega, by go_num, hcl, by first | assumption | exact TB.drewN (by assumption) _ | exact TB.drew (by assumption)⟩
      case measure => simp [intOf]
    · go_wp2_with (first | (go_at_call 18; (with_reducible refine (Takes_op 7 a b _ _ h7.out rfl).mono ?_); rintro e w' ⟨rfl, rfl⟩) | (go_at_call 18; (with_reducible refine (Takes_op 8 a b _ _ h8.out rfl).mono ?_); rintro e w' ⟨rfl, rfl⟩) | (go_at_call 18; (with_reducible refine (Takes_op 7 b a _ _ hx7.out rfl).mono ?_); rintro e w' ⟨rfl, rfl⟩))
      go_roundw
      case rel => exact ⟨2, by omega, by go_num, hcl, by first | assumption | exact TB.drewN (by assumption) _ | exact TB.drew (by assumption)⟩
      case measure => simp [intOf]
    · go_wp2_with (first | (go_at_call 18; (with_reducible refine (Takes_op 9 a b _ _ h9.out rfl).mono ?_); rintro e w' ⟨rfl, rfl⟩) | (go_at_call 18; (with_reducible refine (Takes_op 10 a b _ _ h10.out rfl).mono ?_); rintro e w' ⟨rfl, rfl⟩) | (go_at_call 18; (with_reducible refine (Takes_op 9 b a _ _ hx9.out rfl).mono ?_); rintro e w' ⟨rfl, rfl⟩))
      go_roundw
      case rel => exact ⟨3, by omega, by go_num, hcl, by first | assumption | exact TB.drewN (by assumption) _ | exact TB.drew (by assumption)⟩
      case measure => simp [intOf]
    · go_wp2_with (first | (go_at_call 20; (with_reducible refine (Amo_op 86 a b L _ k1.out rfl).mono ?_); rintro e w' ⟨rfl, rfl⟩) | (go_at_call 20; (with_reducible refine (Amo_op 87 a b G _ k2.out rfl).mono ?_); rintro e w' ⟨rfl, rfl⟩) | (go_at_call 20; (with_reducible refine (Amo_op 84 a b I _ k3.out rfl).mono ?_); rintro e w' ⟨rfl, rfl⟩) | (go_at_call 20; (with_reducible refine (Amo_op 85 a b H _ k4.out rfl).mono ?_); rintro e w' ⟨rfl, rfl⟩) | (go_at_call 20; (with_reducible refine (Amo_op 79 a b b _ k5.out rfl).mono ?_); rintro e w' ⟨rfl, rfl⟩) | (go_at_call 20; (with_reducible refine (Amo_op 80 a b SU _ k6.out rfl).mono ?_); rintro e w' ⟨rfl, rfl⟩) | (go_at_call 20; (with_reducible refine (Amo_op 71 a b SH _ k7.out rfl).mono ?_); rintro e w' ⟨rfl, rfl⟩) | (go_at_call 11; (with_reducible refine (do_op w 35 a b SU _ (by assumption) (by decide) d1.out).mono ?_); rintro e w' ⟨rfl, hT⟩) | (go_at_call 11; (with_reducible refine (do_op w 45 a b SH _ (by assumption) (by decide) d2.out).mono ?_); rintro e w' ⟨rfl, hT⟩) | (go_at_call 11; (with_reducible refine (do_op w 39 a b _ _ (by assumption) (by decide) d3.out).mono ?_); rintro e w' ⟨rfl, hT⟩) | (go_at_call 11; (with_reducible refine (do_op w 38 a b _ _ (by assumption) (by decide) d4.out).mono ?_); rintro e w' ⟨rfl, hT⟩) | (go_at_call 25; (with_reducible refine (bit_any _ _).mono ?_); rintro e w' ⟨rfl, rfl⟩))
      go_ret
      exact ⟨rfl, by assumption⟩
end
end Go.Proofs.YthoohbefncjkmaaDoor
