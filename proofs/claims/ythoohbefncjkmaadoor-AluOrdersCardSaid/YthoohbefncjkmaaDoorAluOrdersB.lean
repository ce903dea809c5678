/- Contracts of Takes, Amo and bit, with their results named. Conditions: the library's table of ASCII spaces lies as its initialiser lays it. -/
import Derived.Test.YthoohbefncjkmaaDoorAluNamesW
namespace Go.Proofs.YthoohbefncjkmaaDoor
open Go.RowKit
attribute [local go_sem] wrap_u64_bv bv_un bv_sn bv_add bv_mul bv_neg bv_sub mul_bvpow shr_min shl_min sshr_min bv_lit bv_0 bv_1 un_shr sn_shr wrap_i64_un bits_u64_and bits_u64_or bits_u64_xor bits_u64_andNot bv_max u64_unsigned quo_sn rem_sn bv_quo_un rem_un
theorem Takes_op (op : Int) (a b : BitVec 64) (s : Bool) (w : World) (h : takesF op a b = s) (he : takesE op = 0) :
    Calls Tryd.prog 18 #[.int .i64 op, .int .u64 (un a), .int .u64 (un b)] w fun e w' => e = .returned (.tuple #[.bool s, .int .i64 0]) ∧ w = w' := by
  have := Takes_any op a b w
  rw [h, he] at this; exact this
theorem Amo_op (op : Int) (a b r : BitVec 64) (w : World) (h : amoOp op a b = r) (he : amoE op = 0) :
    Calls Tryd.prog 20 #[.int .i64 op, .int .u64 (un a), .int .u64 (un b)] w fun e w' => e = .returned (.tuple #[.int .u64 (un r), .int .i64 0]) ∧ w = w' := by
  have := Amo_any op a b w
  rw [h, he] at this; exact this
theorem bit_any (b : Bool) (w : World) :
    Calls Tryd.prog 25 #[.bool b] w fun e w' => e = .returned (.int .u64 (un (truthF b))) ∧ w = w' := by
  cases b
  all_goals
    go_enter Tryd.func25, Tryd.ntmps25
    go_wp2
    go_ret
    exact ⟨rfl, rfl⟩
end Go.Proofs.YthoohbefncjkmaaDoor
