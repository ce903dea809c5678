/- The walk of AluCalls: it returns true. Conditions: the library's table of ASCII spaces lies as its initialiser lays it. -/
import Derived.Test.YthoohbefncjkmaaDoorAluRef2
import Derived.Test.YthoohbefncjkmaaDoorAluNamesW
namespace Go.Proofs.YthoohbefncjkmaaDoor
open Go.RowKit
section
attribute [local irreducible] un sn
set_option maxRecDepth 100000 in
set_option maxHeartbeats 4000000 in
theorem AluCalls_walk (op : Int) (a b X U : BitVec 64) (E G I P : Int) (S : Bool) (w : World) (ht : Tabs w)
    (D1 : Hid (∀ W, TB w W → Calls Tryd.prog 16 #[.int .i64 op, .int .u64 (un a), .int .u64 (un b)] W fun e w' => e = .returned (.tuple #[.int .u64 (un X), .int .i64 E]) ∧ TB w w'))
    (D2 : Hid (∀ W, TB w W → Calls Tryd.prog 21 #[.int .i64 op, .int .u64 (un a), .int .u64 (un b)] W fun e w' => e = .returned (.tuple #[.int .u64 (un X), .int .i64 E]) ∧ TB w w'))
    (T1 : Hid (∀ W, Calls Tryd.prog 18 #[.int .i64 op, .int .u64 (un a), .int .u64 (un b)] W fun e w' => e = .returned (.tuple #[.bool S, .int .i64 G]) ∧ W = w'))
    (T2 : Hid (∀ W, Calls Tryd.prog 22 #[.int .i64 op, .int .u64 (un a), .int .u64 (un b)] W fun e w' => e = .returned (.tuple #[.bool S, .int .i64 G]) ∧ W = w'))
    (M1 : Hid (∀ W, Calls Tryd.prog 20 #[.int .i64 op, .int .u64 (un a), .int .u64 (un b)] W fun e w' => e = .returned (.tuple #[.int .u64 (un U), .int .i64 I]) ∧ W = w'))
    (M2 : Hid (∀ W, Calls Tryd.prog 23 #[.int .i64 op, .int .u64 (un a), .int .u64 (un b)] W fun e w' => e = .returned (.tuple #[.int .u64 (un U), .int .i64 I]) ∧ W = w'))
    (P1 : Hid (∀ W, TB w W → Calls Tryd.prog 17 #[.int .i64 op] W fun e w' => e = .returned (.int .i64 P) ∧ TB w w'))
    (P2 : Hid (∀ W, Calls Tryd.prog 24 #[.int .i64 op] W fun e w' => e = .returned (.int .i64 P) ∧ W = w')) :
    Calls Tryd.prog 8 #[.int .i64 op, .int .u64 (un a), .int .u64 (un b)] w fun e w' => e = .returned (.bool true) ∧ TB w w' := by
  have q1 : (un X == un X) = true := beq_self_true _ _ rfl
  have q2 : (E == E) = true := beq_self_true _ _ rfl
  have q3 : (S == S) = true := beq_self_true _ _ rfl
  have q4 : (G == G) = true := beq_self_true _ _ rfl
  have q5 : (un U == un U) = true := beq_self_true _ _ rfl
  have q6 : (I == I) = true := beq_self_true _ _ rfl
  have q7 : (P == P) = true := beq_self_true _ _ rfl
  have ht0 := TB.refl ht
  clear ht
  go_enter Tryd.func8, Tryd.ntmps8
  go_wp2_with (first | (go_at_call 10; refine (lives_tb w _ (by assumption)).mono ?_; rintro e w' ⟨rfl, hT⟩) | (go_at_call 16; refine (D1.out _ (by assumption)).mono ?_; rintro e w' ⟨rfl, hT⟩) | (go_at_call 21; refine (D2.out _ (by assumption)).mono ?_; rintro e w' ⟨rfl, hT⟩) | (go_at_call 18; refine (T1.out _).mono ?_; rintro e w' ⟨rfl, rfl⟩) | (go_at_call 22; refine (T2.out _).mono ?_; rintro e w' ⟨rfl, rfl⟩) | (go_at_call 20; refine (M1.out _).mono ?_; rintro e w' ⟨rfl, rfl⟩) | (go_at_call 23; refine (M2.out _).mono ?_; rintro e w' ⟨rfl, rfl⟩) | (go_at_call 17; refine (P1.out _ (by assumption)).mono ?_; rintro e w' ⟨rfl, hT⟩) | (go_at_call 24; refine (P2.out _).mono ?_; rintro e w' ⟨rfl, rfl⟩))
  go_ret
  exact ⟨rfl, by assumption⟩
end
theorem AluCalls_any (op : Int) (hn : op ≤ 9223372036854775807) (a b : BitVec 64) (w : World) (ht : Tabs w) :
    Calls Tryd.prog 8 #[.int .i64 op, .int .u64 (un a), .int .u64 (un b)] w fun e w' => e = .returned (.bool true) ∧ TB w w' :=
  AluCalls_walk op a b (doF op a b) (amoOp op a b) (doE op) (takesE op) (amoE op) (plainOf op) (takesF op a b) w ht
    (Lib.hid fun W hW => (Do_any op hn a b W hW.tabs).mono fun _ _ ⟨h1, h2⟩ => ⟨h1, hW.later h2⟩)
    (Lib.hid fun W hW => (RDo_any op a b W).mono fun _ _ ⟨h1, h2⟩ => ⟨h1, hW.later h2⟩)
    (Lib.hid fun W => Takes_any op a b W) (Lib.hid fun W => RTakes_any op a b W)
    (Lib.hid fun W => Amo_any op a b W) (Lib.hid fun W => RAmo_any op a b W)
    (Lib.hid fun W hW => (Plain_any op hn W hW.tabs).mono fun _ _ ⟨h1, h2⟩ => ⟨h1, hW.later h2⟩)
    (Lib.hid fun W => RPlain_any op W)
end Go.Proofs.YthoohbefncjkmaaDoor
