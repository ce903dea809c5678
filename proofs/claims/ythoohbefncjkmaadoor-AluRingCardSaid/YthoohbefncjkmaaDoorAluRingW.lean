/- The walk of AluRing: it returns true. Conditions: the library's table of ASCII spaces lies as its initialiser lays it. -/
import Derived.Test.YthoohbefncjkmaaDoorAluDividesW
import Derived.Test.YthoohbefncjkmaaDoorAluRingDefs
import Derived.Test.YthoohbefncjkmaaDoorPick
namespace Go.Proofs.YthoohbefncjkmaaDoor
open Go.RowKit
attribute [local go_sem] wrap_u64_bv bv_un bv_sn bv_add bv_mul bv_neg bv_sub mul_bvpow shr_min shl_min sshr_min bv_lit bv_0 bv_1 un_shr sn_shr wrap_i64_un bits_u64_and bits_u64_or bits_u64_xor bits_u64_andNot bv_max u64_unsigned quo_sn rem_sn bv_quo_un rem_un
theorem do_ones (w0 : World) (op : Int) (a r : BitVec 64) (w : World) (ht : TB w0 w) (hn : op ≤ 9223372036854775807) (hr : doF op a (BitVec.allOnes 64) = r) :
    Calls Tryd.prog 11 #[.int .i64 op, .int .u64 (un a), .int .u64 18446744073709551615] w fun e w' => e = .returned (.int .u64 (un r)) ∧ TB w0 w' :=
  do_op w0 op a (BitVec.allOnes 64) r w ht hn hr
section
attribute [local irreducible] un sn
set_option maxRecDepth 100000 in
set_option maxHeartbeats 8000000 in
theorem AluRing_walk (a b c S T U M V Y L X O D UP DN Z K N P : BitVec 64) (k : Nat) (n : Int) (w : World) (ht : Tabs w)
    (hp : Hid (∀ w : World, Calls Tryd.prog 15 #[.int .i64 n, .int .i64 64] w fun e w' => e = .returned (.int .i64 (k : Int)) ∧ w = w'))
    (hN : IntKind.u64.wrap (k : Int) = un N) (hN0 : 0 ≤ un N) (hN1 : un N < 64) (hP : bv (2 ^ (un N).toNat) = P)
    (h0 : Hid (doF 35 a b = S)) (h1 : Hid (doF 36 S b = a)) (h2 : Hid (doF 35 b a = S)) (h3 : Hid (doF 35 S c = T)) (h4 : Hid (doF 35 b c = U)) (h5 : Hid (doF 35 a U = T)) (h6 : Hid (doF 50 S c = M)) (h7 : Hid (doF 50 a c = V)) (h8 : Hid (doF 50 b c = Y)) (h9 : Hid (doF 35 V Y = M)) (h10 : Hid (doF 37 a N = L)) (h11 : Hid (doF 50 a P = L)) (h12 : Hid (doF 40 a b = X)) (h13 : Hid (doF 40 X b = a)) (h14 : Hid (doF 43 a b = O)) (h15 : Hid (doF 44 a b = D)) (h16 : Hid (doF 35 D X = O)) (h17 : Hid (doF 42 a N = UP)) (h18 : Hid (doF 41 a N = DN)) (h19 : Hid (doF 55 a P = DN)) (h20 : Hid (doF 37 a (N + 64#64) = L)) (h21 : Hid (doF 40 a (BitVec.allOnes 64) = Z)) (h22 : Hid (doF 42 Z N = K)) (h23 : Hid (doF 40 K (BitVec.allOnes 64) = UP))
    (t1 : (decide (sn a < 0) = true ∧ decide (0 ≤ sn a) = false) ∨ (decide (sn a < 0) = false ∧ decide (0 ≤ sn a) = true ∧ (un UP != un DN) = false)) :
    Calls Tryd.prog 6 #[.int .u64 (un a), .int .u64 (un b), .int .u64 (un c), .int .i64 n] w fun e w' => e = .returned (.bool true) ∧ TB w w' := by
  have q1 : (un a != un a) = false := bne_self_false _ _ rfl
  have q2 : (un S != un S) = false := bne_self_false _ _ rfl
  have q3 : (un T != un T) = false := bne_self_false _ _ rfl
  have q4 : (un M != un M) = false := bne_self_false _ _ rfl
  have q5 : (un L != un L) = false := bne_self_false _ _ rfl
  have q6 : (un O != un O) = false := bne_self_false _ _ rfl
  have q7 : (un DN != un DN) = false := bne_self_false _ _ rfl
  have q8 : (un UP == un UP) = true := beq_self_true _ _ rfl
  rcases t1 with ⟨a1, a2⟩ | ⟨a1, a2, a3⟩
  all_goals
    go_enter Tryd.func6, Tryd.ntmps6
    go_wp2_with (first | (go_at_call 10; refine (lives_any _ ht).mono ?_; rintro e w' ⟨rfl, hT⟩) | (go_at_call 15; refine (hp.out _).mono ?_; rintro e w' ⟨rfl, rfl⟩) | (go_at_call 11; (with_reducible refine (do_op w 35 a b S _ (by assumption) (by decide) h0.out).mono ?_); rintro e w' ⟨rfl, hT⟩) | (go_at_call 11; (with_reducible refine (do_op w 36 S b a _ (by assumption) (by decide) h1.out).mono ?_); rintro e w' ⟨rfl, hT⟩) | (go_at_call 11; (with_reducible refine (do_op w 35 b a S _ (by assumption) (by decide) h2.out).mono ?_); rintro e w' ⟨rfl, hT⟩) | (go_at_call 11; (with_reducible refine (do_op w 35 S c T _ (by assumption) (by decide) h3.out).mono ?_); rintro e w' ⟨rfl, hT⟩) | (go_at_call 11; (with_reducible refine (do_op w 35 b c U _ (by assumption) (by decide) h4.out).mono ?_); rintro e w' ⟨rfl, hT⟩) | (go_at_call 11; (with_reducible refine (do_op w 35 a U T _ (by assumption) (by decide) h5.out).mono ?_); rintro e w' ⟨rfl, hT⟩) | (go_at_call 11; (with_reducible refine (do_op w 50 S c M _ (by assumption) (by decide) h6.out).mono ?_); rintro e w' ⟨rfl, hT⟩) | (go_at_call 11; (with_reducible refine (do_op w 50 a c V _ (by assumption) (by decide) h7.out).mono ?_); rintro e w' ⟨rfl, hT⟩) | (go_at_call 11; (with_reducible refine (do_op w 50 b c Y _ (by assumption) (by decide) h8.out).mono ?_); rintro e w' ⟨rfl, hT⟩) | (go_at_call 11; (with_reducible refine (do_op w 35 V Y M _ (by assumption) (by decide) h9.out).mono ?_); rintro e w' ⟨rfl, hT⟩) | (go_at_call 11; (with_reducible refine (do_op w 37 a N L _ (by assumption) (by decide) h10.out).mono ?_); rintro e w' ⟨rfl, hT⟩) | (go_at_call 11; (with_reducible refine (do_op w 50 a P L _ (by assumption) (by decide) h11.out).mono ?_); rintro e w' ⟨rfl, hT⟩) | (go_at_call 11; (with_reducible refine (do_op w 40 a b X _ (by assumption) (by decide) h12.out).mono ?_); rintro e w' ⟨rfl, hT⟩) | (go_at_call 11; (with_reducible refine (do_op w 40 X b a _ (by assumption) (by decide) h13.out).mono ?_); rintro e w' ⟨rfl, hT⟩) | (go_at_call 11; (with_reducible refine (do_op w 43 a b O _ (by assumption) (by decide) h14.out).mono ?_); rintro e w' ⟨rfl, hT⟩) | (go_at_call 11; (with_reducible refine (do_op w 44 a b D _ (by assumption) (by decide) h15.out).mono ?_); rintro e w' ⟨rfl, hT⟩) | (go_at_call 11; (with_reducible refine (do_op w 35 D X O _ (by assumption) (by decide) h16.out).mono ?_); rintro e w' ⟨rfl, hT⟩) | (go_at_call 11; (with_reducible refine (do_op w 42 a N UP _ (by assumption) (by decide) h17.out).mono ?_); rintro e w' ⟨rfl, hT⟩) | (go_at_call 11; (with_reducible refine (do_op w 41 a N DN _ (by assumption) (by decide) h18.out).mono ?_); rintro e w' ⟨rfl, hT⟩) | (go_at_call 11; (with_reducible refine (do_op w 55 a P DN _ (by assumption) (by decide) h19.out).mono ?_); rintro e w' ⟨rfl, hT⟩) | (go_at_call 11; (with_reducible refine (do_op w 37 a (N + 64#64) L _ (by assumption) (by decide) h20.out).mono ?_); rintro e w' ⟨rfl, hT⟩) | (go_at_call 11; (with_reducible refine (do_ones w 40 a Z _ (by assumption) (by decide) h21.out).mono ?_); rintro e w' ⟨rfl, hT⟩) | (go_at_call 11; (with_reducible refine (do_op w 42 Z N K _ (by assumption) (by decide) h22.out).mono ?_); rintro e w' ⟨rfl, hT⟩) | (go_at_call 11; (with_reducible refine (do_ones w 40 K UP _ (by assumption) (by decide) h23.out).mono ?_); rintro e w' ⟨rfl, hT⟩))
    go_ret
    exact ⟨rfl, by assumption⟩
end
theorem AluRing_any (a b c : BitVec 64) (n : Int) (w : World) (ht : Tabs w) :
    Calls Tryd.prog 6 #[.int .u64 (un a), .int .u64 (un b), .int .u64 (un c), .int .i64 n] w fun e w' => e = .returned (.bool true) ∧ TB w w' := by
  obtain ⟨k, hk, hp⟩ := Pick_nat_any n 64 (by omega) (by omega)
  have hk' : k < 64 := by omega
  have eN := un_ofNat k (by omega)
  have eP : (1#64 <<< k) = bv (2 ^ (un (BitVec.ofNat 64 k)).toNat) := by
    rw [eN]
    have := mul_bvpow 1#64 k
    rw [BitVec.one_mul] at this
    exact this.symm
  refine AluRing_walk a b c (a + b) (a + b + c) (b + c) ((a + b) * c) (a * c) (b * c) (a <<< k) (a ^^^ b) (a ||| b) (a &&& b) (a.sshiftRight k) (a >>> k) (a ^^^ BitVec.allOnes 64) ((a ^^^ BitVec.allOnes 64).sshiftRight k) (BitVec.ofNat 64 k) (1#64 <<< k) k n w ht hp
    ?_ (by rw [eN]; omega) (by rw [eN]; omega) eP.symm
    (Lib.hid ((doF_long 35 (by omega) _ _).trans rfl))
    (Lib.hid ((doF_long 36 (by omega) _ _).trans (BitVec.add_sub_cancel a b)))
    (Lib.hid ((doF_long 35 (by omega) _ _).trans (BitVec.add_comm b a)))
    (Lib.hid ((doF_long 35 (by omega) _ _).trans rfl))
    (Lib.hid ((doF_long 35 (by omega) _ _).trans rfl))
    (Lib.hid ((doF_long 35 (by omega) _ _).trans (BitVec.add_assoc a b c).symm))
    (Lib.hid ((doF_long 50 (by omega) _ _).trans rfl))
    (Lib.hid ((doF_long 50 (by omega) _ _).trans rfl))
    (Lib.hid ((doF_long 50 (by omega) _ _).trans rfl))
    (Lib.hid ((doF_long 35 (by omega) _ _).trans (dist a b c)))
    (Lib.hid ((doF_long 37 (by omega) _ _).trans (show a <<< sh (BitVec.ofNat 64 k) 63#64 = _ by rw [sh_ofNat k hk'])))
    (Lib.hid ((doF_long 50 (by omega) _ _).trans (mul_pow a k hk')))
    (Lib.hid ((doF_long 40 (by omega) _ _).trans rfl))
    (Lib.hid ((doF_long 40 (by omega) _ _).trans (xor_back a b)))
    (Lib.hid ((doF_long 43 (by omega) _ _).trans rfl))
    (Lib.hid ((doF_long 44 (by omega) _ _).trans rfl))
    (Lib.hid ((doF_long 35 (by omega) _ _).trans (and_add_xor a b)))
    (Lib.hid ((doF_long 42 (by omega) _ _).trans (show a.sshiftRight (sh (BitVec.ofNat 64 k) 63#64) = _ by rw [sh_ofNat k hk'])))
    (Lib.hid ((doF_long 41 (by omega) _ _).trans (show a >>> (sh (BitVec.ofNat 64 k) 63#64) = _ by rw [sh_ofNat k hk'])))
    (Lib.hid ((doF_long 55 (by omega) _ _).trans (divu_pow a k hk')))
    (Lib.hid ((doF_long 37 (by omega) _ _).trans (show a <<< sh (BitVec.ofNat 64 k + 64#64) 63#64 = _ by rw [sh_ofNat64 k hk'])))
    (Lib.hid ((doF_long 40 (by omega) _ _).trans rfl))
    (Lib.hid ((doF_long 42 (by omega) _ _).trans (show (a ^^^ BitVec.allOnes 64).sshiftRight (sh (BitVec.ofNat 64 k) 63#64) = _ by rw [sh_ofNat k hk'])))
    (Lib.hid ((doF_long 40 (by omega) _ _).trans (sar_not a k))) ?_
  · rw [eN]; exact IntWalk.u64_in _ (by omega)
  · rcases Int.lt_or_le (sn a) 0 with h | h
    · left; exact ⟨decide_eq_true h, decide_eq_false (by omega)⟩
    · right; exact ⟨decide_eq_false (by omega), decide_eq_true h, bne_self_false _ _ (by rw [sar_nonneg a k h])⟩
end Go.Proofs.YthoohbefncjkmaaDoor
