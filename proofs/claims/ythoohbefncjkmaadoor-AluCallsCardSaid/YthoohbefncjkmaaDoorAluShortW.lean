/- The walk of AluShort: it returns true. Conditions: the library's table of ASCII spaces lies as its initialiser lays it. -/
import Derived.Test.YthoohbefncjkmaaDoorAluDividesW
import Derived.Test.YthoohbefncjkmaaDoorPick
namespace Go.Proofs.YthoohbefncjkmaaDoor
open Go.RowKit
attribute [local go_sem] wrap_u64_bv bv_un bv_sn bv_add bv_mul bv_neg bv_sub mul_bvpow shr_min shl_min sshr_min bv_lit bv_0 bv_1 un_shr sn_shr wrap_i64_un bits_u64_and bits_u64_or bits_u64_xor bits_u64_andNot bv_max u64_unsigned quo_sn rem_sn bv_quo_un rem_un
theorem Do_op (w0 : World) (op : Int) (a b r : BitVec 64) (w : World) (ht : TB w0 w) (hn : op ≤ 9223372036854775807) (hr : doF op a b = r) (he : doE op = 0) :
    Calls Tryd.prog 16 #[.int .i64 op, .int .u64 (un a), .int .u64 (un b)] w fun e w' => e = .returned (.tuple #[.int .u64 (un r), .int .i64 0]) ∧ TB w0 w' :=
  (Do_any op hn a b w ht.tabs).mono fun e w' ⟨h1, h2⟩ => ⟨by rw [h1, hr, he], ht.later h2⟩
theorem Plain_op (w0 : World) (n p : Int) (w : World) (ht : TB w0 w) (hn : n ≤ 9223372036854775807) (hr : plainOf n = p) :
    Calls Tryd.prog 17 #[.int .i64 n] w fun e w' => e = .returned (.int .i64 p) ∧ TB w0 w' :=
  (Plain_any n hn w ht.tabs).mono fun e w' ⟨h1, h2⟩ => ⟨by rw [h1, hr], ht.later h2⟩
section
attribute [local irreducible] un sn
set_option maxRecDepth 100000 in
set_option maxHeartbeats 8000000 in
theorem AluShort_walk (a b c d X : BitVec 64) (n k q p : Int) (w : World) (ht : Tabs w)
    (hp : Hid (∀ w : World, Calls Tryd.prog 15 #[.int .i64 n, .int .i64 41] w fun e w' => e = .returned (.int .i64 k) ∧ w = w'))
    (hq : IntKind.i64.wrap (22 + k) = q) (hqn : q ≤ 9223372036854775807) (hpn : p ≤ 9223372036854775807)
    (hD : Hid (doF q a b = X)) (hE : Hid (doE q = 0)) (hPl : Hid (plainOf q = p)) (hD2 : Hid (doF p a b = X)) (hE2 : Hid (doE p = 0)) (hPl2 : Hid (plainOf p = p))
    (p1 : 35 ≤ p) (p2 : p ≤ 62)
    (t1 : ((45 ≤ p ∧ p ≤ 49 ∨ 58 ≤ p) ∧ Hid (doF p (a &&& 4294967295#64 ||| c * 4294967296#64) (b &&& 4294967295#64 ||| d * 4294967296#64) = X) ∧ Short X = X) ∨ p < 45 ∨ (49 < p ∧ p < 58)) :
    Calls Tryd.prog 5 #[.int .i64 n, .int .u64 (un a), .int .u64 (un b), .int .u64 (un c), .int .u64 (un d)] w fun e w' => e = .returned (.bool true) ∧ TB w w' := by
  have q1 : (un X != un X) = false := bne_self_false _ _ rfl
  have q2 : (un X == un X) = true := beq_self_true _ _ rfl
  have q3 : (p != p) = false := bne_self_false _ _ rfl
  rcases t1 with ⟨⟨s1, s2⟩ | s1, hz, hs⟩ | s1 | ⟨s1, s2⟩
  all_goals
    go_enter Tryd.func5, Tryd.ntmps5
    go_wp2_with (first | (go_at_call 10; refine (lives_any _ ht).mono ?_; rintro e w' ⟨rfl, hT⟩) | (go_at_call 15; refine (hp.out _).mono ?_; rintro e w' ⟨rfl, rfl⟩) | (go_at_call 16; (with_reducible refine (Do_op w q a b X _ (by assumption) (by assumption) hD.out hE.out).mono ?_); rintro e w' ⟨rfl, hT⟩) | (go_at_call 16; (with_reducible refine (Do_op w p a b X _ (by assumption) (by assumption) hD2.out hE2.out).mono ?_); rintro e w' ⟨rfl, hT⟩) | (go_at_call 17; (with_reducible refine (Plain_op w q p _ (by assumption) (by assumption) hPl.out).mono ?_); rintro e w' ⟨rfl, hT⟩) | (go_at_call 17; (with_reducible refine (Plain_op w p p _ (by assumption) (by assumption) hPl2.out).mono ?_); rintro e w' ⟨rfl, hT⟩) | (go_at_call 11; (with_reducible refine (do_op w p _ _ X _ (by assumption) (by assumption) hz.out).mono ?_); rintro e w' ⟨rfl, hT⟩) | (go_at_call 13; (with_reducible refine (RShort_any _ _).mono ?_); rw [hs]; rintro e w' ⟨rfl, rfl⟩))
    go_ret
    exact ⟨rfl, by assumption⟩
end
theorem Short_mix (a c : BitVec 64) : Short (a &&& 4294967295#64 ||| c <<< 32) = Short a := by
  have e : Low (a &&& 4294967295#64 ||| c <<< 32) 32 = Low a 32 := by
    unfold Low
    have h1 : Ones 32 = 4294967295#64 := by decide
    rw [h1]
    apply BitVec.eq_of_getLsbD_eq
    intro i hi
    have h2 : (4294967295#64).getLsbD i = decide (i < 32) := by
      have : ∀ i, i < 64 → (4294967295#64).getLsbD i = decide (i < 32) := by decide +kernel
      exact this i hi
    simp only [BitVec.getLsbD_and, BitVec.getLsbD_or, BitVec.getLsbD_shiftLeft, h2]
    by_cases hl : i < 32 <;> simp [hl]
  rw [← Short_Low (a &&& 4294967295#64 ||| c <<< 32), e, Short_Low]
theorem plainOf_pos (q : Int) (h : 22 ≤ q ∧ q ≤ 62) : 35 ≤ plainOf q ∧ plainOf q ≤ 62 := by
  rcases plainOf_range q with h0 | h0
  · exfalso
    by_cases h2 : q ≤ 34
    · have hn : q = 22 ∨ q = 23 ∨ q = 24 ∨ q = 25 ∨ q = 26 ∨ q = 27 ∨ q = 28 ∨ q = 29 ∨ q = 30 ∨ q = 31 ∨ q = 32 ∨ q = 33 ∨ q = 34 := by omega
      rcases hn with rfl | rfl | rfl | rfl | rfl | rfl | rfl | rfl | rfl | rfl | rfl | rfl | rfl <;> exact absurd h0 (by decide)
    · rw [plainOf_self q (by omega)] at h0; omega
  · exact h0
theorem AluShort_any (n : Int) (a b c d : BitVec 64) (w : World) (ht : Tabs w) :
    Calls Tryd.prog 5 #[.int .i64 n, .int .u64 (un a), .int .u64 (un b), .int .u64 (un c), .int .u64 (un d)] w fun e w' => e = .returned (.bool true) ∧ TB w w' := by
  obtain ⟨k, hk, hp⟩ := Pick_nat_any n 41 (by omega) (by omega)
  obtain ⟨q, hq⟩ : ∃ q : Int, q = 22 + (k : Int) := ⟨_, rfl⟩
  have hP := plainOf_pos q (by omega)
  have hPs := plainOf_self (plainOf q) hP
  have e1 : doF q a b = doF (plainOf q) a b := by
    unfold doF
    rw [if_neg (show ¬ q = 1 by omega), if_neg (show ¬ plainOf q = 1 by omega), hPs]
  have e2 : doE q = 0 := by unfold doE; rw [if_neg (show ¬ q = 1 by omega), if_neg (show ¬ plainOf q = 0 by omega)]
  have e3 : doE (plainOf q) = 0 := by unfold doE; rw [if_neg (show ¬ plainOf q = 1 by omega), hPs, if_neg (show ¬ plainOf q = 0 by omega)]
  obtain ⟨P, hPP⟩ : ∃ P, plainOf q = P := ⟨_, rfl⟩
  rw [hPP] at hP hPs e1 e3
  refine AluShort_walk a b c d (doF P a b) n k q P w ht hp (by rw [hq]; exact IntWalk.i64_in _ (by omega)) (by omega) (by omega) (Lib.hid e1) (Lib.hid e2) (Lib.hid hPP) (Lib.hid rfl) (Lib.hid e3) (Lib.hid hPs) hP.1 hP.2 ?_
  by_cases hs : (45 ≤ P ∧ P ≤ 49) ∨ 58 ≤ P
  · left
    obtain ⟨m, rfl⟩ := Int.eq_ofNat_of_zero_le (show 0 ≤ P by omega)
    have hm : (45 ≤ m ∧ m ≤ 49) ∨ (58 ≤ m ∧ m ≤ 62) := by omega
    have hd := doF_short m hm
    refine ⟨hs, Lib.hid ?_, ?_⟩
    · have m1 : c * 4294967296#64 = c <<< 32 := mul_bvpow c 32
      have m2 : d * 4294967296#64 = d <<< 32 := mul_bvpow d 32
      rw [m1, m2, hd, hd, Short_mix, Short_mix]
    · rw [hd, Short_Short]
  · right
    by_cases h45 : P < 45
    · exact Or.inl h45
    · exact Or.inr ⟨by omega, by omega⟩
end Go.Proofs.YthoohbefncjkmaaDoor
