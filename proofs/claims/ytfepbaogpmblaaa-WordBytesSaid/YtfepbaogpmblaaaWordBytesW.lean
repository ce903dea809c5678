/- The walk of WordBytes: it returns true and makes new memory alone. Conditions: the slice's cells are there. -/
import Derived.Test.YtfepbaogpmblaaaWordLives
import Derived.Test.YtfepbaogpmblaaaWordBytes
import Derived.Test.YtfepbaogpmblaaaWordOf
import Derived.Test.YtfepbaogpmblaaaPick
import Derived.BigQuiet
import Derived.Deep.QuietTactic
import Derived.Deep.RegionWith
namespace Go.Proofs.Ytfepbaogpmblaaa
open Go.RowKit
attribute [local go_sem] wrap_u64_bv bv_un bv_sn bv_add bv_mul bv_neg bv_sub mul_bvpow shr_min shl_min sshr_min bv_lit bv_0 bv_1 un_shr sn_shr wrap_i64_un bits_u64_and bits_u64_or bits_u64_xor bits_u64_andNot bv_max u64_unsigned
theorem bytes_get (x : BitVec 64) (m i : Nat) (h : i < m) : (bytesL x m).getD i 0 = byteAt x i := by simp [bytesL, List.getD, h]
theorem OfK_bytesL (x : BitVec 64) (n m : Nat) (h : n ≤ 8) (hm : m = n) : OfK (fun i => (bytesL x m).getD i 0) (min n 8) = Low x (8 * (n : Int)) := by
  subst hm
  rw [Nat.min_eq_left h, ← OfK_byteAt x m h]
  exact OfK_congr _ _ _ fun i hi => bytes_get x m i hi
theorem WordBytes_far (x : BitVec 64) (n : Int) (a : Option Addr) (len cap : Nat) (w : World) (hl : 100 < len) (hm : len ≤ 9223372036854775807) :
    Calls Try.prog 6 #[.int .u64 (un x), .int .i64 n, .slice a len cap] w fun e w' => e = .returned (.bool true) ∧ w = w' := by
  go_enter Try.func6, Try.ntmps6
  go_wp2_with (first | (go_at_call 9; refine (lives_any _).mono ?_; rintro e w' ⟨rfl, rfl⟩))
  go_ret
  exact ⟨rfl, rfl⟩
set_option maxHeartbeats 2000000 in
theorem WordBytes_some (x : BitVec 64) (n : Int) (b off len cap : Nat) (f : Nat → Int) (w : World) (hl : len ≤ 100) (hlc : len ≤ cap) (hb : b < w.heap.size)
    (hc : ∀ i, i < len → w.cell? ⟨b, off + i, none⟩ = some (.int .u8 (f i))) (hf : ∀ i, 0 ≤ f i ∧ f i < 256) :
    Calls Try.prog 6 #[.int .u64 (un x), .int .i64 n, .slice (some ⟨b, off, none⟩) len cap] w fun e w' => e = .returned (.bool true) ∧ Below w.heap.size w w' := by
  have hc' := Lib.hid hc; have hf' := Lib.hid hf; clear hc hf
  obtain ⟨N, hN, PN⟩ := Pick_nat_any n 9 (by decide) (by decide)
  have hcl : cl8 N = N := by unfold cl8; omega
  have hlen : (bytesL x (cl8 N)).length = N := by rw [bytesL_len, hcl]
  have hcl' := Lib.hid hcl; have hlen' := Lib.hid hlen; clear hcl hlen
  go_enter Try.func6, Try.ntmps6
  go_wp2_with (first | (go_at_call 9; refine (lives_any _).mono ?_; rintro e w' ⟨rfl, rfl⟩) | (go_at_call 10; (with_reducible refine (PN.out _).mono ?_); rintro e w' ⟨rfl, rfl⟩))
  refine (Bytes_any _ _ _).mono ?_
  rintro e w1 ⟨he, hcell, hb1, hs1⟩
  rw [hlen'.out] at he hcell
  subst he
  have hcell' := Lib.hid hcell; clear hcell
  go_wp2_with fail
  refine (Of_any w.heap.size 0 N N (fun i => (bytesL x (cl8 N)).getD i 0) _ (Nat.le_refl _) (by omega) hcell'.out).mono ?_
  rw [OfK_bytesL x N (cl8 N) (by omega) hcl'.out]
  rintro e w' ⟨rfl, rfl⟩
  go_wp2_with (go_at_call 13; (with_reducible refine (Low_any _ _ _).mono ?_); rintro e w' ⟨rfl, rfl⟩)
  have hb1' := Lib.hid hb1
  go_loopw [8] (fun i wr => ∃ k : Nat, k ≤ N ∧ i = .int .i64 k ∧ Hid (∃ d, wr = w1.drewN d)) (fun i _ => N - (intOf i).toNat)
  case atStart => exact ⟨0, Nat.zero_le _, rfl, Lib.hid ⟨0, rfl⟩⟩
  case round =>
    obtain ⟨k, hk, rfl, hwr⟩ := hrel
    have hcw : ∀ a, wr.cell? a = w1.cell? a := by obtain ⟨d, rfl⟩ := hwr.out; intro a; rfl
    have hcw' := Lib.hid hcw; clear hcw
    by_cases hlt : k < N
    · have hc1 := hcell'.out k hlt
      rw [bytes_get x _ k (by rw [hcl'.out]; exact hlt), Nat.zero_add, ← hcw'.out] at hc1
      have t := bne_self_false (un (Part x (8 * (k : Int)) 8)) (un (bv (byteAt x k))) (by rw [un_bv _ (by have := byteAt_lt x k; omega)]; exact byte_part x k)
      have hlt' : (k : Int) < (N : Int) := by omega
      have hw8 : IntKind.i64.wrap (8 * (k : Int)) = 8 * (k : Int) := IntWalk.i64_in _ (by omega)
      go_wp2_with fail
      go_quiet ((go_at_call 12; exact quiet_same (Part_any _ _ _ _)))
      go_wp2
      go_roundw
      case rel => exact ⟨k + 1, by omega, by go_num, by obtain ⟨d, rfl⟩ := hwr.out; exact Lib.hid ⟨_, World.drewN_drewN _ _ _⟩⟩
      case measure => simp [intOf]; omega
    · have hbw : Below w.heap.size w wr := by obtain ⟨d, rfl⟩ := hwr.out; exact ⟨hb1.os, hb1.tape, hb1.output, hb1.size, hb1.block⟩
      have hsw : w.heap.size < wr.heap.size := by obtain ⟨d, rfl⟩ := hwr.out; exact hs1
      clear hcw' hwr hb1 hs1 hb1' hcell'
      obtain ⟨m, hm8, hml, hmin, hcase⟩ : ∃ m : Nat, m ≤ 8 ∧ m ≤ len ∧ Hid (min len 8 = m) ∧ (m = len ∨ (m = 8 ∧ 8 < len)) := ⟨min len 8, by omega, by omega, Lib.hid rfl, by omega⟩
      have hconv : ∀ w', Below w.heap.size w w' → Sem.run Try.prog (convert 35 9 (.slice (some ⟨b, off, none⟩) m cap)) w' = .ok (.string (strOfNums ((List.range m).map f))) w' := fun w' hw' =>
        run_convert_bytes_arg w' 35 5 Try.underlying35 Try.underlying5 b off m cap _ (by simp) (fun i hi => by rw [hw'.cell (p := ⟨b, off + i, none⟩) hb, hc'.out i (by omega)]; simp [List.getD, hi]) _ Try.underlying9
      have hL : bytesL (OfK f m) (cl8 m) = (List.range m).map f := by
        have e : cl8 m = m := by unfold cl8; omega
        rw [e]; unfold bytesL
        exact List.map_congr_left fun i hi => byteAt_OfK f hf'.out m i hm8 (by simpa using hi)
      have hL' := Lib.hid hL; clear hL
      have hOf : Hid (∀ W, Below w.heap.size w W → Calls Try.prog 18 #[.slice (some ⟨b, off, none⟩) len cap] W fun e w' => e = .returned (.int .u64 (un (OfK f m))) ∧ W = w') := Lib.hid fun W hW => by
        have := Of_any b off len cap f W hlc (by omega) (fun i hi => by rw [hW.cell (p := ⟨b, off + i, none⟩) hb]; exact hc'.out i hi)
        rw [hmin.out] at this; exact this
      have hBy : Hid (∀ W S, Below w.heap.size w W → S = W.heap.size → Calls Try.prog 17 #[.int .u64 (un (OfK f m)), .int .i64 m] W fun e w' => e = .returned (.slice (some ⟨S, 0, none⟩) m m) ∧ Below w.heap.size w w' ∧ Sem.run Try.prog (convert 35 9 (.slice (some ⟨S, 0, none⟩) m m)) w' = .ok (.string (strOfNums ((List.range m).map f))) w') := Lib.hid fun W S hW hS =>
        (Bytes_any (OfK f m) m W).mono fun e w' ⟨he, hcl, hbl, hsl⟩ => by
          rw [hL'.out] at he hcl
          rw [show ((List.range m).map f).length = m by simp] at he hcl
          subst hS
          exact ⟨he, hW.trans (hbl.mono hW.size), run_convert_bytes_arg w' 35 5 Try.underlying35 Try.underlying5 W.heap.size 0 m m _ (by simp) hcl _ Try.underlying9⟩
      have hbd := hbw.drew
      have hm0 : (0 : Int) ≤ (m : Int) := by omega
      have hmc : (m : Int) ≤ (cap : Int) := by omega
      rcases hcase with rfl | ⟨rfl, h8⟩
      all_goals
        go_wp2_with fail
        go_region_with (first | (go_at_call 18; refine (hOf.out _ (by assumption)).mono ?_; rintro e w' ⟨rfl, rfl⟩) | (go_at_call 17; refine (hBy.out _ wr.heap.size (by assumption) (by rfl)).mono ?_; rintro e w' ⟨rfl, hB2, hcv⟩))
        all_goals go_wp2
        all_goals go_ret
        all_goals exact ⟨rfl, by assumption⟩
set_option maxHeartbeats 2000000 in
theorem WordBytes_nil (x : BitVec 64) (n : Int) (w : World) :
    Calls Try.prog 6 #[.int .u64 (un x), .int .i64 n, .slice none 0 0] w fun e w' => e = .returned (.bool true) ∧ Below w.heap.size w w' := by
  obtain ⟨N, hN, PN⟩ := Pick_nat_any n 9 (by decide) (by decide)
  have hcl : cl8 N = N := by unfold cl8; omega
  have hlen : (bytesL x (cl8 N)).length = N := by rw [bytesL_len, hcl]
  have hcl' := Lib.hid hcl; have hlen' := Lib.hid hlen; clear hcl hlen
  go_enter Try.func6, Try.ntmps6
  go_wp2_with (first | (go_at_call 9; refine (lives_any _).mono ?_; rintro e w' ⟨rfl, rfl⟩) | (go_at_call 10; (with_reducible refine (PN.out _).mono ?_); rintro e w' ⟨rfl, rfl⟩))
  refine (Bytes_any _ _ _).mono ?_
  rintro e w1 ⟨he, hcell, hb1, hs1⟩
  rw [hlen'.out] at he hcell
  subst he
  have hcell' := Lib.hid hcell; clear hcell
  go_wp2_with fail
  refine (Of_any w.heap.size 0 N N (fun i => (bytesL x (cl8 N)).getD i 0) _ (Nat.le_refl _) (by omega) hcell'.out).mono ?_
  rw [OfK_bytesL x N (cl8 N) (by omega) hcl'.out]
  rintro e w' ⟨rfl, rfl⟩
  go_wp2_with (go_at_call 13; (with_reducible refine (Low_any _ _ _).mono ?_); rintro e w' ⟨rfl, rfl⟩)
  have hb1' := Lib.hid hb1
  go_loopw [8] (fun i wr => ∃ k : Nat, k ≤ N ∧ i = .int .i64 k ∧ Hid (∃ d, wr = w1.drewN d)) (fun i _ => N - (intOf i).toNat)
  case atStart => exact ⟨0, Nat.zero_le _, rfl, Lib.hid ⟨0, rfl⟩⟩
  case round =>
    obtain ⟨k, hk, rfl, hwr⟩ := hrel
    have hcw : ∀ a, wr.cell? a = w1.cell? a := by obtain ⟨d, rfl⟩ := hwr.out; intro a; rfl
    have hcw' := Lib.hid hcw; clear hcw
    by_cases hlt : k < N
    · have hc1 := hcell'.out k hlt
      rw [bytes_get x _ k (by rw [hcl'.out]; exact hlt), Nat.zero_add, ← hcw'.out] at hc1
      have t := bne_self_false (un (Part x (8 * (k : Int)) 8)) (un (bv (byteAt x k))) (by rw [un_bv _ (by have := byteAt_lt x k; omega)]; exact byte_part x k)
      have hlt' : (k : Int) < (N : Int) := by omega
      have hw8 : IntKind.i64.wrap (8 * (k : Int)) = 8 * (k : Int) := IntWalk.i64_in _ (by omega)
      go_wp2_with fail
      go_quiet ((go_at_call 12; exact quiet_same (Part_any _ _ _ _)))
      go_wp2
      go_roundw
      case rel => exact ⟨k + 1, by omega, by go_num, by obtain ⟨d, rfl⟩ := hwr.out; exact Lib.hid ⟨_, World.drewN_drewN _ _ _⟩⟩
      case measure => simp [intOf]; omega
    · have hbw : Below w.heap.size w wr := by obtain ⟨d, rfl⟩ := hwr.out; exact ⟨hb1.os, hb1.tape, hb1.output, hb1.size, hb1.block⟩
      have hsw : w.heap.size < wr.heap.size := by obtain ⟨d, rfl⟩ := hwr.out; exact hs1
      clear hcw' hwr hb1 hs1 hb1' hcell'
      have hconv : ∀ w', Sem.run Try.prog (convert 35 9 (.slice none 0 0)) w' = .ok (.string ByteArray.empty) w' := fun w' =>
        run_convert_bytes_nil w' 35 5 Try.underlying35 Try.underlying5 0 0 _ Try.underlying9
      have hBy : Hid (∀ W S, Below w.heap.size w W → S = W.heap.size → Calls Try.prog 17 #[.int .u64 (un 0#64), .int .i64 0] W fun e w' => e = .returned (.slice (some ⟨S, 0, none⟩) 0 0) ∧ Below w.heap.size w w' ∧ Sem.run Try.prog (convert 35 9 (.slice (some ⟨S, 0, none⟩) 0 0)) w' = .ok (.string ByteArray.empty) w') := Lib.hid fun W S hW hS =>
        (Bytes_any 0#64 0 W).mono fun e w' ⟨he, hcl, hbl, hsl⟩ => by
          subst hS
          exact ⟨he, hW.trans (hbl.mono hW.size), run_convert_bytes_arg w' 35 5 Try.underlying35 Try.underlying5 W.heap.size 0 0 0 [] (by simp) hcl _ Try.underlying9⟩
      have hbd := hbw.drew
      go_wp2_with fail
      go_region_with (first | (go_at_call 18; refine (Of_nil _).mono ?_; rintro e w' ⟨rfl, rfl⟩) | (go_at_call 17; refine (hBy.out _ wr.heap.size (by assumption) (by rfl)).mono ?_; rintro e w' ⟨rfl, hB2, hcv⟩))
      all_goals go_wp2
      all_goals go_ret
      all_goals exact ⟨rfl, by assumption⟩
set_option maxHeartbeats 2000000 in
theorem WordBytes_empty (x : BitVec 64) (n : Int) (p : Addr) (cap : Nat) (w : World) :
    Calls Try.prog 6 #[.int .u64 (un x), .int .i64 n, .slice (some p) 0 cap] w fun e w' => e = .returned (.bool true) ∧ Below w.heap.size w w' := by
  obtain ⟨N, hN, PN⟩ := Pick_nat_any n 9 (by decide) (by decide)
  have hcl : cl8 N = N := by unfold cl8; omega
  have hlen : (bytesL x (cl8 N)).length = N := by rw [bytesL_len, hcl]
  have hcl' := Lib.hid hcl; have hlen' := Lib.hid hlen; clear hcl hlen
  go_enter Try.func6, Try.ntmps6
  go_wp2_with (first | (go_at_call 9; refine (lives_any _).mono ?_; rintro e w' ⟨rfl, rfl⟩) | (go_at_call 10; (with_reducible refine (PN.out _).mono ?_); rintro e w' ⟨rfl, rfl⟩))
  refine (Bytes_any _ _ _).mono ?_
  rintro e w1 ⟨he, hcell, hb1, hs1⟩
  rw [hlen'.out] at he hcell
  subst he
  have hcell' := Lib.hid hcell; clear hcell
  go_wp2_with fail
  refine (Of_any w.heap.size 0 N N (fun i => (bytesL x (cl8 N)).getD i 0) _ (Nat.le_refl _) (by omega) hcell'.out).mono ?_
  rw [OfK_bytesL x N (cl8 N) (by omega) hcl'.out]
  rintro e w' ⟨rfl, rfl⟩
  go_wp2_with (go_at_call 13; (with_reducible refine (Low_any _ _ _).mono ?_); rintro e w' ⟨rfl, rfl⟩)
  have hb1' := Lib.hid hb1
  go_loopw [8] (fun i wr => ∃ k : Nat, k ≤ N ∧ i = .int .i64 k ∧ Hid (∃ d, wr = w1.drewN d)) (fun i _ => N - (intOf i).toNat)
  case atStart => exact ⟨0, Nat.zero_le _, rfl, Lib.hid ⟨0, rfl⟩⟩
  case round =>
    obtain ⟨k, hk, rfl, hwr⟩ := hrel
    have hcw : ∀ a, wr.cell? a = w1.cell? a := by obtain ⟨d, rfl⟩ := hwr.out; intro a; rfl
    have hcw' := Lib.hid hcw; clear hcw
    by_cases hlt : k < N
    · have hc1 := hcell'.out k hlt
      rw [bytes_get x _ k (by rw [hcl'.out]; exact hlt), Nat.zero_add, ← hcw'.out] at hc1
      have t := bne_self_false (un (Part x (8 * (k : Int)) 8)) (un (bv (byteAt x k))) (by rw [un_bv _ (by have := byteAt_lt x k; omega)]; exact byte_part x k)
      have hlt' : (k : Int) < (N : Int) := by omega
      have hw8 : IntKind.i64.wrap (8 * (k : Int)) = 8 * (k : Int) := IntWalk.i64_in _ (by omega)
      go_wp2_with fail
      go_quiet ((go_at_call 12; exact quiet_same (Part_any _ _ _ _)))
      go_wp2
      go_roundw
      case rel => exact ⟨k + 1, by omega, by go_num, by obtain ⟨d, rfl⟩ := hwr.out; exact Lib.hid ⟨_, World.drewN_drewN _ _ _⟩⟩
      case measure => simp [intOf]; omega
    · have hbw : Below w.heap.size w wr := by obtain ⟨d, rfl⟩ := hwr.out; exact ⟨hb1.os, hb1.tape, hb1.output, hb1.size, hb1.block⟩
      have hsw : w.heap.size < wr.heap.size := by obtain ⟨d, rfl⟩ := hwr.out; exact hs1
      clear hcw' hwr hb1 hs1 hb1' hcell'
      have hconv : ∀ w', Sem.run Try.prog (convert 35 9 (.slice (some p) 0 cap)) w' = .ok (.string ByteArray.empty) w' := fun w' =>
        run_convert_bytes_empty w' 35 5 Try.underlying35 Try.underlying5 p cap _ Try.underlying9
      have hBy : Hid (∀ W S, Below w.heap.size w W → S = W.heap.size → Calls Try.prog 17 #[.int .u64 (un 0#64), .int .i64 0] W fun e w' => e = .returned (.slice (some ⟨S, 0, none⟩) 0 0) ∧ Below w.heap.size w w' ∧ Sem.run Try.prog (convert 35 9 (.slice (some ⟨S, 0, none⟩) 0 0)) w' = .ok (.string ByteArray.empty) w') := Lib.hid fun W S hW hS =>
        (Bytes_any 0#64 0 W).mono fun e w' ⟨he, hcl, hbl, hsl⟩ => by
          subst hS
          exact ⟨he, hW.trans (hbl.mono hW.size), run_convert_bytes_arg w' 35 5 Try.underlying35 Try.underlying5 W.heap.size 0 0 0 [] (by simp) hcl _ Try.underlying9⟩
      have hbd := hbw.drew
      go_wp2_with fail
      go_region_with (first | (go_at_call 18; refine (Of_empty _ _ _).mono ?_; rintro e w' ⟨rfl, rfl⟩) | (go_at_call 17; refine (hBy.out _ wr.heap.size (by assumption) (by rfl)).mono ?_; rintro e w' ⟨rfl, hB2, hcv⟩))
      all_goals go_wp2
      all_goals go_ret
      all_goals exact ⟨rfl, by assumption⟩
end Go.Proofs.Ytfepbaogpmblaaa
