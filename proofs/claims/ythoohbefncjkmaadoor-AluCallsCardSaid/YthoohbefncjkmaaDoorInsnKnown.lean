/- The walk of insn.known: what there is to know of an op of a name and a form. Conditions: where there is a size, the name has two letters and its letter is one of bhwd. -/
import Derived.Test.YthoohbefncjkmaaDoorShelf
import Derived.Test.YthoohbefncjkmaaDoorInsnDefs
import Derived.ProofKit
import Derived.Lib.Hide
import Derived.Lib.Strings
import Derived.Lib.IndexBytes
import Derived.WalkSpells
namespace Go.Proofs.YthoohbefncjkmaaDoor
open Go.RowKit
theorem pow_i (i : Nat) (h : i ≤ 3) : (1 : Int) ≤ 2 ^ i ∧ (2 : Int) ^ i ≤ 8 := by
  rcases i with _ | _ | _ | _ | i <;> first | decide | omega
theorem prefix_any (B : ByteArray) (b : Bool) (h : Lib.hasPrefix B.data.toList [97, 109, 111] = b) : Hid (∀ w, Calls Tryd.prog 93 #[.string B, .string ⟨#[97, 109, 111]⟩] w fun e w' => e = .returned (.bool b) ∧ w = w') := Lib.hid fun w =>
  (Tryd.strings_HasPrefix B ⟨#[97, 109, 111]⟩ w).mono fun e w' ⟨he, hw⟩ => ⟨by rw [he]; exact ret_bool h, hw.symm⟩
theorem index_any (c : UInt8) (i : Nat) (h : Lib.indexByte bhwd c = (i : Int)) : Hid (∀ w, Calls Tryd.prog 92 #[.string ⟨#[98, 104, 119, 100]⟩, .string ⟨#[c]⟩] w fun e w' => e = .returned (.int .i64 (i : Int)) ∧ w = w') := Lib.hid fun w =>
  (Tryd.strings_Index_one ⟨#[98, 104, 119, 100]⟩ c w).mono fun e w' ⟨he, hw⟩ => ⟨by rw [he]; exact ret_int h, hw.symm⟩
set_option maxHeartbeats 1000000 in
theorem known_none (B : ByteArray) (f : Int) (w : World)
    (_h4 : (f == 4) = false) (_h11 : (f == 11) = false) (_h5 : (f == 5) = false) (_h12 : (f == 12) = false) (hP : Lib.hasPrefix B.data.toList [97, 109, 111] = false) :
    Calls Tryd.prog 87 #[.string B, .int .i64 f] w fun e w' => e = .returned (.agg #[.string B, .int .i64 f, .bool false, .bool false, .int .i64 0]) ∧ Below w.heap.size w w' := by
  have hPre := prefix_any B false hP
  clear hP
  go_enter Tryd.func87, Tryd.ntmps87
  go_wp2_with (go_at_call 93; (with_reducible refine (hPre.out _).mono ?_); rintro e w' ⟨rfl, rfl⟩)
  refine bodyPost_ret (v := .agg #[.string B, .int .i64 f, .bool false, .bool false, .int .i64 0]) (by simp [results, Tryd.results87, go_sem]) rfl ⟨rfl, ?_⟩
  exact (((Below.refl _ _).alloc (Nat.le_refl _) _).alloc (by simp) _)
set_option maxHeartbeats 1000000 in
theorem known_pre (B : ByteArray) (f : Int) (c : UInt8) (i : Nat) (w : World)
    (_h4 : (f == 4) = false) (_h11 : (f == 11) = false) (_h5 : (f == 5) = false) (_h12 : (f == 12) = false) (hP : Lib.hasPrefix B.data.toList [97, 109, 111] = true) (_hB : B.size ≤ 1000) (_hs : 2 ≤ B.size) (hi : i ≤ 3) (hix : Lib.indexByte bhwd c = (i : Int)) (hext : B.extract (B.size - 1) B.size = ⟨#[c]⟩) :
    Calls Tryd.prog 87 #[.string B, .int .i64 f] w fun e w' => e = .returned (.agg #[.string B, .int .i64 f, .bool true, .bool false, .int .i64 (2 ^ i)]) ∧ Below w.heap.size w w' := by
  have hPre := prefix_any B true hP
  have hIdx := index_any c i hix
  have hp := pow_i i hi
  obtain ⟨Q, hQ⟩ : ∃ Q : Int, (2 : Int) ^ i = Q := ⟨_, rfl⟩
  rw [hQ] at hp ⊢
  obtain ⟨hp1, hp2⟩ := hp
  clear hP hix
  go_enter Tryd.func87, Tryd.ntmps87
  go_wp2_with (first | (go_at_call 93; (with_reducible refine (hPre.out _).mono ?_); rintro e w' ⟨rfl, rfl⟩) | (go_at_call 92; (with_reducible refine (hIdx.out _).mono ?_); rintro e w' ⟨rfl, rfl⟩))
  refine bodyPost_ret (v := .agg #[.string B, .int .i64 f, .bool true, .bool false, .int .i64 Q]) (by simp [results, Tryd.results87, go_sem]) rfl ⟨rfl, ?_⟩
  exact (((Below.refl _ _).alloc (Nat.le_refl _) _).alloc (by simp) _)
set_option maxHeartbeats 1000000 in
theorem known_f4 (B : ByteArray) (c : UInt8) (i : Nat) (w : World)
    (_hB : B.size ≤ 1000) (_hs : 2 ≤ B.size) (hi : i ≤ 3) (hix : Lib.indexByte bhwd c = (i : Int)) (hext : B.extract 1 2 = ⟨#[c]⟩) :
    Calls Tryd.prog 87 #[.string B, .int .i64 4] w fun e w' => e = .returned (.agg #[.string B, .int .i64 4, .bool true, .bool false, .int .i64 (2 ^ i)]) ∧ Below w.heap.size w w' := by
  have hIdx := index_any c i hix
  have hp := pow_i i hi
  obtain ⟨Q, hQ⟩ : ∃ Q : Int, (2 : Int) ^ i = Q := ⟨_, rfl⟩
  rw [hQ] at hp ⊢
  obtain ⟨hp1, hp2⟩ := hp
  clear hix
  go_enter Tryd.func87, Tryd.ntmps87
  go_wp2_with (go_at_call 92; (with_reducible refine (hIdx.out _).mono ?_); rintro e w' ⟨rfl, rfl⟩)
  refine bodyPost_ret (v := .agg #[.string B, .int .i64 4, .bool true, .bool false, .int .i64 Q]) (by simp [results, Tryd.results87, go_sem]) rfl ⟨rfl, ?_⟩
  exact (((Below.refl _ _).alloc (Nat.le_refl _) _).alloc (by simp) _)
set_option maxHeartbeats 1000000 in
theorem known_f11 (B : ByteArray) (c : UInt8) (i : Nat) (w : World)
    (_hB : B.size ≤ 1000) (_hs : 2 ≤ B.size) (hi : i ≤ 3) (hix : Lib.indexByte bhwd c = (i : Int)) (hext : B.extract (B.size - 1) B.size = ⟨#[c]⟩) :
    Calls Tryd.prog 87 #[.string B, .int .i64 11] w fun e w' => e = .returned (.agg #[.string B, .int .i64 11, .bool true, .bool false, .int .i64 (2 ^ i)]) ∧ Below w.heap.size w w' := by
  have hIdx := index_any c i hix
  have hp := pow_i i hi
  obtain ⟨Q, hQ⟩ : ∃ Q : Int, (2 : Int) ^ i = Q := ⟨_, rfl⟩
  rw [hQ] at hp ⊢
  obtain ⟨hp1, hp2⟩ := hp
  clear hix
  go_enter Tryd.func87, Tryd.ntmps87
  go_wp2_with (go_at_call 92; (with_reducible refine (hIdx.out _).mono ?_); rintro e w' ⟨rfl, rfl⟩)
  refine bodyPost_ret (v := .agg #[.string B, .int .i64 11, .bool true, .bool false, .int .i64 Q]) (by simp [results, Tryd.results87, go_sem]) rfl ⟨rfl, ?_⟩
  exact (((Below.refl _ _).alloc (Nat.le_refl _) _).alloc (by simp) _)
set_option maxHeartbeats 1000000 in
theorem known_f5 (B : ByteArray) (c : UInt8) (i : Nat) (w : World)
    (hP : Lib.hasPrefix B.data.toList [97, 109, 111] = false) (_hB : B.size ≤ 1000) (_hs : 2 ≤ B.size) (hi : i ≤ 3) (hix : Lib.indexByte bhwd c = (i : Int)) (hext : B.extract (B.size - 1) B.size = ⟨#[c]⟩) :
    Calls Tryd.prog 87 #[.string B, .int .i64 5] w fun e w' => e = .returned (.agg #[.string B, .int .i64 5, .bool false, .bool true, .int .i64 (2 ^ i)]) ∧ Below w.heap.size w w' := by
  have hPre := prefix_any B false hP
  have hIdx := index_any c i hix
  have hp := pow_i i hi
  obtain ⟨Q, hQ⟩ : ∃ Q : Int, (2 : Int) ^ i = Q := ⟨_, rfl⟩
  rw [hQ] at hp ⊢
  obtain ⟨hp1, hp2⟩ := hp
  clear hP hix
  go_enter Tryd.func87, Tryd.ntmps87
  go_wp2_with (first | (go_at_call 93; (with_reducible refine (hPre.out _).mono ?_); rintro e w' ⟨rfl, rfl⟩) | (go_at_call 92; (with_reducible refine (hIdx.out _).mono ?_); rintro e w' ⟨rfl, rfl⟩))
  refine bodyPost_ret (v := .agg #[.string B, .int .i64 5, .bool false, .bool true, .int .i64 Q]) (by simp [results, Tryd.results87, go_sem]) rfl ⟨rfl, ?_⟩
  exact (((Below.refl _ _).alloc (Nat.le_refl _) _).alloc (by simp) _)
set_option maxHeartbeats 1000000 in
theorem known_f5p (B : ByteArray) (c : UInt8) (i : Nat) (w : World)
    (hP : Lib.hasPrefix B.data.toList [97, 109, 111] = true) (_hB : B.size ≤ 1000) (_hs : 2 ≤ B.size) (hi : i ≤ 3) (hix : Lib.indexByte bhwd c = (i : Int)) (hext : B.extract (B.size - 1) B.size = ⟨#[c]⟩) :
    Calls Tryd.prog 87 #[.string B, .int .i64 5] w fun e w' => e = .returned (.agg #[.string B, .int .i64 5, .bool true, .bool true, .int .i64 (2 ^ i)]) ∧ Below w.heap.size w w' := by
  have hPre := prefix_any B true hP
  have hIdx := index_any c i hix
  have hp := pow_i i hi
  obtain ⟨Q, hQ⟩ : ∃ Q : Int, (2 : Int) ^ i = Q := ⟨_, rfl⟩
  rw [hQ] at hp ⊢
  obtain ⟨hp1, hp2⟩ := hp
  clear hP hix
  go_enter Tryd.func87, Tryd.ntmps87
  go_wp2_with (first | (go_at_call 93; (with_reducible refine (hPre.out _).mono ?_); rintro e w' ⟨rfl, rfl⟩) | (go_at_call 92; (with_reducible refine (hIdx.out _).mono ?_); rintro e w' ⟨rfl, rfl⟩))
  refine bodyPost_ret (v := .agg #[.string B, .int .i64 5, .bool true, .bool true, .int .i64 Q]) (by simp [results, Tryd.results87, go_sem]) rfl ⟨rfl, ?_⟩
  exact (((Below.refl _ _).alloc (Nat.le_refl _) _).alloc (by simp) _)
set_option maxHeartbeats 1000000 in
theorem known_f12 (B : ByteArray) (c : UInt8) (i : Nat) (w : World)
    (hP : Lib.hasPrefix B.data.toList [97, 109, 111] = false) (_hB : B.size ≤ 1000) (_hs : 2 ≤ B.size) (hi : i ≤ 3) (hix : Lib.indexByte bhwd c = (i : Int)) (hext : B.extract (B.size - 1) B.size = ⟨#[c]⟩) :
    Calls Tryd.prog 87 #[.string B, .int .i64 12] w fun e w' => e = .returned (.agg #[.string B, .int .i64 12, .bool false, .bool true, .int .i64 (2 ^ i)]) ∧ Below w.heap.size w w' := by
  have hPre := prefix_any B false hP
  have hIdx := index_any c i hix
  have hp := pow_i i hi
  obtain ⟨Q, hQ⟩ : ∃ Q : Int, (2 : Int) ^ i = Q := ⟨_, rfl⟩
  rw [hQ] at hp ⊢
  obtain ⟨hp1, hp2⟩ := hp
  clear hP hix
  go_enter Tryd.func87, Tryd.ntmps87
  go_wp2_with (first | (go_at_call 93; (with_reducible refine (hPre.out _).mono ?_); rintro e w' ⟨rfl, rfl⟩) | (go_at_call 92; (with_reducible refine (hIdx.out _).mono ?_); rintro e w' ⟨rfl, rfl⟩))
  refine bodyPost_ret (v := .agg #[.string B, .int .i64 12, .bool false, .bool true, .int .i64 Q]) (by simp [results, Tryd.results87, go_sem]) rfl ⟨rfl, ?_⟩
  exact (((Below.refl _ _).alloc (Nat.le_refl _) _).alloc (by simp) _)
set_option maxHeartbeats 1000000 in
theorem known_f12p (B : ByteArray) (c : UInt8) (i : Nat) (w : World)
    (hP : Lib.hasPrefix B.data.toList [97, 109, 111] = true) (_hB : B.size ≤ 1000) (_hs : 2 ≤ B.size) (hi : i ≤ 3) (hix : Lib.indexByte bhwd c = (i : Int)) (hext : B.extract (B.size - 1) B.size = ⟨#[c]⟩) :
    Calls Tryd.prog 87 #[.string B, .int .i64 12] w fun e w' => e = .returned (.agg #[.string B, .int .i64 12, .bool true, .bool true, .int .i64 (2 ^ i)]) ∧ Below w.heap.size w w' := by
  have hPre := prefix_any B true hP
  have hIdx := index_any c i hix
  have hp := pow_i i hi
  obtain ⟨Q, hQ⟩ : ∃ Q : Int, (2 : Int) ^ i = Q := ⟨_, rfl⟩
  rw [hQ] at hp ⊢
  obtain ⟨hp1, hp2⟩ := hp
  clear hP hix
  go_enter Tryd.func87, Tryd.ntmps87
  go_wp2_with (first | (go_at_call 93; (with_reducible refine (hPre.out _).mono ?_); rintro e w' ⟨rfl, rfl⟩) | (go_at_call 92; (with_reducible refine (hIdx.out _).mono ?_); rintro e w' ⟨rfl, rfl⟩))
  refine bodyPost_ret (v := .agg #[.string B, .int .i64 12, .bool true, .bool true, .int .i64 Q]) (by simp [results, Tryd.results87, go_sem]) rfl ⟨rfl, ?_⟩
  exact (((Below.refl _ _).alloc (Nat.le_refl _) _).alloc (by simp) _)
end Go.Proofs.YthoohbefncjkmaaDoor
