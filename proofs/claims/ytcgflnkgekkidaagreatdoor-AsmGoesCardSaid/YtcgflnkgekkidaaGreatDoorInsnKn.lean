/- The walk of insn.known: what there is to know of an op of a name and a form. insn.known at a name and a form: one contract for all of them. The walk of insn.rows: the ops' rows in new memory. The walk of insn.of: what there is to know of an op, by its number. The walks of insn.of and insn.Form at whatever number. Whether two instructions are the same, as the program asks it. Conditions: as each theorem says. -/
import Derived.Test.YtcgflnkgekkidaaGreatDoorShelf
import Derived.Test.YtcgflnkgekkidaaGreatDoorInsnDf
import Derived.ProofKit
import Derived.Lib.Hide
import Derived.Lib.Strings
import Derived.Lib.IndexBytes
import Derived.WalkSpells
import Derived.Test.YtcgflnkgekkidaaGreatDoorProg
import Derived.Deep.RegionWith
import Derived.Lib.Space
import Derived.Lib.LaidTab
import Derived.WalkSmall
namespace Go.Proofs.YtcgflnkgekkidaaGreatDoor
open Go.RowKit
theorem pow_i (i : Nat) (h : i ≤ 3) : (1 : Int) ≤ 2 ^ i ∧ (2 : Int) ^ i ≤ 8 := by
  rcases i with _ | _ | _ | _ | i <;> first | decide | omega
theorem prefix_any (B : ByteArray) (b : Bool) (h : Lib.hasPrefix B.data.toList [97, 109, 111] = b) : Hid (∀ w, Calls Tryz.prog 136 #[.string B, .string ⟨#[97, 109, 111]⟩] w fun e w' => e = .returned (.bool b) ∧ w = w') := Lib.hid fun w =>
  (Tryz.strings_HasPrefix B ⟨#[97, 109, 111]⟩ w).mono fun e w' ⟨he, hw⟩ => ⟨by rw [he]; exact ret_bool h, hw.symm⟩
theorem index_any (c : UInt8) (i : Nat) (h : Lib.indexByte bhwd c = (i : Int)) : Hid (∀ w, Calls Tryz.prog 135 #[.string ⟨#[98, 104, 119, 100]⟩, .string ⟨#[c]⟩] w fun e w' => e = .returned (.int .i64 (i : Int)) ∧ w = w') := Lib.hid fun w =>
  (Tryz.strings_Index_one ⟨#[98, 104, 119, 100]⟩ c w).mono fun e w' ⟨he, hw⟩ => ⟨by rw [he]; exact ret_int h, hw.symm⟩
set_option maxHeartbeats 1000000 in
theorem known_none (B : ByteArray) (f : Int) (w : World)
    (_h4 : (f == 4) = false) (_h11 : (f == 11) = false) (_h5 : (f == 5) = false) (_h12 : (f == 12) = false) (hP : Lib.hasPrefix B.data.toList [97, 109, 111] = false) :
    Calls Tryz.prog 130 #[.string B, .int .i64 f] w fun e w' => e = .returned (.agg #[.string B, .int .i64 f, .bool false, .bool false, .int .i64 0]) ∧ Below w.heap.size w w' := by
  have hPre := prefix_any B false hP
  clear hP
  go_enter Tryz.func130, Tryz.ntmps130
  go_wp2_with (go_at_call 136; (with_reducible refine (hPre.out _).mono ?_); rintro e w' ⟨rfl, rfl⟩)
  refine bodyPost_ret (v := .agg #[.string B, .int .i64 f, .bool false, .bool false, .int .i64 0]) (by simp [results, Tryz.results130, go_sem]) rfl ⟨rfl, ?_⟩
  exact (((Below.refl _ _).alloc (Nat.le_refl _) _).alloc (by simp) _)
set_option maxHeartbeats 1000000 in
theorem known_pre (B : ByteArray) (f : Int) (c : UInt8) (i : Nat) (w : World)
    (_h4 : (f == 4) = false) (_h11 : (f == 11) = false) (_h5 : (f == 5) = false) (_h12 : (f == 12) = false) (hP : Lib.hasPrefix B.data.toList [97, 109, 111] = true) (_hB : B.size ≤ 1000) (_hs : 2 ≤ B.size) (hi : i ≤ 3) (hix : Lib.indexByte bhwd c = (i : Int)) (hext : B.extract (B.size - 1) B.size = ⟨#[c]⟩) :
    Calls Tryz.prog 130 #[.string B, .int .i64 f] w fun e w' => e = .returned (.agg #[.string B, .int .i64 f, .bool true, .bool false, .int .i64 (2 ^ i)]) ∧ Below w.heap.size w w' := by
  have hPre := prefix_any B true hP
  have hIdx := index_any c i hix
  have hp := pow_i i hi
  obtain ⟨Q, hQ⟩ : ∃ Q : Int, (2 : Int) ^ i = Q := ⟨_, rfl⟩
  rw [hQ] at hp ⊢
  obtain ⟨hp1, hp2⟩ := hp
  clear hP hix
  go_enter Tryz.func130, Tryz.ntmps130
  go_wp2_with (first | (go_at_call 136; (with_reducible refine (hPre.out _).mono ?_); rintro e w' ⟨rfl, rfl⟩) | (go_at_call 135; (with_reducible refine (hIdx.out _).mono ?_); rintro e w' ⟨rfl, rfl⟩))
  refine bodyPost_ret (v := .agg #[.string B, .int .i64 f, .bool true, .bool false, .int .i64 Q]) (by simp [results, Tryz.results130, go_sem]) rfl ⟨rfl, ?_⟩
  exact (((Below.refl _ _).alloc (Nat.le_refl _) _).alloc (by simp) _)
set_option maxHeartbeats 1000000 in
theorem known_f4 (B : ByteArray) (c : UInt8) (i : Nat) (w : World)
    (_hB : B.size ≤ 1000) (_hs : 2 ≤ B.size) (hi : i ≤ 3) (hix : Lib.indexByte bhwd c = (i : Int)) (hext : B.extract 1 2 = ⟨#[c]⟩) :
    Calls Tryz.prog 130 #[.string B, .int .i64 4] w fun e w' => e = .returned (.agg #[.string B, .int .i64 4, .bool true, .bool false, .int .i64 (2 ^ i)]) ∧ Below w.heap.size w w' := by
  have hIdx := index_any c i hix
  have hp := pow_i i hi
  obtain ⟨Q, hQ⟩ : ∃ Q : Int, (2 : Int) ^ i = Q := ⟨_, rfl⟩
  rw [hQ] at hp ⊢
  obtain ⟨hp1, hp2⟩ := hp
  clear hix
  go_enter Tryz.func130, Tryz.ntmps130
  go_wp2_with (go_at_call 135; (with_reducible refine (hIdx.out _).mono ?_); rintro e w' ⟨rfl, rfl⟩)
  refine bodyPost_ret (v := .agg #[.string B, .int .i64 4, .bool true, .bool false, .int .i64 Q]) (by simp [results, Tryz.results130, go_sem]) rfl ⟨rfl, ?_⟩
  exact (((Below.refl _ _).alloc (Nat.le_refl _) _).alloc (by simp) _)
set_option maxHeartbeats 1000000 in
theorem known_f11 (B : ByteArray) (c : UInt8) (i : Nat) (w : World)
    (_hB : B.size ≤ 1000) (_hs : 2 ≤ B.size) (hi : i ≤ 3) (hix : Lib.indexByte bhwd c = (i : Int)) (hext : B.extract (B.size - 1) B.size = ⟨#[c]⟩) :
    Calls Tryz.prog 130 #[.string B, .int .i64 11] w fun e w' => e = .returned (.agg #[.string B, .int .i64 11, .bool true, .bool false, .int .i64 (2 ^ i)]) ∧ Below w.heap.size w w' := by
  have hIdx := index_any c i hix
  have hp := pow_i i hi
  obtain ⟨Q, hQ⟩ : ∃ Q : Int, (2 : Int) ^ i = Q := ⟨_, rfl⟩
  rw [hQ] at hp ⊢
  obtain ⟨hp1, hp2⟩ := hp
  clear hix
  go_enter Tryz.func130, Tryz.ntmps130
  go_wp2_with (go_at_call 135; (with_reducible refine (hIdx.out _).mono ?_); rintro e w' ⟨rfl, rfl⟩)
  refine bodyPost_ret (v := .agg #[.string B, .int .i64 11, .bool true, .bool false, .int .i64 Q]) (by simp [results, Tryz.results130, go_sem]) rfl ⟨rfl, ?_⟩
  exact (((Below.refl _ _).alloc (Nat.le_refl _) _).alloc (by simp) _)
set_option maxHeartbeats 1000000 in
theorem known_f5 (B : ByteArray) (c : UInt8) (i : Nat) (w : World)
    (hP : Lib.hasPrefix B.data.toList [97, 109, 111] = false) (_hB : B.size ≤ 1000) (_hs : 2 ≤ B.size) (hi : i ≤ 3) (hix : Lib.indexByte bhwd c = (i : Int)) (hext : B.extract (B.size - 1) B.size = ⟨#[c]⟩) :
    Calls Tryz.prog 130 #[.string B, .int .i64 5] w fun e w' => e = .returned (.agg #[.string B, .int .i64 5, .bool false, .bool true, .int .i64 (2 ^ i)]) ∧ Below w.heap.size w w' := by
  have hPre := prefix_any B false hP
  have hIdx := index_any c i hix
  have hp := pow_i i hi
  obtain ⟨Q, hQ⟩ : ∃ Q : Int, (2 : Int) ^ i = Q := ⟨_, rfl⟩
  rw [hQ] at hp ⊢
  obtain ⟨hp1, hp2⟩ := hp
  clear hP hix
  go_enter Tryz.func130, Tryz.ntmps130
  go_wp2_with (first | (go_at_call 136; (with_reducible refine (hPre.out _).mono ?_); rintro e w' ⟨rfl, rfl⟩) | (go_at_call 135; (with_reducible refine (hIdx.out _).mono ?_); rintro e w' ⟨rfl, rfl⟩))
  refine bodyPost_ret (v := .agg #[.string B, .int .i64 5, .bool false, .bool true, .int .i64 Q]) (by simp [results, Tryz.results130, go_sem]) rfl ⟨rfl, ?_⟩
  exact (((Below.refl _ _).alloc (Nat.le_refl _) _).alloc (by simp) _)
set_option maxHeartbeats 1000000 in
theorem known_f5p (B : ByteArray) (c : UInt8) (i : Nat) (w : World)
    (hP : Lib.hasPrefix B.data.toList [97, 109, 111] = true) (_hB : B.size ≤ 1000) (_hs : 2 ≤ B.size) (hi : i ≤ 3) (hix : Lib.indexByte bhwd c = (i : Int)) (hext : B.extract (B.size - 1) B.size = ⟨#[c]⟩) :
    Calls Tryz.prog 130 #[.string B, .int .i64 5] w fun e w' => e = .returned (.agg #[.string B, .int .i64 5, .bool true, .bool true, .int .i64 (2 ^ i)]) ∧ Below w.heap.size w w' := by
  have hPre := prefix_any B true hP
  have hIdx := index_any c i hix
  have hp := pow_i i hi
  obtain ⟨Q, hQ⟩ : ∃ Q : Int, (2 : Int) ^ i = Q := ⟨_, rfl⟩
  rw [hQ] at hp ⊢
  obtain ⟨hp1, hp2⟩ := hp
  clear hP hix
  go_enter Tryz.func130, Tryz.ntmps130
  go_wp2_with (first | (go_at_call 136; (with_reducible refine (hPre.out _).mono ?_); rintro e w' ⟨rfl, rfl⟩) | (go_at_call 135; (with_reducible refine (hIdx.out _).mono ?_); rintro e w' ⟨rfl, rfl⟩))
  refine bodyPost_ret (v := .agg #[.string B, .int .i64 5, .bool true, .bool true, .int .i64 Q]) (by simp [results, Tryz.results130, go_sem]) rfl ⟨rfl, ?_⟩
  exact (((Below.refl _ _).alloc (Nat.le_refl _) _).alloc (by simp) _)
set_option maxHeartbeats 1000000 in
theorem known_f12 (B : ByteArray) (c : UInt8) (i : Nat) (w : World)
    (hP : Lib.hasPrefix B.data.toList [97, 109, 111] = false) (_hB : B.size ≤ 1000) (_hs : 2 ≤ B.size) (hi : i ≤ 3) (hix : Lib.indexByte bhwd c = (i : Int)) (hext : B.extract (B.size - 1) B.size = ⟨#[c]⟩) :
    Calls Tryz.prog 130 #[.string B, .int .i64 12] w fun e w' => e = .returned (.agg #[.string B, .int .i64 12, .bool false, .bool true, .int .i64 (2 ^ i)]) ∧ Below w.heap.size w w' := by
  have hPre := prefix_any B false hP
  have hIdx := index_any c i hix
  have hp := pow_i i hi
  obtain ⟨Q, hQ⟩ : ∃ Q : Int, (2 : Int) ^ i = Q := ⟨_, rfl⟩
  rw [hQ] at hp ⊢
  obtain ⟨hp1, hp2⟩ := hp
  clear hP hix
  go_enter Tryz.func130, Tryz.ntmps130
  go_wp2_with (first | (go_at_call 136; (with_reducible refine (hPre.out _).mono ?_); rintro e w' ⟨rfl, rfl⟩) | (go_at_call 135; (with_reducible refine (hIdx.out _).mono ?_); rintro e w' ⟨rfl, rfl⟩))
  refine bodyPost_ret (v := .agg #[.string B, .int .i64 12, .bool false, .bool true, .int .i64 Q]) (by simp [results, Tryz.results130, go_sem]) rfl ⟨rfl, ?_⟩
  exact (((Below.refl _ _).alloc (Nat.le_refl _) _).alloc (by simp) _)
set_option maxHeartbeats 1000000 in
theorem known_f12p (B : ByteArray) (c : UInt8) (i : Nat) (w : World)
    (hP : Lib.hasPrefix B.data.toList [97, 109, 111] = true) (_hB : B.size ≤ 1000) (_hs : 2 ≤ B.size) (hi : i ≤ 3) (hix : Lib.indexByte bhwd c = (i : Int)) (hext : B.extract (B.size - 1) B.size = ⟨#[c]⟩) :
    Calls Tryz.prog 130 #[.string B, .int .i64 12] w fun e w' => e = .returned (.agg #[.string B, .int .i64 12, .bool true, .bool true, .int .i64 (2 ^ i)]) ∧ Below w.heap.size w w' := by
  have hPre := prefix_any B true hP
  have hIdx := index_any c i hix
  have hp := pow_i i hi
  obtain ⟨Q, hQ⟩ : ∃ Q : Int, (2 : Int) ^ i = Q := ⟨_, rfl⟩
  rw [hQ] at hp ⊢
  obtain ⟨hp1, hp2⟩ := hp
  clear hP hix
  go_enter Tryz.func130, Tryz.ntmps130
  go_wp2_with (first | (go_at_call 136; (with_reducible refine (hPre.out _).mono ?_); rintro e w' ⟨rfl, rfl⟩) | (go_at_call 135; (with_reducible refine (hIdx.out _).mono ?_); rintro e w' ⟨rfl, rfl⟩))
  refine bodyPost_ret (v := .agg #[.string B, .int .i64 12, .bool true, .bool true, .int .i64 Q]) (by simp [results, Tryz.results130, go_sem]) rfl ⟨rfl, ?_⟩
  exact (((Below.refl _ _).alloc (Nat.le_refl _) _).alloc (by simp) _)
end Go.Proofs.YtcgflnkgekkidaaGreatDoor
namespace Go.Proofs.YtcgflnkgekkidaaGreatDoor
open Go.RowKit
theorem str_ext {a b : ByteArray} (h : a.data.toList = b.data.toList) : a = b := by
  obtain ⟨⟨x⟩⟩ := a; obtain ⟨⟨y⟩⟩ := b; simp at h; rw [h]
theorem bhwd_le (c : UInt8) : Lib.indexByte bhwd c ≤ 3 := by
  unfold bhwd; simp only [Lib.indexByte]
  repeat' split
  all_goals omega
theorem ext_12 (s : List UInt8) (h : 2 ≤ s.length) : (⟨s.toArray⟩ : ByteArray).extract 1 2 = ⟨#[s.getD 1 0]⟩ := by
  apply str_ext
  rw [Lib.extract_data]
  rcases s with _ | ⟨a, _ | ⟨b, s⟩⟩ <;> simp at h ⊢
theorem ext_last (s : List UInt8) (h : 2 ≤ s.length) : (⟨s.toArray⟩ : ByteArray).extract ((⟨s.toArray⟩ : ByteArray).size - 1) (⟨s.toArray⟩ : ByteArray).size = ⟨#[lastLetter s]⟩ := by
  apply str_ext
  rw [Lib.extract_to_end]
  have e : (⟨s.toArray⟩ : ByteArray).size = s.length := rfl
  rw [e]
  have hne : s ≠ [] := by intro h0; rw [h0] at h; simp at h
  show s.drop (s.length - 1) = [lastLetter s]
  have e3 : (s.dropLast ++ [s.getLast hne]).drop (s.length - 1) = [s.getLast hne] := by
    rw [List.drop_append_of_le_length (by simp), List.drop_of_length_le (by simp)]; rfl
  rw [List.dropLast_concat_getLast] at e3
  rw [e3]
  unfold lastLetter
  rw [List.getLastD_eq_getLast?, List.getLast?_eq_some_getLast hne]
  rfl
theorem known_any (s : List UInt8) (f : Int) (hok : knownOk s f = true) (hl : s.length ≤ 1000) (w : World) :
    Calls Tryz.prog 130 #[.string ⟨s.toArray⟩, .int .i64 f] w fun e w' => e = .returned (.agg #[.string ⟨s.toArray⟩, .int .i64 f, .bool (knownL s f), .bool (knownS f), .int .i64 (knownSize s f)]) ∧ Below w.heap.size w w' := by
  have hsz : (⟨s.toArray⟩ : ByteArray).size = s.length := rfl
  have hdt : (⟨s.toArray⟩ : ByteArray).data.toList = s := by simp
  by_cases hany : (knownL s f || knownS f) = true
  · have hok' := hok
    unfold knownOk at hok'
    rw [if_pos hany] at hok'
    simp only [Bool.and_eq_true, decide_eq_true_eq] at hok'
    obtain ⟨h2, hi0⟩ := hok'
    obtain ⟨i, hi, hix⟩ : ∃ i : Nat, i ≤ 3 ∧ Lib.indexByte bhwd (opLetter s f) = (i : Int) := by
      refine ⟨(Lib.indexByte bhwd (opLetter s f)).toNat, ?_, by omega⟩
      have := bhwd_le (opLetter s f)
      omega
    have hS : knownSize s f = 2 ^ i := by unfold knownSize; rw [if_pos hany, hix]; rfl
    rw [hS]
    by_cases h4 : f = 4
    · subst h4
      have hext := ext_12 s h2
      have hL : opLetter s 4 = s.getD 1 0 := by unfold opLetter; rw [if_pos rfl]
      rw [hL] at hix
      have := known_f4 ⟨s.toArray⟩ (s.getD 1 0) i w (by rw [hsz]; exact hl) (by rw [hsz]; exact h2) hi hix hext
      rw [show knownL s 4 = true from rfl, show knownS 4 = false from rfl]; exact this
    · have hext := ext_last s h2
      have hL : opLetter s f = lastLetter s := by unfold opLetter; rw [if_neg h4]
      rw [hL] at hix
      by_cases h11 : f = 11
      · subst h11
        have := known_f11 ⟨s.toArray⟩ (lastLetter s) i w (by rw [hsz]; exact hl) (by rw [hsz]; exact h2) hi hix hext
        rw [show knownL s 11 = true from rfl, show knownS 11 = false from rfl]; exact this
      · rcases hP : Lib.hasPrefix s [97, 109, 111] with _ | _
        · have hLd : knownL s f = false := by unfold knownL; rw [hP]; simp [h4, h11]
          rw [hLd] at hany ⊢
          have h5 : f = 5 ∨ f = 12 := by unfold knownS at hany; simp at hany; omega
          rcases h5 with rfl | rfl
          · have := known_f5 ⟨s.toArray⟩ (lastLetter s) i w (by rw [hdt]; exact hP) (by rw [hsz]; exact hl) (by rw [hsz]; exact h2) hi hix hext
            exact this
          · have := known_f12 ⟨s.toArray⟩ (lastLetter s) i w (by rw [hdt]; exact hP) (by rw [hsz]; exact hl) (by rw [hsz]; exact h2) hi hix hext
            exact this
        · have hLd : knownL s f = true := by unfold knownL; rw [hP]; simp
          rw [hLd]
          by_cases h5 : f = 5
          · subst h5
            have := known_f5p ⟨s.toArray⟩ (lastLetter s) i w (by rw [hdt]; exact hP) (by rw [hsz]; exact hl) (by rw [hsz]; exact h2) hi hix hext
            exact this
          · by_cases h12 : f = 12
            · subst h12
              have := known_f12p ⟨s.toArray⟩ (lastLetter s) i w (by rw [hdt]; exact hP) (by rw [hsz]; exact hl) (by rw [hsz]; exact h2) hi hix hext
              exact this
            · have := known_pre ⟨s.toArray⟩ f (lastLetter s) i w (by simpa using h4) (by simpa using h11) (by simpa using h5) (by simpa using h12) (by rw [hdt]; exact hP) (by rw [hsz]; exact hl) (by rw [hsz]; exact h2) hi hix hext
              rw [show knownS f = false by unfold knownS; simp [h5, h12]]
              exact this
  · have hany' : (knownL s f || knownS f) = false := by simpa using hany
    have hS : knownSize s f = 0 := by unfold knownSize; rw [if_neg hany]
    simp only [Bool.or_eq_false_iff] at hany'
    rw [hS, hany'.1, hany'.2]
    have h1 := hany'.1
    have h2 := hany'.2
    unfold knownL at h1
    unfold knownS at h2
    simp only [Bool.or_eq_false_iff] at h1 h2
    exact known_none ⟨s.toArray⟩ f w h1.1.1 h1.1.2 h2.1 h2.2 (by rw [hdt]; exact h1.2)
end Go.Proofs.YtcgflnkgekkidaaGreatDoor
namespace Go.Proofs.YtcgflnkgekkidaaGreatDoor
open Go.RowKit
/-- The rows in a block of their own. -/
structure RowsPost (w : World) (e : Ending) (w' : World) : Prop where
  ret : e = .returned (.slice (some ⟨w.heap.size, 0, none⟩) 15 15)
  text : ∀ k, k < 15 → w'.cell? ⟨w.heap.size, 2 * k, none⟩ = some (.string (rowStr k))
  form : ∀ k, k < 15 → w'.cell? ⟨w.heap.size, 2 * k + 1, none⟩ = some (.int .i64 (rowForm k))
  below : Below w.heap.size w w'
  size : w'.heap.size = w.heap.size + 1
set_option maxRecDepth 100000 in
set_option maxHeartbeats 2000000 in
theorem rows_any (w : World) : Calls Tryz.prog 128 #[] w (RowsPost w) := by
  go_enter Tryz.func128, Tryz.ntmps128
  go_wp2_with fail
  go_ret
  refine ⟨rfl, fun k hk => ?_, fun k hk => ?_, (Below.refl _ _).alloc (Nat.le_refl _) _, by simp⟩
  · rw [World.cell?_alloc_new]
    rcases k with _ | _ | _ | _ | _ | _ | _ | _ | _ | _ | _ | _ | _ | _ | _ | k <;> first | rfl | omega
  · rw [World.cell?_alloc_new]
    rcases k with _ | _ | _ | _ | _ | _ | _ | _ | _ | _ | _ | _ | _ | _ | _ | k <;> first | rfl | omega
end Go.Proofs.YtcgflnkgekkidaaGreatDoor
namespace Go.Proofs.YtcgflnkgekkidaaGreatDoor
open Go.RowKit
/-- The library's table of ASCII spaces lies in the world. -/
structure Tabs (w : World) : Prop where
  tab : Lib.TabIs Tryz.prog w "strings.asciiSpace" .u8 Lib.asciiSpaceTab
  lt : 8 < w.heap.size
theorem Tryz.gSpace : Tryz.prog.globalNamed "strings.asciiSpace" = some 8 := by kernel_rfl
theorem Tabs.later {w w' : World} {B : Nat} (h : Tabs w) (hb : Below B w w') (hB : w.heap.size ≤ B) : Tabs w' :=
  ⟨var?_below hb Tryz.gSpace (Nat.lt_of_lt_of_le h.lt hB) h.tab, Nat.lt_of_lt_of_le h.lt hb.size⟩
/-- A later world in which the round's row still stands. -/
structure RExt (wr : World) (k : Nat) (W : World) : Prop where
  below : Below wr.heap.size wr W
  c0 : W.cell? ⟨wr.heap.size, 0, none⟩ = some (.string (rowStr k))
  c1 : W.cell? ⟨wr.heap.size, 1, none⟩ = some (.int .i64 (rowForm k))
  lt : wr.heap.size < W.heap.size
theorem RExt.start (wr : World) (k : Nat) : RExt wr k (wr.alloc (.cells #[.string (rowStr k), .int .i64 (rowForm k)] 169)).drew :=
  ⟨((Below.refl _ _).alloc (Nat.le_refl _) _).drew, by simp, by simp, by simp⟩
theorem RExt.later {wr W W' : World} {k : Nat} (h : RExt wr k W) (hb : Below W.heap.size W W') : RExt wr k W' :=
  ⟨h.below.trans (hb.mono (Nat.le_of_lt h.lt)), by rw [hb.cell (p := ⟨wr.heap.size, 0, none⟩) h.lt]; exact h.c0, by rw [hb.cell (p := ⟨wr.heap.size, 1, none⟩) h.lt]; exact h.c1, Nat.lt_of_lt_of_le h.lt hb.size⟩
theorem name_le : ((List.range 15).all fun k => (List.range (rowCnt k)).all fun j => decide ((rowName k j).length ≤ 1000)) = true := by decide +kernel
theorem name_len (k j : Nat) (h : k < 15) (hj : j < rowCnt k) : (rowName k j).length ≤ 1000 := by
  have := List.all_eq_true.1 name_le k (List.mem_range.2 h)
  have := List.all_eq_true.1 this j (List.mem_range.2 hj)
  simpa using this
theorem text_le : ((List.range 15).all fun k => decide ((rowText k).length ≤ 1000)) = true := by decide +kernel
theorem text_len (k : Nat) (h : k < 15) : (rowStr k).size ≤ 1000 := by
  have := List.all_eq_true.1 text_le k (List.mem_range.2 h)
  simpa [rowStr, ByteArray.size] using this
/-- strings.Fields at a row, where one name is then read. -/
theorem fields_row (k j : Nat) (h : k < 15) (hj : j < rowCnt k) (W : World) (ht : Tabs W) :
    Calls Tryz.prog 131 #[.string (rowStr k)] W fun e w' => e = .returned (.slice (some ⟨W.heap.size, 0, none⟩) (rowCnt k) (rowCnt k)) ∧ w'.cell? ⟨W.heap.size, j, none⟩ = some (.string ⟨(rowName k j).toArray⟩) ∧ Below W.heap.size W w' := by
  have hd : (rowStr k).data.toList = rowText k := by simp [rowStr]
  refine (Tryz.strings_Fields (rowStr k) W (by have := text_len k h; omega) (fun i b hb => row_ascii k h i b (by rw [hd] at hb; exact hb)) ht.tab).mono fun e w' ⟨he, hw⟩ => ?_
  rw [hd] at he hw
  rw [row_fields k h] at he
  subst hw
  refine ⟨he, ?_, (Below.refl _ _).alloc (Nat.le_refl _) _⟩
  rw [World.cell?_alloc_new]
  have hlt : j < (Lib.fields (rowText k)).length := by rw [row_fields k h]; exact hj
  simp [rowName, List.getD, hlt]
theorem of_none (n : Int) (h : n < 1) (w : World) :
    Calls Tryz.prog 116 #[.int .i64 n] w fun e w' => e = .returned (.agg #[.string ⟨#[]⟩, .int .i64 0, .bool false, .bool false, .int .i64 0]) ∧ Below w.heap.size w w' := by
  go_enter Tryz.func116, Tryz.ntmps116
  go_wp2_with fail
  refine bodyPost_ret (v := .agg #[.string ⟨#[]⟩, .int .i64 0, .bool false, .bool false, .int .i64 0]) (by simp [results, Tryz.results116, go_sem]) rfl ⟨rfl, ?_⟩
  exact (Below.refl _ _).alloc (Nat.le_refl _) _
set_option maxHeartbeats 2000000 in
theorem of_some (n : Nat) (h : 1 ≤ n) (hn : n ≤ 9223372036854775807) (w : World) (ht : Tabs w) :
    Calls Tryz.prog 116 #[.int .i64 n] w fun e w' => e = .returned (.agg #[.string ⟨(ofFrom 15 0 n).name.toArray⟩, .int .i64 (ofFrom 15 0 n).form, .bool (ofFrom 15 0 n).loads, .bool (ofFrom 15 0 n).stores, .int .i64 (ofFrom 15 0 n).size]) ∧ Below w.heap.size w w' := by
  obtain ⟨O, hO⟩ : ∃ O, ofFrom 15 0 n = O := ⟨_, rfl⟩
  rw [hO]
  have hO' := Lib.hid hO
  clear hO
  go_enter Tryz.func116, Tryz.ntmps116
  go_wp2_with fail
  refine (rows_any _).mono ?_
  rintro e w2 ⟨he, htx, hfm, hb2, hs2⟩
  subst he
  have hsz : (w.alloc (.cells #[.string ⟨#[]⟩, .int .i64 0, .bool false, .bool false, .int .i64 0] 158)).heap.size = w.heap.size + 1 := by simp
  rw [hsz] at htx hfm hb2 hs2
  have htx' : Hid (∀ k, k < 15 → w2.cell? ⟨w.heap.size + 1, k * 2, none⟩ = some (.string (rowStr k))) := Lib.hid fun k hk => by rw [Nat.mul_comm]; exact htx k hk
  have hfm' : Hid (∀ k, k < 15 → w2.cell? ⟨w.heap.size + 1, k * 2 + 1, none⟩ = some (.int .i64 (rowForm k))) := Lib.hid fun k hk => by rw [Nat.mul_comm]; exact hfm k hk
  have hb0 : Below w.heap.size w w2 := ((Below.refl _ _).alloc (Nat.le_refl _) _).trans (hb2.mono (by omega))
  have hc2 : Hid (∀ j, j < 5 → ∃ v, w2.cell? ⟨w.heap.size, j, none⟩ = some v ∧ w2.frozen? ⟨w.heap.size, j, none⟩ = false) := Lib.hid fun j hj => by
    rw [hb2.cell (p := ⟨w.heap.size, j, none⟩) (Nat.lt_succ_self _), hb2.frozen (p := ⟨w.heap.size, j, none⟩) (Nat.lt_succ_self _)]
    rcases j with _ | _ | _ | _ | _ | j <;> first | exact ⟨_, (World.cell?_alloc_new _ _ _ _).trans rfl, by simp [go_sem]⟩ | omega
  have ht2 : Tabs w2 := ht.later hb0 (Nat.le_refl _)
  have hs2' : w2.heap.size = w.heap.size + 2 := hs2
  rw [hsz] at *
  clear hsz htx hfm hb2 hs2
  have hs3 := Lib.hid hs2'
  have hb0' := Lib.hid hb0
  clear hs2' hb0
  go_wp2_with fail
  go_loopw [0, 11] (fun n' i wr => ∃ k m : Nat, k ≤ 15 ∧ 1 ≤ m ∧ m ≤ n ∧ i = .int .i64 k ∧ n' = .int .i64 m ∧ Hid (ofFrom (15 - k) k m = O) ∧ Below (w.heap.size + 2) w2 wr) (fun _ i _ => 15 - (intOf i).toNat)
  case atStart => exact ⟨0, n, by omega, h, Nat.le_refl _, rfl, rfl, hO', Below.refl _ _⟩
  case round =>
    obtain ⟨k, m, hk, hm1, hmn, rfl, rfl, hof, hbw⟩ := hrel
    by_cases hlt : k < 15
    · have c0 : wr.cell? ⟨w.heap.size + 1, k * 2, none⟩ = some (.string (rowStr k)) := by rw [hbw.cell (p := ⟨w.heap.size + 1, k * 2, none⟩) (by simp)]; exact htx'.out k hlt
      have c1 : wr.cell? ⟨w.heap.size + 1, k * 2 + 1, none⟩ = some (.int .i64 (rowForm k)) := by rw [hbw.cell (p := ⟨w.heap.size + 1, k * 2 + 1, none⟩) (by simp)]; exact hfm'.out k hlt
      have hcnt := rowCnt_lt k hlt
      obtain ⟨c, hc, hcw⟩ : ∃ c : Nat, rowCnt k = c + 1 ∧ Hid (∀ W, Calls Tryz.prog 129 #[.string (rowStr k), .string ⟨#[32]⟩] W fun e w' => e = .returned (.int .i64 (c : Int)) ∧ W = w') :=
        ⟨(rowText k).count 32, rfl, Lib.hid fun W => (Tryz.strings_Count_one (rowStr k) 32 W).mono fun e w' ⟨he, hw⟩ => ⟨by rw [he]; unfold Lib.countByte rowStr; rfl, hw.symm⟩⟩
      by_cases hle : m ≤ c + 1
      · have hO2 : Hid (O = Go.Proofs.YtcgflnkgekkidaaGreatDoor.known (rowName k (m - 1)) (rowForm k)) := Lib.hid (by
          have := hof.out
          rw [show 15 - k = (15 - (k + 1)) + 1 by omega, ofFrom_hit _ _ _ (by omega)] at this
          exact this.symm)
        have hj : m - 1 < rowCnt k := by omega
        have hFld : Hid (∀ W S, RExt wr k W → S = W.heap.size → Calls Tryz.prog 131 #[.string (rowStr k)] W fun e w' => e = .returned (.slice (some ⟨S, 0, none⟩) (c + 1) (c + 1)) ∧ w'.cell? ⟨S, m - 1, none⟩ = some (.string ⟨(rowName k (m - 1)).toArray⟩) ∧ RExt wr k w') := Lib.hid fun W S hW hS => by
          subst hS
          have htW : Tabs W := (ht2.later hbw (Nat.le_of_eq hs3.out)).later hW.below (Nat.le_refl _)
          have := fields_row k (m - 1) hlt hj W htW
          rw [hc] at this
          exact this.mono fun e w' ⟨he, hcl, hb⟩ => ⟨he, hcl, hW.later hb⟩
        have hKn : Hid (∀ W, RExt wr k W → Calls Tryz.prog 130 #[.string ⟨(rowName k (m - 1)).toArray⟩, .int .i64 (rowForm k)] W fun e w' => e = .returned (.agg #[.string ⟨O.name.toArray⟩, .int .i64 O.form, .bool O.loads, .bool O.stores, .int .i64 O.size]) ∧ RExt wr k w') := Lib.hid fun W hW => by
          rw [hO2.out]
          exact (known_any _ _ (row_ok k (m - 1) hlt hj) (name_len k (m - 1) hlt hj) W).mono fun e w' ⟨he, hb⟩ => ⟨he, hW.later hb⟩
        have hld0 : ∀ W, RExt wr k W → W.cell? ⟨wr.heap.size, 0, none⟩ = some (.string (rowStr k)) := fun W hW => hW.c0
        have hld1 : ∀ W, RExt wr k W → W.cell? ⟨wr.heap.size, 1, none⟩ = some (.int .i64 (rowForm k)) := fun W hW => hW.c1
        have hfr : ∀ j, j < 5 → ∀ W, RExt wr k W → W.frozen? ⟨w.heap.size, j, none⟩ = false := fun j hj W hW => by
          obtain ⟨v, h1, h2⟩ := hc2.out j hj
          rw [hW.below.frozen (p := ⟨w.heap.size, j, none⟩) (by have := hbw.size; have := hs3.out; simp; omega), hbw.frozen (p := ⟨w.heap.size, j, none⟩) (by simp)]; exact h2
        have hcl : ∀ j, j < 5 → ∀ W, RExt wr k W → ∃ v, W.cell? ⟨w.heap.size, j, none⟩ = some v := fun j hj W hW => by
          obtain ⟨v, h1, h2⟩ := hc2.out j hj
          exact ⟨v, by rw [hW.below.cell (p := ⟨w.heap.size, j, none⟩) (by have := hbw.size; have := hs3.out; simp; omega), hbw.cell (p := ⟨w.heap.size, j, none⟩) (by simp)]; exact h1⟩
        have hst := RExt.start wr k
        have ha1 : IntKind.i64.wrap ((m : Int) - 1) = (m : Int) - 1 := IntWalk.i64_in _ (by omega)
        have ha2 : ((m : Int) - 1).toNat = m - 1 := by omega
        have ha3 : (0 : Int) ≤ (m : Int) - 1 := by omega
        have ha4 : (m : Int) - 1 < (c : Int) + 1 := by omega
        have ha5 : 1 ≤ m := hm1
        go_wp2_with (go_at_call 129; (with_reducible refine (hcw.out _).mono ?_); rintro e w' ⟨rfl, rfl⟩)
        go_region_with (first | (go_at_call 131; refine (hFld.out _ (wr.heap.size + 1) (by assumption) (by simp)).mono ?_; rintro e w3 ⟨rfl, hcn, hE3⟩) | (go_at_call 130; refine (hKn.out _ (by assumption)).mono ?_; rintro e w4 ⟨rfl, hE4⟩; obtain ⟨v0, hv0⟩ := hcl 0 (by decide) _ hE4; obtain ⟨v1, hv1⟩ := hcl 1 (by decide) _ hE4; obtain ⟨v2, hv2⟩ := hcl 2 (by decide) _ hE4; obtain ⟨v3, hv3⟩ := hcl 3 (by decide) _ hE4; obtain ⟨v4, hv4⟩ := hcl 4 (by decide) _ hE4; have hf0 := hfr 0 (by decide) _ hE4; have hf1 := hfr 1 (by decide) _ hE4; have hf2 := hfr 2 (by decide) _ hE4; have hf3 := hfr 3 (by decide) _ hE4; have hf4 := hfr 4 (by decide) _ hE4))
        all_goals
          go_wp2
          refine bodyPost_ret (v := .agg #[.string ⟨O.name.toArray⟩, .int .i64 O.form, .bool O.loads, .bool O.stores, .int .i64 O.size]) (by simp [results, Tryz.results116, go_sem, hv0, hv1, hv2, hv3, hv4]) rfl ⟨rfl, ?_⟩
          have hB4 : Below w.heap.size w w4 := (hb0'.out.trans (hbw.mono (by omega))).trans (hE4.below.mono (by have := hbw.size; have := hs3.out; omega))
          exact ((((hB4.setCell (Nat.le_refl _) _).setCell (Nat.le_refl _) _).setCell (Nat.le_refl _) _).setCell (Nat.le_refl _) _).setCell (Nat.le_refl _) _
      · have hof2 : Hid (ofFrom (15 - (k + 1)) (k + 1) (m - (c + 1)) = O) := Lib.hid (by
          have := hof.out
          rw [show 15 - k = (15 - (k + 1)) + 1 by omega, ofFrom_miss _ _ _ (by omega), hc] at this
          exact this)
        have hc' := Lib.hid hc
        clear hc
        go_wp2_with (go_at_call 129; (with_reducible refine (hcw.out _).mono ?_); rintro e w' ⟨rfl, rfl⟩)
        go_roundw
        case rel => exact ⟨k + 1, m - (c + 1), by omega, by omega, by omega, by go_num, by go_num, hof2, hbw.alloc (by have := hbw.size; have := hs3.out; omega) _⟩
        case measure => simp [intOf]; omega
    · have e15 : k = 15 := by omega
      have hO3 : O = noOp := by rw [← hof.out, e15]; rfl
      obtain ⟨v0, hv0, hf0⟩ := hc2.out 0 (by decide)
      obtain ⟨v1, hv1, hf1⟩ := hc2.out 1 (by decide)
      obtain ⟨v2, hv2, hf2⟩ := hc2.out 2 (by decide)
      obtain ⟨v3, hv3, hf3⟩ := hc2.out 3 (by decide)
      obtain ⟨v4, hv4, hf4⟩ := hc2.out 4 (by decide)
      rw [← hbw.cell (p := ⟨w.heap.size, 0, none⟩) (by simp)] at hv0
      rw [← hbw.cell (p := ⟨w.heap.size, 1, none⟩) (by simp)] at hv1
      rw [← hbw.cell (p := ⟨w.heap.size, 2, none⟩) (by simp)] at hv2
      rw [← hbw.cell (p := ⟨w.heap.size, 3, none⟩) (by simp)] at hv3
      rw [← hbw.cell (p := ⟨w.heap.size, 4, none⟩) (by simp)] at hv4
      rw [← hbw.frozen (p := ⟨w.heap.size, 0, none⟩) (by simp)] at hf0
      rw [← hbw.frozen (p := ⟨w.heap.size, 1, none⟩) (by simp)] at hf1
      rw [← hbw.frozen (p := ⟨w.heap.size, 2, none⟩) (by simp)] at hf2
      rw [← hbw.frozen (p := ⟨w.heap.size, 3, none⟩) (by simp)] at hf3
      rw [← hbw.frozen (p := ⟨w.heap.size, 4, none⟩) (by simp)] at hf4
      have hO4 := Lib.hid hO3
      clear hO3 hof hO' e15
      go_wp2_with fail
      refine bodyPost_ret (v := .agg #[.string ⟨#[]⟩, .int .i64 0, .bool false, .bool false, .int .i64 0]) (by simp [results, Tryz.results116, go_sem, hv0, hv1, hv2, hv3, hv4]) rfl ⟨by rw [hO4.out]; rfl, ?_⟩
      have hB4 : Below w.heap.size w wr := hb0'.out.trans (hbw.mono (by omega))
      exact ((((hB4.setCell (Nat.le_refl _) _).setCell (Nat.le_refl _) _).setCell (Nat.le_refl _) _).setCell (Nat.le_refl _) _).setCell (Nat.le_refl _) _
end Go.Proofs.YtcgflnkgekkidaaGreatDoor
namespace Go.Proofs.YtcgflnkgekkidaaGreatDoor
open Go.RowKit
attribute [local go_sem] Instr.field asAgg run_part_plain
theorem of_any (n : Int) (hn : n ≤ 9223372036854775807) (w : World) (ht : Tabs w) :
    Calls Tryz.prog 116 #[.int .i64 n] w fun e w' => e = .returned (.agg #[.string ⟨(opOf n).name.toArray⟩, .int .i64 (opOf n).form, .bool (opOf n).loads, .bool (opOf n).stores, .int .i64 (opOf n).size]) ∧ Below w.heap.size w w' := by
  by_cases h : n < 1
  · have e : opOf n = noOp := by unfold opOf; rw [if_pos h]
    rw [e]; exact of_none n h w
  · obtain ⟨m, rfl⟩ := Int.eq_ofNat_of_zero_le (show 0 ≤ n by omega)
    have e : opOf (m : Int) = ofFrom 15 0 m := by unfold opOf; rw [if_neg h, Int.toNat_natCast]
    rw [e]; exact of_some m (by omega) (by omega) w ht
theorem Form_any (n : Int) (hn : n ≤ 9223372036854775807) (w : World) (ht : Tabs w) :
    Calls Tryz.prog 89 #[.int .i64 n] w fun e w' => e = .returned (.int .i64 (opOf n).form) ∧ Below w.heap.size w w' := by
  have hof := Lib.hid (fun w ht => of_any n hn w ht)
  go_enter Tryz.func89, Tryz.ntmps89
  go_wp2_with (go_at_call 116; refine (hof.out _ ht).mono ?_; rintro e w1 ⟨rfl, hb⟩)
  go_ret
  exact ⟨rfl, hb⟩
end Go.Proofs.YtcgflnkgekkidaaGreatDoor
namespace Go.Proofs.YtcgflnkgekkidaaGreatDoor
open Go.RowKit
set_option maxRecDepth 100000 in
theorem insn_neq (k i : InsnV) (w : World) : (binOp .neq 26 (.agg k.cells) (.agg i.cells)).run Tryz.prog w = .ok (.bool (decide (k ≠ i))) w := by
  obtain ⟨a0, a1, a2, a3, a4, a5, a6, a7, a8⟩ := k
  obtain ⟨b0, b1, b2, b3, b4, b5, b6, b7, b8⟩ := i
  simp only [InsnV.cells]
  simp [go_sem]
  repeat' split
  all_goals simp_all
end Go.Proofs.YtcgflnkgekkidaaGreatDoor
