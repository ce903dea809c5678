/- The walks of package word: each function computes what its definition on bit vectors says. Slices that a call itself has made: how they are carried and read. The walk of fencepostkit.Pick: n modulo m, from 0 on. Plain: bytes of a word, and the word of bytes. No program in sight. Plain: the reference's words are the program's. No program in sight. The walks of the reference's words: they compute what package word computes. Conditions: as each theorem says. -/
import Derived.Test.YtcgflnkgekkidaaGreatDoorProg
import Derived.Test.YtcgflnkgekkidaaGreatDoorInsnDf
import Derived.ProofKit
import Derived.OwnWalk
import Derived.Lib.Hide
import Derived.Laws.BytesArg
namespace Go.Proofs.YtcgflnkgekkidaaGreatDoor
open Go.RowKit

attribute [local go_sem] wrap_u64_bv bv_un bv_sn bv_add bv_mul bv_neg bv_sub mul_bvpow shr_min shl_min sshr_min bv_lit bv_0 bv_1 un_shr sn_shr wrap_i64_un bits_u64_and bits_u64_or bits_u64_xor bits_u64_andNot bv_max u64_unsigned

theorem clamp_any (n m l : Int) (hml : m ≤ l) (w : World) :
    Calls Tryz.prog 106 #[.int .i64 n, .int .i64 m, .int .i64 l] w fun e w' => e = .returned (.int .i64 (min (max n m) l)) ∧ w = w' := by
  go_enter Tryz.func106, Tryz.ntmps106
  go_wp2
  all_goals go_ret
  all_goals exact ⟨by congr 2; simp; omega, rfl⟩
theorem clamp_64 (n : Int) (w : World) :
    Calls Tryz.prog 106 #[.int .i64 n, .int .i64 0, .int .i64 64] w fun e w' => e = .returned (.int .i64 (cl n : Int)) ∧ w = w' := by
  rw [← cl_int]; exact clamp_any _ _ _ (by decide) _
theorem Ones_any (n : Int) (w : World) :
    Calls Tryz.prog 125 #[.int .i64 n] w fun e w' => e = .returned (.int .u64 (un (Ones n))) ∧ w = w' := by
  have h2 := cl_le n
  go_enter Tryz.func125, Tryz.ntmps125
  go_wp2_with (go_at_call 106; refine (clamp_64 _ _).mono ?_; rintro e w' ⟨rfl, rfl⟩)
  go_ret
  exact ⟨ret_int (by unfold Ones; rw [← BitVec.allOnes_xor]; rfl), rfl⟩
theorem Low_any (x : BitVec 64) (n : Int) (w : World) :
    Calls Tryz.prog 126 #[.int .u64 (un x), .int .i64 n] w fun e w' => e = .returned (.int .u64 (un (Low x n))) ∧ w = w' := by
  go_enter Tryz.func126, Tryz.ntmps126
  go_wp2_with (go_at_call 125; refine (Ones_any _ _).mono ?_; rintro e w' ⟨rfl, rfl⟩)
  go_ret
  exact ⟨rfl, rfl⟩
theorem Part_any (x : BitVec 64) (f n : Int) (w : World) :
    Calls Tryz.prog 102 #[.int .u64 (un x), .int .i64 f, .int .i64 n] w fun e w' => e = .returned (.int .u64 (un (Part x f n))) ∧ w = w' := by
  go_enter Tryz.func102, Tryz.ntmps102
  go_wp2_with (go_at_call 126; refine (Low_any _ _ _).mono ?_; rintro e w' ⟨rfl, rfl⟩)
  · have h0 : f.toNat = 0 := by omega
    go_ret
    exact ⟨ret_int (by unfold Part; rw [h0]; rfl), rfl⟩
  · go_ret
    exact ⟨rfl, rfl⟩
theorem Put_any (x : BitVec 64) (f n : Int) (v : BitVec 64) (w : World) :
    Calls Tryz.prog 101 #[.int .u64 (un x), .int .i64 f, .int .i64 n, .int .u64 (un v)] w fun e w' => e = .returned (.int .u64 (un (Put x f n v))) ∧ w = w' := by
  go_enter Tryz.func101, Tryz.ntmps101
  go_wp2_with (go_at_call 125; refine (Ones_any _ _).mono ?_; rintro e w' ⟨rfl, rfl⟩)
  · have h0 : f.toNat = 0 := by omega
    go_ret
    exact ⟨ret_int (by unfold Put; rw [h0]; simp), rfl⟩
  · go_ret
    exact ⟨rfl, rfl⟩
theorem Sign_any (x : BitVec 64) (n : Int) (w : World) :
    Calls Tryz.prog 77 #[.int .u64 (un x), .int .i64 n] w fun e w' => e = .returned (.int .i64 (sn (Sign x n))) ∧ w = w' := by
  have h2 := cl_le n
  go_enter Tryz.func77, Tryz.ntmps77
  go_wp2_with (go_at_call 106; refine (clamp_64 _ _).mono ?_; rintro e w' ⟨rfl, rfl⟩)
  go_ret
  exact ⟨rfl, rfl⟩
theorem Fits_any (v n : Int) (w : World) :
    Calls Tryz.prog 73 #[.int .i64 v, .int .i64 n] w fun e w' => e = .returned (.bool (Fits v n)) ∧ w = w' := by
  go_enter Tryz.func73, Tryz.ntmps73
  go_wp2_with (go_at_call 77; refine (Sign_any _ _ _).mono ?_; rintro e w' ⟨rfl, rfl⟩)
  go_ret
  exact ⟨rfl, rfl⟩
/-! at numbers -/
end Go.Proofs.YtcgflnkgekkidaaGreatDoor
namespace Go.Proofs.YtcgflnkgekkidaaGreatDoor
open Go.RowKit
theorem ba_loop (b : ByteArray) (i : Nat) (r : List UInt8) : ByteArray.toList.loop b i r = r.reverse ++ b.data.toList.drop i := by
  fun_induction ByteArray.toList.loop b i r with
  | case1 i r h ih =>
    rw [ih]
    have h' : i < b.data.toList.length := by simpa using h
    have h2 : i < b.data.size := h
    have e : b.data[i]! = b.data[i] := getElem!_pos b.data i h2
    rw [List.drop_eq_getElem_cons h']
    simp [ByteArray.get!, e]
  | case2 i r h =>
    have : b.data.toList.length ≤ i := by simpa using h
    rw [List.drop_eq_nil_of_le this]; simp
theorem ba_toList (b : ByteArray) : b.toList = b.data.toList := by
  unfold ByteArray.toList; rw [ba_loop]; simp
theorem ba_empty {b : ByteArray} (h : b.size = 0) : b.toList = [] := by
  rw [ba_toList, ← List.length_eq_zero_iff]; simpa using h
theorem ownsRow_low {w : World} {base base' : Nat} {e : TypeId} {size : Nat} {v : Value} {n : Nat} {xs : List Value} (h : w.ownsRow base e size v n xs) (hb : base' ≤ base) : w.ownsRow base' e size v n xs :=
  ⟨h.1, h.2.imp id (fun ⟨g, cap, cur, h1, h2, h3⟩ => ⟨g, cap, cur, h1, Nat.le_trans hb h2, h3⟩)⟩
theorem ownsRow_keep {w w' : World} {base : Nat} {e : TypeId} {size : Nat} {v : Value} {n : Nat} {xs : List Value} (h : w.ownsRow base e size v n xs) (hb : Below w.heap.size w w') : w'.ownsRow base e size v n xs :=
  h.kept (row := none) ⟨hb.os, hb.tape, hb.output, hb.size, fun k hk _ => hb.block k hk⟩ (by rcases v.ownBlock with _ | b <;> simp)
/-- A slice of ints in new memory. -/
structure NewInts (w : World) (l : List Int) (e : Ending) (w' : World) : Prop where
  ret : ∃ v, e = .returned v ∧ w'.ownsRow w.heap.size 3 1 v l.length (l.map (Value.int .i64))
  below : Below w.heap.size w w'
theorem cell_new1 (w : World) (t : TypeId) (x : Value) : ∀ (j : Nat) (u : Value), [x][j]? = some u → (w.alloc (.cells #[x] t)).cell? ((⟨w.heap.size, 0, none⟩ : Addr).add j) = some u := fun j u h => by
  cases j with
  | zero => have e : (⟨w.heap.size, 0, none⟩ : Addr).add 0 = ⟨w.heap.size, 0, none⟩ := Addr.add_lit _ _ _
            rw [e, World.cell?_alloc_new]; simpa using h
  | succ j => simp at h
theorem own_slice {w : World} {base : Nat} {e : TypeId} {v : Value} {n : Nat} {xs : List Value} (h : w.ownsRow base e 1 v n xs) : ∃ (ao : Option Addr) (cap : Nat), v = .slice ao n cap := by
  rcases h.2 with ⟨rfl, h0⟩ | ⟨g, cap, cur, rfl, h2⟩
  · exact ⟨none, 0, by rw [h0]⟩
  · exact ⟨_, cap, rfl⟩
theorem own_cell {w : World} {base : Nat} {e : TypeId} {ao : Option Addr} {cap n : Nat} {l : List Int} (h : w.ownsRow base e 1 (.slice ao n cap) n (l.map (Value.int .i64))) (j : Nat) (hj : j < n) : ∃ g, ao = some ⟨g, 0, none⟩ ∧ w.cell? ⟨g, j, none⟩ = some (.int .i64 (l.getD j 0)) := by
  have hl : l.length = n := by have := h.1; simpa using this
  rcases h.2 with ⟨h1, h0⟩ | ⟨g, cap', cur, h1, h2⟩
  · omega
  · simp only [Value.slice.injEq] at h1
    obtain ⟨rfl, -, rfl⟩ := h1
    refine ⟨g, rfl, ?_⟩
    rw [h.cellAt j (by omega)]
    simp [List.getD, show j < l.length by omega]
end Go.Proofs.YtcgflnkgekkidaaGreatDoor
namespace Go.Proofs.YtcgflnkgekkidaaGreatDoor
open Go.RowKit
theorem Pick_any (n m : Int) (hm : m ≤ 9223372036854775807) (w : World) :
    Calls Tryz.prog 10 #[.int .i64 n, .int .i64 m] w fun e w' => e = .returned (.int .i64 (Pick n m)) ∧ w = w' := by
  go_enter Tryz.func10, Tryz.ntmps10
  go_wp2
  · have h : m < 1 := by assumption
    go_ret
    exact ⟨ret_int (by unfold Pick; rw [if_pos h]), rfl⟩
  · have h : 1 ≤ m := by assumption
    have h' : n.tmod m < 0 := by assumption
    have e := tmod_neg_add n m h h'
    have h1 := Int.emod_nonneg n (show m ≠ 0 by omega)
    have h2 := Int.emod_lt_of_pos n (show 0 < m by omega)
    have e' : wrap64 (n.tmod m + m) = n % m := by rw [e]; exact IntWalk.wrap64_in _ (by omega)
    go_ret
    exact ⟨ret_int (by unfold Pick; rw [if_neg (by omega)]; exact e'), rfl⟩
  · have h : 1 ≤ m := by assumption
    have h' : 0 ≤ n.tmod m := by assumption
    have e := tmod_nonneg' n m h h'
    go_ret
    exact ⟨ret_int (by unfold Pick; rw [if_neg (by omega)]; exact e), rfl⟩
/-- Pick as a hidden contract at a natural number. -/
theorem Pick_nat_any (n m : Int) (h1 : 1 ≤ m) (hm : m ≤ 9223372036854775807) :
    ∃ k : Nat, (k : Int) < m ∧ Hid (∀ w : World, Calls Tryz.prog 10 #[.int .i64 n, .int .i64 m] w fun e w' => e = .returned (.int .i64 (k : Int)) ∧ w = w') := by
  obtain ⟨k, hk, hk'⟩ := Pick_nat n m h1
  exact ⟨k, hk', Lib.hid fun w => by rw [← hk]; exact Pick_any n m hm w⟩
end Go.Proofs.YtcgflnkgekkidaaGreatDoor
namespace Go.Proofs.YtcgflnkgekkidaaGreatDoor
end Go.Proofs.YtcgflnkgekkidaaGreatDoor
namespace Go.Proofs.YtcgflnkgekkidaaGreatDoor
def OnesK : Nat → BitVec 64
  | 0 => 0#64
  | k + 1 => OnesK k * 2#64 + 1#64
theorem OnesK_nat (k : Nat) (h : k ≤ 64) : (OnesK k).toNat = 2 ^ k - 1 := by
  induction k with
  | zero => rfl
  | succ k ih =>
    unfold OnesK
    rw [BitVec.toNat_add, BitVec.toNat_mul, ih (by omega)]
    have h1 : 1 ≤ 2 ^ k := Nat.one_le_two_pow
    have h2 : 2 ^ k ≤ 2 ^ 63 := Nat.pow_le_pow_right (by decide) (by omega)
    rw [Nat.pow_succ]
    simp only [BitVec.toNat_ofNat]
    omega
theorem OnesK_eq (n : Int) : OnesK (cl n) = Ones n := by
  apply BitVec.eq_of_getLsbD_eq
  intro i hi
  rw [Ones_bit, ← BitVec.testBit_toNat, OnesK_nat _ (cl_le n), Nat.testBit_two_pow_sub_one]
theorem Part_far (x : BitVec 64) (f n : Int) (h : 63 < f) : Part x f n = 0#64 := by
  unfold Part Low
  rw [BitVec.ushiftRight_eq_zero (by omega), BitVec.zero_and]
theorem Put_far (x : BitVec 64) (f n : Int) (v : BitVec 64) (h : 63 < f) : Put x f n v = x := by
  unfold Put
  rw [BitVec.shiftLeft_eq_zero (by omega), BitVec.shiftLeft_eq_zero (by omega), BitVec.and_zero, BitVec.or_zero]
  exact BitVec.and_allOnes
theorem Put_ref (x : BitVec 64) (f n : Int) (v : BitVec 64) : x &&& ~~~ (Ones n <<< f.toNat) ||| Low v n <<< f.toNat = Put x f n v := by
  unfold Put Low; rw [BitVec.shiftLeft_and_distrib]
theorem Sign_zero (x : BitVec 64) (n : Int) (h : cl n = 0) : Sign x n = Low x n := by
  apply BitVec.eq_of_getLsbD_eq
  intro i hi
  have e : Sign x n = Sign x ((0 : Nat) : Int) := by unfold Sign; rw [h]; rfl
  have e2 := Sign_ext x 0 (by decide)
  rw [e, e2, Low_bit, h, BitVec.getLsbD_signExtend, BitVec.msb_setWidth]; simp
theorem Sign_bits (x : BitVec 64) (n : Int) (i : Nat) (hi : i < 64) (h : 1 ≤ cl n) : (Sign x n).getLsbD i = if i < cl n then x.getLsbD i else x.getLsbD (cl n - 1) := by
  have e : Sign x n = Sign x ((cl n : Nat) : Int) := by unfold Sign; rw [cl_nat _ (cl_le n)]
  rw [e, Sign_ext x (cl n) (cl_le n), BitVec.getLsbD_signExtend, BitVec.getLsbD_setWidth, BitVec.msb_setWidth]
  by_cases h1 : i < cl n
  · simp [hi, h1]
  · simp [hi, h1]; omega
theorem part_1_zero (x : BitVec 64) (i : Nat) : Part x i 1 = 0#64 ↔ x.getLsbD i = false := by
  rw [Part_one]
  constructor
  · intro h
    have := congrArg (fun y => y.getLsbD 0) h
    simpa using this
  · intro h
    apply BitVec.eq_of_getLsbD_eq
    intro j _
    rw [one_bit]
    rcases j with _ | j <;> simp [h]
theorem Sign_pos (x : BitVec 64) (n : Int) (h : 1 ≤ cl n) (h0 : Part x ((cl n : Int) - 1) 1 = 0#64) : Sign x n = Low x n := by
  rw [show (cl n : Int) - 1 = ((cl n - 1 : Nat) : Int) by omega, part_1_zero] at h0
  apply BitVec.eq_of_getLsbD_eq
  intro i hi
  rw [Sign_bits x n i hi h, Low_bit]
  by_cases h1 : i < cl n
  · simp [h1]
  · simp [h1, h0]
theorem Sign_neg (x : BitVec 64) (n : Int) (h : 1 ≤ cl n) (h0 : ¬ Part x ((cl n : Int) - 1) 1 = 0#64) : Sign x n = x ||| ~~~ Ones n := by
  rw [show (cl n : Int) - 1 = ((cl n - 1 : Nat) : Int) by omega, part_1_zero] at h0
  simp at h0
  apply BitVec.eq_of_getLsbD_eq
  intro i hi
  rw [Sign_bits x n i hi h, BitVec.getLsbD_or, BitVec.getLsbD_not, Ones_bit]
  by_cases h1 : i < cl n
  · simp [h1]
  · simp [h1, h0, hi]
theorem cl_self (n : Int) : cl (cl n : Int) = cl n := cl_nat _ (cl_le n)
theorem Ones_cl (n : Int) : Ones (cl n : Int) = Ones n := by unfold Ones; rw [cl_self]
theorem Low_cl (x : BitVec 64) (n : Int) : Low x (cl n : Int) = Low x n := by unfold Low; rw [Ones_cl]
end Go.Proofs.YtcgflnkgekkidaaGreatDoor
namespace Go.Proofs.YtcgflnkgekkidaaGreatDoor
open Go.RowKit
attribute [local go_sem] wrap_u64_bv bv_un bv_sn bv_add bv_mul bv_neg bv_sub mul_bvpow shr_min shl_min sshr_min bv_lit bv_0 bv_1 un_shr sn_shr wrap_i64_un bits_u64_and bits_u64_or bits_u64_xor bits_u64_andNot bv_max u64_unsigned
theorem Rbound_any (n m l : Int) (hml : m ≤ l) (w : World) :
    Calls Tryz.prog 92 #[.int .i64 n, .int .i64 m, .int .i64 l] w fun e w' => e = .returned (.int .i64 (min (max n m) l)) ∧ w = w' := by
  go_enter Tryz.func92, Tryz.ntmps92
  go_wp2
  all_goals go_ret
  all_goals exact ⟨by congr 2; simp; omega, rfl⟩
theorem Rbound_64 (n : Int) (w : World) :
    Calls Tryz.prog 92 #[.int .i64 n, .int .i64 0, .int .i64 64] w fun e w' => e = .returned (.int .i64 (cl n : Int)) ∧ w = w' := by
  rw [← cl_int]; exact Rbound_any _ _ _ (by decide) _
theorem ROnes_any (n : Int) (w : World) :
    Calls Tryz.prog 95 #[.int .i64 n] w fun e w' => e = .returned (.int .u64 (un (Ones n))) ∧ w = w' := by
  have h2 := cl_le n
  go_enter Tryz.func95, Tryz.ntmps95
  go_wp2_with fail
  go_loop [3, 4] (fun x i => ∃ k : Nat, k ≤ cl n ∧ i = .int .i64 k ∧ x = .int .u64 (un (OnesK k))) (fun _ i => 64 - (intOf i).toNat)
  case atStart => exact ⟨0, Nat.zero_le _, rfl, rfl⟩
  case round =>
    obtain ⟨k, hk, rfl, rfl⟩ := hrel
    by_cases hlt : k < cl n
    · go_wp2_with (go_at_call 92; (with_reducible refine (Rbound_64 _ _).mono ?_); rintro e w' ⟨rfl, rfl⟩)
      go_round
      case rel => exact ⟨k + 1, by omega, by go_num, rfl⟩
      case measure => simp [intOf]; omega
    · obtain rfl : k = cl n := by omega
      go_wp2_with (go_at_call 92; (with_reducible refine (Rbound_64 _ _).mono ?_); rintro e w' ⟨rfl, rfl⟩)
      go_ret
      exact ⟨ret_int (by rw [← OnesK_eq]), rfl⟩
theorem RLow_any (x : BitVec 64) (n : Int) (w : World) :
    Calls Tryz.prog 94 #[.int .u64 (un x), .int .i64 n] w fun e w' => e = .returned (.int .u64 (un (Low x n))) ∧ w = w' := by
  go_enter Tryz.func94, Tryz.ntmps94
  go_wp2_with (go_at_call 95; (with_reducible refine (ROnes_any _ _).mono ?_); rintro e w' ⟨rfl, rfl⟩)
  go_ret
  exact ⟨rfl, rfl⟩
theorem RPart_any (x : BitVec 64) (f n : Int) (w : World) :
    Calls Tryz.prog 93 #[.int .u64 (un x), .int .i64 f, .int .i64 n] w fun e w' => e = .returned (.int .u64 (un (Part x f n))) ∧ w = w' := by
  by_cases h : 63 < f
  · go_enter Tryz.func93, Tryz.ntmps93
    go_wp2_with fail
    go_ret
    exact ⟨ret_int (by rw [Part_far x f n h]; rfl), rfl⟩
  · by_cases h0 : f < 0
    · have e0 : un 0#64 = 0 := rfl
      go_enter Tryz.func93, Tryz.ntmps93
      go_wp2_with (go_at_call 94; (with_reducible refine (RLow_any _ _ _).mono ?_); rintro e w' ⟨rfl, rfl⟩)
      go_ret
      exact ⟨ret_int (by unfold Part; rw [show f.toNat = 0 by omega]; rfl), rfl⟩
    · have e0 : un (bv f) = f := un_bv _ (by omega)
      go_enter Tryz.func93, Tryz.ntmps93
      go_wp2_with (go_at_call 94; (with_reducible refine (RLow_any _ _ _).mono ?_); rintro e w' ⟨rfl, rfl⟩)
      go_ret
      exact ⟨rfl, rfl⟩
theorem RPut_any (x : BitVec 64) (f n : Int) (v : BitVec 64) (w : World) :
    Calls Tryz.prog 71 #[.int .u64 (un x), .int .i64 f, .int .i64 n, .int .u64 (un v)] w fun e w' => e = .returned (.int .u64 (un (Put x f n v))) ∧ w = w' := by
  by_cases h : 63 < f
  · go_enter Tryz.func71, Tryz.ntmps71
    go_wp2_with fail
    go_ret
    exact ⟨ret_int (by rw [Put_far x f n v h]), rfl⟩
  · by_cases h0 : f < 0
    · have e0 : un 0#64 = 0 := rfl
      go_enter Tryz.func71, Tryz.ntmps71
      go_wp2_with (first | (go_at_call 94; (with_reducible refine (RLow_any _ _ _).mono ?_); rintro e w' ⟨rfl, rfl⟩) | (go_at_call 95; (with_reducible refine (ROnes_any _ _).mono ?_); rintro e w' ⟨rfl, rfl⟩))
      go_ret
      exact ⟨ret_int (by rw [← Put_ref, show f.toNat = 0 by omega]; simp), rfl⟩
    · have e0 : un (bv f) = f := un_bv _ (by omega)
      go_enter Tryz.func71, Tryz.ntmps71
      go_wp2_with (first | (go_at_call 94; (with_reducible refine (RLow_any _ _ _).mono ?_); rintro e w' ⟨rfl, rfl⟩) | (go_at_call 95; (with_reducible refine (ROnes_any _ _).mono ?_); rintro e w' ⟨rfl, rfl⟩))
      go_ret
      exact ⟨ret_int (by rw [← Put_ref]), rfl⟩
theorem RSign_any (x : BitVec 64) (n : Int) (w : World) :
    Calls Tryz.prog 63 #[.int .u64 (un x), .int .i64 n] w fun e w' => e = .returned (.int .i64 (sn (Sign x n))) ∧ w = w' := by
  have h2 := cl_le n
  by_cases h : cl n = 0
  · have hb : Hid (∀ w, Calls Tryz.prog 92 #[.int .i64 n, .int .i64 0, .int .i64 64] w fun e w' => e = .returned (.int .i64 0) ∧ w = w') := Lib.hid fun w => by have := Rbound_64 n w; rw [h] at this; exact this
    have hs := Lib.hid (Sign_zero x n h)
    have hl := Low_cl x n
    rw [h] at hl
    have hl' := Lib.hid hl
    clear h hl
    go_enter Tryz.func63, Tryz.ntmps63
    go_wp2_with (first | (go_at_call 92; refine (hb.out _).mono ?_; rintro e w' ⟨rfl, rfl⟩) | (go_at_call 94; (with_reducible refine (RLow_any _ _ _).mono ?_); rintro e w' ⟨rfl, rfl⟩))
    go_ret
    exact ⟨ret_int (by rw [hs.out, ← hl'.out]; rfl), rfl⟩
  · have h1 : 1 ≤ cl n := by omega
    by_cases h0 : Part x ((cl n : Int) - 1) 1 = 0#64
    · have hs := Lib.hid (Sign_pos x n h1 h0)
      have t := beq_self_true (0 : Int) (un (Part x ((cl n : Int) - 1) 1)) (by rw [h0]; rfl)
      have hl' := Lib.hid (Low_cl x n)
      have t0 : ((cl n : Int) == 0) = false := by rw [beq_eq_false_iff_ne]; omega
      clear h h0
      go_enter Tryz.func63, Tryz.ntmps63
      go_wp2_with (first | (go_at_call 92; (with_reducible refine (Rbound_64 _ _).mono ?_); rintro e w' ⟨rfl, rfl⟩) | (go_at_call 93; (with_reducible refine (RPart_any _ _ _ _).mono ?_); rintro e w' ⟨rfl, rfl⟩) | (go_at_call 94; (with_reducible refine (RLow_any _ _ _).mono ?_); rintro e w' ⟨rfl, rfl⟩))
      go_ret
      exact ⟨ret_int (by rw [hs.out, ← hl'.out]), rfl⟩
    · have hs := Lib.hid (Sign_neg x n h1 h0)
      have t : (un (Part x ((cl n : Int) - 1) 1) == 0) = false := by
        rw [beq_eq_false_iff_ne]; intro h; exact h0 (un_inj.1 h)
      have ho' := Lib.hid (Ones_cl n)
      have t0 : ((cl n : Int) == 0) = false := by rw [beq_eq_false_iff_ne]; omega
      clear h h0
      go_enter Tryz.func63, Tryz.ntmps63
      go_wp2_with (first | (go_at_call 92; (with_reducible refine (Rbound_64 _ _).mono ?_); rintro e w' ⟨rfl, rfl⟩) | (go_at_call 93; (with_reducible refine (RPart_any _ _ _ _).mono ?_); rintro e w' ⟨rfl, rfl⟩) | (go_at_call 95; (with_reducible refine (ROnes_any _ _).mono ?_); rintro e w' ⟨rfl, rfl⟩))
      go_ret
      exact ⟨ret_int (by rw [hs.out, ← ho'.out, ← BitVec.allOnes_xor]; rfl), rfl⟩
theorem RFits_any (v n : Int) (w : World) :
    Calls Tryz.prog 62 #[.int .i64 v, .int .i64 n] w fun e w' => e = .returned (.bool (Fits v n)) ∧ w = w' := by
  go_enter Tryz.func62, Tryz.ntmps62
  go_wp2_with (go_at_call 63; (with_reducible refine (RSign_any _ _ _).mono ?_); rintro e w' ⟨rfl, rfl⟩)
  go_ret
  exact ⟨rfl, rfl⟩
end Go.Proofs.YtcgflnkgekkidaaGreatDoor
