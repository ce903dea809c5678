/- Plain: bytes of a word, and the word of bytes. No program in sight. Plain: the reference's words are the program's. No program in sight. The walks of the reference's words: they compute what package word computes. Conditions: as each theorem says. -/
import Derived.Test.YtcgflnkgekkidaaGreatDoorWordDS
import Derived.Laws.BytesArg
import Derived.Test.YtcgflnkgekkidaaGreatDoorWord
import Derived.Lib.Hide
namespace Go.Proofs.YtcgflnkgekkidaaGreatDoor
/-- byte i of x, as the walk has it -/
def byteAt (x : BitVec 64) (i : Nat) : Int := un (x >>> (8 * i)) % 256
/-- m bytes of x, k of them written -/
def stepL (x : BitVec 64) (m k : Nat) : List Value := (List.range m).map fun i => .int .u8 (if i < k then byteAt x i else 0)
def bytesL (x : BitVec 64) (m : Nat) : List Int := (List.range m).map (byteAt x)
theorem stepL_0 (x : BitVec 64) (m : Nat) : List.replicate m (Value.int .u8 0) = stepL x m 0 := by
  unfold stepL; apply List.ext_getElem <;> simp
theorem stepL_set (x : BitVec 64) (m k : Nat) : (stepL x m k).set k (.int .u8 (byteAt x k)) = stepL x m (k + 1) := by
  unfold stepL
  apply List.ext_getElem
  · simp
  · intro i h1 h2
    simp only [List.getElem_set, List.getElem_map, List.getElem_range]
    by_cases h : k = i
    · subst h; simp
    · rw [if_neg h]
      by_cases h' : i < k
      · rw [if_pos h', if_pos (by omega)]
      · rw [if_neg h', if_neg (by omega)]
theorem bytesL_len (x : BitVec 64) (m : Nat) : (bytesL x m).length = m := by simp [bytesL]
theorem stepL_full (x : BitVec 64) (m : Nat) : stepL x m m = (bytesL x m).map (Value.int .u8) := by
  unfold stepL bytesL
  rw [List.map_map]
  exact List.map_congr_left fun i hi => by simp at hi; simp [hi]
theorem stepL_get (x : BitVec 64) (m i : Nat) (h : i < m) : (stepL x m m)[i]? = some (.int .u8 ((bytesL x m).getD i 0)) := by
  simp [stepL, bytesL, h, List.getD]
/-- The number of the first k bytes. -/
def OfK (f : Nat → Int) : Nat → BitVec 64
  | 0 => 0#64
  | k + 1 => OfK f k ||| bv (f k) <<< (8 * k)

theorem byte_part (x : BitVec 64) (i : Nat) : byteAt x i = un (Part x (8 * (i : Int)) 8) := by
  unfold byteAt un
  have h : (Part x (8 * (i : Int)) 8).toNat = (x >>> (8 * i)).toNat % 256 := by
    unfold Part Low
    rw [show (8 * (i : Int)).toNat = 8 * i by omega]
    have e : Ones 8 = 255#64 := by decide
    rw [e, BitVec.toNat_and]
    exact Nat.and_two_pow_sub_one_eq_mod _ 8
  rw [h]; simp
theorem byteAt_lt (x : BitVec 64) (i : Nat) : 0 ≤ byteAt x i ∧ byteAt x i < 256 := by
  unfold byteAt; omega
theorem bv_bit (a : Int) (h : 0 ≤ a) (i : Nat) (hi : i < 64) : (bv a).getLsbD i = a.toNat.testBit i := by
  obtain ⟨n, rfl⟩ := Int.eq_ofNat_of_zero_le h
  rw [bv_nat, BitVec.getLsbD_ofNat, Int.toNat_natCast]; simp [hi]
theorem bv_byte_bit (a : Int) (h : 0 ≤ a) (h' : a < 256) (i : Nat) (hi : 8 ≤ i) : (bv a).getLsbD i = false := by
  obtain ⟨n, rfl⟩ := Int.eq_ofNat_of_zero_le h
  rw [bv_nat, BitVec.getLsbD_ofNat, Nat.testBit_lt_two_pow (Nat.lt_of_lt_of_le (show n < 2 ^ 8 by omega) (Nat.pow_le_pow_right (by decide) hi))]
  simp
/-- the bits of the first k bytes' number -/
theorem OfK_bit (f : Nat → Int) (hf : ∀ i, 0 ≤ f i ∧ f i < 256) (k : Nat) : ∀ i, i < 64 → (OfK f k).getLsbD i = (decide (i < 8 * k) && (bv (f (i / 8))).getLsbD (i % 8)) := by
  induction k with
  | zero => intro i _; simp [OfK]
  | succ k ih =>
    intro i hi
    unfold OfK
    rw [BitVec.getLsbD_or, BitVec.getLsbD_shiftLeft, ih i hi]
    by_cases h1 : i < 8 * k
    · simp [h1, show i < 8 * (k + 1) by omega]
    · by_cases h2 : i < 8 * (k + 1)
      · have e : i / 8 = k := by omega
        have e' : i % 8 = i - 8 * k := by omega
        simp [hi, h1, h2, e, e']
      · have := bv_byte_bit (f k) (hf k).1 (hf k).2 (i - 8 * k) (by omega)
        simp [h1, h2, this]
theorem OfK_congr (f g : Nat → Int) (k : Nat) (h : ∀ i, i < k → f i = g i) : OfK f k = OfK g k := by
  induction k with
  | zero => rfl
  | succ k ih =>
    unfold OfK; rw [ih (fun i hi => h i (by omega)), h k (by omega)]
theorem byteAt_bit (x : BitVec 64) (i j : Nat) (hj : j < 8) : (bv (byteAt x i)).getLsbD j = x.getLsbD (8 * i + j) := by
  rw [byte_part, bv_un, Part_bit, show cl 8 = 8 from rfl]
  rw [show (8 * (i : Int)).toNat = 8 * i by omega]; simp [hj]
theorem OfK_byteAt (x : BitVec 64) (k : Nat) (hk : k ≤ 8) : OfK (byteAt x) k = Low x (8 * (k : Int)) := by
  apply BitVec.eq_of_getLsbD_eq
  intro i hi
  rw [OfK_bit _ (fun i => byteAt_lt x i) k i hi, Low_bit, byteAt_bit _ _ _ (by omega)]
  rw [show (8 * (k : Int)) = ((8 * k : Nat) : Int) by omega, cl_nat _ (by omega)]
  rw [show 8 * (i / 8) + i % 8 = i by omega]
theorem testBit_255 (n i : Nat) : (n % 256).testBit i = (decide (i < 8) && n.testBit i) := Nat.testBit_mod_two_pow n 8 i
theorem byteAt_OfK (f : Nat → Int) (hf : ∀ i, 0 ≤ f i ∧ f i < 256) (k i : Nat) (hk : k ≤ 8) (hi : i < k) : byteAt (OfK f k) i = f i := by
  have h : bv (byteAt (OfK f k) i) = bv (f i) := by
    apply BitVec.eq_of_getLsbD_eq
    intro j hj
    by_cases h8 : j < 8
    · rw [byteAt_bit _ _ _ h8, OfK_bit f hf k _ (by omega)]
      rw [show (8 * i + j) / 8 = i by omega, show (8 * i + j) % 8 = j by omega]; simp; omega
    · rw [bv_byte_bit _ (byteAt_lt _ _).1 (byteAt_lt _ _).2 j (by omega), bv_byte_bit _ (hf i).1 (hf i).2 j (by omega)]
  have a := byteAt_lt (OfK f k) i
  have b := hf i
  rw [← un_bv (byteAt (OfK f k) i) (by omega), h, un_bv (f i) (by omega)]
end Go.Proofs.YtcgflnkgekkidaaGreatDoor
namespace Go.Proofs.YtcgflnkgekkidaaGreatDoor
def OnesK : Nat → BitVec 64
  | 0 => 0#64
  | k + 1 => OnesK k * 2#64 + 1#64
theorem OnesK_nat (k : Nat) (h : k ≤ 64) : (OnesK k).toNat = 2 ^ k - 1 := by
  induction k with
  | zero => rfl
  | succ k ih =>
    unfold OnesK
    rw [BitVec.toNat_add, BitVec.toNat_mul, ih (by omega)]
    have h1 : 1 ≤ 2 ^ k := Nat.one_le_two_pow
    have h2 : 2 ^ k ≤ 2 ^ 63 := Nat.pow_le_pow_right (by decide) (by omega)
    rw [Nat.pow_succ]
    simp only [BitVec.toNat_ofNat]
    omega
theorem OnesK_eq (n : Int) : OnesK (cl n) = Ones n := by
  apply BitVec.eq_of_getLsbD_eq
  intro i hi
  rw [Ones_bit, ← BitVec.testBit_toNat, OnesK_nat _ (cl_le n), Nat.testBit_two_pow_sub_one]
theorem Part_far (x : BitVec 64) (f n : Int) (h : 63 < f) : Part x f n = 0#64 := by
  unfold Part Low
  rw [BitVec.ushiftRight_eq_zero (by omega), BitVec.zero_and]
theorem Put_far (x : BitVec 64) (f n : Int) (v : BitVec 64) (h : 63 < f) : Put x f n v = x := by
  unfold Put
  rw [BitVec.shiftLeft_eq_zero (by omega), BitVec.shiftLeft_eq_zero (by omega), BitVec.and_zero, BitVec.or_zero]
  exact BitVec.and_allOnes
theorem Put_ref (x : BitVec 64) (f n : Int) (v : BitVec 64) : x &&& ~~~ (Ones n <<< f.toNat) ||| Low v n <<< f.toNat = Put x f n v := by
  unfold Put Low; rw [BitVec.shiftLeft_and_distrib]
theorem Sign_zero (x : BitVec 64) (n : Int) (h : cl n = 0) : Sign x n = Low x n := by
  apply BitVec.eq_of_getLsbD_eq
  intro i hi
  have e : Sign x n = Sign x ((0 : Nat) : Int) := by unfold Sign; rw [h]; rfl
  have e2 := Sign_ext x 0 (by decide)
  rw [e, e2, Low_bit, h, BitVec.getLsbD_signExtend, BitVec.msb_setWidth]; simp
theorem Sign_bits (x : BitVec 64) (n : Int) (i : Nat) (hi : i < 64) (h : 1 ≤ cl n) : (Sign x n).getLsbD i = if i < cl n then x.getLsbD i else x.getLsbD (cl n - 1) := by
  have e : Sign x n = Sign x ((cl n : Nat) : Int) := by unfold Sign; rw [cl_nat _ (cl_le n)]
  rw [e, Sign_ext x (cl n) (cl_le n), BitVec.getLsbD_signExtend, BitVec.getLsbD_setWidth, BitVec.msb_setWidth]
  by_cases h1 : i < cl n
  · simp [hi, h1]
  · simp [hi, h1]; omega
theorem part_1_zero (x : BitVec 64) (i : Nat) : Part x i 1 = 0#64 ↔ x.getLsbD i = false := by
  rw [Part_one]
  constructor
  · intro h
    have := congrArg (fun y => y.getLsbD 0) h
    simpa using this
  · intro h
    apply BitVec.eq_of_getLsbD_eq
    intro j _
    rw [one_bit]
    rcases j with _ | j <;> simp [h]
theorem Sign_pos (x : BitVec 64) (n : Int) (h : 1 ≤ cl n) (h0 : Part x ((cl n : Int) - 1) 1 = 0#64) : Sign x n = Low x n := by
  rw [show (cl n : Int) - 1 = ((cl n - 1 : Nat) : Int) by omega, part_1_zero] at h0
  apply BitVec.eq_of_getLsbD_eq
  intro i hi
  rw [Sign_bits x n i hi h, Low_bit]
  by_cases h1 : i < cl n
  · simp [h1]
  · simp [h1, h0]
theorem Sign_neg (x : BitVec 64) (n : Int) (h : 1 ≤ cl n) (h0 : ¬ Part x ((cl n : Int) - 1) 1 = 0#64) : Sign x n = x ||| ~~~ Ones n := by
  rw [show (cl n : Int) - 1 = ((cl n - 1 : Nat) : Int) by omega, part_1_zero] at h0
  simp at h0
  apply BitVec.eq_of_getLsbD_eq
  intro i hi
  rw [Sign_bits x n i hi h, BitVec.getLsbD_or, BitVec.getLsbD_not, Ones_bit]
  by_cases h1 : i < cl n
  · simp [h1]
  · simp [h1, h0, hi]
theorem cl_self (n : Int) : cl (cl n : Int) = cl n := cl_nat _ (cl_le n)
theorem Ones_cl (n : Int) : Ones (cl n : Int) = Ones n := by unfold Ones; rw [cl_self]
theorem Low_cl (x : BitVec 64) (n : Int) : Low x (cl n : Int) = Low x n := by unfold Low; rw [Ones_cl]
/-- the reference's number of bytes, put one by one -/
def OfP (f : Nat → Int) : Nat → BitVec 64
  | 0 => 0#64
  | k + 1 => Put (OfP f k) (8 * (k : Int)) 8 (bv (f k))
theorem OfP_eq (f : Nat → Int) (hf : ∀ i, 0 ≤ f i ∧ f i < 256) (k : Nat) (hk : k ≤ 8) : OfP f k = OfK f k := by
  induction k with
  | zero => rfl
  | succ k ih =>
    unfold OfP
    rw [ih (by omega)]
    apply BitVec.eq_of_getLsbD_eq
    intro i hi
    rw [Put_bit _ _ _ _ _ hi, OfK_bit f hf (k + 1) i hi, OfK_bit f hf k i hi, show cl 8 = 8 from rfl]
    rw [show (8 * (k : Int)).toNat = 8 * k by omega]
    by_cases h1 : i < 8 * k
    · simp [h1, show i < 8 * (k + 1) by omega, show ¬ 8 * k ≤ i by omega]
    · by_cases h2 : i < 8 * k + 8
      · have e : i / 8 = k := by omega
        have e' : i % 8 = i - 8 * k := by omega
        simp [h2, show 8 * k ≤ i by omega, show i < 8 * (k + 1) by omega, e, e']
      · simp [h1, h2, show ¬ i < 8 * (k + 1) by omega]
end Go.Proofs.YtcgflnkgekkidaaGreatDoor
namespace Go.Proofs.YtcgflnkgekkidaaGreatDoor
open Go.RowKit
attribute [local go_sem] wrap_u64_bv bv_un bv_sn bv_add bv_mul bv_neg bv_sub mul_bvpow shr_min shl_min sshr_min bv_lit bv_0 bv_1 un_shr sn_shr wrap_i64_un bits_u64_and bits_u64_or bits_u64_xor bits_u64_andNot bv_max u64_unsigned
theorem Rbound_any (n m l : Int) (hml : m ≤ l) (w : World) :
    Calls Tryz.prog 92 #[.int .i64 n, .int .i64 m, .int .i64 l] w fun e w' => e = .returned (.int .i64 (min (max n m) l)) ∧ w = w' := by
  go_enter Tryz.func92, Tryz.ntmps92
  go_wp2
  all_goals go_ret
  all_goals exact ⟨by congr 2; simp; omega, rfl⟩
theorem Rbound_64 (n : Int) (w : World) :
    Calls Tryz.prog 92 #[.int .i64 n, .int .i64 0, .int .i64 64] w fun e w' => e = .returned (.int .i64 (cl n : Int)) ∧ w = w' := by
  rw [← cl_int]; exact Rbound_any _ _ _ (by decide) _
theorem ROnes_any (n : Int) (w : World) :
    Calls Tryz.prog 95 #[.int .i64 n] w fun e w' => e = .returned (.int .u64 (un (Ones n))) ∧ w = w' := by
  have h2 := cl_le n
  go_enter Tryz.func95, Tryz.ntmps95
  go_wp2_with fail
  go_loop [3, 4] (fun x i => ∃ k : Nat, k ≤ cl n ∧ i = .int .i64 k ∧ x = .int .u64 (un (OnesK k))) (fun _ i => 64 - (intOf i).toNat)
  case atStart => exact ⟨0, Nat.zero_le _, rfl, rfl⟩
  case round =>
    obtain ⟨k, hk, rfl, rfl⟩ := hrel
    by_cases hlt : k < cl n
    · go_wp2_with (go_at_call 92; (with_reducible refine (Rbound_64 _ _).mono ?_); rintro e w' ⟨rfl, rfl⟩)
      go_round
      case rel => exact ⟨k + 1, by omega, by go_num, rfl⟩
      case measure => simp [intOf]; omega
    · obtain rfl : k = cl n := by omega
      go_wp2_with (go_at_call 92; (with_reducible refine (Rbound_64 _ _).mono ?_); rintro e w' ⟨rfl, rfl⟩)
      go_ret
      exact ⟨ret_int (by rw [← OnesK_eq]), rfl⟩
theorem RLow_any (x : BitVec 64) (n : Int) (w : World) :
    Calls Tryz.prog 94 #[.int .u64 (un x), .int .i64 n] w fun e w' => e = .returned (.int .u64 (un (Low x n))) ∧ w = w' := by
  go_enter Tryz.func94, Tryz.ntmps94
  go_wp2_with (go_at_call 95; (with_reducible refine (ROnes_any _ _).mono ?_); rintro e w' ⟨rfl, rfl⟩)
  go_ret
  exact ⟨rfl, rfl⟩
theorem RPart_any (x : BitVec 64) (f n : Int) (w : World) :
    Calls Tryz.prog 93 #[.int .u64 (un x), .int .i64 f, .int .i64 n] w fun e w' => e = .returned (.int .u64 (un (Part x f n))) ∧ w = w' := by
  by_cases h : 63 < f
  · go_enter Tryz.func93, Tryz.ntmps93
    go_wp2_with fail
    go_ret
    exact ⟨ret_int (by rw [Part_far x f n h]; rfl), rfl⟩
  · by_cases h0 : f < 0
    · have e0 : un 0#64 = 0 := rfl
      go_enter Tryz.func93, Tryz.ntmps93
      go_wp2_with (go_at_call 94; (with_reducible refine (RLow_any _ _ _).mono ?_); rintro e w' ⟨rfl, rfl⟩)
      go_ret
      exact ⟨ret_int (by unfold Part; rw [show f.toNat = 0 by omega]; rfl), rfl⟩
    · have e0 : un (bv f) = f := un_bv _ (by omega)
      go_enter Tryz.func93, Tryz.ntmps93
      go_wp2_with (go_at_call 94; (with_reducible refine (RLow_any _ _ _).mono ?_); rintro e w' ⟨rfl, rfl⟩)
      go_ret
      exact ⟨rfl, rfl⟩
theorem RPut_any (x : BitVec 64) (f n : Int) (v : BitVec 64) (w : World) :
    Calls Tryz.prog 71 #[.int .u64 (un x), .int .i64 f, .int .i64 n, .int .u64 (un v)] w fun e w' => e = .returned (.int .u64 (un (Put x f n v))) ∧ w = w' := by
  by_cases h : 63 < f
  · go_enter Tryz.func71, Tryz.ntmps71
    go_wp2_with fail
    go_ret
    exact ⟨ret_int (by rw [Put_far x f n v h]), rfl⟩
  · by_cases h0 : f < 0
    · have e0 : un 0#64 = 0 := rfl
      go_enter Tryz.func71, Tryz.ntmps71
      go_wp2_with (first | (go_at_call 94; (with_reducible refine (RLow_any _ _ _).mono ?_); rintro e w' ⟨rfl, rfl⟩) | (go_at_call 95; (with_reducible refine (ROnes_any _ _).mono ?_); rintro e w' ⟨rfl, rfl⟩))
      go_ret
      exact ⟨ret_int (by rw [← Put_ref, show f.toNat = 0 by omega]; simp), rfl⟩
    · have e0 : un (bv f) = f := un_bv _ (by omega)
      go_enter Tryz.func71, Tryz.ntmps71
      go_wp2_with (first | (go_at_call 94; (with_reducible refine (RLow_any _ _ _).mono ?_); rintro e w' ⟨rfl, rfl⟩) | (go_at_call 95; (with_reducible refine (ROnes_any _ _).mono ?_); rintro e w' ⟨rfl, rfl⟩))
      go_ret
      exact ⟨ret_int (by rw [← Put_ref]), rfl⟩
theorem RSign_any (x : BitVec 64) (n : Int) (w : World) :
    Calls Tryz.prog 63 #[.int .u64 (un x), .int .i64 n] w fun e w' => e = .returned (.int .i64 (sn (Sign x n))) ∧ w = w' := by
  have h2 := cl_le n
  by_cases h : cl n = 0
  · have hb : Hid (∀ w, Calls Tryz.prog 92 #[.int .i64 n, .int .i64 0, .int .i64 64] w fun e w' => e = .returned (.int .i64 0) ∧ w = w') := Lib.hid fun w => by have := Rbound_64 n w; rw [h] at this; exact this
    have hs := Lib.hid (Sign_zero x n h)
    have hl := Low_cl x n
    rw [h] at hl
    have hl' := Lib.hid hl
    clear h hl
    go_enter Tryz.func63, Tryz.ntmps63
    go_wp2_with (first | (go_at_call 92; refine (hb.out _).mono ?_; rintro e w' ⟨rfl, rfl⟩) | (go_at_call 94; (with_reducible refine (RLow_any _ _ _).mono ?_); rintro e w' ⟨rfl, rfl⟩))
    go_ret
    exact ⟨ret_int (by rw [hs.out, ← hl'.out]; rfl), rfl⟩
  · have h1 : 1 ≤ cl n := by omega
    by_cases h0 : Part x ((cl n : Int) - 1) 1 = 0#64
    · have hs := Lib.hid (Sign_pos x n h1 h0)
      have t := beq_self_true (0 : Int) (un (Part x ((cl n : Int) - 1) 1)) (by rw [h0]; rfl)
      have hl' := Lib.hid (Low_cl x n)
      have t0 : ((cl n : Int) == 0) = false := by rw [beq_eq_false_iff_ne]; omega
      clear h h0
      go_enter Tryz.func63, Tryz.ntmps63
      go_wp2_with (first | (go_at_call 92; (with_reducible refine (Rbound_64 _ _).mono ?_); rintro e w' ⟨rfl, rfl⟩) | (go_at_call 93; (with_reducible refine (RPart_any _ _ _ _).mono ?_); rintro e w' ⟨rfl, rfl⟩) | (go_at_call 94; (with_reducible refine (RLow_any _ _ _).mono ?_); rintro e w' ⟨rfl, rfl⟩))
      go_ret
      exact ⟨ret_int (by rw [hs.out, ← hl'.out]), rfl⟩
    · have hs := Lib.hid (Sign_neg x n h1 h0)
      have t : (un (Part x ((cl n : Int) - 1) 1) == 0) = false := by
        rw [beq_eq_false_iff_ne]; intro h; exact h0 (un_inj.1 h)
      have ho' := Lib.hid (Ones_cl n)
      have t0 : ((cl n : Int) == 0) = false := by rw [beq_eq_false_iff_ne]; omega
      clear h h0
      go_enter Tryz.func63, Tryz.ntmps63
      go_wp2_with (first | (go_at_call 92; (with_reducible refine (Rbound_64 _ _).mono ?_); rintro e w' ⟨rfl, rfl⟩) | (go_at_call 93; (with_reducible refine (RPart_any _ _ _ _).mono ?_); rintro e w' ⟨rfl, rfl⟩) | (go_at_call 95; (with_reducible refine (ROnes_any _ _).mono ?_); rintro e w' ⟨rfl, rfl⟩))
      go_ret
      exact ⟨ret_int (by rw [hs.out, ← ho'.out, ← BitVec.allOnes_xor]; rfl), rfl⟩
theorem RFits_any (v n : Int) (w : World) :
    Calls Tryz.prog 62 #[.int .i64 v, .int .i64 n] w fun e w' => e = .returned (.bool (Fits v n)) ∧ w = w' := by
  go_enter Tryz.func62, Tryz.ntmps62
  go_wp2_with (go_at_call 63; (with_reducible refine (RSign_any _ _ _).mono ?_); rintro e w' ⟨rfl, rfl⟩)
  go_ret
  exact ⟨rfl, rfl⟩
theorem RShort_any (x : BitVec 64) (w : World) :
    Calls Tryz.prog 80 #[.int .u64 (un x)] w fun e w' => e = .returned (.int .u64 (un (Short x))) ∧ w = w' := by
  go_enter Tryz.func80, Tryz.ntmps80
  go_wp2_with (go_at_call 63; (with_reducible refine (RSign_any _ _ _).mono ?_); rintro e w' ⟨rfl, rfl⟩)
  go_ret
  exact ⟨rfl, rfl⟩
end Go.Proofs.YtcgflnkgekkidaaGreatDoor
