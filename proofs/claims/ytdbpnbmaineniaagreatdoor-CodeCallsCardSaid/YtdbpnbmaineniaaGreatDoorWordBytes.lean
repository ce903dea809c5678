/- The walk of word.Bytes: n bytes in a slice of its own, the low one first. Conditions: none. -/
import Derived.Test.YtdbpnbmaineniaaGreatDoorWord
import Derived.Test.YtdbpnbmaineniaaGreatDoorRefDf
import Derived.Lib.Hide
namespace Go.Proofs.YtdbpnbmaineniaaGreatDoor
open Go.RowKit
/-- how many bytes -/
def cl8 (n : Int) : Nat := (min (max n 0) 8).toNat
theorem cl8_le (n : Int) : cl8 n ≤ 8 := by unfold cl8; omega
/-- A slice of its own, with these bytes. -/
structure BytesPost (w : World) (l : List Int) (e : Ending) (w' : World) : Prop where
  ret : e = .returned (.slice (some ⟨w.heap.size, 0, none⟩) l.length l.length)
  cells : ∀ i, i < l.length → w'.cell? ⟨w.heap.size, 0 + i, none⟩ = some (.int .u8 (l.getD i 0))
  below : Below w.heap.size w w'
  more : w.heap.size < w'.heap.size
attribute [local go_sem] wrap_u64_bv bv_un bv_sn bv_add bv_mul bv_neg bv_sub mul_bvpow shr_min shl_min sshr_min bv_lit bv_0 bv_1 un_shr sn_shr wrap_i64_un bits_u64_and bits_u64_or bits_u64_xor bits_u64_andNot bv_max u64_unsigned
theorem Tryz.info_u8 : (Tryz.prog.info? 5).map (fun i => (i.zero, i.size, i.bytes)) = some (some (.int .u8 0), 1, 1) := by kernel_rfl
theorem Bytes_own (x : BitVec 64) (n : Int) (w : World) :
    Calls Tryz.prog 53 #[.int .u64 (un x), .int .i64 n] w fun e w' => e = .returned (.slice (some ⟨w.heap.size, 0, none⟩) (cl8 n) (cl8 n)) ∧ w'.ownsRow w.heap.size 5 1 (.slice (some ⟨w.heap.size, 0, none⟩) (cl8 n) (cl8 n)) (bytesL x (cl8 n)).length ((bytesL x (cl8 n)).map (Value.int .u8)) ∧ Below w.heap.size w w' := by
  obtain ⟨i0, hi, hz0, hz1, hz2⟩ := info_parts Tryz.info_u8
  obtain ⟨m, hm, hc, hcl⟩ : ∃ m : Nat, m ≤ 8 ∧ Hid (∀ w : World, Calls Tryz.prog 120 #[.int .i64 n, .int .i64 0, .int .i64 8] w fun e w' => e = .returned (.int .i64 (m : Int)) ∧ w = w') ∧ Hid (cl8 n = m) :=
    ⟨cl8 n, cl8_le n, Lib.hid fun w => by rw [show ((cl8 n : Nat) : Int) = min (max n 0) 8 by unfold cl8; omega]; exact clamp_any _ _ _ (by decide) w, Lib.hid rfl⟩
  have hi' := Lib.hid hi; have hz0' := Lib.hid hz0; have hz1' := Lib.hid hz1; have hz2' := Lib.hid hz2; clear hi hz0 hz1
  have hby : i0.bytes * m ≤ 281474976710656 := by rw [hz2]; omega
  clear hz2
  have hby' := Lib.hid hby; clear hby
  go_enter Tryz.func53, Tryz.ntmps53
  go_wp2_with (first | (go_at_call 120; (with_reducible refine (hc.out _).mono ?_); rintro e w' ⟨rfl, rfl⟩) | (at_make; refine wpList_make_full _ rfl _ _ 31 rfl w.heap.size 5 i0 (.int .u8 0) 1 Tryz.underlying31 hi'.out hz0'.out hz1'.out .i64 .i64 m m m rfl rfl rfl rfl hby'.out (by unfold maxLen; omega) (Nat.le_refl _) ?_; intro w1 hown hgr))
  have hb1 : Below w.heap.size w w1 := (Below.refl _ _).grown hgr (Nat.le_refl _) (by simp)
  have hown1 : w1.ownsRow w.heap.size 5 1 (.slice (some ⟨w.heap.size, 0, none⟩) m m) m (stepL x m 0) := by
    rw [← stepL_0]
    rw [show Value.cells (.int .u8 0) = #[.int .u8 0] from rfl, toList_madeCells_one, Nat.mul_one] at hown
    exact hown
  have hs1 : w.heap.size < w1.heap.size := (World.ownsRow.lt hown _ rfl).2
  clear hown
  go_loopw [12] (fun i wr => ∃ k : Nat, k ≤ m ∧ i = .int .i64 k ∧ wr.ownsRow w.heap.size 5 1 (.slice (some ⟨w.heap.size, 0, none⟩) m m) m (stepL x m k) ∧ Below w.heap.size w wr ∧ w.heap.size < wr.heap.size) (fun i _ => m - (intOf i).toNat)
  case atStart => exact ⟨0, Nat.zero_le _, rfl, hown1, hb1, hs1⟩
  case round =>
    obtain ⟨k, hk, rfl, hown, hb, hs⟩ := hrel
    clear hown1 hb1 hs1 hgr
    by_cases hlt : k < m
    · have hcell : wr.cell? ⟨w.heap.size, k, none⟩ = (stepL x m k)[k]? := hown.cellAt k (by omega)
      have hfr := hown.frozenAt k
      obtain ⟨u, hu⟩ : ∃ u, (stepL x m k)[k]? = some u := ⟨_, List.getElem?_eq_getElem (by simp [stepL]; exact hlt)⟩
      rw [hu] at hcell
      have hst := Lib.hid (hown.stored k (.int .u8 (byteAt x k)))
      clear hu
      go_wp2
      go_roundw
      case rel =>
        obtain ⟨h1, h2⟩ := hst.out
        rw [stepL_set] at h1
        exact ⟨k + 1, by omega, by go_num, h1, hb.setCell (Nat.le_refl _) _, Nat.lt_of_lt_of_le hs h2.size⟩
      case measure => simp [intOf]; omega
    · obtain rfl : k = m := by omega
      go_wp2
      go_ret
      rw [bytesL_len, hcl.out]
      refine ⟨rfl, ?_, hb⟩
      rw [← stepL_full]
      exact hown
theorem Bytes_any (x : BitVec 64) (n : Int) (w : World) :
    Calls Tryz.prog 53 #[.int .u64 (un x), .int .i64 n] w (BytesPost w (bytesL x (cl8 n))) :=
  (Bytes_own x n w).mono fun e w' ⟨he, ho, hb⟩ => by
    have hl : (bytesL x (cl8 n)).length = cl8 n := bytesL_len _ _
    refine ⟨by rw [hl]; exact he, fun i hi => ?_, hb, (World.ownsRow.lt ho _ rfl).2⟩
    rw [hl] at ho hi
    rw [Nat.zero_add, ho.cellAt i (by omega)]
    simp [bytesL, List.getD, hi]
end Go.Proofs.YtdbpnbmaineniaaGreatDoor
