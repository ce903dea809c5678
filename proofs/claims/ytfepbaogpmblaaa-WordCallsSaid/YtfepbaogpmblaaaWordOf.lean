/- The walk of word.Of: the number of bytes, the low one first. Conditions: the bytes' cells are there, the length is at most the capacity. -/
import Derived.Test.YtfepbaogpmblaaaWord
import Derived.Test.YtfepbaogpmblaaaBytesDefs
import Derived.Lib.Hide
import Derived.Laws.BytesArg
namespace Go.Proofs.Ytfepbaogpmblaaa
open Go.RowKit
attribute [local go_sem] wrap_u64_bv bv_un bv_sn bv_add bv_mul bv_neg bv_sub mul_bvpow shr_min shl_min sshr_min bv_lit bv_0 bv_1 un_shr sn_shr wrap_i64_un bits_u64_and bits_u64_or bits_u64_xor bits_u64_andNot bv_max u64_unsigned
theorem Of_nil (w : World) :
    Calls Try.prog 18 #[.slice none 0 0] w fun e w' => e = .returned (.int .u64 (un 0#64)) ∧ w = w' := by
  go_enter Try.func18, Try.ntmps18
  go_wp2
  go_loop [2, 11] (fun x i => x = .int .u64 0 ∧ i = .int .i64 0) (fun _ _ => 0)
  case atStart => exact ⟨rfl, rfl⟩
  case round =>
    obtain ⟨rfl, rfl⟩ := hrel
    go_wp2
    go_ret
    exact ⟨rfl, rfl⟩
theorem Of_empty (p : Addr) (cap : Nat) (w : World) :
    Calls Try.prog 18 #[.slice (some p) 0 cap] w fun e w' => e = .returned (.int .u64 (un 0#64)) ∧ w = w' := by
  go_enter Try.func18, Try.ntmps18
  go_wp2
  go_loop [2, 11] (fun x i => x = .int .u64 0 ∧ i = .int .i64 0) (fun _ _ => 0)
  case atStart => exact ⟨rfl, rfl⟩
  case round =>
    obtain ⟨rfl, rfl⟩ := hrel
    go_wp2
    go_ret
    exact ⟨rfl, rfl⟩
theorem Of_any (b off len cap : Nat) (f : Nat → Int) (w : World) (hl : len ≤ cap) (hm : len ≤ 9223372036854775807) (hc : ∀ i, i < len → w.cell? ⟨b, off + i, none⟩ = some (.int .u8 (f i))) :
    Calls Try.prog 18 #[.slice (some ⟨b, off, none⟩) len cap] w fun e w' => e = .returned (.int .u64 (un (OfK f (min len 8)))) ∧ w = w' := by
  have hc' := Lib.hid hc; clear hc
  have hlen : len ≤ 8 ∨ 8 < len := by omega
  rcases hlen with hlen | hlen
  all_goals
    obtain ⟨m, hm1, hm2, hm3⟩ : ∃ m, m = min len 8 ∧ m ≤ len ∧ m ≤ 8 := ⟨_, rfl, by omega, by omega⟩
    have hm1' := Lib.hid hm1; clear hm1
    go_enter Try.func18, Try.ntmps18
    go_wp2_with fail
    go_loop [2, 11] (fun x i => ∃ k : Nat, k ≤ min len 8 ∧ i = .int .i64 k ∧ x = .int .u64 (un (OfK f k))) (fun _ i => 8 - (intOf i).toNat)
    case atStart => exact ⟨0, Nat.zero_le _, rfl, rfl⟩
    case round =>
      obtain ⟨k, hk, rfl, rfl⟩ := hrel
      by_cases hlt : k < min len 8
      · have hcell := hc'.out k (by omega)
        go_wp2
        go_round
        case rel => exact ⟨k + 1, by omega, by go_num, rfl⟩
        case measure => simp [intOf]; omega
      · obtain rfl : k = min len 8 := by omega
        go_wp2
        go_ret
        exact ⟨rfl, rfl⟩
theorem run_convert_bytes_empty {P : Program} (w : World) (src e : TypeId) (hs : P.underlying src = some (.slice e)) (he : P.underlying e = some (.int .u8)) (p : Addr) (c : Nat) :
    ∀ dst, P.underlying dst = some .string → (convert src dst (.slice (some p) 0 c)).run P w = .ok (.string ByteArray.empty) w := by
  intro dst hd
  rw [run_convert_bytes_string w src dst e _ 0 c hs he hd, run_bytesToString w p 0 c [] (run_loadCells_list (P := P) w p [] (fun j v hj => by simp at hj))]
  rfl
end Go.Proofs.Ytfepbaogpmblaaa
