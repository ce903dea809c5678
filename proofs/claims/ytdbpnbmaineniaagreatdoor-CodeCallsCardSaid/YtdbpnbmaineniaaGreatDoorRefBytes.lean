/- The walks of the reference's Bytes and Of, and of Own at bytes. Conditions: the bytes' cells are there. -/
import Derived.Test.YtdbpnbmaineniaaGreatDoorRefDf
import Derived.Test.YtdbpnbmaineniaaGreatDoorWordBytes
import Derived.Test.YtdbpnbmaineniaaGreatDoorCodeWO
import Derived.BigQuiet
import Derived.WalkSpells
namespace Go.Proofs.YtdbpnbmaineniaaGreatDoor
open Go.RowKit
attribute [local go_sem] wrap_u64_bv bv_un bv_sn bv_add bv_mul bv_neg bv_sub mul_bvpow shr_min shl_min sshr_min bv_lit bv_0 bv_1 un_shr sn_shr wrap_i64_un bits_u64_and bits_u64_or bits_u64_xor bits_u64_andNot bv_max u64_unsigned
/-- A slice of bytes in new memory. -/
structure NewBytes (w : World) (l : List Int) (e : Ending) (w' : World) : Prop where
  ret : ∃ v, e = .returned v ∧ w'.ownsRow w.heap.size 5 1 v l.length (l.map (Value.int .u8))
  below : Below w.heap.size w w'
theorem RBytes_any (x : BitVec 64) (n : Int) (w : World) :
    Calls Tryz.prog 62 #[.int .u64 (un x), .int .i64 n] w (NewBytes w (bytesL x (cl8 n))) := by
  obtain ⟨i0, hi, hz0, hz1, hz2⟩ := info_parts Tryz.info_u8
  obtain ⟨m, hm, hc, hcl⟩ : ∃ m : Nat, m ≤ 8 ∧ Hid (∀ w : World, Calls Tryz.prog 126 #[.int .i64 n, .int .i64 0, .int .i64 8] w fun e w' => e = .returned (.int .i64 (m : Int)) ∧ w = w') ∧ Hid (cl8 n = m) :=
    ⟨cl8 n, cl8_le n, Lib.hid fun w => by rw [show ((cl8 n : Nat) : Int) = min (max n 0) 8 by unfold cl8; omega]; exact Rbound_any _ _ _ (by decide) w, Lib.hid rfl⟩
  have hi' := Lib.hid hi; have hz0' := Lib.hid hz0; have hz1' := Lib.hid hz1; have hz2' := Lib.hid hz2; clear hi hz0 hz1 hz2
  go_enter Tryz.func62, Tryz.ntmps62
  go_wp2_with fail
  go_loopw [5, 6] (fun v i wr => ∃ k : Nat, k ≤ m ∧ i = .int .i64 k ∧ wr.ownsRow w.heap.size 5 1 v k ((bytesL x k).map (Value.int .u8)) ∧ Below w.heap.size w wr) (fun _ i _ => m - (intOf i).toNat)
  case atStart => exact ⟨0, Nat.zero_le _, rfl, World.ownsRow_nil _ _ _ _, Below.refl _ _⟩
  case round =>
    obtain ⟨k, hk, rfl, hown, hb⟩ := hrel
    by_cases hlt : k < m
    · have hn : (bytesL x k).map (Value.int .u8) ++ [Value.int .u8 (byteAt x k)] = (bytesL x (k + 1)).map (Value.int .u8) := by unfold bytesL; rw [List.range_succ]; simp
      have hn' := Lib.hid hn; clear hn
      go_wp2_with (first | (go_at_call 126; (with_reducible refine (hc.out _).mono ?_); rintro e w' ⟨rfl, rfl⟩) | (go_at_call 121; (with_reducible refine (RPart_any _ _ _ _).mono ?_); rintro e w' ⟨rfl, rfl⟩) | (at_builtin; refine wpList_append_own _ rfl _ _ 31 rfl w.heap.size 5 i0 (.int .u8 0) 1 1 Tryz.underlying31 hi'.out hz0'.out hz1'.out hz2'.out rfl (by decide) _ k _ rfl (hown.alloc _) ⟨wr.heap.size, 0, none⟩ 1 1 [.int .u8 (byteAt x k)] rfl rfl ?c1 ?c2 ?c3 ?c4 ?c5 ?_))
      case c1 =>
        have e : un (Part x (8 * (k : Int)) 8) % 256 = byteAt x k := by rw [← byte_part]; have := byteAt_lt x k; omega
        rw [e]; exact cell_one_new _ _ _
      case c2 => simp [Value.oneCell']
      case c3 => unfold maxLen; omega
      case c4 => omega
      case c5 => have := hb.size; simp; omega
      intro v' w1 hown' hgrow _
      rw [hn'.out] at hown'
      have hb1 : Below w.heap.size w w1 := (hb.alloc hb.size _).grown hgrow (by have := hb.size; simp; omega) (fun j hj => (World.ownsRow.lt hown j hj).1)
      clear hown hb hgrow
      go_wp2
      go_roundw
      case rel => exact ⟨k + 1, by omega, by go_num, hown', hb1⟩
      case measure => simp [intOf]; omega
    · obtain rfl : k = m := by omega
      go_wp2_with (first | (go_at_call 126; (with_reducible refine (hc.out _).mono ?_); rintro e w' ⟨rfl, rfl⟩))
      go_ret
      refine ⟨⟨_, rfl, ?_⟩, hb⟩
      rw [hcl.out, bytesL_len]
      exact hown
theorem ROf_any (b off len cap : Nat) (f : Nat → Int) (w : World) (hm : len ≤ 9223372036854775807) (hc : ∀ i, i < len → w.cell? ⟨b, off + i, none⟩ = some (.int .u8 (f i))) :
    Calls Tryz.prog 61 #[.slice (some ⟨b, off, none⟩) len cap] w fun e w' => e = .returned (.int .u64 (un (OfP f (min len 8)))) ∧ w = w' := by
  have hc' := Lib.hid hc; clear hc
  have hlen : len ≤ 8 ∨ 8 < len := by omega
  rcases hlen with hlen | hlen
  all_goals
    go_enter Tryz.func61, Tryz.ntmps61
    go_wp2_with fail
    go_loop [3, 4] (fun x i => ∃ k : Nat, k ≤ min len 8 ∧ i = .int .i64 k ∧ x = .int .u64 (un (OfP f k))) (fun _ i => 8 - (intOf i).toNat)
    case atStart => exact ⟨0, Nat.zero_le _, rfl, rfl⟩
    case round =>
      obtain ⟨k, hk, rfl, rfl⟩ := hrel
      by_cases hlt : k < min len 8
      · have hcell := hc'.out k (by omega)
        have h1 : k < len := by omega
        have h2 : k < 8 := by omega
        go_wp2_with (go_at_call 59; (with_reducible refine (RPut_any _ _ _ _ _).mono ?_); rintro e w' ⟨rfl, rfl⟩)
        go_round
        case rel => exact ⟨k + 1, by omega, by go_num, rfl⟩
        case measure => simp [intOf]; omega
      · obtain rfl : k = min len 8 := by omega
        go_wp2_with fail
        go_ret
        exact ⟨rfl, rfl⟩
theorem ROf_empty (a : Option Addr) (cap : Nat) (w : World) :
    Calls Tryz.prog 61 #[.slice a 0 cap] w fun e w' => e = .returned (.int .u64 (un 0#64)) ∧ w = w' := by
  go_enter Tryz.func61, Tryz.ntmps61
  go_wp2_with fail
  go_loop [3, 4] (fun x i => x = .int .u64 0 ∧ i = .int .i64 0) (fun _ _ => 0)
  case atStart => exact ⟨rfl, rfl⟩
  case round =>
    obtain ⟨rfl, rfl⟩ := hrel
    go_wp2_with fail
    go_ret
    exact ⟨rfl, rfl⟩
theorem Own_some (b off len cap : Nat) (f : Nat → Int) (w : World) (hm : len ≤ 1000) (hb : b < w.heap.size) (hc : ∀ i, i < len → w.cell? ⟨b, off + i, none⟩ = some (.int .u8 (f i))) :
    Calls Tryz.prog 17 #[.slice (some ⟨b, off, none⟩) len cap] w (NewBytes w ((List.range len).map f)) := by
  obtain ⟨i0, hi, hz0, hz1, hz2⟩ := info_parts Tryz.info_u8
  have hi' := Lib.hid hi; have hz0' := Lib.hid hz0; have hz1' := Lib.hid hz1; have hz2' := Lib.hid hz2; clear hi hz0 hz1 hz2
  have hc' := Lib.hid hc; clear hc
  have hown : (w.alloc (.cells #[] 5)).ownsRow w.heap.size 5 1 (.slice (some ⟨w.heap.size, 0, none⟩) 0 0) 0 [] := World.ownsRow_lit w #[] 0 (Nat.le_refl _) (Nat.zero_le _) rfl
  go_enter Tryz.func17, Tryz.ntmps17
  go_wp2_with (at_builtin; refine wpList_append_own _ rfl _ _ 31 rfl w.heap.size 5 i0 (.int .u8 0) 1 1 Tryz.underlying31 hi'.out hz0'.out hz1'.out hz2'.out rfl (by decide) _ 0 _ rfl hown ⟨b, off, none⟩ len cap ((List.range len).map fun i => .int .u8 (f i)) rfl (by simp) ?c1 ?c2 ?c3 ?c4 ?c5 ?_)
  case c1 =>
    intro j u hu
    have hj : j < len := by
      rcases Nat.lt_or_ge j len with h | h
      · exact h
      · simp [List.getElem?_eq_none (show ((List.range len).map fun i => Value.int .u8 (f i)).length ≤ j by simpa using h)] at hu
    have e : (⟨b, off, none⟩ : Addr).add j = ⟨b, off + j, none⟩ := Addr.add_lit _ _ _
    rw [e, World.cell?_alloc_lt _ _ (a := ⟨b, off + j, none⟩) hb, hc'.out j hj]
    simpa [hj] using hu
  case c2 => intro u hu; simp at hu; obtain ⟨i, _, rfl⟩ := hu; rfl
  case c3 => unfold maxLen; omega
  case c4 => omega
  case c5 => simp
  intro v' w1 hown' hgrow _
  have hb1 : Below w.heap.size w w1 := ((Below.refl _ _).alloc (Nat.le_refl _) _).grown hgrow (by simp) (fun j hj => (World.ownsRow.lt hown j hj).1)
  clear hown hgrow
  go_wp2
  go_ret
  refine ⟨⟨_, rfl, ?_⟩, hb1⟩
  have e : ((List.range len).map f).map (Value.int .u8) = (List.range len).map fun i => .int .u8 (f i) := by simp [List.map_map, Function.comp_def]
  rw [e, show ((List.range len).map f).length = len by simp]
  exact hown'
theorem Own_none (w : World) :
    Calls Tryz.prog 17 #[.slice none 0 0] w (NewBytes w []) := by
  obtain ⟨i0, hi, hz0, hz1, hz2⟩ := info_parts Tryz.info_u8
  have hi' := Lib.hid hi; have hz1' := Lib.hid hz1; have hz2' := Lib.hid hz2; clear hi hz0 hz1 hz2
  have hown : (w.alloc (.cells #[] 5)).ownsRow w.heap.size 5 1 (.slice (some ⟨w.heap.size, 0, none⟩) 0 0) 0 [] := World.ownsRow_lit w #[] 0 (Nat.le_refl _) (Nat.zero_le _) rfl
  go_enter Tryz.func17, Tryz.ntmps17
  go_wp2
  go_ret
  exact ⟨⟨_, rfl, hown⟩, (Below.refl _ _).alloc (Nat.le_refl _) _⟩
theorem Own_empty (p : Addr) (cap : Nat) (w : World) :
    Calls Tryz.prog 17 #[.slice (some p) 0 cap] w (NewBytes w []) := by
  have hown : (w.alloc (.cells #[] 5)).ownsRow w.heap.size 5 1 (.slice (some ⟨w.heap.size, 0, none⟩) 0 0) 0 [] := World.ownsRow_lit w #[] 0 (Nat.le_refl _) (Nat.zero_le _) rfl
  go_enter Tryz.func17, Tryz.ntmps17
  go_wp2
  go_ret
  exact ⟨⟨_, rfl, hown⟩, (Below.refl _ _).alloc (Nat.le_refl _) _⟩
/-- Of at a slice of its own. -/
theorem Of_own (base : Nat) (v : Value) (l : List Int) (w : World) (h : w.ownsRow base 5 1 v l.length (l.map (Value.int .u8))) (hl : l.length ≤ 1000) :
    Calls Tryz.prog 49 #[v] w fun e w' => e = .returned (.int .u64 (un (OfK (fun i => l.getD i 0) (min l.length 8)))) ∧ w = w' := by
  rcases h.2 with ⟨rfl, h0⟩ | ⟨g, cap, cur, rfl, hb, hg, hn, hm, hs, ht⟩
  · rw [h0]; exact Of_nil w
  · refine Of_any g 0 l.length cap _ w hn (by omega) fun i hi => ?_
    rw [Nat.zero_add, h.cellAt i (by omega)]
    simp [List.getD, hi]
/-- A slice of its own as a string. -/
theorem convert_own (base : Nat) (v : Value) (l : List Int) (w : World) (h : w.ownsRow base 5 1 v l.length (l.map (Value.int .u8))) :
    Sem.run Tryz.prog (convert 31 9 v) w = .ok (.string (strOfNums l)) w := by
  rcases h.2 with ⟨rfl, h0⟩ | ⟨g, cap, cur, rfl, hb, hg, hn, hm, hs, ht⟩
  · have : l = [] := by simpa using h0
    subst this
    exact run_convert_bytes_nil w 31 5 Tryz.underlying31 Tryz.underlying5 0 0 _ Tryz.underlying9
  · refine run_convert_bytes_arg w 31 5 Tryz.underlying31 Tryz.underlying5 g 0 l.length cap l rfl (fun i hi => ?_) _ Tryz.underlying9
    rw [Nat.zero_add, h.cellAt i (by omega)]
    simp [List.getD, hi]
theorem ownsRow_later {w w' : World} {base : Nat} {e : TypeId} {size : Nat} {v : Value} {n : Nat} {xs : List Value} (h : w.ownsRow base e size v n xs) (hb : Below w.heap.size w w') : w'.ownsRow base e size v n xs :=
  h.kept (row := none) ⟨hb.os, hb.tape, hb.output, hb.size, fun k hk _ => hb.block k hk⟩ (by rcases v.ownBlock with _ | b <;> simp)
/-- Bytes as a slice of bytes in new memory. -/
theorem Bytes_new (x : BitVec 64) (n : Int) (w : World) :
    Calls Tryz.prog 53 #[.int .u64 (un x), .int .i64 n] w (NewBytes w (bytesL x (cl8 n))) :=
  (Bytes_own x n w).mono fun _ _ ⟨he, ho, hb⟩ => ⟨⟨_, he, ho⟩, hb⟩
end Go.Proofs.YtdbpnbmaineniaaGreatDoor
