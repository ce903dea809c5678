/- The walk of package code's Dump: each word's text, or the word; and of Words where the bytes are no words. Conditions: as each theorem says. -/
import Derived.Test.YtdbpnbmaineniaaGreatDoorCodeHX
import Derived.Test.YtdbpnbmaineniaaGreatDoorCodeBW
import Derived.Test.YtdbpnbmaineniaaGreatDoorCodeLI
import Derived.Test.YtdbpnbmaineniaaGreatDoorInsnWG
import Derived.Test.YtdbpnbmaineniaaGreatDoorOwn
set_option linter.unusedSimpArgs false
set_option linter.unusedVariables false
namespace Go.Proofs.YtdbpnbmaineniaaGreatDoor
open Go.RowKit
theorem builder_new (w : World) : SbIsW w.heap.size w.heap.size (Lib.byteCells []) (w.alloc (.cells #[.pointer none, .slice none 0 0] 77)) ∧ Below w.heap.size w (w.alloc (.cells #[.pointer none, .slice none 0 0] 77)) := by
  refine ⟨.inl ⟨Nat.le_refl _, .slice none 0 0, Array.getElem?_push_size, ?_, by simp [Value.ownBlock]⟩, (Below.refl _ _).alloc (Nat.le_refl _) _⟩
  exact World.ownsRowF_of (World.ownsRow_nil _ _ _ _)
theorem SbWAt_lt {B b : Nat} {bs : List Value} {w : World} (h : SbIsW B b bs w) : b < w.heap.size := h.elim SbWAt.here SbWAt.here
theorem hex_get (m : Nat) (h : m < 16) : ({ data := #[48, 49, 50, 51, 52, 53, 54, 55, 56, 57, 97, 98, 99, 100, 101, 102] } : ByteArray)[m]'h = hexD m := by
  have : ∀ d : Fin 16, ({ data := #[48, 49, 50, 51, 52, 53, 54, 55, 56, 57, 97, 98, 99, 100, 101, 102] } : ByteArray)[d.1]'d.2 = hexD d.1 := by decide +kernel
  exact this ⟨m, h⟩
theorem hex_bits (x : BitVec 32) (q : Nat) (P : Int) (hP : P = 2 ^ q) : bits .and .u32 (un32 x / P) 15 = ((x.toNat / 2 ^ q % 16 : Nat) : Int) := by
  rw [hP, bits_u32_andH, un32_shrH, bv32_un32H]
  unfold un32
  rw [BitVec.toNat_and, BitVec.toNat_ushiftRight, Nat.shiftRight_eq_div_pow]
  congr 1
  exact Nat.and_two_pow_sub_one_eq_mod (x.toNat / 2 ^ q) 4
theorem hex_bits0 (x : BitVec 32) : bits .and .u32 (un32 x) 15 = ((x.toNat / 2 ^ 0 % 16 : Nat) : Int) := by
  have := hex_bits x 0 1 rfl
  rwa [Int.ediv_one] at this
theorem bytes_snoc (l : List UInt8) (c : UInt8) : Lib.byteCells l ++ [Value.int .u8 (c.toNat : Int)] = Lib.byteCells (l ++ [c]) := by simp [Lib.byteCells]
set_option maxRecDepth 100000 in
set_option maxHeartbeats 8000000 in
theorem CDump_by (ao : Option Addr) (n cap : Nat) (F : Nat → BitVec 32) (w : World) (h : WordsAt w ao n F) (hn : n ≤ 100000) (ht : Tabs w) (hfl : Flds w)
    (hTx : Hid (∀ k W, k < n → Below w.heap.size w W → Calls Tryz.prog 29 #[.agg (insnW (F k)).1.cells] W fun e w' => e = .returned (.tuple #[.string ⟨(textT (insnW (F k)).1).toArray⟩, .int .i64 (checkE (insnW (F k)).1)]) ∧ Below W.heap.size W w')) :
    Calls Tryz.prog 11 #[.slice ao n cap] w (NewRow 9 w (dumpsV F n)) := by
  have hu := Tryz.underlying23
  obtain ⟨i0, hi, hz0, hz1, hz2⟩ := info_parts Tryz.info_strD
  have hi' := Lib.hid hi; have hz0' := Lib.hid hz0; have hz1' := Lib.hid hz1; have hz2' := Lib.hid hz2; clear hi hz0 hz1 hz2
  have hF : Hid (∀ k, k < n → ∃ b off, ao = some ⟨b, off, none⟩ ∧ b < w.heap.size ∧ w.cell? ⟨b, off + k, none⟩ = some (.int .u32 (un32 (F k)))) := Lib.hid fun k hk => by
    obtain ⟨b, off, e, hlt, hc⟩ := h (by omega)
    exact ⟨b, off, e, hlt, hc k hk⟩
  have hIn : Hid (∀ (x : BitVec 32) W, Below w.heap.size w W → Calls Tryz.prog 9 #[.int .u32 (un32 x)] W fun e w' => e = .returned (.tuple #[.agg (insnW x).1.cells, .int .i64 (insnW x).2]) ∧ Below W.heap.size W w') := Lib.hid fun x W hW => Insn_any x W (ht.later hW (Nat.le_refl _)) (hfl.later hW)
  clear h ht hfl
  go_enter Tryz.func11, Tryz.ntmps11
  go_wp2_with fail
  go_loopw [3, 14] (fun v i wr => ∃ k : Nat, k ≤ n ∧ i = .int .i64 k ∧ wr.ownsRow w.heap.size 9 1 v k (dumpsV F k) ∧ Below w.heap.size w wr) (fun _ i _ => n - (intOf i).toNat)
  case atStart => exact ⟨0, Nat.zero_le _, rfl, World.ownsRow_nil _ _ _ _, Below.refl _ _⟩
  case round =>
    obtain ⟨k, hk, rfl, hown, hb⟩ := hrel
    by_cases hlt : k < n
    · obtain ⟨b, off, rfl, hbl, hc⟩ := hF.out k hlt
      have ck : wr.cell? ⟨b, off + k, none⟩ = some (.int .u32 (un32 (F k))) := by rw [hb.cell (p := ⟨b, off + k, none⟩) hbl]; exact hc
      have hq : Hid (dumpsV F k ++ [.string ⟨(dumpT (F k)).toArray⟩] = dumpsV F (k + 1)) := Lib.hid rfl
      have hdt : Hid (dumpT (F k) = if (insnW (F k)).2 = 0 then textT (insnW (F k)).1 else 46 :: hexL (F k) 8) := Lib.hid rfl
      have hIk := Lib.hid (hIn.out (F k))
      have hTk := Lib.hid (fun W hW => hTx.out k W hlt hW)
      obtain ⟨x, hx⟩ : ∃ x, F k = x := ⟨_, rfl⟩
      rw [hx] at ck hq hdt hIk hTk
      have hn9 : Hid ((insnW x).1.cells.toList.length = 9) := Lib.hid rfl
      have h1c : Hid ((insnW x).1.cells.toList.toArray.all (·.oneCell') = true) := Lib.hid (insnW x).1.list_one
      rw [show (insnW x).1.cells = (insnW x).1.cells.toList.toArray by rw [Array.toArray_toList]] at hIk hTk
      generalize (insnW x).1.cells.toList = PL at *
      generalize dumpT x = dt at *
      generalize textT (insnW x).1 = tt at *
      generalize checkE (insnW x).1 = ce at *
      generalize (insnW x).2 = E at *
      have hsP : Hid ((Tryz.prog.info? 23).map (·.size) = some PL.length) := Lib.hid (by rw [hn9.out]; kernel_rfl)
      clear hc hx
      go_upto_region 6 with (first | (go_at_call 9; (with_reducible refine (hIk.out _ hb).mono ?_); rintro e w2 ⟨rfl, hb2⟩) | (refine wpList_store_mid rfl 23 _ _ rfl w2.heap.size 0 PL.toArray rfl rfl (fun j hj => cells_fresh w2 #[.int .i64 0, .int .i64 0, .int .i64 0, .int .i64 0, .int .i64 0, .bool false, .bool false, .int .i64 0, .int .i64 0] 23 9 (by decide) j (by rw [List.size_toArray, hn9.out] at hj; exact hj)) (by rw [List.size_toArray]; exact hsP.out) h1c.out ?_))
      obtain ⟨hb3, hr3, hl3, -⟩ := copied (s := w2) (cs := PL) hn9.out #[.int .i64 0, .int .i64 0, .int .i64 0, .int .i64 0, .int .i64 0, .bool false, .bool false, .int .i64 0, .int .i64 0] rfl 23
      generalize World.setCells _ w2.heap.size 0 PL = w3 at hb3 hr3 hl3 ⊢
      have hb4 : Below wr.heap.size wr w3 := hb2.trans (hb3.mono hb2.size)
      replace hown := ownsRow_keep hown hb4
      replace hb := hb.trans (hb4.mono hb.size)
      clear hb2 hb3 hb4 ck
      go_upto_region 7 with (first | (refine wpList_load_mid rfl 23 _ rfl w2.heap.size 0 rfl PL _ hr3 hu rfl hsP.out ?_) | (go_at_call 29; (with_reducible refine (hTk.out _ hb).mono ?_); rintro e w4 ⟨rfl, hb5⟩))
      replace hown := ownsRow_keep hown hb5
      replace hb := hb.trans (hb5.mono hb.size)
      clear hb5 hr3 hl3
      go_upto_if 29 with fail
      go_cut [8] (fun s wx => s = .string ⟨dt.toArray⟩ ∧ Below w4.heap.size w4 wx)
      case first =>
        cases hE : (E != 0)
        · obtain rfl : dt = tt := by rw [hdt.out, if_pos (by simpa using hE)]
          go_wp2_with fail
          go_meet
          exact ⟨rfl, Below.refl _ _⟩
        · obtain rfl : dt = 46 :: hexL x 8 := by rw [hdt.out, if_neg (by simpa using hE)]
          clear hown hb hdt hq hIk hTk hIn hTx
          obtain ⟨hW0, hbn⟩ := builder_new w4
          go_upto_region 9 with fail
          have hsz : w4.heap.size ≤ w4.heap.size := Nat.le_refl _
          generalize w4.alloc (.cells #[.pointer none, .slice none 0 0] 77) = w5 at hW0 hbn ⊢
          generalize hB : w4.heap.size = B at hW0 hbn ⊢
          clear hsz
          have hl0 := SbWAt_lt hW0
          go_upto_region 10 with (go_at_call 50; (with_reducible refine (SbWByte_any B B _ 46 w5 hW0 (by simp [Lib.byteCells]) (Nat.le_of_lt hl0)).mono ?_); rintro e w6 ⟨rfl, hW1, hb6, -⟩)
          replace hbn := hbn.trans hb6
          rw [show Lib.byteCells [] ++ [Value.int .u8 46] = Lib.byteCells (46 :: hexL x 0) from rfl] at hW1
          clear hW0 hb6 hl0
          go_wp2_with fail
          go_loopw [11] (fun s wr2 => ∃ j : Nat, j ≤ 8 ∧ s = .int .i64 (28 - 4 * (j : Int)) ∧ SbIsW B B (Lib.byteCells (46 :: hexL x j)) wr2 ∧ Below B w4 wr2) (fun s _ => (intOf s + 4).toNat)
          case atStart => exact ⟨0, Nat.zero_le _, rfl, hW1, hbn⟩
          case round =>
            clear hW1
            clear hbn
            obtain ⟨j, hj, rfl, hW, hbn⟩ := hrel
            have hl0 := SbWAt_lt hW
            by_cases hj8 : j < 8
            · obtain ⟨a, ha⟩ : ∃ a : Int, 28 - 4 * (j : Int) = a := ⟨_, rfl⟩
              rw [ha]
              rcases (show j = 0 ∨ j = 1 ∨ j = 2 ∨ j = 3 ∨ j = 4 ∨ j = 5 ∨ j = 6 ∨ j = 7 by omega) with rfl | rfl | rfl | rfl | rfl | rfl | rfl | rfl
              · obtain rfl : a = 28 := by omega
                have hbit := hex_bits x 28 268435456 rfl
                have hq1 : hexL x 1 = hexL x 0 ++ [hexD (x.toNat / 2 ^ 28 % 16)] := rfl
                obtain ⟨m, hm⟩ : ∃ m, x.toNat / 2 ^ 28 % 16 = m := ⟨_, rfl⟩
                have hm16 : m < 16 := by omega
                have hmi : (m : Int) < 16 := by omega
                rw [hm] at hbit hq1
                clear hm
                go_wp2_with (go_at_call 50; (with_reducible refine (SbWByte_any B B _ _ wr hW (by simp [Lib.byteCells, hexL_len]) (Nat.le_of_lt hl0)).mono ?_); rintro e w8 ⟨rfl, hW2, hb8, -⟩)
                rw [hex_get m hm16, bytes_snoc, List.cons_append, ← hq1] at hW2
                go_roundw
                case rel => exact ⟨1, by omega, by go_num, hW2, hbn.trans hb8⟩
                case measure => first | (simp [intOf]; done) | (simp [intOf]; omega)
              · obtain rfl : a = 24 := by omega
                have hbit := hex_bits x 24 16777216 rfl
                have hq1 : hexL x 2 = hexL x 1 ++ [hexD (x.toNat / 2 ^ 24 % 16)] := rfl
                obtain ⟨m, hm⟩ : ∃ m, x.toNat / 2 ^ 24 % 16 = m := ⟨_, rfl⟩
                have hm16 : m < 16 := by omega
                have hmi : (m : Int) < 16 := by omega
                rw [hm] at hbit hq1
                clear hm
                go_wp2_with (go_at_call 50; (with_reducible refine (SbWByte_any B B _ _ wr hW (by simp [Lib.byteCells, hexL_len]) (Nat.le_of_lt hl0)).mono ?_); rintro e w8 ⟨rfl, hW2, hb8, -⟩)
                rw [hex_get m hm16, bytes_snoc, List.cons_append, ← hq1] at hW2
                go_roundw
                case rel => exact ⟨2, by omega, by go_num, hW2, hbn.trans hb8⟩
                case measure => first | (simp [intOf]; done) | (simp [intOf]; omega)
              · obtain rfl : a = 20 := by omega
                have hbit := hex_bits x 20 1048576 rfl
                have hq1 : hexL x 3 = hexL x 2 ++ [hexD (x.toNat / 2 ^ 20 % 16)] := rfl
                obtain ⟨m, hm⟩ : ∃ m, x.toNat / 2 ^ 20 % 16 = m := ⟨_, rfl⟩
                have hm16 : m < 16 := by omega
                have hmi : (m : Int) < 16 := by omega
                rw [hm] at hbit hq1
                clear hm
                go_wp2_with (go_at_call 50; (with_reducible refine (SbWByte_any B B _ _ wr hW (by simp [Lib.byteCells, hexL_len]) (Nat.le_of_lt hl0)).mono ?_); rintro e w8 ⟨rfl, hW2, hb8, -⟩)
                rw [hex_get m hm16, bytes_snoc, List.cons_append, ← hq1] at hW2
                go_roundw
                case rel => exact ⟨3, by omega, by go_num, hW2, hbn.trans hb8⟩
                case measure => first | (simp [intOf]; done) | (simp [intOf]; omega)
              · obtain rfl : a = 16 := by omega
                have hbit := hex_bits x 16 65536 rfl
                have hq1 : hexL x 4 = hexL x 3 ++ [hexD (x.toNat / 2 ^ 16 % 16)] := rfl
                obtain ⟨m, hm⟩ : ∃ m, x.toNat / 2 ^ 16 % 16 = m := ⟨_, rfl⟩
                have hm16 : m < 16 := by omega
                have hmi : (m : Int) < 16 := by omega
                rw [hm] at hbit hq1
                clear hm
                go_wp2_with (go_at_call 50; (with_reducible refine (SbWByte_any B B _ _ wr hW (by simp [Lib.byteCells, hexL_len]) (Nat.le_of_lt hl0)).mono ?_); rintro e w8 ⟨rfl, hW2, hb8, -⟩)
                rw [hex_get m hm16, bytes_snoc, List.cons_append, ← hq1] at hW2
                go_roundw
                case rel => exact ⟨4, by omega, by go_num, hW2, hbn.trans hb8⟩
                case measure => first | (simp [intOf]; done) | (simp [intOf]; omega)
              · obtain rfl : a = 12 := by omega
                have hbit := hex_bits x 12 4096 rfl
                have hq1 : hexL x 5 = hexL x 4 ++ [hexD (x.toNat / 2 ^ 12 % 16)] := rfl
                obtain ⟨m, hm⟩ : ∃ m, x.toNat / 2 ^ 12 % 16 = m := ⟨_, rfl⟩
                have hm16 : m < 16 := by omega
                have hmi : (m : Int) < 16 := by omega
                rw [hm] at hbit hq1
                clear hm
                go_wp2_with (go_at_call 50; (with_reducible refine (SbWByte_any B B _ _ wr hW (by simp [Lib.byteCells, hexL_len]) (Nat.le_of_lt hl0)).mono ?_); rintro e w8 ⟨rfl, hW2, hb8, -⟩)
                rw [hex_get m hm16, bytes_snoc, List.cons_append, ← hq1] at hW2
                go_roundw
                case rel => exact ⟨5, by omega, by go_num, hW2, hbn.trans hb8⟩
                case measure => first | (simp [intOf]; done) | (simp [intOf]; omega)
              · obtain rfl : a = 8 := by omega
                have hbit := hex_bits x 8 256 rfl
                have hq1 : hexL x 6 = hexL x 5 ++ [hexD (x.toNat / 2 ^ 8 % 16)] := rfl
                obtain ⟨m, hm⟩ : ∃ m, x.toNat / 2 ^ 8 % 16 = m := ⟨_, rfl⟩
                have hm16 : m < 16 := by omega
                have hmi : (m : Int) < 16 := by omega
                rw [hm] at hbit hq1
                clear hm
                go_wp2_with (go_at_call 50; (with_reducible refine (SbWByte_any B B _ _ wr hW (by simp [Lib.byteCells, hexL_len]) (Nat.le_of_lt hl0)).mono ?_); rintro e w8 ⟨rfl, hW2, hb8, -⟩)
                rw [hex_get m hm16, bytes_snoc, List.cons_append, ← hq1] at hW2
                go_roundw
                case rel => exact ⟨6, by omega, by go_num, hW2, hbn.trans hb8⟩
                case measure => first | (simp [intOf]; done) | (simp [intOf]; omega)
              · obtain rfl : a = 4 := by omega
                have hbit := hex_bits x 4 16 rfl
                have hq1 : hexL x 7 = hexL x 6 ++ [hexD (x.toNat / 2 ^ 4 % 16)] := rfl
                obtain ⟨m, hm⟩ : ∃ m, x.toNat / 2 ^ 4 % 16 = m := ⟨_, rfl⟩
                have hm16 : m < 16 := by omega
                have hmi : (m : Int) < 16 := by omega
                rw [hm] at hbit hq1
                clear hm
                go_wp2_with (go_at_call 50; (with_reducible refine (SbWByte_any B B _ _ wr hW (by simp [Lib.byteCells, hexL_len]) (Nat.le_of_lt hl0)).mono ?_); rintro e w8 ⟨rfl, hW2, hb8, -⟩)
                rw [hex_get m hm16, bytes_snoc, List.cons_append, ← hq1] at hW2
                go_roundw
                case rel => exact ⟨7, by omega, by go_num, hW2, hbn.trans hb8⟩
                case measure => first | (simp [intOf]; done) | (simp [intOf]; omega)
              · obtain rfl : a = 0 := by omega
                have hbit := hex_bits0 x
                have hq1 : hexL x 8 = hexL x 7 ++ [hexD (x.toNat / 2 ^ 0 % 16)] := rfl
                obtain ⟨m, hm⟩ : ∃ m, x.toNat / 2 ^ 0 % 16 = m := ⟨_, rfl⟩
                have hm16 : m < 16 := by omega
                have hmi : (m : Int) < 16 := by omega
                rw [hm] at hbit hq1
                clear hm
                go_wp2_with (go_at_call 50; (with_reducible refine (SbWByte_any B B _ _ wr hW (by simp [Lib.byteCells, hexL_len]) (Nat.le_of_lt hl0)).mono ?_); rintro e w8 ⟨rfl, hW2, hb8, -⟩)
                rw [hex_get m hm16, bytes_snoc, List.cons_append, ← hq1] at hW2
                go_roundw
                case rel => exact ⟨8, by omega, by go_num, hW2, hbn.trans hb8⟩
                case measure => first | (simp [intOf]; done) | (simp [intOf]; omega)
            · obtain rfl : j = 8 := by omega
              rw [show (28 - 4 * ((8 : Nat) : Int)) = -4 by decide]
              go_wp2_with (go_at_call 51; (with_reducible refine (SbWString_any B B (46 :: hexL x 8) wr hW (by simp)).mono ?_); rintro e w7 ⟨rfl, hb7⟩)
              go_meet
              exact ⟨rfl, by rw [hB]; exact hbn.trans hb7⟩
      case rest =>
      obtain ⟨rfl, hb6⟩ := hcut
      replace hown := ownsRow_keep hown hb6
      replace hb := hb.trans (hb6.mono hb.size)
      clear hb6 hIk hTk
      go_wp2_with (at_builtin; refine wpList_append_own _ rfl _ _ 32 rfl w.heap.size 9 i0 (.string ⟨#[]⟩) 1 16 Tryz.underlying32 hi'.out hz0'.out hz1'.out hz2'.out rfl (by decide) _ k _ rfl (hown.alloc _) ⟨wc.heap.size, 0, none⟩ 1 1 [.string ⟨dt.toArray⟩] rfl rfl ?c1 ?c2 ?c3 ?c4 ?c5 ?_)
      case c1 => exact cell_new1 _ _ _
      case c2 => simp [Value.oneCell']
      case c3 => unfold maxLen; omega
      case c4 => omega
      case c5 => have := hb.size; simp; omega
      intro v' w1' hown' hgrow _
      rw [hq.out] at hown'
      have hb8 : Below w.heap.size w w1' := (hb.alloc hb.size _).grown hgrow (by have := hb.size; simp; omega) (fun j hj => (World.ownsRow.lt hown j hj).1)
      clear hown hb hgrow
      go_wp2
      go_roundw
      case rel => exact ⟨k + 1, by omega, by go_num, hown', hb8⟩
      case measure => simp [intOf]; omega
    · obtain rfl : k = n := by omega
      go_wp2_with fail
      go_ret
      exact ⟨⟨_, rfl, by rw [dumpsV_len]; exact hown⟩, hb⟩
end Go.Proofs.YtdbpnbmaineniaaGreatDoor
