/- The walk of the document's Dump. Conditions: none. -/
import Derived.Test.YtcgflnkgekkidaaGreatDoorR3C
import Derived.Test.YtcgflnkgekkidaaGreatDoorTextCG
import Derived.Test.YtcgflnkgekkidaaGreatDoorCodeHX
import Derived.Test.YtcgflnkgekkidaaGreatDoorWordAt
set_option linter.unusedSimpArgs false
set_option linter.unusedVariables false
namespace Go.Proofs.YtcgflnkgekkidaaGreatDoor
open Go.RowKit
theorem part_hex (x : BitVec 32) (j : Nat) (hj : j < 8) : sn (Part (x.setWidth 64) (4 * (7 - (j : Int))) 4) = ((x.toNat / 2 ^ (28 - 4 * j) % 16 : Nat) : Int) := by
  have e : Part (x.setWidth 64) (4 * (7 - (j : Int))) 4 = ((x.setWidth 64) >>> (28 - 4 * j)) &&& 15#64 := by
    unfold Part Low
    rw [show (4 * (7 - (j : Int))).toNat = 28 - 4 * j by omega]
    rfl
  rw [e]
  have h2 : ((x.setWidth 64) >>> (28 - 4 * j) &&& 15#64).toNat = x.toNat / 2 ^ (28 - 4 * j) % 16 := by
    rw [BitVec.toNat_and, BitVec.toNat_ushiftRight, Nat.shiftRight_eq_div_pow]
    have : (x.setWidth 64).toNat = x.toNat := by simp; have := x.isLt; omega
    rw [this]
    exact Nat.and_two_pow_sub_one_eq_mod (x.toNat / 2 ^ (28 - 4 * j)) 4
  unfold sn
  rw [BitVec.toInt_eq_toNat_of_lt (by rw [h2]; omega), h2]
theorem hex_cut : ∀ m : Nat, m < 16 → (({ data := #[48, 49, 50, 51, 52, 53, 54, 55, 56, 57, 97, 98, 99, 100, 101, 102] } : ByteArray).extract m (m + 1)) = ⟨[hexD m].toArray⟩ := by
  intro m hm
  have : ∀ d : Fin 16, (({ data := #[48, 49, 50, 51, 52, 53, 54, 55, 56, 57, 97, 98, 99, 100, 101, 102] } : ByteArray).extract d.1 (d.1 + 1)).data.toList = [hexD d.1] := by decide +kernel
  have h := this ⟨m, hm⟩
  apply ByteArray.ext
  apply Array.toList_inj.1
  rw [h]
section
attribute [local irreducible] un32 insnW textT checkE dumpT
set_option maxRecDepth 100000 in
set_option maxHeartbeats 16000000 in
theorem R3Dump_any (ao : Option Addr) (n cap : Nat) (F : Nat → BitVec 32) (w : World) (h : WordsAt w ao n F) (hn : n ≤ 100000) :
    Calls Tryz.prog 53 #[.slice ao n cap] w (NewRow 9 w (dumpsV F n)) := by
  have hu := Tryz.underlying26
  obtain ⟨i0, hi, hz0, hz1, hz2⟩ := info_parts Tryz.info_strD
  have hi' := Lib.hid hi; have hz0' := Lib.hid hz0; have hz1' := Lib.hid hz1; have hz2' := Lib.hid hz2; clear hi hz0 hz1 hz2
  have hF : Hid (∀ k, k < n → ∃ b off, ao = some ⟨b, off, none⟩ ∧ b < w.heap.size ∧ w.cell? ⟨b, off + k, none⟩ = some (.int .u32 (un32 (F k)))) := Lib.hid fun k hk => by
    obtain ⟨b, off, e, hlt, hc⟩ := h (by omega)
    exact ⟨b, off, e, hlt, hc k hk⟩
  clear h
  go_enter Tryz.func53, Tryz.ntmps53
  go_wp2_with fail
  go_loopw [3, 4] (fun v i wr => ∃ k : Nat, k ≤ n ∧ i = .int .i64 k ∧ wr.ownsRow w.heap.size 9 1 v k (dumpsV F k) ∧ Below w.heap.size w wr) (fun _ i _ => n - (intOf i).toNat)
  case atStart => exact ⟨0, Nat.zero_le _, rfl, World.ownsRow_nil _ _ _ _, Below.refl _ _⟩
  case round =>
    obtain ⟨k, hk, rfl, hown, hb⟩ := hrel
    by_cases hlt : k < n
    · obtain ⟨b, off, rfl, hbl, hc⟩ := hF.out k hlt
      have ck : wr.cell? ⟨b, off + k, none⟩ = some (.int .u32 (un32 (F k))) := by rw [hb.cell (p := ⟨b, off + k, none⟩) hbl]; exact hc
      have hq : Hid (dumpsV F k ++ [.string ⟨(dumpT (F k)).toArray⟩] = dumpsV F (k + 1)) := Lib.hid rfl
      have hdt : Hid (dumpT (F k) = if (insnW (F k)).2 = 0 then textT (insnW (F k)).1 else 46 :: hexL (F k) 8) := Lib.hid (by unfold dumpT; rfl)
      have hIk := Lib.hid (fun W => R3Insn_any (F k) W)
      have hTk := Lib.hid (fun W => R2Text_any (insnW (F k)).1 (insnW_bd (F k)).2 W)
      obtain ⟨x, hx⟩ : ∃ x, F k = x := ⟨_, rfl⟩
      rw [hx] at ck hq hdt hIk hTk
      have hPa : Hid (∀ (j : Nat) W, j < 8 → Calls Tryz.prog 88 #[.int .u32 (un32 x), .int .i64 (4 * (7 - (j : Int))), .int .i64 4] W fun e w' => e = .returned (.int .i64 ((x.toNat / 2 ^ (28 - 4 * j) % 16 : Nat) : Int)) ∧ W = w') := Lib.hid fun j W hj => by
        have := R3part_any x (4 * (7 - (j : Int))) 4 W
        rw [part_hex x j hj] at this
        exact this
      have hn9 : Hid ((insnW x).1.cells.toList.length = 9) := Lib.hid rfl
      have h1c : Hid ((insnW x).1.cells.toList.toArray.all (·.oneCell') = true) := Lib.hid (insnW x).1.list_one
      rw [show (insnW x).1.cells = (insnW x).1.cells.toList.toArray by rw [Array.toArray_toList]] at hIk hTk
      generalize (insnW x).1.cells.toList = PL at *
      generalize dumpT x = dt at *
      generalize textT (insnW x).1 = tt at *
      generalize checkE (insnW x).1 = ce at *
      generalize (insnW x).2 = E at *
      have hsP : Hid ((Tryz.prog.info? 26).map (·.size) = some PL.length) := Lib.hid (by rw [hn9.out]; kernel_rfl)
      clear hx
      go_upto_region 6 with (first | (go_at_call 52; (with_reducible refine (hIk.out _).mono ?_); rintro e w2 ⟨rfl, hb2⟩) | (refine wpList_store_mid rfl 26 _ _ rfl w2.heap.size 0 PL.toArray rfl rfl (fun j hj => cells_fresh w2 #[.int .i64 0, .int .i64 0, .int .i64 0, .int .i64 0, .int .i64 0, .bool false, .bool false, .int .i64 0, .int .i64 0] 26 9 (by decide) j (by rw [List.size_toArray, hn9.out] at hj; exact hj)) (by rw [List.size_toArray]; exact hsP.out) h1c.out ?_))
      obtain ⟨hb3, hr3, hl3, -⟩ := copied (s := w2) (cs := PL) hn9.out #[.int .i64 0, .int .i64 0, .int .i64 0, .int .i64 0, .int .i64 0, .bool false, .bool false, .int .i64 0, .int .i64 0] rfl 26
      generalize World.setCells _ w2.heap.size 0 PL = w3 at hb3 hr3 hl3 ⊢
      have hb4 : Below wr.heap.size wr w3 := hb2.trans (hb3.mono hb2.size)
      replace hown := ownsRow_keep hown hb4
      have ck3 := (hb4.cell (p := ⟨b, off + k, none⟩) (Nat.lt_of_lt_of_le hbl hb.size)).trans ck
      have hl4 := Nat.lt_of_lt_of_le hbl (Nat.le_trans hb.size hb4.size)
      replace hb := hb.trans (hb4.mono hb.size)
      clear hb2 hb3 hb4 ck
      go_upto_region 7 with (first | (refine wpList_load_mid rfl 26 _ rfl w2.heap.size 0 rfl PL _ hr3 hu rfl hsP.out ?_) | (go_at_call 87; (with_reducible refine (hTk.out _).mono ?_); rintro e w4 ⟨rfl, hb5⟩))
      replace hown := ownsRow_keep hown hb5
      have ck4 := (hb5.cell (p := ⟨b, off + k, none⟩) hl4).trans ck3
      replace hb := hb.trans (hb5.mono hb.size)
      clear hb5 hr3 hl3 ck3 hl4
      go_upto_if 31 with fail
      go_cut [7] (fun s wx => s = .string ⟨dt.toArray⟩ ∧ w4 = wx)
      case first =>
        cases hE : (E != 0)
        · obtain rfl : dt = tt := by rw [hdt.out, if_pos (by simpa using hE)]
          go_wp2_with fail
          go_meet
          exact ⟨rfl, rfl⟩
        · obtain rfl : dt = 46 :: hexL x 8 := by rw [hdt.out, if_neg (by simpa using hE)]
          have hx1 : Hid (∀ j, hexL x (j + 1) = hexL x j ++ [hexD (x.toNat / 2 ^ (28 - 4 * j) % 16)]) := Lib.hid fun j => rfl
          have hxl := Lib.hid (hexL_len x)
          have h0 : Hid (([46] : List UInt8) = 46 :: hexL x 0) := Lib.hid rfl
          have i7 : (0 : Int) ≤ (k : Int) ∧ (k : Int) < (n : Int) ∧ (n : Int) ≤ 100000 := by omega
          clear hown hb hdt hq hIk hTk hc
          go_upto_region 9 with fail
          go_wp2_with fail
          go_loopg [7, 9] 8 (fun g s i wx => ∃ j : Nat, j ≤ 8 ∧ g = 8 - j ∧ s = .string ⟨(46 :: hexL x j).toArray⟩ ∧ i = .int .i64 (7 - (j : Int)) ∧ w4 = wx)
          case atStart => exact ⟨0, Nat.zero_le _, rfl, by rw [← h0.out], rfl, rfl⟩
          case round =>
            obtain ⟨j, hj, rfl, rfl, rfl, rfl⟩ := hrel
            by_cases hj8 : j < 8
            · obtain ⟨m, hm⟩ : ∃ m, x.toNat / 2 ^ (28 - 4 * j) % 16 = m := ⟨_, rfl⟩
              have hm16 : m < 16 := by omega
              have hPj := Lib.hid fun W => hPa.out j W hj8
              have hxj := hx1.out j
              rw [hm] at hPj hxj
              have hlen := hxl.out j
              obtain ⟨a, ha⟩ : ∃ a : Int, 7 - (j : Int) = a := ⟨_, rfl⟩
              rw [ha] at hPj ⊢
              have a1 : 0 ≤ a ∧ a ≤ 7 := by omega
              have a2 : decide ((0 : Int) ≤ a) = true := decide_eq_true a1.1
              have a3 : Hid (a - 1 = 7 - ((j + 1 : Nat) : Int)) := Lib.hid (by omega)
              obtain ⟨q, hq4⟩ : ∃ q, 4 * a = q := ⟨_, rfl⟩
              rw [hq4] at hPj
              have a4 : 0 ≤ q ∧ q ≤ 28 := by omega
              obtain ⟨m1, hm1⟩ : ∃ m1, m + 1 = m1 := ⟨_, rfl⟩
              have a5 : (m : Int) + 1 = (m1 : Int) := by omega
              have a6 : (0 : Int) ≤ (m : Int) ∧ (m : Int) ≤ (m1 : Int) ∧ (m1 : Int) ≤ 16 := by omega
              have a7 : m ≤ m1 := by omega
              have a8 : m1 ≤ 16 := by omega
              have hcut := hex_cut m hm16
              rw [hm1] at hcut
              have hxj2 : Hid (⟨((46 :: hexL x j) ++ [hexD m]).toArray⟩ = (⟨(46 :: hexL x (j + 1)).toArray⟩ : ByteArray)) := Lib.hid (by rw [hxj]; rfl)
              have hlen2 : (46 :: hexL x j).length ≤ 9 := by rw [List.length_cons, hlen]; omega
              clear hm ha hxj hlen hm1
              generalize 46 :: hexL x j = L at hlen2 hxj2 ⊢
              generalize hexD m = D at hcut hxj2
              go_wp2_with (first | (go_at_call 88; (with_reducible refine (hPj.out _).mono ?_); rintro e w5 ⟨rfl, rfl⟩) | (refine wpList_cat (by rfl) _ _ _ _ rfl _ _ rfl rfl (by simp only [List.length_cons, List.length_nil]; omega) ?_))
              go_roundg (8 - (j + 1))
              case measure => omega
              case rel => exact ⟨j + 1, by omega, rfl, by rw [← hxj2.out], by rw [← a3.out], rfl⟩
            · obtain rfl : j = 8 := by omega
              rw [show (7 - ((8 : Nat) : Int)) = -1 by decide]
              go_wp2_with fail
              go_meet
              exact ⟨rfl, rfl⟩
      case rest =>
        obtain ⟨rfl, rfl⟩ := hcut
        clear ck4 hPa hdt hIk hTk hc
        go_wp2_with (at_builtin; refine wpList_append_own _ rfl _ _ 60 rfl w.heap.size 9 i0 (.string { data := #[] }) 1 16 Tryz.underlying60 hi'.out hz0'.out hz1'.out hz2'.out rfl (by decide) _ k _ rfl (hown.alloc _) ⟨w4.heap.size, 0, none⟩ 1 1 [.string ⟨dt.toArray⟩] rfl rfl ?c1 ?c2 ?c3 ?c4 ?c5 ?_)
        case c1 => exact cell_new1 _ _ _
        case c2 => simp [Value.oneCell']
        case c3 => unfold maxLen; omega
        case c4 => omega
        case c5 => have := hb.size; simp; omega
        intro v' w1' hown' hgrow _
        rw [hq.out] at hown'
        have hb8 : Below w.heap.size w w1' := (hb.alloc hb.size _).grown hgrow (by have := hb.size; simp; omega) (fun j hj => (World.ownsRow.lt hown j hj).1)
        clear hown hb hgrow
        go_wp2
        go_roundw
        case rel => exact ⟨k + 1, by omega, by go_num, hown', hb8⟩
        case measure => simp [intOf]; omega
    · obtain rfl : k = n := by omega
      go_wp2_with fail
      go_ret
      exact ⟨⟨_, rfl, by rw [dumpsV_len]; exact hown⟩, hb⟩
end
end Go.Proofs.YtcgflnkgekkidaaGreatDoor
