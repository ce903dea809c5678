/- The law CodeLists: words have their bytes, each line of a dump is the text of its word, or the word. Conditions: the library's tables and the fields' places lie as their initialisers lay them. -/
import Derived.Test.YtdbpnbmaineniaaGreatDoorCodeRD
import Derived.Test.YtdbpnbmaineniaaGreatDoorCodeWO
import Derived.Test.YtdbpnbmaineniaaGreatDoorCodeHD
import Derived.Test.YtdbpnbmaineniaaGreatDoorCodeLI
import Derived.Test.YtdbpnbmaineniaaGreatDoorInsnTB
import Derived.Deep.QuietTactic
import Derived.BigQuiet
import Derived.Deep.LoopGhost
set_option linter.unusedSimpArgs false
set_option linter.unusedVariables false
namespace Go.Proofs.YtdbpnbmaineniaaGreatDoor
open Go.RowKit
/-- A slice of the call's own, read. -/
theorem own_sliceL {w : World} {base : Nat} {t : TypeId} {v : Value} {n m : Nat} {l : List Value} (h : w.ownsRow base t 1 v n l) (e : n = m) : ∃ A c, v = .slice A m c ∧ m ≤ c ∧ c ≤ maxLen ∧ (0 < m → ∃ g, A = some ⟨g, 0, none⟩ ∧ g < w.heap.size ∧ ∀ k u, l[k]? = some u → w.cell? ⟨g, k, none⟩ = some u) := by
  subst e
  rcases h.2 with ⟨rfl, rfl⟩ | ⟨g, cap, cur, rfl, _, hg, hnc, hcm, -⟩
  · exact ⟨none, 0, rfl, Nat.le_refl _, Nat.zero_le _, fun h => absurd h (Nat.lt_irrefl 0)⟩
  · refine ⟨_, cap, rfl, hnc, hcm, fun _ => ⟨g, rfl, (Array.getElem?_eq_some_iff.1 hg).1, fun k u hk => ?_⟩⟩
    have := h.cells rfl k u hk
    rwa [show (⟨g, 0, none⟩ : Addr).add k = ⟨g, k, none⟩ by rw [Addr.add_mid, Nat.zero_add]] at this
theorem read_zero (s : ByteArray) (h : (readB s).2 ≠ 0) : readB s = (zeroI, 4) := by
  unfold readB at h ⊢
  simp only at h ⊢
  split
  · rfl
  · rename_i hn; rw [if_neg hn] at h; exact absurd rfl h
theorem wbL_all (F : Nat → BitVec 32) (k : Nat) (n : Nat) : 0 ≤ (wbL F n).getD k 0 ∧ (wbL F n).getD k 0 < 256 := by
  by_cases h : k < 4 * n
  · have := wbL_byte F n (k / 4) (k % 4) (by omega) (by omega)
    rw [Nat.div_add_mod] at this
    rw [this]; exact byteAt_bd _ _
  · rw [List.getD, List.getElem?_eq_none (by rw [wbL_len]; omega)]; decide
theorem byte_last (x : BitVec 32) : byteAt (x.setWidth 64) 3 = un32 x / 16777216 % 256 := by
  unfold byteAt un un32
  have := x.isLt
  simp [Nat.shiftRight_eq_div_pow]
  omega
theorem un32_bd (x : BitVec 32) : 0 ≤ un32 x ∧ un32 x < 4294967296 := by
  unfold un32; have := x.isLt; omega
theorem dump_at (F : Nat → BitVec 32) (n k : Nat) (h : k < n) : (dumpsV F n)[k]? = some (.string (bs (dumpT (F k)))) := dumpsV_at F n k h
section
attribute [local irreducible] un32 wordV checkE byteAt dumpT insnW
set_option maxRecDepth 100000 in
set_option maxHeartbeats 16000000 in
theorem CodeLists_any (ao : Option Addr) (n cap : Nat) (F : Nat → BitVec 32) (w : World) (h : WordsAt w ao n F) (hnc : n ≤ cap) (hcm : cap ≤ maxLen) (ht : Tabs w) (hp : P10 w) (hfl : Flds w) :
    Calls Tryz.prog 5 #[.slice ao n cap] w fun e w' => e = .returned (.bool true) ∧ Below w.heap.size w w' := by
  have hu := Tryz.underlying23
  have hT : Hid (∀ W, Below w.heap.size w W → Tabs W ∧ P10 W ∧ Flds W) := Lib.hid fun W hW => ⟨ht.later hW (Nat.le_refl _), hp.later hW (Nat.le_refl _), hfl.later hW⟩
  have hLv : Hid (∀ W, Below w.heap.size w W → Calls Tryz.prog 12 #[] W fun e w' => e = .returned (.bool true) ∧ Below W.heap.size W w') := Lib.hid fun W hW => Lives3_any W (hT.out W hW).1 (hT.out W hW).2.2
  have hb0 := Lib.hid (Below.refl w.heap.size w)
  clear ht hp hfl
  by_cases h60 : n ≤ 60
  · have t60 : decide (60 < (n : Int)) = false := decide_eq_false (by omega)
    have t61 : decide (60 < n) = false := decide_eq_false (by omega)
    have n0 : (0 : Int) ≤ n ∧ (n : Int) ≤ 60 := by omega
    have hW := Lib.hid h
    clear h
    have hOw : Hid (∀ W, Below w.heap.size w W → Calls Tryz.prog 20 #[.slice ao n cap] W fun e w' => (∃ v, e = .returned v ∧ w'.ownsRow W.heap.size 27 1 v n ((wiL F n).map (Value.int .u32))) ∧ Below W.heap.size W w') := Lib.hid fun W hb => KOwnW_any ao n cap F W (hW.out.keep hb) (by omega)
    have hBy : Hid (∀ W A c, WordsAt W A n F → Calls Tryz.prog 13 #[.slice A n c] W fun e w' => (∃ v, e = .returned v ∧ w'.ownsRow W.heap.size 5 1 v (4 * n) ((wbL F n).map (Value.int .u8))) ∧ Below W.heap.size W w') := Lib.hid fun W A c hA => (CBytes_any A n c F W hA (by omega)).mono fun e w' hh => by
      obtain ⟨⟨v, e1, e2⟩, e3⟩ := hh
      rw [List.length_map, wbL_len] at e2
      exact ⟨⟨v, e1, e2⟩, e3⟩
    have hWd : Hid (∀ W A c, BytesAt W A (4 * n) (fun i => (wbL F n).getD i 0) → 4 * n ≤ c → Calls Tryz.prog 10 #[.slice A (4 * n) c] W fun e w' => (∃ v, e = .returned (.tuple #[v, .int .i64 0]) ∧ w'.ownsRow W.heap.size 27 1 v n ((wiL F n).map (Value.int .u32))) ∧ Below W.heap.size W w') := Lib.hid fun W A c hA hc => by
      have := CWords_ok A n c (fun i => (wbL F n).getD i 0) W hA hc (by omega)
      rw [wordsV_wbL F n n (Nat.le_refl _)] at this
      exact this
    have hDm : Hid (∀ W, Below w.heap.size w W → Calls Tryz.prog 11 #[.slice ao n cap] W fun e w' => (∃ v, e = .returned v ∧ w'.ownsRow W.heap.size 9 1 v n (dumpsV F n)) ∧ Below W.heap.size W w') := Lib.hid fun W hb => (CDump_by ao n cap F W (hW.out.keep hb) (by omega) (hT.out W hb).1 (hT.out W hb).2.2 (Lib.hid fun k W2 hk hb2 => IText_any _ (insnW_bd (F k)).1 (insnW_bd (F k)).2 W2 ((hT.out W hb).1.later hb2 (Nat.le_refl _)) ((hT.out W hb).2.1.later hb2 (Nat.le_refl _)))).mono fun e w' hh => by
      obtain ⟨⟨v, e1, e2⟩, e3⟩ := hh
      rw [dumpsV_len] at e2
      exact ⟨⟨v, e1, e2⟩, e3⟩
    have hSm : Hid (∀ W A c, RLW W W.heap.size (.slice A n c) (wiL F n) → Below w.heap.size w W → Calls Tryz.prog 19 #[.slice A n c, .slice ao n cap] W (QuietW W (.bool true))) := Lib.hid fun W A c hA hb => by
      have hl : RLW W W.heap.size (.slice ao n cap) (wiL F n) := ⟨⟨ao, cap, by rw [wiL_len], by rw [wiL_len]; exact hnc, hcm, by
        by_cases h0 : 0 < n
        · obtain ⟨b, o, e, hlt, hc⟩ := (hW.out.keep hb) h0
          refine .inr ⟨b, o, e, hlt, fun j x hx => ?_⟩
          have hj : j < n := by have := (List.getElem?_eq_some_iff.1 hx).1; rwa [wiL_len] at this
          rw [wiL_at F n j hj] at hx
          obtain rfl := Option.some.inj hx
          exact hc j hj
        · exact .inl (List.length_eq_zero_iff.1 (by rw [wiL_len]; omega))⟩⟩
      have := SameW_any _ _ _ _ _ _ W hA hl
      rwa [beq_self_eq_true] at this
    go_enter Tryz.func5, Tryz.ntmps5
    go_upto_region 5 with (go_at_call 12; (with_reducible refine (hLv.out _ hb0.out).mono ?_); rintro e w0 ⟨rfl, hb⟩; replace hb0 := Lib.hid (hb0.out.trans (hb.mono hb0.out.size)); clear hb)
    clear hLv
    go_upto_region 6 with (first | (go_at_call 20; (with_reducible refine (hOw.out _ hb0.out).mono ?_); rintro e w1 ⟨⟨v1, rfl, ho⟩, hb⟩; obtain ⟨A1, c1, rfl, -, -, hc1⟩ := own_sliceL ho rfl; replace hb0 := Lib.hid (hb0.out.trans (hb.mono hb0.out.size)); have hw1 : WordsAt w1 A1 n F := (fun h0 => (by obtain ⟨g, e, hg, hc⟩ := hc1 h0; exact ⟨g, 0, e, hg, fun k hk => by rw [Nat.zero_add]; exact hc k _ (by rw [List.getElem?_map, wiL_at F n k hk]; rfl)⟩)); replace hw1 := Lib.hid hw1; clear ho hb hc1) | (go_at_call 13; (with_reducible refine (hBy.out _ _ _ hw1.out).mono ?_); rintro e w2 ⟨⟨v2, rfl, ho⟩, hb⟩; obtain ⟨A2, c2, rfl, hn2, hm2, hc2⟩ := own_sliceL ho rfl; replace hb0 := Lib.hid (hb0.out.trans (hb.mono hb0.out.size)); replace hc2 := Lib.hid hc2; clear ho hb hw1))
    clear hOw hBy
    have hw2 : Hid (BytesAt w2 A2 (4 * n) (fun i => (wbL F n).getD i 0)) := Lib.hid ⟨fun k => wbL_all F k n, fun h0 => by
      obtain ⟨g, e, hg, hc⟩ := hc2.out h0
      exact ⟨g, 0, e, hg, fun k hk => by rw [Nat.zero_add]; exact hc k _ (by rw [List.getElem?_map, List.getElem?_eq_getElem (by rw [wbL_len]; exact hk)]; simp [List.getD, List.getElem?_eq_getElem (show k < (wbL F n).length by rw [wbL_len]; exact hk)])⟩⟩
    replace hn2 := Lib.hid hn2
    go_upto_region 7 with (go_at_call 10; (with_reducible refine (hWd.out _ _ _ hw2.out hn2.out).mono ?_); rintro e w3 ⟨⟨v3, rfl, ho⟩, hb⟩; obtain ⟨A3, c3, rfl, hn3, hm3, hc3⟩ := own_sliceL ho rfl; have hk3 := Lib.hid hb; replace hb0 := Lib.hid (hb0.out.trans (hb.mono hb0.out.size)); replace hc3 := Lib.hid hc3; clear ho hb)
    clear hWd hw2
    go_upto_region 8 with (go_at_call 11; (with_reducible refine (hDm.out _ hb0.out).mono ?_); rintro e w4 ⟨⟨v4, rfl, ho⟩, hb⟩; obtain ⟨A4, c4, rfl, hn4, hm4, hc4⟩ := own_sliceL ho rfl; have hk4 := Lib.hid hb; replace hb0 := Lib.hid (hb0.out.trans (hb.mono hb0.out.size)); replace hc4 := Lib.hid hc4; clear ho hb)
    clear hDm
    have hl3 : Hid (RLW w4 w4.heap.size (.slice A3 n c3) (wiL F n)) := Lib.hid ⟨⟨A3, c3, by rw [wiL_len], by rw [wiL_len]; exact hn3, hm3, by
      by_cases h0 : 0 < n
      · obtain ⟨g, e, hg, hc⟩ := hc3.out h0
        refine .inr ⟨g, 0, e, Nat.lt_of_lt_of_le hg hk4.out.size, fun j x hx => ?_⟩
        rw [Nat.zero_add, hk4.out.cell (p := ⟨g, j, none⟩) hg]
        exact hc j _ (by rw [List.getElem?_map, hx]; rfl)
      · exact .inl (List.length_eq_zero_iff.1 (by rw [wiL_len]; omega))⟩⟩
    have t8 : ((((4 * n : Nat) : Int)) != 4 * (n : Int)) = false := by rw [bne_eq_false_iff_eq]; omega
    have hq4 : ((4 * n : Nat) : Int) = 4 * (n : Int) := by omega
    have hc2b : Hid (0 < n → ∃ g, A2 = some ⟨g, 0, none⟩ ∧ g < w4.heap.size ∧ ∀ k, k < n → w4.cell? ⟨g, 4 * k, none⟩ = some (.int .u8 (byteAt ((F k).setWidth 64) 0)) ∧ w4.cell? ⟨g, 4 * k + 3, none⟩ = some (.int .u8 (byteAt ((F k).setWidth 64) 3))) := Lib.hid fun h0 => by
      obtain ⟨g, e, hg, hc⟩ := hc2.out (by omega)
      have hb24 := hk3.out.trans (hk4.out.mono hk3.out.size)
      have key : ∀ k i, k < n → i < 4 → w4.cell? ⟨g, 4 * k + i, none⟩ = some (.int .u8 (byteAt ((F k).setWidth 64) i)) := fun k i hk hi => by
        rw [hb24.cell (p := ⟨g, 4 * k + i, none⟩) hg]
        refine hc _ _ ?_
        rw [List.getElem?_map, List.getElem?_eq_getElem (by rw [wbL_len]; omega)]
        have := wbL_byte F n k i hk hi
        rw [List.getD, List.getElem?_eq_getElem (by rw [wbL_len]; omega)] at this
        exact congrArg (fun x => some (Value.int .u8 x)) this
      exact ⟨g, e, Nat.lt_of_lt_of_le hg hb24.size, fun k hk => ⟨key k 0 hk (by decide), key k 3 hk (by decide)⟩⟩
    have hc4b : Hid (0 < n → ∃ g, A4 = some ⟨g, 0, none⟩ ∧ g < w4.heap.size ∧ ∀ k, k < n → w4.cell? ⟨g, k, none⟩ = some (.string (bs (dumpT (F k))))) := Lib.hid fun h0 => by
      obtain ⟨g, e, hg, hc⟩ := hc4.out h0
      exact ⟨g, e, hg, fun k hk => hc k _ (dump_at F n k hk)⟩
    have hWb : Hid (WordsAt w4 ao n F) := Lib.hid (hW.out.keep hb0.out)
    clear hc2 hc3 hc4 hk3 hk4 hW
    go_upto_region 10 with (go_at_call 19; (with_reducible refine (hSm.out _ _ _ hl3.out hb0.out).mono ?_); rintro e w5 ⟨rfl, q, rfl⟩)
    clear hSm hl3
    have hbq : Below w4.heap.size w4 (w4.drewN q) := ⟨rfl, rfl, rfl, Nat.le_refl _, fun _ _ => rfl⟩
    generalize w4.drewN q = w5 at hbq ⊢
    go_wp2_with fail
    go_loopg [7] n (fun g i wx => ∃ k : Nat, k ≤ n ∧ g = n - k ∧ i = .int .i64 k ∧ Hid (Below w4.heap.size w4 wx))
    case atStart => exact ⟨0, Nat.zero_le _, rfl, rfl, Lib.hid hbq⟩
    case round =>
      clear hbq
      obtain ⟨k, hk, rfl, rfl, hbr⟩ := hrel
      by_cases hlt : k < n
      · obtain ⟨b, off, rfl, hbl, hcl⟩ := hWb.out (by omega)
        obtain ⟨g2, rfl, hg2, hcb⟩ := hc2b.out (by omega)
        obtain ⟨g4, rfl, hg4, hcd⟩ := hc4b.out (by omega)
        have hF : Hid (un32 (F k) % 256 = byteAt ((F k).setWidth 64) 0 ∧ un32 (F k) / 16777216 % 256 = byteAt ((F k).setWidth 64) 3) := Lib.hid ⟨(byte_first _).symm, (byte_last _).symm⟩
        have hxb := un32_bd (F k)
        have ck : w4.cell? ⟨b, off + k, none⟩ = some (.int .u32 (un32 (F k))) := hcl k hlt
        have cb0 : w4.cell? ⟨g2, 4 * k, none⟩ = some (.int .u8 (byteAt ((F k).setWidth 64) 0)) := (hcb k hlt).1
        have cb3 : w4.cell? ⟨g2, 4 * k + 3, none⟩ = some (.int .u8 (byteAt ((F k).setWidth 64) 3)) := (hcb k hlt).2
        have cd : w4.cell? ⟨g4, k, none⟩ = some (.string (bs (dumpT (F k)))) := hcd k hlt
        have hRd : Hid (∀ W, Calls Tryz.prog 24 #[.string (bs (dumpT (F k)))] W fun e w' => e = .returned (.tuple #[.agg (readB (bs (dumpT (F k)))).1.cells, .int .i64 (readB (bs (dumpT (F k)))).2]) ∧ Below W.heap.size W w') := Lib.hid fun W => R2Read_any _ (by have := dumpT_len (F k); rw [bs_size]; omega) W
        have hWx : Hid (∀ (i : InsnV) W, 0 ≤ i.op → i.op ≤ 88 → Below w.heap.size w W → Calls Tryz.prog 14 #[.agg i.cells.toList.toArray] W fun e w' => e = .returned (.tuple #[.int .u32 (un32 (wordV i)), .int .i64 (checkE i)]) ∧ Below W.heap.size W w') := Lib.hid fun i W h0 h1 hb => word_list i (by omega) (by omega) W (hT.out W hb).1 (hT.out W hb).2.2
        have hok := Lib.hid (dumpT_ok (F k))
        have hno := Lib.hid (dumpT_no (F k))
        have hbad := Lib.hid (dumpT_bad (F k))
        have hio := Lib.hid (insnW_ok (F k))
        obtain ⟨m, hm⟩ : ∃ m, 4 * k = m := ⟨_, rfl⟩
        obtain ⟨m3, hm3⟩ : ∃ m3, m + 3 = m3 := ⟨_, rfl⟩
        have i1 : 4 * (k : Int) = (m : Int) := by omega
        have i2 : (m : Int) + 3 = (m3 : Int) := by omega
        have i3 : (0 : Int) ≤ (m : Int) ∧ (m : Int) < 240 := by omega
        have i4 : (0 : Int) ≤ (m3 : Int) ∧ (m3 : Int) < 240 := by omega
        have i5 : m < 4 * n := by omega
        have i6 : m3 < 4 * n := by omega
        have i7 : (0 : Int) ≤ (k : Int) ∧ (k : Int) < 60 := by omega
        rw [hm] at cb0 cb3
        rw [hm3] at cb3
        replace hm := Lib.hid hm
        replace hm3 := Lib.hid hm3
        have hlk : decide ((k : Int) < (n : Int)) = true := decide_eq_true (by omega)
        have hlk2 : decide (k < n) = true := decide_eq_true hlt
        clear hcl hcb hcd
        generalize byteAt ((F k).setWidth 64) 0 = y0 at hF cb0
        generalize byteAt ((F k).setWidth 64) 3 = y3 at hF cb3
        obtain ⟨hF1, hF2⟩ := hF.out
        have u0 : IntKind.u8.wrap (un32 (F k)) = y0 := by rw [← hF1]; simp [IntKind.wrap, IntKind.bits, IntKind.signed]
        have u3 : IntKind.u8.wrap (un32 (F k) / 16777216) = y3 := by rw [← hF2]; simp [IntKind.wrap, IntKind.bits, IntKind.signed]
        have e0 : (y0 != y0) = false := by simp
        have e3 : (y3 != y3) = false := by simp
        clear hF
        by_cases hk0 : (insnW (F k)).2 = 0
        · obtain ⟨q1, q2⟩ := hio.out hk0
          obtain ⟨o1, o2⟩ := ok_op _ q1
          have hRk := hRd
          rw [hok.out hk0] at hRk
          have hWk : Hid (∀ W, Below w.heap.size w W → Calls Tryz.prog 14 #[.agg (insnW (F k)).1.cells.toList.toArray] W fun e w' => e = .returned (.tuple #[.int .u32 (un32 (F k)), .int .i64 0]) ∧ Below W.heap.size W w') := Lib.hid fun W hb => by
            have := hWx.out (insnW (F k)).1 W (by omega) (by omega) hb
            rw [q1, q2] at this; exact this
          have hn9 := Lib.hid (insnW (F k)).1.list_len
          have h1c := Lib.hid (insnW (F k)).1.list_one
          have hRk2 : Hid (∀ W, Calls Tryz.prog 24 #[.string (bs (dumpT (F k)))] W fun e w' => e = .returned (.tuple #[.agg (insnW (F k)).1.cells.toList.toArray, .int .i64 0]) ∧ Below W.heap.size W w') := Lib.hid fun W => by rw [Array.toArray_toList]; exact hRk.out W
          clear hRd hWx hok hno hbad hio hRk q1 q2 o1 o2 hk0
          generalize (insnW (F k)).1.cells.toList = PL at hn9 h1c hWk hRk2
          generalize un32 (F k) = x at *
          generalize bs (dumpT (F k)) = Ds at *
          have hs : Hid ((Tryz.prog.info? 23).map (·.size) = some PL.length) := Lib.hid (by rw [hn9.out]; kernel_rfl)
          have ex : (x != x) = false := by simp
          have cd1 := (hbr.out.cell (p := ⟨g4, k, none⟩) hg4).trans cd
          go_upto_region 14 with (first | (go_at_call 24; (with_reducible refine (hRk2.out _).mono ?_); rintro e w6 ⟨rfl, hb6⟩) | (refine wpList_store_mid rfl 23 _ _ rfl w6.heap.size 0 PL.toArray rfl rfl (fun j hj => cells_fresh w6 #[.int .i64 0, .int .i64 0, .int .i64 0, .int .i64 0, .int .i64 0, .bool false, .bool false, .int .i64 0, .int .i64 0] 23 9 (by decide) j (by rw [List.size_toArray, hn9.out] at hj; exact hj)) (by rw [List.size_toArray]; exact hs.out) h1c.out ?_))
          obtain ⟨hc7, hr7, hl7, -⟩ := copied (s := w6) (cs := PL) hn9.out #[.int .i64 0, .int .i64 0, .int .i64 0, .int .i64 0, .int .i64 0, .bool false, .bool false, .int .i64 0, .int .i64 0] rfl 23
          generalize World.setCells _ w6.heap.size 0 PL = w7 at hc7 hr7 hl7 ⊢
          generalize hg6 : w6.heap.size = b6 at hc7 hr7 hl7 ⊢
          have hb7 : Below w4.heap.size w4 w7 := (hbr.out.trans (hb6.mono hbr.out.size)).trans (hc7.mono (by rw [← hg6]; exact Nat.le_trans hbr.out.size hb6.size))
          have hb07 := Lib.hid (hb0.out.trans (hb7.mono hb0.out.size))
          replace hb7 := Lib.hid hb7
          clear hb6 hc7 hg6 hRk2 cd1 hbr
          go_upto_region 15 with (first | (refine wpList_load_mid rfl 23 _ rfl b6 0 rfl PL _ hr7 hu rfl hs.out ?_) | (go_at_call 14; (with_reducible refine (hWk.out _ hb07.out).mono ?_); rintro e w8 ⟨rfl, hb8⟩))
          have hb9 : Below w4.heap.size w4 w8 := hb7.out.trans (hb8.mono hb7.out.size)
          have k0 := (hb9.cell (p := ⟨b, off + k, none⟩) hbl).trans ck
          have k1 := (hb9.cell (p := ⟨g2, m, none⟩) hg2).trans cb0
          have k2 := (hb9.cell (p := ⟨g2, m3, none⟩) hg2).trans cb3
          replace hb9 := Lib.hid hb9
          clear hb8 hb7 hb07 hr7 hl7 hWk ck cb0 cb3 cd
          go_upto_region 17 with fail
          go_quiet (fail)
          go_wp2_with fail
          go_roundg (n - (k + 1))
          case measure => omega
          case rel => exact ⟨k + 1, by omega, rfl, by go_num, Lib.hid (below_drewN' hb9.out _)⟩
        · have hz := read_zero _ (hno.out hk0)
          have hRk := hRd
          rw [hz] at hRk
          obtain ⟨y, c, hWk⟩ : ∃ y c, Hid (∀ W, Below w.heap.size w W → Calls Tryz.prog 14 #[.agg zeroI.cells.toList.toArray] W fun e w' => e = .returned (.tuple #[.int .u32 y, .int .i64 c]) ∧ Below W.heap.size W w') := ⟨_, _, Lib.hid fun W hb => hWx.out zeroI W (by decide) (by decide) hb⟩
          have hn9 := Lib.hid zeroI.list_len
          have h1c := Lib.hid zeroI.list_one
          have hRk2 : Hid (∀ W, Calls Tryz.prog 24 #[.string (bs (dumpT (F k)))] W fun e w' => e = .returned (.tuple #[.agg zeroI.cells.toList.toArray, .int .i64 4]) ∧ Below W.heap.size W w') := Lib.hid fun W => by rw [Array.toArray_toList]; exact hRk.out W
          obtain ⟨d1, d2⟩ := hbad.out hk0
          have s1 : (bs (dumpT (F k))).size = 9 := by rw [bs_size]; exact d1
          have s2 : ∀ h : 0 < (bs (dumpT (F k))).size, ((bs (dumpT (F k)))[0]'h).toNat = 46 := fun h => by
            have e : (bs (dumpT (F k)))[0]'h = (dumpT (F k))[0]'(by rw [bs_size] at h; exact h) := by simp [bs, ByteArray.getElem_eq_getElem_data]
            rw [e]
            have key : ∀ (l : List UInt8) (hl : 0 < l.length), l.headD 0 = l[0]'hl := fun l hl => by
              cases l with
              | nil => cases hl
              | cons a l => rfl
            rw [← key _ (by rw [bs_size] at h; exact h), d2]; rfl
          clear hRd hWx hok hno hbad hio hRk hk0 d1 d2 hz
          generalize zeroI.cells.toList = PL at hn9 h1c hWk hRk2
          generalize un32 (F k) = x at *
          generalize bs (dumpT (F k)) = Ds at *
          have s3 : 0 < Ds.size := by omega
          have s4 : (((Ds[0]'s3).toNat : Int) != 46) = false := by rw [s2 s3]; rfl
          have s5 : ((Ds.size : Int) != 9) = false := by rw [s1]; rfl
          have s6 : (Ds.size != 9) = false := by rw [s1]; rfl
          have s7 : (0 : Int) < (Ds.size : Int) := by omega
          have s8 : (Ds[0]'s3).toNat = 46 := s2 s3
          clear s2
          have hs : Hid ((Tryz.prog.info? 23).map (·.size) = some PL.length) := Lib.hid (by rw [hn9.out]; kernel_rfl)
          have cd1 := (hbr.out.cell (p := ⟨g4, k, none⟩) hg4).trans cd
          go_upto_region 14 with (first | (go_at_call 24; (with_reducible refine (hRk2.out _).mono ?_); rintro e w6 ⟨rfl, hb6⟩) | (refine wpList_store_mid rfl 23 _ _ rfl w6.heap.size 0 PL.toArray rfl rfl (fun j hj => cells_fresh w6 #[.int .i64 0, .int .i64 0, .int .i64 0, .int .i64 0, .int .i64 0, .bool false, .bool false, .int .i64 0, .int .i64 0] 23 9 (by decide) j (by rw [List.size_toArray, hn9.out] at hj; exact hj)) (by rw [List.size_toArray]; exact hs.out) h1c.out ?_))
          obtain ⟨hc7, hr7, hl7, -⟩ := copied (s := w6) (cs := PL) hn9.out #[.int .i64 0, .int .i64 0, .int .i64 0, .int .i64 0, .int .i64 0, .bool false, .bool false, .int .i64 0, .int .i64 0] rfl 23
          generalize World.setCells _ w6.heap.size 0 PL = w7 at hc7 hr7 hl7 ⊢
          generalize hg6 : w6.heap.size = b6 at hc7 hr7 hl7 ⊢
          have hb7 : Below w4.heap.size w4 w7 := (hbr.out.trans (hb6.mono hbr.out.size)).trans (hc7.mono (by rw [← hg6]; exact Nat.le_trans hbr.out.size hb6.size))
          have hb07 := Lib.hid (hb0.out.trans (hb7.mono hb0.out.size))
          replace hb7 := Lib.hid hb7
          clear hb6 hc7 hg6 hRk2 cd1 hbr
          go_upto_region 15 with (first | (refine wpList_load_mid rfl 23 _ rfl b6 0 rfl PL _ hr7 hu rfl hs.out ?_) | (go_at_call 14; (with_reducible refine (hWk.out _ hb07.out).mono ?_); rintro e w8 ⟨rfl, hb8⟩))
          have hb9 : Below w4.heap.size w4 w8 := hb7.out.trans (hb8.mono hb7.out.size)
          have k0 := (hb9.cell (p := ⟨b, off + k, none⟩) hbl).trans ck
          have k1 := (hb9.cell (p := ⟨g2, m, none⟩) hg2).trans cb0
          have k2 := (hb9.cell (p := ⟨g2, m3, none⟩) hg2).trans cb3
          have k3 := (hb9.cell (p := ⟨g4, k, none⟩) hg4).trans cd
          replace hb9 := Lib.hid hb9
          clear hb8 hb7 hb07 hr7 hl7 hWk ck cb0 cb3 cd
          go_upto_region 17 with fail
          go_quiet (fail)
          go_wp2_with fail
          go_roundg (n - (k + 1))
          case measure => omega
          case rel => exact ⟨k + 1, by omega, rfl, by go_num, Lib.hid (below_drewN' hb9.out _)⟩
      · obtain rfl : k = n := by omega
        go_wp2_with fail
        go_ret
        exact ⟨rfl, hb0.out.trans (hbr.out.mono hb0.out.size)⟩
  · have t60 : decide (60 < (n : Int)) = true := decide_eq_true (by omega)
    have t61 : decide (60 < n) = true := decide_eq_true (by omega)
    clear h
    go_enter Tryz.func5, Tryz.ntmps5
    go_wp2_with (go_at_call 12; (with_reducible refine (hLv.out _ hb0.out).mono ?_); rintro e w0 ⟨rfl, hb⟩)
    go_ret
    exact ⟨rfl, hb⟩
end
end Go.Proofs.YtdbpnbmaineniaaGreatDoor
