/- AsmLabels, whatever comes. Conditions: the variables lie as their initialisers lay them. -/
import Derived.Test.YtcgflnkgekkidaaGreatDoorAsmLw
import Derived.Test.YtcgflnkgekkidaaGreatDoorPick
import Derived.Deep.DeepCutAuto
set_option linter.unusedSimpArgs false
set_option linter.unusedVariables false
namespace Go.Proofs.YtcgflnkgekkidaaGreatDoor
open Go.RowKit Go.Maps
theorem mv_fit {kb : Int} (h0 : 0 ≤ kb) (h1 : kb ≤ 1000) {x : ItemV} (hx : x.insn.op ≤ 9223372036854775807 ∧ (Lit.int .i64 x.label).wf = true) (hl : x.label < 1073741824) : (mvI kb x).insn.op ≤ 9223372036854775807 ∧ (Lit.int .i64 (mvI kb x).label).wf = true := by
  rw [mv_insn]
  refine ⟨hx.1, ?_⟩
  unfold mvI
  by_cases h : 0 ≤ x.label ∧ (x.kind = 2 ∨ x.kind = 3 ∨ x.kind = 4)
  · rw [if_pos h]; exact WalkArith.wf_i64 (by simp only; omega)
  · rw [if_neg h]; exact hx.2
theorem more_fit {kb : Int} (h0 : 0 ≤ kb) (h1 : kb ≤ 1000) {ka n : Nat} (ha : ka ≤ n) {F : Nat → ItemV} (hF : FitF F n) (hl : ∀ k, k < n → (F k).label < 1073741824) : FitF (moreI kb ka F) (n + 1) := fun k hk => by
  unfold moreI
  by_cases h2 : k < ka
  · rw [if_pos h2]; exact mv_fit h0 h1 (hF k (by omega)) (hl k (by omega))
  · rw [if_neg h2]
    by_cases h3 : k = ka
    · rw [if_pos h3]; decide +kernel
    · rw [if_neg h3]; exact mv_fit h0 h1 (hF (k - 1) (by omega)) (hl (k - 1) (by omega))
theorem more_lo {kb : Int} {ka n : Nat} (ha : ka ≤ n) {F : Nat → ItemV} (hlo : ∀ k, k < n → -9223372036854775808 ≤ (F k).insn.op) : ∀ k, k < n + 1 → -9223372036854775808 ≤ (moreI kb ka F k).insn.op := fun k hk => by
  unfold moreI
  by_cases h2 : k < ka
  · rw [if_pos h2, mv_insn]; exact hlo k (by omega)
  · rw [if_neg h2]
    by_cases h3 : k = ka
    · rw [if_pos h3]; decide
    · rw [if_neg h3, mv_insn]; exact hlo (k - 1) (by omega)
theorem put_thaw (w : World) (Z : Array Value) (vs : List Value) (t : TypeId) (j : Nat) : (World.setCells (w.alloc (.cells Z t)) w.heap.size 0 vs).frozen? ⟨w.heap.size, j, none⟩ = false := by
  rw [World.frozen?_setCells]; exact fresh_thawR w Z t _
theorem ItB.setLabel {b : Nat} {i : ItemV} {W : World} (h : ItB b i W) (n : Int) : ItB b { i with label := n } (W.setCell ⟨b, 10, none⟩ (.int .i64 n)) :=
  ⟨fun j v hv => by
    have hj : j < 12 := (Array.getElem?_eq_some_iff.1 hv).1
    by_cases e : j = 10
    · subst e
      obtain rfl : Value.int .i64 n = v := Option.some.inj hv
      exact World.cell?_setCell_same W ⟨b, 10, none⟩ _ (h.c 10 _ rfl)
    · rw [World.cell?_setCell_other W ⟨b, 10, none⟩ ⟨b, j, none⟩ _ (by intro e2; injection e2 with _ e3 _; exact e e3.symm)]
      refine h.c j v ?_
      rcases (show j = 0 ∨ j = 1 ∨ j = 2 ∨ j = 3 ∨ j = 4 ∨ j = 5 ∨ j = 6 ∨ j = 7 ∨ j = 8 ∨ j = 9 ∨ j = 11 by omega) with rfl | rfl | rfl | rfl | rfl | rfl | rfl | rfl | rfl | rfl | rfl <;> exact hv, by rw [World.size_setCell]; exact h.lt⟩
set_option maxRecDepth 100000 in
set_option maxHeartbeats 16000000 in
theorem AsmLabels_far (ao : Option Addr) (n cap : Nat) (at1 by1 : Int) (w : World) (ht : Tabs w) (hfl : Flds w) (hn : 60 < n) :
    Calls Tryz.prog 3 #[.slice ao n cap, .int .i64 at1, .int .i64 by1] w fun e w' => e = .returned (.bool true) ∧ Below w.heap.size w w' := by
  have d1 : decide ((n : Int) > 60) = true := decide_eq_true (by omega)
  have hn2 : (60 : Int) < (n : Int) := by omega
  have hLv := Lib.hid (Lives15_any w ht hfl)
  go_enter Tryz.func3, Tryz.ntmps3
  go_wp2_with (go_at_call 9; (with_reducible refine hLv.out.mono ?_); rintro e w1 ⟨rfl, hb1⟩; clear hLv)
  go_ret
  exact ⟨rfl, hb1⟩
set_option maxRecDepth 100000 in
set_option maxHeartbeats 16000000 in
theorem AsmLabels_go (ao : Option Addr) (n cap : Nat) (F : Nat → ItemV) (at1 by1 : Int) (w : World) (hI : ItemsAt w ao n F) (hF : FitF F n) (hlo : ∀ k, k < n → -9223372036854775808 ≤ (F k).insn.op) (hd : ∀ k, n ≤ k → F k = ⟨0, ⟨0, 0, 0, 0, 0, false, false, 0, 0⟩, 0, 0#64⟩) (ht : Tabs w) (hfl : Flds w) (hn : n ≤ 60) :
    Calls Tryz.prog 3 #[.slice ao n cap, .int .i64 at1, .int .i64 by1] w fun e w' => e = .returned (.bool true) ∧ Below w.heap.size w w' := by
  have hmk : Tryz.prog.follows .mixedOrders = true := by kernel_rfl
  have d1 : decide ((n : Int) > 60) = false := decide_eq_false (by omega)
  have hn2 : ¬ (60 : Int) < (n : Int) := by omega
  obtain ⟨kb, hkb, hPb⟩ := Pick_nat_any by1 1000 (by decide) (by decide)
  obtain ⟨ka, hka, hPa⟩ := Pick_nat_any at1 ((n : Int) + 1) (by omega) (by omega)
  have hka2 : ka ≤ n := by omega
  have hLv := Lib.hid (Lives15_any w ht hfl)
  have hOw := Lib.hid (fun (W : World) (hW : Below w.heap.size w W) => KOwnI_any ao n cap F W (hI.keep hW) (by omega))
  have hBd := Lib.hid (fun (W : World) (A : Option Addr) (c : Nat) (hW : Below w.heap.size w W) (hA : ItemsAt W A n F) => Build_any A n c F W hA hF hlo (ht.later hW (Nat.le_refl _)) (hfl.later hW))
  have hBe : Hid ((∀ k, k < n → (F k).label < 1073741824) → ∀ (W : World) (A : Option Addr) (c : Nat), Below w.heap.size w W → ItemsAt W A (n + 1) (moreI kb ka F) → Calls Tryz.prog 12 #[.slice A (n + 1) c] W fun e w' => (∃ v u, e = .returned (.tuple #[v, u, .int .i64 (checkV F n)]) ∧ SlAt W.heap.size v (outW F n).length (fun j => .int .u32 (un32 ((outW F n).getD j 0#32))) w' ∧ (checkV F n = 0 → SlAt W.heap.size u (n + 1) (fun k => .int .i64 (placeF (moreI kb ka F) (longV (moreI kb ka F) (n + 1)) k)) w') ∧ ∃ A2 m2 c2, u = .slice A2 m2 c2) ∧ Below W.heap.size W w') := Lib.hid fun hl W A c hW hA => by
    obtain ⟨l1, l2, l3⟩ := labels_law kb ka F n hn hka2 (fun k => (Nat.lt_or_ge k n).elim (fun h => hl k h) (fun h => by rw [hd k h]; decide)) (fun k h => by rw [hd k h]) (by omega) (by omega)
    refine (Build_any A (n + 1) c (moreI kb ka F) W hA (more_fit (by omega) (by omega) hka2 hF hl) (more_lo hka2 hlo) (ht.later hW (Nat.le_refl _)) (hfl.later hW)).mono ?_
    rintro e w' ⟨⟨v, u, rfl, h1, h2⟩, hb⟩
    rw [l1]
    rw [l2] at h1
    refine ⟨⟨v, u, rfl, h1, fun hz => ?_, ?_⟩, hb⟩
    · have e2 : outN (moreI kb ka F) (n + 1) = n + 1 := if_pos (l1.trans hz)
      rw [e2] at h2; exact h2
    · obtain ⟨A2, c2, rfl, -, -⟩ := h2; exact ⟨A2, _, c2, rfl⟩
  have hQ : Hid ((∀ k, k < n → (F k).label < 1073741824) → checkV F n = 0 → ∀ k, placeF (moreI kb ka F) (longV (moreI kb ka F) (n + 1)) (sig ka k) = placeF F (longV F n) k) := Lib.hid fun hl hz =>
    (labels_law kb ka F n hn hka2 (fun k => (Nat.lt_or_ge k n).elim (fun h => hl k h) (fun h => by rw [hd k h]; decide)) (fun k h => by rw [hd k h]) (by omega) (by omega)).2.2 hz
  have hE1 : Hid (checkV F n = 0 → outN F n = n) := Lib.hid fun hz => if_pos hz
  have hWl : Hid ((outW F n).length ≤ 720) := Lib.hid (by
    unfold outW
    split
    · have := wordsF_len F n (longV F n) n; omega
    · exact Nat.zero_le _)
  have hGa : Hid (moreI kb ka F ka = ⟨2, ⟨0, 0, 0, 0, 0, false, false, 0, 0⟩, 1099511627776, 0#64⟩) := Lib.hid (more_lab _ _ _)
  have hGk : Hid (∀ k, moreI kb ka F (if ka ≤ k then k + 1 else k) = mvI kb (F k)) := Lib.hid fun k => by
    have := more_sig kb ka F k
    unfold sig at this
    by_cases h : k < ka
    · rw [if_pos h] at this; rw [if_neg (by omega)]; exact this
    · rw [if_neg h] at this; rw [if_pos (by omega)]; exact this
  unfold BuildR at hBd
  replace hI := Lib.hid hI
  replace hd := Lib.hid hd
  have hwl : Hid (∀ k, k < n → (Lit.int .i64 (F k).label).wf = true) := Lib.hid fun k hk => (hF k hk).2
  clear hF hlo ht hfl
  generalize hGe : moreI kb ka F = G at hBe hQ hGa hGk
  generalize placeF G (longV G (n + 1)) = QL at hBe hQ
  generalize placeF F (longV F n) = PL at hBd hQ
  generalize outW F n = WS at hBd hBe hWl
  generalize outN F n = ON at hBd hE1
  generalize checkV F n = E at hBd hBe hQ hE1
  clear hGe hd
  obtain ⟨i0, q0, q1, q2, q3⟩ := info_parts Tryz.info_item
  replace q0 := Lib.hid q0
  replace q1 := Lib.hid q1
  replace q2 := Lib.hid q2
  replace q3 := Lib.hid q3
  have tkn : ∀ k : Nat, k = k := fun _ => rfl
  go_enter Tryz.func3, Tryz.ntmps3
  go_wp2_with (first | (go_at_call 9; (with_reducible refine hLv.out.mono ?_); rintro e w1 ⟨rfl, hb1⟩; clear hLv) | (go_at_call 10; (with_reducible refine (hPb.out _).mono ?_); rintro e w2 ⟨rfl, rfl⟩; clear hPb) | (go_at_call 10; (with_reducible refine (hPa.out _).mono ?_); rintro e w2 ⟨rfl, rfl⟩; clear hPa))
  go_loopw [7, 8] (fun s7 s8 wr => ∃ (k m : Nat) (A7 : Option Addr) (c7 : Nat), k ≤ n ∧ s8 = .int .i64 k ∧ s7 = .slice A7 m c7 ∧ Hid (m = if ka < k then k + 1 else k) ∧ Hid (∀ j, j < k → (F j).label < 1073741824) ∧ OwnI w.heap.size (.slice A7 m c7) G m wr ∧ Below w.heap.size w wr) (fun _ s8 _ => n - (intOf s8).toNat)
  case atStart => exact ⟨0, 0, none, 0, Nat.zero_le _, rfl, rfl, Lib.hid (by rw [if_neg (Nat.not_lt_zero _)]), Lib.hid fun j hj => absurd hj (Nat.not_lt_zero _), World.ownsRow_nil _ _ _ _, hb1⟩
  case round =>
    obtain ⟨k, m0, A7, c7, hk, rfl, rfl, hm0, hlk, hown, hb⟩ := hrel
    clear hb1
    have hk1 : (0 : Int) ≤ (k : Int) := Int.natCast_nonneg k
    have hk2 : (k : Int) ≤ (n : Int) := by omega
    have hk3 : decide ((k : Int) ≤ (n : Int)) = true := decide_eq_true hk2
    have hmb : m0 ≤ 62 := by
      have := hm0.out
      by_cases h : ka < k
      · rw [if_pos h] at this; omega
      · rw [if_neg h] at this; omega
    go_upto_if 36 with fail
    go_cut [7] (fun s7 wx => ∃ (m : Nat) (A9 : Option Addr) (c9 : Nat), s7 = .slice A9 m c9 ∧ Hid (m = if ka ≤ k then k + 1 else k) ∧ OwnI w.heap.size (.slice A9 m c9) G m wx ∧ Below w.heap.size w wx)
    case first =>
      by_cases hat : k = ka
      · subst hat
        have e0 : m0 = k := by have := hm0.out; rw [if_neg (Nat.lt_irrefl _)] at this; exact this
        subst e0
        have tk : ((m0 : Int) == (m0 : Int)) = true := by simp
        go_wp2_with (first | (go_at_call 11; (with_reducible refine (Lb_any _ _).mono ?_); rintro e w2 ⟨rfl, hb2⟩) | (at_builtin; refine wpList_append_own _ rfl _ _ 22 rfl w.heap.size 29 i0 (.agg #[.int .i64 0, .int .i64 0, .int .i64 0, .int .i64 0, .int .i64 0, .int .i64 0, .bool false, .bool false, .int .i64 0, .int .i64 0, .int .i64 0, .int .u64 0]) 12 88 Tryz.underlying22 q0.out q1.out q2.out q3.out rfl (by decide) _ m0 _ rfl ((hown.keep hb2).alloc _) ⟨w2.heap.size, 0, none⟩ 1 1 (ItemV.cells ⟨2, ⟨0, 0, 0, 0, 0, false, false, 0, 0⟩, 1099511627776, 0#64⟩).toList rfl rfl ?c1 ?c2 ?c3 ?c4 ?c5 ?_))
        case c1 => exact lit_cellX w2 _ _ rfl _
        case c2 => exact item_ones _
        case c3 => (first | (unfold maxLen; omega) | omega)
        case c4 => (first | (unfold maxLen; omega) | omega)
        case c5 => have := hb2.size; have := hb.size; simp; omega
        intro v3 w3 hown3 hgrow3 _
        have hb3 := ((hb.trans (hb2.mono hb.size)).alloc (by have := hb2.size; have := hb.size; omega) _).grown hgrow3 (by have := hb2.size; have := hb.size; simp; omega) (fun j hj => (World.ownsRow.lt hown j hj).1)
        have hown4 : OwnI w.heap.size v3 G (m0 + 1) w3 := OwnI.snoc hown3 (by rw [hGa.out])
        obtain ⟨A9, c9, rfl⟩ := own_sliceN hown4
        clear hown3 hgrow3 hb2 hown
        go_wp2_with fail
        go_meet
        exact ⟨m0 + 1, A9, c9, rfl, Lib.hid (if_pos (Nat.le_refl _)).symm, hown4, hb3⟩
      · have tk : ((k : Int) == (ka : Int)) = false := by simp; omega
        go_wp2_with fail
        go_meet
        exact ⟨m0, A7, c7, rfl, Lib.hid (by
          have := hm0.out
          by_cases h : ka < k
          · rw [if_pos h] at this; rw [if_pos (by omega)]; exact this
          · rw [if_neg h] at this; rw [if_neg (by omega)]; exact this), hown, hb⟩
    case rest =>
      obtain ⟨m, A9, c9, rfl, hm, hown9, hb9⟩ := hcut
      clear hown hb hm0 hmb
      have hmb : m ≤ 62 := by
        have := hm.out
        by_cases h : ka ≤ k
        · rw [if_pos h] at this; omega
        · rw [if_neg h] at this; omega
      by_cases hend : k = n
      · obtain rfl : n = k := hend.symm
        have e0 : m = n + 1 := by have := hm.out; rw [if_pos hka2] at this; exact this
        subst e0
        have hBe2 := Lib.hid (hBe.out hlk.out)
        have hQ2 := Lib.hid (hQ.out hlk.out)
        have hA7 := ItemsAt.of hown9
        clear hBe hQ hlk hm hGa hGk hown9 hI hwl
        have tk : ((n : Int) == (n : Int)) = true := by simp
        go_upto_region 21 with (first | (go_at_call 13; (with_reducible refine (hOw.out _ hb9).mono ?_); rintro e w2 ⟨⟨A, c, rfl, hA, -⟩, hb2⟩; have hbx := hb9.trans (hb2.mono hb9.size); have hA72 := hA7.keep hb2; clear hb9 hb2 hA7) | (go_at_call 12; (with_reducible refine (hBd.out _ A c hbx hA).mono ?_); rintro e w3 ⟨⟨v, u, rfl, hsv, hsu⟩, hb3⟩; have hby := hbx.trans (hb3.mono hbx.size); have hA73 := hA72.keep hb3; clear hbx hb3 hA hA72))
        clear hOw hBd
        go_upto_region 22 with (go_at_call 12; (with_reducible refine (hBe2.out _ _ _ hby hA73).mono ?_); rintro e w4 ⟨⟨v2, u2, rfl, hsv2, hsu2, hu2⟩, hb4⟩; have hbz := hby.trans (hb4.mono hby.size); have hsv1 := hsv.keep hb4; have hsu1 := hsu.keep hb4; clear hb4 hby hA73 hsv hsu)
        clear hBe2
        have tE : (E != E) = false := by simp
        have hSm := Lib.hid (SameWl_any _ _ v v2 WS.length (fun j => WS.getD j 0#32) w4 (by have := hWl.out; omega) hsv1 hsv2)
        clear hsv1 hsv2 hWl
        go_upto_region 24 with (go_at_call 14; (with_reducible refine hSm.out.mono ?_); rintro e w5 ⟨rfl, hb5⟩)
        by_cases hz : E = 0
        · subst hz
          replace hsu2 := (hsu2 rfl).keep hb5
          replace hsu1 := hsu1.keep hb5
          rw [hE1.out rfl] at hsu1
          have hb6 := hbz.trans (hb5.mono hbz.size)
          clear hb5 hbz hE1 hSm hu2 tE
          have hQ3 := hQ2.out rfl
          replace hQ3 := Lib.hid hQ3
          clear hQ2
          have hsu3 := hsu2
          obtain ⟨A8, c8, rfl, hc8, h8⟩ := hsu3
          obtain ⟨b8, rfl, -, -⟩ := h8 (Nat.succ_pos n)
          clear h8
          have tn : ((n : Int) + 1 != (n : Int) + 1) = false := by simp
          have hn0 : (0 : Int) ≤ (n : Int) := Int.natCast_nonneg n
          go_upto_region 28 with fail
          have hnum1 : Hid (∀ W, Below w5.heap.size w5 W → NumsAt W (some ⟨b8, 0, none⟩) (numsL QL ka)) := Lib.hid fun W hW => by
            have := (hsu2.keep hW).nums 0 ka (by omega) _ _ rfl (some ⟨b8, 0, none⟩) (fun b e => e)
            simpa only [Nat.zero_add] using this
          obtain ⟨P8, hP8⟩ : ∃ P8 : Option Addr, P8 = if c8 = ka + 1 then some ⟨b8, 0, none⟩ else some ⟨b8, ka + 1, none⟩ := ⟨_, rfl⟩
          have hnum2 : Hid (∀ W, Below w5.heap.size w5 W → NumsAt W P8 (numsL (fun j => QL (ka + 1 + j)) (n - ka))) := Lib.hid fun W hW => by
            by_cases hc : c8 = ka + 1
            · have h0 : n - ka = 0 := by omega
              rw [h0]; exact .inl rfl
            · rw [hP8, if_neg hc]
              exact (hsu2.keep hW).nums (ka + 1) (n - ka) (by omega) _ _ rfl _ (fun b e => by injection e with e; injection e with e _ _; rw [e])
          replace hP8 := Lib.hid hP8
          have tc1 : ¬ c8 < ka := by omega
          have tc2 : (0 : Int) ≤ (ka : Int) + 1 := by omega
          have tc3 : IntKind.i64.wrap ((ka : Int) + 1) = (ka : Int) + 1 := by
            rw [IntWalk.i64_left]; exact IntWalk.wrap64_in _ ⟨by omega, by omega⟩
          have hnl1 : (numsL QL ka).length = ka := numsL_len _ _
          have hnl2 : (numsL (fun j => QL (ka + 1 + j)) (n - ka)).length = n - ka := numsL_len _ _
          have hOn : Hid (∀ W, Below w5.heap.size w5 W → Calls Tryz.prog 15 #[.slice (some ⟨b8, 0, none⟩) ka c8] W fun e w' => (∃ v, e = .returned v ∧ w'.ownsRow W.heap.size 3 1 v (numsL QL ka).length ((numsL QL ka).map (Value.int .i64))) ∧ Below W.heap.size W w') := Lib.hid fun W hW => by
            have := KOwnN_any (some ⟨b8, 0, none⟩) c8 (numsL QL ka) W (hnum1.out W hW) (by omega)
            rwa [hnl1] at this ⊢
          have hka3 : (ka : Int) ≤ (n : Int) := by omega
          replace hsu1 := Lib.hid hsu1
          clear hsu2
          refine wp_region_held_drew (S := fun W => Below w5.heap.size w5 W) hmk (Below.refl _ _).drew (fun hHeld => ?_)
          generalize World.drew _ = w6 at hHeld ⊢
          refine wpAnyH_take (i := 0) (v := .slice (some ⟨b8, 0, none⟩) (n + 1) c8) rfl (by kernel_rfl) (by kernel_rfl) (by kernel_rfl) (fun _ _ _ h => h) (Or.inl ⟨by rfl, fun W _ => by kernel_rfl⟩) hHeld ?_
          try simp only [Act.put, List.getElem_toArray, List.getElem_cons_zero, List.setIfInBounds_toArray, List.set_cons_zero, List.set_cons_succ]
          refine wpAnyH_take (i := 1) (v := .int .i64 ka) rfl (by kernel_rfl) (by kernel_rfl) (by kernel_rfl) (fun _ _ _ h => h) (Or.inl ⟨by rfl, fun W _ => by kernel_rfl⟩) hHeld ?_
          try simp only [Act.put, List.getElem_toArray, List.getElem_cons_succ, List.getElem_cons_zero, List.setIfInBounds_toArray, List.set_cons_zero, List.set_cons_succ]
          refine wpAnyH_take (i := 2) (v := .slice (some ⟨b8, 0, none⟩) ka c8) rfl (by kernel_rfl) (by kernel_rfl) (by kernel_rfl) (fun _ _ _ h => h) (Or.inl ⟨by rfl, fun W _ => by (go_simp; try exact fun h => absurd h tc1)⟩) hHeld ?_
          try simp only [Act.put, List.getElem_toArray, List.getElem_cons_succ, List.getElem_cons_zero, List.setIfInBounds_toArray, List.set_cons_zero, List.set_cons_succ]
          refine wpAnyH_take (i := 4) (v := .slice (some ⟨b8, 0, none⟩) (n + 1) c8) rfl (by kernel_rfl) (by kernel_rfl) (by kernel_rfl) (fun _ _ _ h => h) (Or.inl ⟨by rfl, fun W _ => by kernel_rfl⟩) hHeld ?_
          try simp only [Act.put, List.getElem_toArray, List.getElem_cons_succ, List.getElem_cons_zero, List.setIfInBounds_toArray, List.set_cons_zero, List.set_cons_succ]
          refine wpAnyH_take (i := 5) (v := .int .i64 ka) rfl (by kernel_rfl) (by kernel_rfl) (by kernel_rfl) (fun _ _ _ h => h) (Or.inl ⟨by rfl, fun W _ => by kernel_rfl⟩) hHeld ?_
          try simp only [Act.put, List.getElem_toArray, List.getElem_cons_succ, List.getElem_cons_zero, List.setIfInBounds_toArray, List.set_cons_zero, List.set_cons_succ]
          refine wpAnyH_take (i := 6) (v := .int .i64 ((ka : Int) + 1)) rfl (by kernel_rfl) (by kernel_rfl) (by kernel_rfl) (fun _ _ _ h => h) (Or.inl ⟨by rfl, fun W _ => by (go_simp; try exact tc3)⟩) hHeld ?_
          try simp only [Act.put, List.getElem_toArray, List.getElem_cons_succ, List.getElem_cons_zero, List.setIfInBounds_toArray, List.set_cons_zero, List.set_cons_succ]
          refine wpAnyH_take (i := 7) (v := .slice P8 (n - ka) (c8 - (ka + 1))) rfl (by kernel_rfl) (by kernel_rfl) (by kernel_rfl) (fun _ _ _ h => h) (Or.inl ⟨by rfl, fun W _ => by (rw [hP8.out]; go_simp; try rw [if_pos tc2])⟩) hHeld ?_
          try simp only [Act.put, List.getElem_toArray, List.getElem_cons_succ, List.getElem_cons_zero, List.setIfInBounds_toArray, List.set_cons_zero, List.set_cons_succ]
          refine wpAnyH_ready (rs := [3]) (by kernel_rfl) (by simp) (AllReadyH.cons rfl (fun K hK2 => ?_) AllReadyH.nil)
          rw [if_pos (by rfl)]
          simp only [List.getElem_toArray, List.getElem_cons_succ, List.getElem_cons_zero]
          go_wp2_with (go_at_call 15; (with_reducible refine (hOn.out _ hHeld).mono ?_); rintro e w7 ⟨⟨v7, rfl, hown7⟩, hb7⟩)
          have hHn := hHeld.trans (hb7.mono hHeld.size)
          have hbs := hHeld.size
          refine hK2.out _ _ hHn (fun hHeld2 => ?_)
          clear hK2 K hHeld
          have hHeld := hHeld2
          clear hHeld2
          try simp only [Act.put, List.getElem_toArray, List.getElem_cons_succ, List.getElem_cons_zero, List.setIfInBounds_toArray, List.set_cons_zero, List.set_cons_succ]
          have hs8 := (hnum2.out _ hHeld)
          obtain ⟨v8, w8, hr8, ho8, hg8, -⟩ := run_appN 32 v7 (numsL QL ka) (numsL (fun j => QL (ka + 1 + j)) (n - ka)) P8 (c8 - (ka + 1)) hown7 hb7.size (by omega) (hs8.imp id fun ⟨b, o, e, _, hc⟩ => ⟨b, o, e, hc⟩)
          rw [hnl2] at hr8
          replace hr8 := Lib.hid hr8
          have hB8 : Below w5.heap.size w5 w8 := hHeld.grown hg8 hHeld.size (fun j hj => Nat.le_trans hbs (World.ownsRow.lt hown7 j hj).1)
          refine wpAnyH_ready (rs := [8]) (by kernel_rfl) (by simp) (AllReadyH.cons rfl (fun K hK2 => ?_) AllReadyH.nil)
          rw [if_pos (by rfl)]
          simp only [List.getElem_toArray, List.getElem_cons_succ, List.getElem_cons_zero]
          refine wp_appI (.tmp 112) (.tmp 116) 32 rfl v7 (.slice P8 (n - ka) (c8 - (ka + 1))) v8 (by kernel_rfl) (by kernel_rfl) hr8.out ?_
          refine hK2.out _ _ hB8 (fun _ => ?_)
          clear hK2 K
          try simp only [Act.put, List.getElem_toArray, List.getElem_cons_succ, List.getElem_cons_zero, List.setIfInBounds_toArray, List.set_cons_zero, List.set_cons_succ]
          refine wpAnyH_take (i := 9) (v := v8) rfl (by kernel_rfl) (by kernel_rfl) (by kernel_rfl) (fun _ _ _ h => h) (Or.inl ⟨by rfl, fun W _ => by kernel_rfl⟩) hB8 ?_
          try simp only [Act.put, List.getElem_toArray, List.getElem_cons_succ, List.getElem_cons_zero, List.setIfInBounds_toArray, List.set_cons_zero, List.set_cons_succ]
          refine wpAnyH_done (by kernel_rfl) ?_ _
          have hlenA : (numsL QL ka ++ numsL (fun j => QL (ka + 1 + j)) (n - ka)).length = n := by rw [List.length_append, hnl1, hnl2]; omega
          have hq8 := SlAt.ofNums ho8 hlenA (nums_out QL PL ka n hka2 hQ3.out)
          have hp8 := hsu1.out.keep hB8
          have hSm2 := Lib.hid (SameIl_any _ _ u v8 n PL w8 (by omega) hp8 hq8)
          go_wp2_with (go_at_call 16; (with_reducible refine hSm2.out.mono ?_); rintro e w9 ⟨rfl, hb9⟩)
          go_ret
          exact ⟨rfl, (hb6.trans (hB8.mono hb6.size)).trans (hb9.mono (by have := hb6.size; have := hB8.size; omega))⟩
        · have tE0 : (E != 0) = true := by simpa using hz
          obtain ⟨A2, m2, c2, rfl⟩ := hu2
          go_wp2_with fail
          go_ret
          exact ⟨rfl, hbz.trans (hb5.mono hbz.size)⟩
      · have hlt : k < n := by omega
        have tk : ((k : Int) == (n : Int)) = false := by simp; omega
        obtain ⟨ib, io, rfl, hib, hcc⟩ := hI.out (by omega)
        have hR0 := Lib.hid (item_range (fun j v hv => (hb9.cell (p := ⟨ib, io + k * 12 + j, none⟩) hib).trans (hcc k hlt j v hv)))
        have hwk := hwl.out k hlt
        have hGm : G m = mvI kb (F k) := by rw [hm.out]; exact hGk.out k
        replace hGm := Lib.hid hGm
        have hlk2 : Hid ((F k).label < 1073741824 → ∀ j, j < k + 1 → (F j).label < 1073741824) := Lib.hid fun h j hj => by
          rcases Nat.lt_or_ge j k with h2 | h2
          · exact hlk.out j h2
          · obtain rfl : j = k := by omega
            exact h
        have hm9 : Hid (m + 1 = if ka < k + 1 then k + 1 + 1 else k + 1) := Lib.hid (by
          have := hm.out
          by_cases h : ka ≤ k
          · rw [if_pos h] at this; rw [if_pos (by omega)]; omega
          · rw [if_neg h] at this; rw [if_neg (by omega)]; omega)
        obtain ⟨it, hit⟩ : ∃ it, F k = it := ⟨_, rfl⟩
        rw [hit] at hR0 hwk hGm hlk2
        obtain ⟨kind, insn, label, addr⟩ := it
        clear hcc hit hlk hm hBd hBe hQ hE1 hWl hGa hGk hOw hI hwl
        simp only at hwk hlk2
        have hk4 : (k : Int) < (n : Int) := by omega
        have hpt := Lib.hid (ItB.put wc ⟨kind, insn, label, addr⟩ #[.int .i64 0, .int .i64 0, .int .i64 0, .int .i64 0, .int .i64 0, .int .i64 0, .bool false, .bool false, .int .i64 0, .int .i64 0, .int .i64 0, .int .u64 0] rfl 29)
        have hth := Lib.hid (fresh12 wc #[.int .i64 0, .int .i64 0, .int .i64 0, .int .i64 0, .int .i64 0, .int .i64 0, .bool false, .bool false, .int .i64 0, .int .i64 0, .int .i64 0, .int .u64 0] rfl 29)
        have hon := Lib.hid (ItemV.one ⟨kind, insn, label, addr⟩)
        have hfz := Lib.hid (put_thaw wc #[.int .i64 0, .int .i64 0, .int .i64 0, .int .i64 0, .int .i64 0, .int .i64 0, .bool false, .bool false, .int .i64 0, .int .i64 0, .int .i64 0, .int .u64 0] (ItemV.cells ⟨kind, insn, label, addr⟩).toList 29)
        go_upto_region 15 with (first | (refine wpList_load_mid rfl 29 _ rfl ib (io + k * 12) rfl _ _ hR0.out Tryz.underlying29 rfl (by kernel_rfl) ?_) | (refine wpList_store_mid rfl 29 _ _ rfl wc.heap.size 0 (ItemV.cells ⟨kind, insn, label, addr⟩) rfl rfl (fun j hj => hth.out j hj) (by kernel_rfl) hon.out ?_))
        replace hpt := hpt.out
        replace hfz := hfz.out
        clear hth hon hR0
        generalize World.setCells _ wc.heap.size 0 _ = w1 at hpt hfz ⊢
        obtain ⟨hbx, hb1⟩ := hpt
        have hB1 := hb9.trans (hb1.mono hb9.size)
        have hO1 := hown9.keep hb1
        have hge : w.heap.size ≤ wc.heap.size := hb9.size
        have hne : (Value.slice A9 m c9).ownBlock ≠ some wc.heap.size := fun h => Nat.lt_irrefl _ (World.ownsRow.lt hown9 _ h).2
        clear hb9 hb1 hown9
        generalize wc.heap.size = bx at hbx hfz hge hne ⊢
        have k0 : w1.cell? ⟨bx, 0, none⟩ = some (.int .i64 kind) := hbx.c 0 _ rfl
        have k10 : w1.cell? ⟨bx, 10, none⟩ = some (.int .i64 label) := hbx.c 10 _ rfl
        by_cases hbig : 1073741824 ≤ label
        · have tb : decide (1073741824 ≤ label) = true := decide_eq_true hbig
          go_wp2_with fail
          go_ret
          exact ⟨rfl, hB1⟩
        · have tb : decide (1073741824 ≤ label) = false := decide_eq_false hbig
          have hbig2 : label < 1073741824 := by omega
          replace hlk2 := Lib.hid (hlk2.out hbig2)
          have hfx := Lib.hid (hfz 10)
          clear hfz
          go_upto_region 17 with fail
          go_cut [69] (fun s wx => s = .bool (decide (0 ≤ label ∧ (kind = 2 ∨ kind = 3 ∨ kind = 4))) ∧ w1 = wx)
          case first =>
            replace hbx := Lib.hid hbx
            by_cases hc0 : 0 ≤ label
            · have tl : decide (0 ≤ label) = true := decide_eq_true hc0
              by_cases h2 : kind = 2
              · subst h2
                go_wp2_with fail
                go_meet
                refine ⟨congrArg Value.bool ?_, rfl⟩
                first | (symm; simp only [decide_eq_true_eq]; omega) | (symm; simp only [decide_eq_false_iff_not]; omega) | (simp; omega) | simp
              · have t2 : (kind == 2) = false := by rw [beq_eq_false_iff_ne]; exact h2
                by_cases h3 : kind = 3
                · subst h3
                  go_wp2_with fail
                  go_meet
                  refine ⟨congrArg Value.bool ?_, rfl⟩
                  first | (symm; simp only [decide_eq_true_eq]; omega) | (symm; simp only [decide_eq_false_iff_not]; omega) | (simp; omega) | simp
                · have t3 : (kind == 3) = false := by rw [beq_eq_false_iff_ne]; exact h3
                  by_cases h4 : kind = 4
                  · subst h4
                    go_wp2_with fail
                    go_meet
                    refine ⟨congrArg Value.bool ?_, rfl⟩
                    first | (symm; simp only [decide_eq_true_eq]; omega) | (symm; simp only [decide_eq_false_iff_not]; omega) | (simp; omega) | simp
                  · have t4 : (kind == 4) = false := by rw [beq_eq_false_iff_ne]; exact h4
                    go_wp2_with fail
                    go_meet
                    refine ⟨congrArg Value.bool ?_, rfl⟩
                    first | (symm; simp only [decide_eq_true_eq]; omega) | (symm; simp only [decide_eq_false_iff_not]; omega) | (simp; omega) | simp
            · have tl : decide (0 ≤ label) = false := decide_eq_false hc0
              go_wp2_with fail
              go_meet
              refine ⟨congrArg Value.bool ?_, rfl⟩
              first | (symm; simp only [decide_eq_true_eq]; omega) | (symm; simp only [decide_eq_false_iff_not]; omega) | (simp; omega) | simp
          case rest =>
          obtain ⟨rfl, rfl⟩ := hcut
          go_upto_if 69 with fail
          go_cut [] (fun wx => ItB bx (mvI kb ⟨kind, insn, label, addr⟩) wx ∧ OwnI w.heap.size (.slice A9 m c9) G m wx ∧ Below w.heap.size w wx)
          case first =>
            by_cases hc : 0 ≤ label ∧ (kind = 2 ∨ kind = 3 ∨ kind = 4)
            · have emv : mvI kb ⟨kind, insn, label, addr⟩ = ⟨kind, insn, label + kb, addr⟩ := if_pos hc
              have td : decide (0 ≤ label ∧ (kind = 2 ∨ kind = 3 ∨ kind = 4)) = true := decide_eq_true hc
              rw [td]
              have hbx2 := hbx.setLabel (label + kb)
              have hO2 : OwnI w.heap.size (.slice A9 m c9) G m (w1.setCell ⟨bx, 10, none⟩ (.int .i64 (label + kb))) := World.ownsRow.kept hO1 (grown_setCell w1 bx 10 _) (.inr hne)
              have hB2 := hB1.setCell (p := ⟨bx, 10, none⟩) hge (.int .i64 (label + kb))
              replace hbx2 := Lib.hid hbx2
              have hc0 := hc.1
              replace emv := Lib.hid emv
              clear hbx hO1 hB1 hc td
              have hw : wrap64 (label + (kb : Int)) = label + (kb : Int) := IntWalk.wrap64_in _ ⟨by omega, by omega⟩
              have hfx2 := hfx.out
              go_wp2_with fail
              go_meet
              rw [emv.out]
              exact ⟨hbx2.out, hO2, hB2⟩
            · have emv : mvI kb ⟨kind, insn, label, addr⟩ = ⟨kind, insn, label, addr⟩ := if_neg hc
              have td : decide (0 ≤ label ∧ (kind = 2 ∨ kind = 3 ∨ kind = 4)) = false := decide_eq_false hc
              rw [td]
              replace emv := Lib.hid emv
              clear hc td
              replace hbx := Lib.hid hbx
              go_wp2_with fail
              go_meet
              rw [emv.out]
              exact ⟨hbx.out, hO1, hB1⟩
          case rest =>
            obtain ⟨hbx2, hO2, hB2⟩ := hcut
            clear hbx hO1 hB1 k0 k10 tb hbig hbig2 hfx
            obtain ⟨it2, hi2⟩ : ∃ it2, mvI kb ⟨kind, insn, label, addr⟩ = it2 := ⟨_, rfl⟩
            rw [hi2] at hbx2 hGm
            clear hi2
            obtain ⟨kind2, ⟨op2, rd2, r12, r22, imm2, aq2, rl2, pred2, succ2⟩, label2, addr2⟩ := it2
            have hR2 : Hid (wc.rangeAt bx 0 [.int .i64 kind2, .int .i64 op2, .int .i64 rd2, .int .i64 r12, .int .i64 r22, .int .i64 imm2, .bool aq2, .bool rl2, .int .i64 pred2, .int .i64 succ2, .int .i64 label2, .int .u64 (un addr2)]) := Lib.hid (item_range (i := ⟨kind2, ⟨op2, rd2, r12, r22, imm2, aq2, rl2, pred2, succ2⟩, label2, addr2⟩) (b := bx) (o := 0) (fun j v hv => by rw [Nat.zero_add]; exact hbx2.c j v hv))
            clear hbx2
            go_wp2_with (first | (refine wpList_load_mid rfl 29 _ rfl bx 0 rfl _ _ hR2.out Tryz.underlying29 rfl (by kernel_rfl) ?_) | (at_builtin; refine wpList_append_own _ rfl _ _ 22 rfl w.heap.size 29 i0 (.agg #[.int .i64 0, .int .i64 0, .int .i64 0, .int .i64 0, .int .i64 0, .int .i64 0, .bool false, .bool false, .int .i64 0, .int .i64 0, .int .i64 0, .int .u64 0]) 12 88 Tryz.underlying22 q0.out q1.out q2.out q3.out rfl (by decide) _ m _ rfl (World.ownsRow.alloc hO2 _) ⟨wc.heap.size, 0, none⟩ 1 1 (ItemV.cells ⟨kind2, ⟨op2, rd2, r12, r22, imm2, aq2, rl2, pred2, succ2⟩, label2, addr2⟩).toList rfl rfl ?c1 ?c2 ?c3 ?c4 ?c5 ?_))
            case c1 => exact lit_cellX wc _ _ rfl _
            case c2 => exact item_ones _
            case c3 => (first | (unfold maxLen; omega) | omega)
            case c4 => (first | (unfold maxLen; omega) | omega)
            case c5 => have := hB2.size; simp; omega
            intro v3 w3 hown3 hgrow3 _
            have hb3 := (hB2.alloc hB2.size _).grown hgrow3 (by have := hB2.size; simp; omega) (fun j hj => (World.ownsRow.lt hO2 j hj).1)
            have hown4 : OwnI w.heap.size v3 G (m + 1) w3 := OwnI.snoc hown3 (by rw [hGm.out])
            obtain ⟨A5, c5, rfl⟩ := own_sliceN hown4
            clear hown3 hgrow3 hO2
            go_wp2_with fail
            go_roundw
            case rel => exact ⟨k + 1, m + 1, A5, c5, by omega, by go_num, rfl, hm9, hlk2, hown4, hb3⟩
            case measure => simp [intOf]; omega
set_option maxRecDepth 100000 in
/-- AsmLabels, whatever comes. -/
theorem AsmLabels_any (ao : Option Addr) (n cap : Nat) (F : Nat → ItemV) (at1 by1 : Int) (w : World) (hI : ItemsAt w ao n F) (hF : FitF F n) (hlo : ∀ k, k < n → -9223372036854775808 ≤ (F k).insn.op) (ht : Tabs w) (hfl : Flds w) :
    Calls Tryz.prog 3 #[.slice ao n cap, .int .i64 at1, .int .i64 by1] w fun e w' => e = .returned (.bool true) ∧ Below w.heap.size w w' := by
  by_cases hn : 60 < n
  · exact AsmLabels_far ao n cap at1 by1 w ht hfl hn
  · obtain ⟨F', hF'⟩ : ∃ F' : Nat → ItemV, F' = fun k => if k < n then F k else ⟨0, ⟨0, 0, 0, 0, 0, false, false, 0, 0⟩, 0, 0#64⟩ := ⟨_, rfl⟩
    have e1 : ∀ k, k < n → F' k = F k := fun k hk => by rw [hF']; exact if_pos hk
    refine AsmLabels_go ao n cap F' at1 by1 w (fun h => ?_) (fun k hk => by rw [e1 k hk]; exact hF k hk) (fun k hk => by rw [e1 k hk]; exact hlo k hk) (fun k hk => by rw [hF']; exact if_neg (by omega)) ht hfl (by omega)
    obtain ⟨b, o, e, hb, hc⟩ := hI h
    exact ⟨b, o, e, hb, fun k hk j v hv => hc k hk j v (by rw [← e1 k hk]; exact hv)⟩
end Go.Proofs.YtcgflnkgekkidaaGreatDoor
