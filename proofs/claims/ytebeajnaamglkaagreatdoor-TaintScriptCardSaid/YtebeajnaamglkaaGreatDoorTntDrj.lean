/- The walks of the document's Rising, Check, New, Join and Copy. The walks of the document's Copy and Join. Conditions: as each theorem says. -/
import Derived.Test.YtebeajnaamglkaaGreatDoorTntSe
import Derived.Test.YtebeajnaamglkaaGreatDoorTntKt
import Derived.Deep.DeepCutAuto
import Derived.Deep.QuietTactic
import Derived.BigQuiet
set_option linter.unusedSimpArgs false
set_option linter.unusedVariables false
namespace Go.Proofs.YtebeajnaamglkaaGreatDoor
open Go.RowKit
set_option maxRecDepth 100000 in
set_option maxHeartbeats 8000000 in
theorem RRising_any (v : Value) (l : List Int) (B : Nat) (w : World) (h : RL w B v l) (hn : l.length ≤ 10000000) :
    Calls Tryz.prog 19 #[v] w (Quiet w (.bool (risingB l))) := by
  obtain ⟨A, c, rfl, h1, h2, h3⟩ := h.form
  unfold maxLen at h2
  obtain ⟨R, hR⟩ : ∃ R, risingB l = R := ⟨_, rfl⟩
  rw [hR]
  replace hR := Lib.hid hR
  replace h3 := Lib.hid h3
  clear h
  have hund : ∀ b : Bool, (some undef = some (Value.bool b)) = False := fun b => by simp [undef]
  go_enter Tryz.func19, Tryz.ntmps19
  go_wp2_with fail
  go_loopw [3] (fun i wr => ∃ (k : Nat) (a : Int), k ≤ l.length ∧ i = .int .i64 k ∧ (∃ q, wr = w.drewN q) ∧ -1 ≤ a ∧ Hid (k = 0 → a = -1) ∧ Hid (∀ j, k = j + 1 → l[j]? = some a) ∧ Hid (risingF a (l.drop k) = R)) (fun i _ => l.length - (intOf i).toNat)
  case atStart => exact ⟨0, -1, Nat.zero_le _, rfl, ⟨0, rfl⟩, Int.le_refl _, Lib.hid fun _ => rfl, Lib.hid fun j hj => absurd hj (by omega), Lib.hid (by rw [List.drop_zero]; exact hR.out)⟩
  case round =>
    obtain ⟨k, a, hk, rfl, ⟨q, rfl⟩, ha, hk0, hkp, hr⟩ := hrel
    by_cases hlt : k < l.length
    · obtain ⟨x, hx, hd⟩ := drop_at hlt
      obtain ⟨b, o, rfl, hb, hc⟩ := h3.out.resolve_left (fun e => by rw [e] at hlt; exact absurd hlt (Nat.not_lt_zero _))
      have hcx := hc k x hx
      have hk1 : (0 : Int) ≤ (k : Int) ∧ (k : Int) < (l.length : Int) := by omega
      obtain ⟨hk1, hk2⟩ := hk1
      have hkc : k < c := by omega
      replace hd := Lib.hid hd
      by_cases hxa : x ≤ a
      · have hRf : Hid (R = false) := Lib.hid (by rw [← hr.out, hd.out, risingF_no hxa])
        by_cases hx0 : x < 0
        · have d1 : decide (x < 0) = true := decide_eq_true hx0
          replace hc := Lib.hid hc
          clear hx hxa hx0 ha
          go_upto_region 4 with fail
          go_quiet (fail)
          go_wp2_with fail
          go_ret
          exact ⟨by rw [hRf.out]; rfl, (by first | exact drew_ex _ _ _ | exact ⟨_, rfl⟩)⟩
        · have d1 : decide (x < 0) = false := decide_eq_false hx0
          obtain ⟨j, rfl⟩ : ∃ j, k = j + 1 := ⟨k - 1, by
            rcases Nat.eq_zero_or_pos k with e | e
            · have := hk0.out e; omega
            · omega⟩
          have hcp := hc j a (hkp.out j rfl)
          have d2 : decide ((0 : Int) < ((j + 1 : Nat) : Int)) = true := decide_eq_true (by omega)
          have d3 : decide (x ≤ a) = true := decide_eq_true hxa
          have q1 : wrap64 (((j + 1 : Nat) : Int) - 1) = (j : Int) := by rw [IntWalk.wrap64_in _ (by omega)]; omega
          have q2 : IntKind.i64.wrap (((j + 1 : Nat) : Int) - 1) = (j : Int) := by rw [IntKind.wrap_i64]; omega
          have q3 : (0 : Int) ≤ (j : Int) ∧ (j : Int) < (l.length : Int) := by omega
          obtain ⟨q3, q4⟩ := q3
          have q5 : j < c := by omega
          have q6 : j < l.length := by omega
          replace hc := Lib.hid hc
          clear hx hxa hx0 ha
          go_upto_region 4 with fail
          go_quiet (fail)
          go_wp2_with fail
          go_ret
          exact ⟨by rw [hRf.out]; rfl, (by first | exact drew_ex _ _ _ | exact ⟨_, rfl⟩)⟩
      · have hr2 : Hid (risingF x (l.drop (k + 1)) = R) := Lib.hid (by rw [← hr.out, hd.out, risingF_yes (by omega)])
        have d1 : decide (x < 0) = false := decide_eq_false (by omega)
        have hx2 := Lib.hid hx
        have hkp2 : Hid (∀ j, k + 1 = j + 1 → l[j]? = some x) := Lib.hid fun j hj => by
          obtain rfl : k = j := by omega
          exact hx2.out
        rcases Nat.eq_zero_or_pos k with e | e
        · subst e
          have d2 : decide ((0 : Int) < ((0 : Nat) : Int)) = false := by simp
          have hk3 : (0 : Int) < (l.length : Int) := by omega
          rw [Nat.add_zero] at hcx
          replace hc := Lib.hid hc
          have hxa2 : -1 ≤ x := by omega
          clear hx hxa ha
          go_upto_region 4 with fail
          go_quiet (fail)
          go_wp2_with fail
          go_roundw
          case rel => exact ⟨0 + 1, x, by omega, by go_num, (by first | exact drew_ex _ _ _ | exact ⟨_, rfl⟩), hxa2, Lib.hid fun h => absurd h (by omega), hkp2, hr2⟩
          case measure => simp [intOf]; omega
        · obtain ⟨j, rfl⟩ : ∃ j, k = j + 1 := ⟨k - 1, by omega⟩
          have hcp := hc j a (hkp.out j rfl)
          have d2 : decide ((0 : Int) < ((j + 1 : Nat) : Int)) = true := decide_eq_true (by omega)
          have d3 : decide (x ≤ a) = false := decide_eq_false hxa
          have q1 : wrap64 (((j + 1 : Nat) : Int) - 1) = (j : Int) := by rw [IntWalk.wrap64_in _ (by omega)]; omega
          have q2 : IntKind.i64.wrap (((j + 1 : Nat) : Int) - 1) = (j : Int) := by rw [IntKind.wrap_i64]; omega
          have q3 : (0 : Int) ≤ (j : Int) ∧ (j : Int) < (l.length : Int) := by omega
          obtain ⟨q3, q4⟩ := q3
          have q5 : j < c := by omega
          have q6 : j < l.length := by omega
          replace hc := Lib.hid hc
          have hxa2 : -1 ≤ x := by omega
          clear hx hxa ha
          go_upto_region 4 with fail
          go_quiet (fail)
          go_wp2_with fail
          go_roundw
          case rel => exact ⟨j + 1 + 1, x, by omega, by go_num, (by first | exact drew_ex _ _ _ | exact ⟨_, rfl⟩), hxa2, Lib.hid fun h => absurd h (by omega), hkp2, hr2⟩
          case measure => simp [intOf]; omega
    · obtain rfl : k = l.length := by omega
      have hRt : Hid (R = true) := Lib.hid (by rw [← hr.out, List.drop_length]; rfl)
      go_wp2_with fail
      go_ret
      exact ⟨by rw [hRt.out]; rfl, q, rfl⟩
set_option maxRecDepth 100000 in
set_option maxHeartbeats 8000000 in
theorem RCheck_any (cs : List Value) (T : List (List Int)) (P : Nat → Prop) (w : World) (h : TS w P cs T) (hlen : ∀ l ∈ T, l.length ≤ 100000) :
    Calls Tryz.prog 16 #[.agg cs.toArray] w fun e w' => e = .returned (.int .i64 (taintE T)) ∧ Below w.heap.size w w' := by
  obtain ⟨a1, a2, a3, a4⟩ := new_block w cs.toArray 28
  rw [List.toList_toArray] at a1
  have hrow : Hid (∀ k, k < 33 → ∃ A c n, (w.alloc (.cells cs.toArray 28)).cell? ⟨w.heap.size, k, none⟩ = some (.slice A n c) ∧ (T.getD k []).length = n ∧ ∀ q, Calls Tryz.prog 19 #[.slice A n c] ((w.alloc (.cells cs.toArray 28)).drewN q) (Quiet ((w.alloc (.cells cs.toArray 28)).drewN q) (.bool (risingB (T.getD k []))))) := Lib.hid fun k hk => by
    obtain ⟨v, l, h1, h2, h3, h4⟩ := h.get k hk
    have hb := h4.below a3
    obtain ⟨A, c, rfl, -⟩ := h4.form
    refine ⟨A, c, l.length, by have := a1 k _ h1; rwa [Nat.zero_add] at this, by rw [h3], fun q => ?_⟩
    rw [h3]
    have hq : Below (w.alloc (.cells cs.toArray 28)).heap.size (w.alloc (.cells cs.toArray 28)) ((w.alloc (.cells cs.toArray 28)).drewN q) := ⟨rfl, rfl, rfl, Nat.le_refl _, fun _ _ => rfl⟩
    exact RRising_any _ l _ _ (hb.below hq).rl (by have := hlen l (List.mem_of_getElem? h2); omega)
  have hE : Hid (((T.getD 0 []).length = 0 ∧ risingB (T.getD 32 []) = true ∧ (∀ k, k < 32 → risingB (T.getD k []) = true) → taintE T = 0) ∧ (¬ ((T.getD 0 []).length = 0 ∧ risingB (T.getD 32 []) = true ∧ ∀ k, k < 32 → risingB (T.getD k []) = true) → taintE T = 2)) := Lib.hid (by
    refine ⟨fun h1 => ?_, fun h1 => ?_⟩
    · rw [taintE_zero h.lt]
      refine ⟨List.eq_nil_of_length_eq_zero h1.1, fun l hl => ?_⟩
      obtain ⟨j, hj, e⟩ := List.mem_iff_getElem.1 hl
      have e' : T.getD j [] = l := by rw [List.getD, List.getElem?_eq_getElem hj]; simpa using e
      rw [← e']
      have hl33 := h.lt
      by_cases hj2 : j = 32
      · rw [hj2]; exact h1.2.1
      · exact h1.2.2 j (by omega)
    · refine taintE_ne fun e => h1 ?_
      rw [taintE_zero h.lt] at e
      exact ⟨by rw [e.1]; rfl, getD_rising e.2 32, fun k _ => getD_rising e.2 k⟩)
  obtain ⟨R, hR⟩ : ∃ R, taintE T = R := ⟨_, rfl⟩
  rw [hR] at hE ⊢
  have hB := Lib.hid a3
  clear a1 a2 a3 a4 h hR hlen
  have hund : ∀ b : Bool, (some undef = some (Value.bool b)) = False := fun b => by simp [undef]
  go_enter Tryz.func16, Tryz.ntmps16
  go_upto_region 1 with fail
  generalize w.alloc (.cells cs.toArray 28) = W1 at hrow hB ⊢
  have hd0 : ∀ q, Below w.heap.size w (W1.drewN q) := fun q => hB.out.trans ⟨rfl, rfl, rfl, Nat.le_refl _, fun _ _ => rfl⟩
  replace hd0 := Lib.hid hd0
  obtain ⟨A0, k0, n0, c0, e0, -⟩ := hrow.out 0 (by decide)
  obtain ⟨A9, k9, n9, c9, e9, hC9⟩ := hrow.out 32 (by decide)
  by_cases h0 : 0 < n0
  · have hRf : Hid (R = 2) := Lib.hid (hE.out.2 (fun q => by omega))
    have d1 : decide (0 < (n0 : Int)) = true := decide_eq_true (by omega)
    have d2 : decide (0 < n0) = true := decide_eq_true h0
    replace e0 := Lib.hid e0
    replace hC9 := Lib.hid hC9
    go_wp2_with fail
    go_ret
    exact ⟨by rw [hRf.out]; rfl, hB.out⟩
  · have d1 : decide (0 < (n0 : Int)) = false := decide_eq_false (by omega)
    have d2 : decide (0 < n0) = false := decide_eq_false h0
    have hC8 : Calls Tryz.prog 19 #[.slice A9 n9 k9] W1 (Quiet W1 (.bool (risingB (T.getD 32 [])))) := hC9 0
    replace hC9 := Lib.hid hC8
    clear hC8
    cases h9 : risingB (T.getD 32 [])
    · have hRf : Hid (R = 2) := Lib.hid (hE.out.2 (fun q => by rw [h9] at q; exact absurd q.2.1 (by simp)))
      rw [h9] at hC9
      replace e0 := Lib.hid e0
      replace e9 := Lib.hid e9
      clear h9
      go_wp2_with (go_at_call 19; (with_reducible refine hC9.out.mono ?_); rintro e w1 ⟨rfl, q1, rfl⟩)
      go_ret
      exact ⟨by rw [hRf.out]; rfl, hd0.out _⟩
    · rw [h9] at hC9
      replace e0 := Lib.hid e0
      replace e9 := Lib.hid e9
      replace h9 := Lib.hid h9
      replace h0 := Lib.hid h0
      go_upto_region 3 with (go_at_call 19; (with_reducible refine hC9.out.mono ?_); rintro e w1 ⟨rfl, q1, rfl⟩)
      go_upto_region 4 with fail
      go_loopw [3] (fun i wr => ∃ k : Nat, k ≤ 32 ∧ i = .int .i64 k ∧ (∃ q, wr = W1.drewN q) ∧ Hid (∀ j, j < k → risingB (T.getD j []) = true)) (fun i _ => 32 - (intOf i).toNat)
      case atStart => exact ⟨0, Nat.zero_le _, rfl, ⟨_, rfl⟩, Lib.hid fun j hj => absurd hj (Nat.not_lt_zero _)⟩
      case round =>
        obtain ⟨k, hk, rfl, ⟨q, rfl⟩, hr⟩ := hrel
        by_cases hlt : k < 32
        · obtain ⟨A, c, n, c1, e1, hC⟩ := hrow.out k (by omega)
          replace hC := Lib.hid (hC q)
          replace e1 := Lib.hid e1
          have hk1 : (0 : Int) ≤ (k : Int) ∧ (k : Int) < 32 := by omega
          obtain ⟨hk1, hk2⟩ := hk1
          cases hb : risingB (T.getD k [])
          · have hRf : Hid (R = 2) := Lib.hid (hE.out.2 (fun p => by have := p.2.2 k hlt; rw [hb] at this; cases this))
            rw [hb] at hC
            clear hb
            go_wp2_with (go_at_call 19; (with_reducible refine hC.out.mono ?_); rintro e w1 ⟨rfl, q1, rfl⟩)
            go_ret
            exact ⟨by rw [hRf.out]; rfl, hd0.out _⟩
          · rw [hb] at hC
            have hr2 : Hid (∀ j, j < k + 1 → risingB (T.getD j []) = true) := Lib.hid fun j hj => by
              by_cases e : j = k
              · subst e; exact hb
              · exact hr.out j (by omega)
            clear hb
            go_wp2_with (go_at_call 19; (with_reducible refine hC.out.mono ?_); rintro e w1 ⟨rfl, q1, rfl⟩)
            go_roundw
            case rel => exact ⟨k + 1, by omega, by go_num, (by first | exact drew_ex _ _ _ | exact ⟨_, rfl⟩), hr2⟩
            case measure => simp [intOf]; omega
        · obtain rfl : k = 32 := by omega
          have hRt : Hid (R = 0) := Lib.hid (hE.out.1 ⟨by have := e0.out; have := h0.out; omega, h9.out, hr.out⟩)
          go_wp2_with fail
          go_ret
          exact ⟨by rw [hRt.out]; rfl, hd0.out _⟩
set_option maxRecDepth 100000 in
theorem RNew_any (w : World) : Calls Tryz.prog 7 #[] w fun e w' => e = .returned (.agg zeroTL.toArray) ∧ Below w.heap.size w w' := by
  have hu := Tryz.underlying28
  obtain ⟨-, hz, hb, -⟩ := new_block w #[.slice none 0 0, .slice none 0 0, .slice none 0 0, .slice none 0 0, .slice none 0 0, .slice none 0 0, .slice none 0 0, .slice none 0 0, .slice none 0 0, .slice none 0 0, .slice none 0 0, .slice none 0 0, .slice none 0 0, .slice none 0 0, .slice none 0 0, .slice none 0 0, .slice none 0 0, .slice none 0 0, .slice none 0 0, .slice none 0 0, .slice none 0 0, .slice none 0 0, .slice none 0 0, .slice none 0 0, .slice none 0 0, .slice none 0 0, .slice none 0 0, .slice none 0 0, .slice none 0 0, .slice none 0 0, .slice none 0 0, .slice none 0 0, .slice none 0 0] 28
  go_enter Tryz.func7, Tryz.ntmps7
  go_upto_region 1 with fail
  generalize w.alloc _ = W1 at hz hb ⊢
  go_wp2_with (refine wpList_store_mid rfl 28 _ _ rfl w.heap.size 0 zeroTL.toArray rfl rfl (fun j hj => hz j hj) size_taint zeroTL_one ?_; change wpList _ _ _ _ _ (World.setCells _ w.heap.size 0 zeroTL); have r6 := World.rangeAt_setCells_same W1 w.heap.size 0 zeroTL (fun j hj => hz j hj); have hb6 := tn_below (Nat.le_refl w.heap.size) zeroTL 0 _ hb; generalize World.setCells W1 w.heap.size 0 zeroTL = w8 at r6 hb6 ⊢)
  have hl6 := run_loadVar_mid w8 w.heap.size 0 28 zeroTL _ r6 hu rfl size_taint
  exact bodyPost_ret (v := .agg zeroTL.toArray) (res_cell_mid Tryz.results7 _ _ _ _ rfl hl6) rfl ⟨rfl, hb6⟩
end Go.Proofs.YtebeajnaamglkaaGreatDoor
namespace Go.Proofs.YtebeajnaamglkaaGreatDoor
open Go.RowKit
/-- A list appended to an empty new one. -/
theorem app_new (A : Option Addr) (c : Nat) (l : List Int) (w : World) (h : RL w w.heap.size (.slice A l.length c) l) (hn : l.length ≤ 1000000) :
    ∃ A' c' w', (Builtin.append_ #[25, 25] 25 #[.slice (some ⟨w.heap.size, 0, none⟩) 0 0, .slice A l.length c]).run Tryz.prog (w.alloc (.cells #[] 3)) = .ok (.slice A' l.length c') w' ∧ RP w' (fun b => w.heap.size ≤ b) (.slice A' l.length c') l ∧ Below w.heap.size w w' := by
  obtain ⟨A', c', he, a1, a2, a3⟩ := h.form
  simp only [Value.slice.injEq] at he
  obtain ⟨rfl, -, rfl⟩ := he
  have hown : (w.alloc (.cells #[] 3)).ownsRow w.heap.size 3 1 (.slice (some ⟨w.heap.size, 0, none⟩) 0 0) ([] : List Int).length (([] : List Int).map (Value.int .i64)) := World.ownsRow_lit w #[] 0 (Nat.le_refl _) (Nat.zero_le _) rfl
  have hb0 : Below w.heap.size w (w.alloc (.cells #[] 3)) := (Below.refl _ _).alloc (Nat.le_refl _) _
  obtain ⟨v', w', hr, ho, hg, -⟩ := run_app (w := w.alloc (.cells #[] 3)) 25 (.slice (some ⟨w.heap.size, 0, none⟩) 0 0) [] l A c hown hb0.size (by simpa using hn) (a3.imp id fun ⟨b, o, e, hb, hc⟩ => ⟨b, o, e, fun j x hx => (hb0.cell (p := ⟨b, o + j, none⟩) hb).trans (hc j x hx)⟩)
  have hB : Below w.heap.size w w' := hb0.grown hg hb0.size (fun k hk => (hown.lt k hk).1)
  rw [List.nil_append] at ho
  have hR : RP w' (fun b => w.heap.size ≤ b) v' l := RP.of_own ho rfl
  obtain ⟨ao, cap, rfl, -⟩ := own_slice2 ho
  exact ⟨ao, cap, w', hr, hR, hB⟩
/-- One number appended to a list of the call's own. -/
theorem app_one {w wr : World} (ao : Option Addr) (cap : Nat) (zs : List Int) (x : Int) (hown : wr.ownsRow w.heap.size 3 1 (.slice ao zs.length cap) zs.length (zs.map (Value.int .i64))) (hB : Below w.heap.size w wr) (hn : zs.length + 1 ≤ 1000000) :
    ∃ ao' cap' w', (Builtin.append_ #[25, 25] 25 #[.slice ao zs.length cap, .slice (some ⟨wr.heap.size, 0, none⟩) 1 1]).run Tryz.prog (wr.alloc (.cells #[.int .i64 x] 3)) = .ok (.slice ao' (zs.length + 1) cap') w' ∧
      w'.ownsRow w.heap.size 3 1 (.slice ao' (zs.length + 1) cap') (zs ++ [x]).length ((zs ++ [x]).map (Value.int .i64)) ∧ Below w.heap.size w w' := by
  have hg0 : (wr.alloc (.cells #[.int .i64 x] 3)).ownsRow w.heap.size 3 1 (.slice ao zs.length cap) zs.length (zs.map (Value.int .i64)) := ownsRow_keep hown ((Below.refl _ _).alloc (Nat.le_refl _) _)
  have hB0 : Below w.heap.size w (wr.alloc (.cells #[.int .i64 x] 3)) := hB.alloc hB.size _
  obtain ⟨v', w', hra, ho, hg, -⟩ := run_app (w := wr.alloc (.cells #[.int .i64 x] 3)) 25 (.slice ao zs.length cap) zs [x] (some ⟨wr.heap.size, 0, none⟩) 1 hg0 hB0.size (by simp; omega) (.inr ⟨_, 0, rfl, fun j z hz => by rw [World.cell?_alloc_new, Nat.zero_add]; rcases j with _ | j <;> simp at hz ⊢; exact hz⟩)
  have hB1 : Below w.heap.size w w' := hB0.grown hg hB0.size (fun k hk => (hg0.lt k hk).1)
  obtain ⟨ao2, cap2, rfl, -⟩ := own_slice2 ho
  have e : (zs ++ [x]).length = zs.length + 1 := by simp
  refine ⟨ao2, cap2, w', ?_, ?_, hB1⟩
  · rw [← e]; exact hra
  · rw [← e]; exact ho
set_option maxRecDepth 100000 in
set_option maxHeartbeats 8000000 in
/-- The document's Copy, whatever the taint. -/
theorem RCopy_any (cs : List Value) (T : List (List Int)) (P : Nat → Prop) (w : World) (h : TS w P cs T) (hlen : ∀ l ∈ T, l.length ≤ 100000) :
    Calls Tryz.prog 37 #[.agg cs.toArray] w (OwnPost w T) := by
  have hlc := h.lc
  have hu := Tryz.underlying28
  have hrow : Hid (∀ k, k < 33 → ∃ l, T[k]? = some l ∧ l.length ≤ 100000) := Lib.hid fun k hk => by
    obtain ⟨v, l, h1, h2, -, h4⟩ := h.get k hk
    exact ⟨l, h2, hlen l (List.mem_of_getElem? h2)⟩
  obtain ⟨hOW, hr1⟩ := OW.start w cs T P #[.slice none 0 0, .slice none 0 0, .slice none 0 0, .slice none 0 0, .slice none 0 0, .slice none 0 0, .slice none 0 0, .slice none 0 0, .slice none 0 0, .slice none 0 0, .slice none 0 0, .slice none 0 0, .slice none 0 0, .slice none 0 0, .slice none 0 0, .slice none 0 0, .slice none 0 0, .slice none 0 0, .slice none 0 0, .slice none 0 0, .slice none 0 0, .slice none 0 0, .slice none 0 0, .slice none 0 0, .slice none 0 0, .slice none 0 0, .slice none 0 0, .slice none 0 0, .slice none 0 0, .slice none 0 0, .slice none 0 0, .slice none 0 0, .slice none 0 0] 28 h rfl
  go_enter Tryz.func37, Tryz.ntmps37
  go_upto_region 1 with fail
  generalize (w.alloc (.cells cs.toArray 28)).alloc _ = W1 at hOW ⊢
  clear hr1 h hlen
  go_wp2_with fail
  go_loopw [3] (fun i wr => ∃ k : Nat, k ≤ 32 ∧ i = .int .i64 k ∧ OW w wr k T) (fun i _ => 32 - (intOf i).toNat)
  case atStart => exact ⟨0, Nat.zero_le _, rfl, hOW⟩
  case round =>
    obtain ⟨k, hk, rfl, hW⟩ := hrel
    by_cases hlt : k < 32
    · obtain ⟨l, e2, e4⟩ := hrow.out k (by omega)
      obtain ⟨cs', b1, b2, b3⟩ := hW.box
      obtain ⟨v, l', f1, f2, -, f3⟩ := b2.get k (by omega)
      obtain rfl : l = l' := Option.some.inj (e2.symm.trans f2)
      have ck : wr.cell? ⟨w.heap.size, k, none⟩ = some v := by have := b1 k v f1; rwa [Nat.zero_add] at this
      obtain ⟨Av, cv, rfl, -⟩ := f3.form
      obtain ⟨A', c', w4, hra, hr, hb4⟩ := app_new Av cv l wr f3.rl (by omega)
      have hW4 := hW.keep hb4
      have hwl : w.heap.size < wr.heap.size := Nat.lt_of_succ_lt hW.lt
      obtain ⟨x4, c4⟩ := hW4.old k (by omega)
      have f4 := hW4.thaw k (by omega)
      have ck2 : (wr.alloc (.cells #[] 3)).cell? ⟨w.heap.size, k, none⟩ = some (.slice Av l.length cv) := (((Below.refl _ _).alloc (Nat.le_refl _) (.cells #[] 3) : Below wr.heap.size wr _).cell (p := ⟨w.heap.size, k, none⟩) hwl).trans ck
      replace hra := Lib.hid hra
      have hd : decide ((k : Int) < 32) = true := by simp; omega
      replace e2 := Lib.hid e2
      replace hlc := Lib.hid hlc
      have hW5 := hW4.put e2.out (hr.mono fun b hb => by have := hW.lt; omega)
      replace hW5 := Lib.hid hW5
      clear b1 b2 b3 f1 f2 f3 hW4
      go_wp2_with (at_builtin; refine wpList_app rfl (.tmp 9) (.tmp 13) 25 rfl _ _ _ rfl rfl hra.out ?_)
      go_roundw
      case rel => exact ⟨k + 1, by omega, by go_num, hW5.out⟩
      case measure => simp [intOf]; omega
    · obtain rfl : k = 32 := by omega
      obtain ⟨cs', r1, r2, r3⟩ := hW.box
      obtain ⟨v, l, e1, e2, -, e3⟩ := r2.get 32 (by decide)
      obtain ⟨l9, e9, e4⟩ := hrow.out 32 (by decide)
      obtain rfl : l = l9 := Option.some.inj (e2.symm.trans e9)
      have ck : wr.cell? ⟨w.heap.size, 32, none⟩ = some v := by have := r1 32 v e1; rwa [Nat.zero_add] at this
      obtain ⟨Av, cv, rfl, -⟩ := e3.form
      obtain ⟨A', c', w4, hra, hr, hb4⟩ := app_new Av cv l wr e3.rl (by omega)
      have hW4 := hW.keep hb4
      have hwl : w.heap.size < wr.heap.size := Nat.lt_of_succ_lt hW.lt
      obtain ⟨x4, c4⟩ := hW4.old 32 (by decide)
      have f4 := hW4.thaw 32 (by decide)
      have ck2 : (wr.alloc (.cells #[] 3)).cell? ⟨w.heap.size, 32, none⟩ = some (.slice Av l.length cv) := (((Below.refl _ _).alloc (Nat.le_refl _) (.cells #[] 3) : Below wr.heap.size wr _).cell (p := ⟨w.heap.size, 32, none⟩) hwl).trans ck
      replace hra := Lib.hid hra
      have hd : decide (((32 : Nat) : Int) < 32) = false := by simp
      have hW5 := hW4.put e2 (hr.mono fun b hb => by have := hW.lt; omega)
      replace hW5 := Lib.hid hW5
      replace e2 := Lib.hid e2
      clear e1 e3 e9 r1 r2 r3
      go_upto_region 5 with fail
      go_upto_region 6 with (at_builtin; refine wpList_app rfl (.tmp 17) (.tmp 19) 25 rfl _ _ _ rfl rfl hra.out ?_)
      replace hW5 := hW5.out
      generalize w4.setCell ⟨w.heap.size, 32, none⟩ _ = w5 at hW5 ⊢
      obtain ⟨cs', r1, r2, r3⟩ := hW5.box
      have hz := hW5.z
      have hlc2 := Lib.hid r2.lc
      have hs1 : Hid ((Tryz.prog.info? 28).map (·.size) = some cs'.length) := Lib.hid (by rw [r2.lc]; exact size_taint)
      have hs2 : Hid ((Tryz.prog.info? 28).map (·.size) = some cs'.toArray.size) := Lib.hid (by rw [List.size_toArray, r2.lc]; exact size_taint)
      have h1c : Hid (cs'.toArray.all (·.oneCell') = true) := Lib.hid (all_oneCell_toArray r2.one)
      clear hra e4 hr c4 f4 ck ck2 hW4 hb4 hW hrow e2
      go_wp2_with (first | (refine wpList_load_mid rfl 28 _ rfl w.heap.size 0 rfl cs' _ r1 hu rfl hs1.out ?_) | (refine wpList_store_mid rfl 28 _ _ rfl (w.heap.size + 1) 0 cs'.toArray rfl rfl (fun j hj => hz j (by rw [List.size_toArray, hlc2.out] at hj; exact hj)) hs2.out h1c.out ?_; generalize hW9 : w5.setCells (w.heap.size + 1) 0 cs'.toArray.toList = w9; replace hW9 := Lib.hid hW9))
      have hr9 : w9.rangeAt (w.heap.size + 1) 0 cs' := by
        rw [← hW9.out]
        exact World.rangeAt_setCells_same _ _ _ _ (by rw [hlc2.out]; exact hz)
      have hlv := run_loadVar_mid w9 (w.heap.size + 1) 0 28 cs' _ hr9 hu rfl hs1.out
      refine bodyPost_ret (v := .agg cs'.toArray) (res_cell_mid Tryz.results37 _ _ _ _ rfl hlv) rfl ⟨cs', rfl, ⟨r2.lc, r2.lt, fun j v l q1 q2 => ?_⟩, ?_⟩
      · have hj : j < 33 := by have := (List.getElem?_eq_some_iff.1 q2).1; rw [r2.lt] at this; exact this
        rw [← hW9.out]
        exact ((r3 j v l hj q1 q2).cells (w.heap.size + 1) 0 _ (by omega)).mono fun b hb => by omega
      · rw [← hW9.out]; exact tn_below (Nat.le_succ _) _ _ _ hW5.bl
theorem mergeF_more (n : Nat) : ∀ (a b : List Int), a.length + b.length ≤ n → mergeF n a b = mergeL a b := by
  have key : ∀ (m n : Nat) (a b : List Int), a.length + b.length ≤ m → a.length + b.length ≤ n → mergeF n a b = mergeF m a b := by
    intro m
    induction m with
    | zero =>
      intro n a b h1 h2
      obtain rfl := List.eq_nil_of_length_eq_zero (by omega : a.length = 0)
      obtain rfl := List.eq_nil_of_length_eq_zero (by omega : b.length = 0)
      rw [mergeF_nil1, mergeF_nil1]
    | succ m ih =>
      intro n a b h1 h2
      rcases a with _ | ⟨x, a⟩
      · rw [mergeF_nil1, mergeF_nil1]
      · rcases b with _ | ⟨y, b⟩
        · rw [mergeF_nil2, mergeF_nil2]
        · simp only [List.length_cons] at h1 h2
          obtain ⟨n, rfl⟩ : ∃ q, n = q + 1 := ⟨n - 1, by omega⟩
          rcases Int.lt_trichotomy x y with e | e | e
          · rw [mergeF_lt e, mergeF_lt e, ih n a (y :: b) (by simp only [List.length_cons]; omega) (by simp only [List.length_cons]; omega)]
          · rw [mergeF_eq e, mergeF_eq e, ih n a b (by omega) (by omega)]
          · rw [mergeF_gt e, mergeF_gt e, ih n (x :: a) b (by simp only [List.length_cons]; omega) (by simp only [List.length_cons]; omega)]
  intro a b h
  exact key _ n a b (Nat.le_refl _) h
theorem mergeL_lt {x y : Int} {a b : List Int} (h : x < y) : mergeL (x :: a) (y :: b) = x :: mergeL a (y :: b) := by
  have e : (x :: a).length + (y :: b).length = (a.length + (y :: b).length) + 1 := by simp only [List.length_cons]; omega
  unfold mergeL; rw [e, mergeF_lt h]
theorem mergeL_gt {x y : Int} {a b : List Int} (h : y < x) : mergeL (x :: a) (y :: b) = y :: mergeL (x :: a) b := by
  have e : (x :: a).length + (y :: b).length = ((x :: a).length + b.length) + 1 := by simp only [List.length_cons]; omega
  unfold mergeL; rw [e, mergeF_gt h]
theorem mergeL_eq {x y : Int} {a b : List Int} (h : x = y) : mergeL (x :: a) (y :: b) = x :: mergeL a b := by
  have e : (x :: a).length + (y :: b).length = (a.length + b.length + 1) + 1 := by simp only [List.length_cons]; omega
  unfold mergeL; rw [e, mergeF_eq h, mergeF_more _ a b (by omega)]; rfl
set_option maxRecDepth 100000 in
set_option maxHeartbeats 16000000 in
/-- The document's Join, whatever the lists. -/
theorem RJoin_any (va vb : Value) (xs ys : List Int) (w : World) (ha : RL w w.heap.size va xs) (hb : RL w w.heap.size vb ys) (hn : xs.length + ys.length ≤ 900000) :
    Calls Tryz.prog 23 #[va, vb] w (NewRL w (joinL xs ys)) := by
  have hR1 := Lib.hid (fun q => RRising_any va xs _ (w.drewN q) (ha.below ⟨rfl, rfl, rfl, Nat.le_refl _, fun _ _ => rfl⟩ (Nat.le_refl _)) (by omega))
  have hR2 := Lib.hid (fun q => RRising_any vb ys _ (w.drewN q) (hb.below ⟨rfl, rfl, rfl, Nat.le_refl _, fun _ _ => rfl⟩ (Nat.le_refl _)) (by omega))
  have hR0 : Calls Tryz.prog 19 #[va] w (Quiet w (.bool (risingB xs))) := RRising_any va xs _ w ha (by omega)
  obtain ⟨A1, c1, rfl, a1, a2, a3⟩ := ha.form
  obtain ⟨A2, c2, rfl, b1, b2, b3⟩ := hb.form
  unfold maxLen at a2 b2
  obtain ⟨R, hR⟩ : ∃ R, joinL xs ys = R := ⟨_, rfl⟩
  have hbw : ∀ q, Below w.heap.size w (w.drewN q) := fun q => ⟨rfl, rfl, rfl, Nat.le_refl _, fun _ _ => rfl⟩
  rw [hR]
  replace hbw := Lib.hid hbw
  have hund : ∀ b : Bool, (some undef = some (Value.bool b)) = False := fun b => by simp [undef]
  cases h1 : risingB xs
  · have hRn : Hid (R = []) := Lib.hid (by rw [← hR]; unfold joinL; rw [h1]; rfl)
    rw [h1] at hR0
    clear ha hb a3 b3 h1 hR hR1
    go_enter Tryz.func23, Tryz.ntmps23
    go_wp2_with (go_at_call 19; (with_reducible refine hR0.mono ?_); rintro e w1 ⟨rfl, q1, rfl⟩)
    go_ret
    exact ⟨⟨_, rfl, by rw [hRn.out]; exact RP.nil _ _⟩, hbw.out _⟩
  · rw [h1] at hR0
    replace hR0 := Lib.hid hR0
    cases h2 : risingB ys
    · have hRn : Hid (R = []) := Lib.hid (by rw [← hR]; unfold joinL; rw [h1, h2]; rfl)
      rw [h2] at hR2
      clear ha hb a3 b3 h1 h2 hR hR1
      go_enter Tryz.func23, Tryz.ntmps23
      go_wp2_with (first | (go_at_call 19; (with_reducible refine hR0.out.mono ?_); rintro e w1 ⟨rfl, q1, rfl⟩; clear hR0) | (go_at_call 19; (with_reducible refine (hR2.out _).mono ?_); rintro e w1 ⟨rfl, q2, rfl⟩))
      go_ret
      exact ⟨⟨_, rfl, by rw [hRn.out]; exact RP.nil _ _⟩, (by first | exact hbw.out _ | exact (hbw.out _).trans ⟨rfl, rfl, rfl, Nat.le_refl _, fun _ _ => rfl⟩)⟩
    · have hRm : Hid (R = mergeL xs ys) := Lib.hid (by rw [← hR, joinL_yes h1 h2])
      rw [h2] at hR2
      replace a3 := Lib.hid a3
      replace b3 := Lib.hid b3
      replace h1 := Lib.hid h1
      replace h2 := Lib.hid h2
      clear ha hb hR hR1
      go_enter Tryz.func23, Tryz.ntmps23
      go_upto_region 5 with (first | (go_at_call 19; (with_reducible refine hR0.out.mono ?_); rintro e w1 ⟨rfl, q1, rfl⟩; clear hR0) | (go_at_call 19; (with_reducible refine (hR2.out _).mono ?_); rintro e w1 ⟨rfl, q2, rfl⟩))
      generalize hw0 : World.drewN _ _ = w0
      have hb0 : Below w.heap.size w w0 := by rw [← hw0]; (first | exact hbw.out _ | exact (hbw.out _).trans ⟨rfl, rfl, rfl, Nat.le_refl _, fun _ _ => rfl⟩)
      clear hw0
      go_loopw [5, 6, 7] (fun out i k wr => ∃ (i' k' : Nat) (zs : List Int), i' ≤ xs.length ∧ k' ≤ ys.length ∧ i = .int .i64 i' ∧ k = .int .i64 k' ∧ wr.ownsRow w.heap.size 3 1 out zs.length (zs.map (Value.int .i64)) ∧ Below w.heap.size w wr ∧ Hid (zs.length ≤ i' + k') ∧ Hid (R = zs ++ mergeL (xs.drop i') (ys.drop k'))) (fun _ i k _ => (xs.length - (intOf i).toNat) + (ys.length - (intOf k).toNat))
      case atStart => exact ⟨0, 0, [], Nat.zero_le _, Nat.zero_le _, rfl, rfl, World.ownsRow_nil _ _ _ _, hb0, Lib.hid (Nat.le_refl _), Lib.hid (by rw [List.drop_zero, List.drop_zero, hRm.out]; rfl)⟩
      case round =>
        clear hb0
        obtain ⟨i, k, zs, hi, hk, rfl, rfl, hown, hB, hzk, hr⟩ := hrel
        have hlen1 : ∀ z : Int, (zs ++ [z]).length = zs.length + 1 := fun z => by simp
        have htot : Hid (zs.length + 1 ≤ 1000000 ∧ zs.length ≤ i + k) := Lib.hid ⟨by have := hzk.out; omega, hzk.out⟩
        obtain ⟨ao, cap, rfl, -, -, -⟩ := own_slice2 hown
        replace hown := Lib.hid hown
        replace hB := Lib.hid hB
        have hX : Hid (i < xs.length → ∃ p q x, A1 = some ⟨p, q, none⟩ ∧ p < wr.heap.size ∧ wr.cell? ⟨p, q + i, none⟩ = some (.int .i64 x) ∧ xs.drop i = x :: xs.drop (i + 1) ∧ i < c1) := Lib.hid fun h => by
          obtain ⟨x, hx, hd⟩ := drop_at h
          obtain ⟨b, o, rfl, hb, hc⟩ := a3.out.resolve_left (fun e => by rw [e] at h; exact absurd h (Nat.not_lt_zero _))
          exact ⟨b, o, x, rfl, Nat.lt_of_lt_of_le hb hB.out.size, (hB.out.cell (p := ⟨b, o + i, none⟩) hb).trans (hc i x hx), hd, by omega⟩
        have hY : Hid (k < ys.length → ∃ p q y, A2 = some ⟨p, q, none⟩ ∧ p < wr.heap.size ∧ wr.cell? ⟨p, q + k, none⟩ = some (.int .i64 y) ∧ ys.drop k = y :: ys.drop (k + 1) ∧ k < c2) := Lib.hid fun h => by
          obtain ⟨y, hy, hd⟩ := drop_at h
          obtain ⟨b, o, rfl, hb, hc⟩ := b3.out.resolve_left (fun e => by rw [e] at h; exact absurd h (Nat.not_lt_zero _))
          exact ⟨b, o, y, rfl, Nat.lt_of_lt_of_le hb hB.out.size, (hB.out.cell (p := ⟨b, o + k, none⟩) hb).trans (hc k y hy), hd, by omega⟩
        clear hzk
        have k0 : (0 : Int) ≤ (k : Int) := by omega
        have i0 : (0 : Int) ≤ (i : Int) := by omega
        by_cases hil : i < xs.length
        · obtain ⟨p, q, x, rfl, hpx, cx, hdx, hic⟩ := hX.out hil
          have di : decide ((i : Int) < (xs.length : Int)) = true := decide_eq_true (by omega)
          have di2 : (i : Int) < (xs.length : Int) := by omega
          have di3 : ((i : Int) == (xs.length : Int)) = false := by simp; omega
          clear hX
          by_cases hkl : k < ys.length
          · obtain ⟨r, s, y, rfl, hpy, cy, hdy, hkc⟩ := hY.out hkl
            have dk : decide ((k : Int) < (ys.length : Int)) = true := decide_eq_true (by omega)
            have dk2 : (k : Int) < (ys.length : Int) := by omega
            have dk3 : ((k : Int) == (ys.length : Int)) = false := by simp; omega
            clear hY
            rw [hdx, hdy] at hr
            rcases (show x < y ∨ y < x ∨ x = y by omega) with hxy | hxy | hxy
            · have hres : Hid (R = (zs ++ [x]) ++ mergeL (xs.drop (i + 1)) (ys.drop k)) := Lib.hid (by rw [hr.out, mergeL_lt hxy, hdy]; simp)
              have e1 : decide (x < y) = true := decide_eq_true hxy
              clear hr hdx hdy hxy
              go_upto_region 8 with fail
              go_quiet (fail)
              generalize hWd : wr.drewN _ = Wd
              have hdb : Below wr.heap.size wr Wd := by rw [← hWd]; exact ⟨rfl, rfl, rfl, Nat.le_refl _, fun _ _ => rfl⟩
              clear hWd
              have hBd := bl_step hB.out hdb
              obtain ⟨ao2, cap2, w5, hra, ho5, hB5⟩ := app_one ao cap zs x (ownsRow_keep hown.out hdb) hBd (by have := htot.out; omega)
              replace hra := Lib.hid hra
              have cx2 : Wd.cell? ⟨p, q + i, none⟩ = some (.int .i64 x) := hdb.cell (p := ⟨p, q + i, none⟩) hpx |>.trans cx
              clear cx cy
              go_wp2_with (at_builtin; refine wpList_app rfl (.tmp 59) (.tmp 64) 25 rfl _ _ _ rfl rfl hra.out ?_)
              go_roundw
              case rel => exact ⟨i + 1, k, zs ++ [x], by omega, by omega, by go_num, rfl, by (first | exact ho5 | (rw [← hlen1 x]; exact ho5)), hB5, Lib.hid (by have := htot.out; rw [hlen1]; omega), hres⟩
              case measure => simp [intOf]; omega
            · have hres : Hid (R = (zs ++ [y]) ++ mergeL (xs.drop i) (ys.drop (k + 1))) := Lib.hid (by rw [hr.out, mergeL_gt hxy, hdx]; simp)
              have e1 : decide (x < y) = false := decide_eq_false (by omega)
              have e2 : decide (y < x) = true := decide_eq_true hxy
              clear hr hdx hdy hxy
              go_upto_region 8 with fail
              go_quiet (fail)
              go_upto_region 11 with fail
              go_quiet (fail)
              generalize hWd : World.drewN _ _ = Wd
              have hdb : Below wr.heap.size wr Wd := by rw [← hWd]; exact ⟨rfl, rfl, rfl, Nat.le_refl _, fun _ _ => rfl⟩
              clear hWd
              have hBd := bl_step hB.out hdb
              obtain ⟨ao2, cap2, w5, hra, ho5, hB5⟩ := app_one ao cap zs y (ownsRow_keep hown.out hdb) hBd (by have := htot.out; omega)
              replace hra := Lib.hid hra
              have cy2 : Wd.cell? ⟨r, s + k, none⟩ = some (.int .i64 y) := hdb.cell (p := ⟨r, s + k, none⟩) hpy |>.trans cy
              clear cx cy
              go_wp2_with (at_builtin; refine wpList_app rfl (.tmp 84) (.tmp 89) 25 rfl _ _ _ rfl rfl hra.out ?_)
              go_roundw
              case rel => exact ⟨i, k + 1, zs ++ [y], by omega, by omega, rfl, by go_num, by (first | exact ho5 | (rw [← hlen1 y]; exact ho5)), hB5, Lib.hid (by have := htot.out; rw [hlen1]; omega), hres⟩
              case measure => simp [intOf]; omega
            · have hres : Hid (R = (zs ++ [x]) ++ mergeL (xs.drop (i + 1)) (ys.drop (k + 1))) := Lib.hid (by rw [hr.out, mergeL_eq hxy]; simp)
              have e1 : decide (x < y) = false := decide_eq_false (by omega)
              have e2 : decide (y < x) = false := decide_eq_false (by omega)
              clear hr hdx hdy hxy
              go_upto_region 8 with fail
              go_quiet (fail)
              go_upto_region 11 with fail
              go_quiet (fail)
              generalize hWd : World.drewN _ _ = Wd
              have hdb : Below wr.heap.size wr Wd := by rw [← hWd]; exact ⟨rfl, rfl, rfl, Nat.le_refl _, fun _ _ => rfl⟩
              clear hWd
              have hBd := bl_step hB.out hdb
              obtain ⟨ao2, cap2, w5, hra, ho5, hB5⟩ := app_one ao cap zs x (ownsRow_keep hown.out hdb) hBd (by have := htot.out; omega)
              replace hra := Lib.hid hra
              have cx2 : Wd.cell? ⟨p, q + i, none⟩ = some (.int .i64 x) := hdb.cell (p := ⟨p, q + i, none⟩) hpx |>.trans cx
              clear cx cy
              go_wp2_with (at_builtin; refine wpList_app rfl (.tmp 26) (.tmp 31) 25 rfl _ _ _ rfl rfl hra.out ?_)
              go_roundw
              case rel => exact ⟨i + 1, k + 1, zs ++ [x], by omega, by omega, by go_num, by go_num, by (first | exact ho5 | (rw [← hlen1 x]; exact ho5)), hB5, Lib.hid (by have := htot.out; rw [hlen1]; omega), hres⟩
              case measure => simp [intOf]; omega
          · obtain rfl : k = ys.length := by omega
            have dk : decide ((ys.length : Int) < (ys.length : Int)) = false := by simp
            have hres : Hid (R = (zs ++ [x]) ++ mergeL (xs.drop (i + 1)) (ys.drop ys.length)) := Lib.hid (by rw [hr.out, hdx, List.drop_length, mergeL_nil2, mergeL_nil2]; simp)
            clear hY hr hdx
            go_upto_region 8 with fail
            go_quiet (fail)
            generalize hWd : wr.drewN _ = Wd
            have hdb : Below wr.heap.size wr Wd := by rw [← hWd]; exact ⟨rfl, rfl, rfl, Nat.le_refl _, fun _ _ => rfl⟩
            clear hWd
            have hBd := bl_step hB.out hdb
            obtain ⟨ao2, cap2, w5, hra, ho5, hB5⟩ := app_one ao cap zs x (ownsRow_keep hown.out hdb) hBd (by have := htot.out; omega)
            replace hra := Lib.hid hra
            have cx2 : Wd.cell? ⟨p, q + i, none⟩ = some (.int .i64 x) := hdb.cell (p := ⟨p, q + i, none⟩) hpx |>.trans cx
            clear cx
            go_wp2_with (at_builtin; refine wpList_app rfl (.tmp 59) (.tmp 64) 25 rfl _ _ _ rfl rfl hra.out ?_)
            go_roundw
            case rel => exact ⟨i + 1, ys.length, zs ++ [x], by omega, by omega, by go_num, rfl, by (first | exact ho5 | (rw [← hlen1 x]; exact ho5)), hB5, Lib.hid (by have := htot.out; rw [hlen1]; omega), hres⟩
            case measure => simp [intOf]; omega
        · obtain rfl : i = xs.length := by omega
          have di : decide ((xs.length : Int) < (xs.length : Int)) = false := by simp
          clear hX
          by_cases hkl : k < ys.length
          · obtain ⟨r, s, y, rfl, hpy, cy, hdy, hkc⟩ := hY.out hkl
            have dk : decide ((k : Int) < (ys.length : Int)) = true := decide_eq_true (by omega)
            have dk2 : (k : Int) < (ys.length : Int) := by omega
            have dk3 : ((k : Int) == (ys.length : Int)) = false := by simp; omega
            have hres : Hid (R = (zs ++ [y]) ++ mergeL (xs.drop xs.length) (ys.drop (k + 1))) := Lib.hid (by rw [hr.out, hdy, List.drop_length, mergeL_nil1, mergeL_nil1]; simp)
            clear hY hr hdy
            go_upto_region 8 with fail
            go_quiet (fail)
            go_upto_region 11 with fail
            go_quiet (fail)
            generalize hWd : World.drewN _ _ = Wd
            have hdb : Below wr.heap.size wr Wd := by rw [← hWd]; exact ⟨rfl, rfl, rfl, Nat.le_refl _, fun _ _ => rfl⟩
            clear hWd
            have hBd := bl_step hB.out hdb
            obtain ⟨ao2, cap2, w5, hra, ho5, hB5⟩ := app_one ao cap zs y (ownsRow_keep hown.out hdb) hBd (by have := htot.out; omega)
            replace hra := Lib.hid hra
            have cy2 : Wd.cell? ⟨r, s + k, none⟩ = some (.int .i64 y) := hdb.cell (p := ⟨r, s + k, none⟩) hpy |>.trans cy
            clear cy
            go_wp2_with (at_builtin; refine wpList_app rfl (.tmp 84) (.tmp 89) 25 rfl _ _ _ rfl rfl hra.out ?_)
            go_roundw
            case rel => exact ⟨xs.length, k + 1, zs ++ [y], by omega, by omega, rfl, by go_num, by (first | exact ho5 | (rw [← hlen1 y]; exact ho5)), hB5, Lib.hid (by have := htot.out; rw [hlen1]; omega), hres⟩
            case measure => simp [intOf]; omega
          · obtain rfl : k = ys.length := by omega
            have dk : decide ((ys.length : Int) < (ys.length : Int)) = false := by simp
            have hres : Hid (R = zs) := Lib.hid (by rw [hr.out, List.drop_length, List.drop_length, mergeL_nil1]; simp)
            have hRP : RP wr (fun b => w.heap.size ≤ b) (.slice ao zs.length cap) zs := RP.of_own hown.out rfl
            have hBo := hB.out
            clear hY hr
            go_wp2_with fail
            go_ret
            exact ⟨⟨_, rfl, by rw [hres.out]; exact hRP⟩, hBo⟩
end Go.Proofs.YtebeajnaamglkaaGreatDoor
