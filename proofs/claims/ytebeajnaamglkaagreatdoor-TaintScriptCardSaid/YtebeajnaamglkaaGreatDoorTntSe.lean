/- The walks of taint.Join, slices.Equal, slices.EqualFunc over a taint's rows, and taint.Same. Conditions: Join's lists are not longer than a million numbers together. -/
import Derived.Test.YtebeajnaamglkaaGreatDoorTntLw
import Derived.Test.YtebeajnaamglkaaGreatDoorTntJn
set_option linter.unusedSimpArgs false
set_option linter.unusedVariables false
namespace Go.Proofs.YtebeajnaamglkaaGreatDoor
open Go.RowKit
set_option maxRecDepth 100000 in
set_option maxHeartbeats 4000000 in
theorem Join_any (a b : Value) (xs ys : List Int) (w : World) (ha : RL w w.heap.size a xs) (hb : RL w w.heap.size b ys) (hn : xs.length + ys.length ≤ 1000000) :
    Calls Tryz.prog 21 #[a, b] w (NewRL w (joinL xs ys)) := by
  have hR1 := Lib.hid (Rising_any a xs _ w ha)
  have hR2 := Lib.hid (Rising_any b ys _ w hb)
  have hM := Lib.hid (merge_any a b xs ys w ha hb hn)
  obtain ⟨R, hR⟩ : ∃ R, joinL xs ys = R := ⟨_, rfl⟩
  have hR0 : risingB xs = false ∨ risingB ys = false → Hid (R = []) := fun h => Lib.hid (by rw [← hR]; unfold joinL; rcases h with h | h <;> rw [h] <;> simp)
  have hRm : risingB xs = true → risingB ys = true → Hid (mergeL xs ys = R) := fun h1 h2 => Lib.hid (by rw [← hR, joinL_yes h1 h2])
  rw [hR]
  clear hR
  obtain ⟨A1, c1, rfl, -⟩ := ha.form
  obtain ⟨A2, c2, rfl, -⟩ := hb.form
  clear ha hb
  cases h1 : risingB xs
  · rw [h1] at hR1
    have hR0 := hR0 (.inl h1)
    clear hRm h1
    go_enter Tryz.func21, Tryz.ntmps21
    go_wp2_with (go_at_call 18; refine hR1.out.mono ?_; rintro e w' ⟨rfl, rfl⟩)
    go_ret
    exact ⟨⟨_, rfl, by rw [hR0.out]; exact RP.nil _ _⟩, Below.refl _ _⟩
  · rw [h1] at hR1
    cases h2 : risingB ys
    · rw [h2] at hR2
      have hR0 := hR0 (.inr h2)
      clear hRm h1 h2
      go_enter Tryz.func21, Tryz.ntmps21
      go_wp2_with (first | (go_at_call 18; (with_reducible refine hR1.out.mono ?_); rintro e w' ⟨rfl, rfl⟩; clear hR1) | (go_at_call 18; (with_reducible refine hR2.out.mono ?_); rintro e w' ⟨rfl, rfl⟩))
      go_ret
      exact ⟨⟨_, rfl, by rw [hR0.out]; exact RP.nil _ _⟩, Below.refl _ _⟩
    · rw [h2] at hR2
      have hRm := hRm h1 h2
      rw [hRm.out] at hM
      clear hR0 h1 h2
      go_enter Tryz.func21, Tryz.ntmps21
      go_wp2_with (first | (go_at_call 18; (with_reducible refine hR1.out.mono ?_); rintro e w' ⟨rfl, rfl⟩; clear hR1) | (go_at_call 18; (with_reducible refine hR2.out.mono ?_); rintro e w' ⟨rfl, rfl⟩) | (go_at_call 34; refine hM.out.mono ?_; rintro e w5 ⟨⟨v', rfl, hr5⟩, hb5⟩; obtain ⟨A', c', hve, -⟩ := hr5.form; obtain rfl := hve))
      go_ret
      exact ⟨⟨_, rfl, hr5⟩, hb5⟩
set_option maxRecDepth 100000 in
set_option maxHeartbeats 4000000 in
theorem Equal_any (v1 v2 : Value) (l1 l2 : List Int) (B1 B2 : Nat) (w : World) (h1 : RL w B1 v1 l1) (h2 : RL w B2 v2 l2) :
    Calls Tryz.prog 42 #[v1, v2] w (Quiet w (.bool (l1 == l2))) := by
  obtain ⟨A1, c1, rfl, a1, a2, a3⟩ := h1.form
  obtain ⟨A2, c2, rfl, b1, b2, b3⟩ := h2.form
  unfold maxLen at a2 b2
  by_cases hl : l1.length = l2.length
  · obtain ⟨R, hR⟩ : ∃ R, (l1 == l2) = R := ⟨_, rfl⟩
    rw [hR]
    replace hR := Lib.hid hR
    rw [← hl] at b1 ⊢
    have a4 := Lib.hid a3
    have b4 := Lib.hid b3
    replace hl := Lib.hid hl
    clear a3 b3 h1 h2
    go_enter Tryz.func42, Tryz.ntmps42
    go_wp2_with fail
    go_loopw [13] (fun i wr => ∃ k : Nat, k ≤ l1.length ∧ i = .int .i64 k ∧ (∃ q, wr = w.drewN q) ∧ Hid (∀ j, j < k → l1[j]? = l2[j]?)) (fun i _ => l1.length - (intOf i).toNat)
    case atStart => exact ⟨0, Nat.zero_le _, rfl, ⟨0, rfl⟩, Lib.hid fun j hj => absurd hj (Nat.not_lt_zero _)⟩
    case round =>
      obtain ⟨k, hk, rfl, ⟨q, rfl⟩, hsm⟩ := hrel
      by_cases hlt : k < l1.length
      · obtain ⟨x, hx, -⟩ := drop_at hlt
        obtain ⟨y, hy, -⟩ := drop_at (l := l2) (k := k) (by rw [← hl.out]; exact hlt)
        obtain ⟨p1, o1, rfl, -, hc1⟩ := a4.out.resolve_left (fun e => by rw [e] at hlt; exact absurd hlt (Nat.not_lt_zero _))
        obtain ⟨p2, o2, rfl, -, hc2⟩ := b4.out.resolve_left (fun e => by rw [hl.out, e] at hlt; exact absurd hlt (Nat.not_lt_zero _))
        have m1 : w.cell? ⟨p1, o1 + k, none⟩ = some (.int .i64 x) := hc1 k x hx
        have m2 : w.cell? ⟨p2, o2 + k, none⟩ = some (.int .i64 y) := hc2 k y hy
        have n0 : (0 : Int) ≤ (k : Int) ∧ (k : Int) < (l1.length : Int) := by omega
        obtain ⟨n1, n2⟩ := n0
        have n3 : k < c1 := by omega
        have n4 : k < c2 := by omega
        replace hc1 := Lib.hid hc1
        replace hc2 := Lib.hid hc2
        by_cases hxy : x = y
        · have hne : (x != y) = false := by rw [hxy]; simp
          have hsm2 : Hid (∀ j, j < k + 1 → l1[j]? = l2[j]?) := Lib.hid fun j hj => by
            by_cases e : j = k
            · subst e; rw [hx, hy, hxy]
            · exact hsm.out j (by omega)
          clear hx hy hxy
          go_upto_region 6 with fail
          go_quiet (fail)
          go_wp2_with fail
          go_roundw
          case rel => exact ⟨k + 1, by omega, by go_num, ⟨_, rfl⟩, hsm2⟩
          case measure => simp [intOf]; omega
        · have hne : (x != y) = true := by simpa using hxy
          have hRf : Hid (R = false) := Lib.hid (by
            rw [← hR.out, beq_eq_false_iff_ne]
            intro e
            rw [e, hy] at hx
            exact hxy (Option.some.inj hx).symm)
          clear hx hy hxy
          go_upto_region 6 with fail
          go_quiet (fail)
          go_wp2_with fail
          go_ret
          exact ⟨by rw [hRf.out]; rfl, drew_ex _ _ _⟩
      · obtain rfl : k = l1.length := by omega
        have hRt : Hid (R = true) := Lib.hid (by
          rw [← hR.out, beq_iff_eq]
          refine List.ext_getElem? fun j => ?_
          by_cases hj : j < l1.length
          · exact hsm.out j hj
          · rw [List.getElem?_eq_none (by omega), List.getElem?_eq_none (by rw [← hl.out]; omega)])
        go_wp2_with fail
        go_ret
        exact ⟨by rw [hRt.out]; rfl, q, rfl⟩
  · have hf : (l1 == l2) = false := by rw [beq_eq_false_iff_ne]; intro e; exact hl (by rw [e])
    rw [hf]
    have hne : ((l1.length : Int) != (l2.length : Int)) = true := by simp; omega
    have hne2 : (l1.length != l2.length) = true := by simpa using hl
    clear hf a3 b3 h1 h2
    go_enter Tryz.func42, Tryz.ntmps42
    go_wp2_with fail
    go_ret
    exact ⟨rfl, 0, rfl⟩
/-- The rows of two taints are the same from a row on. -/
def sameF (T U : List (List Int)) (k n : Nat) : Bool := (List.range n).all fun j => T.getD (k + j) [] == U.getD (k + j) []
theorem sameF_succ (T U : List (List Int)) (k n : Nat) : sameF T U k (n + 1) = (T.getD k [] == U.getD k [] && sameF T U (k + 1) n) := by
  unfold sameF
  rw [List.range_succ_eq_map, List.all_cons, List.all_map]
  congr 2
  funext j
  show (T.getD (k + (j + 1)) [] == U.getD (k + (j + 1)) []) = _
  rw [show k + (j + 1) = k + 1 + j by omega]
set_option maxRecDepth 100000 in
set_option maxHeartbeats 4000000 in
theorem EqualFunc_any (b1 b2 : Nat) (cs ds : List Value) (T U : List (List Int)) (P Q : Nat → Prop) (w : World) (h1 : TS w P cs T) (h2 : TS w Q ds U) (r1 : w.rangeAt b1 0 cs) (r2 : w.rangeAt b2 0 ds) :
    Calls Tryz.prog 43 #[.slice (some ⟨b1, 0, none⟩) 32 32, .slice (some ⟨b2, 0, none⟩) 32 32, .func (.func 42) #[] #[]] w (Quiet w (.bool (sameF T U 0 32))) := by
  have hrow : Hid (∀ k, k < 32 → ∃ v u l m, w.cell? ⟨b1, k, none⟩ = some v ∧ w.cell? ⟨b2, k, none⟩ = some u ∧ T.getD k [] = l ∧ U.getD k [] = m ∧ ∀ q, Calls Tryz.prog 42 #[v, u] (w.drewN q) (Quiet (w.drewN q) (.bool (l == m)))) := Lib.hid fun k hk => by
    obtain ⟨v, l, e1, e2, e3, e4⟩ := h1.get k (by omega)
    obtain ⟨u, m, f1, f2, f3, f4⟩ := h2.get k (by omega)
    refine ⟨v, u, l, m, by have := r1 k v e1; rwa [Nat.zero_add] at this, by have := r2 k u f1; rwa [Nat.zero_add] at this, e3, f3, fun q => ?_⟩
    have hb : Below w.heap.size w (w.drewN q) := ⟨rfl, rfl, rfl, Nat.le_refl _, fun _ _ => rfl⟩
    exact Equal_any v u l m _ _ _ (e4.below hb).rl (f4.below hb).rl
  obtain ⟨R, hR⟩ : ∃ R, sameF T U 0 32 = R := ⟨_, rfl⟩
  rw [hR]
  replace hR := Lib.hid hR
  clear h1 h2 r1 r2
  go_enter Tryz.func43, Tryz.ntmps43
  go_wp2_with fail
  go_loopw [17] (fun i wr => ∃ k : Nat, k ≤ 32 ∧ i = .int .i64 k ∧ (∃ q, wr = w.drewN q) ∧ Hid (sameF T U k (32 - k) = R)) (fun i _ => 32 - (intOf i).toNat)
  case atStart => exact ⟨0, Nat.zero_le _, rfl, ⟨0, rfl⟩, Lib.hid hR.out⟩
  case round =>
    obtain ⟨k, hk, rfl, ⟨q, rfl⟩, hr⟩ := hrel
    by_cases hlt : k < 32
    · obtain ⟨v, u, l, m, c1, c2, e1, e2, hE⟩ := hrow.out k hlt
      have hr2 := hr.out
      rw [show 32 - k = (32 - (k + 1)) + 1 by omega, sameF_succ, e1, e2] at hr2
      replace hr2 := Lib.hid hr2
      replace hE := Lib.hid (hE q)
      replace e1 := Lib.hid e1
      replace e2 := Lib.hid e2
      generalize (l == m) = B at hr2 hE
      cases B
      · have hRf : Hid (R = false) := Lib.hid (by rw [← hr2.out]; rfl)
        go_wp2_with (go_at_call 42; (with_reducible refine hE.out.mono ?_); rintro e w1 ⟨rfl, q1, rfl⟩)
        go_ret
        exact ⟨by rw [hRf.out]; rfl, ⟨_, rfl⟩⟩
      · have hr3 : Hid (sameF T U (k + 1) (32 - (k + 1)) = R) := Lib.hid (by rw [← hr2.out, Bool.true_and])
        go_wp2_with (go_at_call 42; (with_reducible refine hE.out.mono ?_); rintro e w1 ⟨rfl, q1, rfl⟩)
        go_roundw
        case rel => exact ⟨k + 1, by omega, by go_num, ⟨_, rfl⟩, hr3⟩
        case measure => simp [intOf]; omega
    · obtain rfl : k = 32 := by omega
      have hRt : Hid (R = true) := Lib.hid (by rw [← hr.out]; rfl)
      go_wp2_with fail
      go_ret
      exact ⟨by rw [hRt.out]; rfl, q, rfl⟩
/-- taint.Same, plain. -/
def sameT (T U : List (List Int)) : Bool := T.getD 32 [] == U.getD 32 [] && sameF T U 0 32
set_option maxRecDepth 100000 in
set_option maxHeartbeats 4000000 in
theorem TSame_any (cs ds : List Value) (T U : List (List Int)) (P Q : Nat → Prop) (w : World) (h1 : TS w P cs T) (h2 : TS w Q ds U) :
    Calls Tryz.prog 17 #[.agg cs.toArray, .agg ds.toArray] w fun e w' => e = .returned (.bool (sameT T U)) ∧ Below w.heap.size w w' := by
  obtain ⟨a1, a2, a3, a4⟩ := new_block w cs.toArray 28
  have hb1 : Below w.heap.size w (w.alloc (.cells cs.toArray 28)) := a3
  obtain ⟨b1, b2, b3, b4⟩ := new_block (w.alloc (.cells cs.toArray 28)) ds.toArray 28
  have hb2 := bl_step a3 b3
  have s2 : ((w.alloc (.cells cs.toArray 28)).alloc (.cells ds.toArray 28)).heap.size = w.heap.size + 2 := by omega
  have r1 := tn_range a1 (by omega) b3
  rw [a4] at b1
  have t1 := h1.below hb2
  have t2 := h2.below hb2
  rw [List.toList_toArray] at r1 b1
  have hT : Hid (sameT T U = (T.getD 32 [] == U.getD 32 [] && sameF T U 0 32)) := Lib.hid rfl
  obtain ⟨v, l, e1, e2, e3, e4⟩ := t1.get 32 (by decide)
  obtain ⟨u, m, f1, f2, f3, f4⟩ := t2.get 32 (by decide)
  rw [e3, f3] at hT
  have c1 : ((w.alloc (.cells cs.toArray 28)).alloc (.cells ds.toArray 28)).cell? ⟨w.heap.size, 32, none⟩ = some v := by have := r1 32 v e1; rwa [Nat.zero_add] at this
  have c2 : ((w.alloc (.cells cs.toArray 28)).alloc (.cells ds.toArray 28)).cell? ⟨w.heap.size + 1, 32, none⟩ = some u := by have := b1 32 u f1; rwa [Nat.zero_add] at this
  have hW := Lib.hid hb2
  have hE : Hid (∀ W, (∃ q, W = ((w.alloc (.cells cs.toArray 28)).alloc (.cells ds.toArray 28)).drewN q) → Calls Tryz.prog 42 #[v, u] W (Quiet W (.bool (l == m)))) := Lib.hid fun W ⟨q, hq⟩ => by
    subst hq
    have hb : Below ((w.alloc (.cells cs.toArray 28)).alloc (.cells ds.toArray 28)).heap.size ((w.alloc (.cells cs.toArray 28)).alloc (.cells ds.toArray 28)) (((w.alloc (.cells cs.toArray 28)).alloc (.cells ds.toArray 28)).drewN q) := ⟨rfl, rfl, rfl, Nat.le_refl _, fun _ _ => rfl⟩
    exact Equal_any v u l m _ _ _ (e4.below hb).rl (f4.below hb).rl
  have hF : Hid (∀ W, (∃ q, W = ((w.alloc (.cells cs.toArray 28)).alloc (.cells ds.toArray 28)).drewN q) → Calls Tryz.prog 43 #[.slice (some ⟨w.heap.size, 0, none⟩) 32 32, .slice (some ⟨w.heap.size + 1, 0, none⟩) 32 32, .func (.func 42) #[] #[]] W (Quiet W (.bool (sameF T U 0 32)))) := Lib.hid fun W ⟨q, hq⟩ => by
    subst hq
    have hb : Below ((w.alloc (.cells cs.toArray 28)).alloc (.cells ds.toArray 28)).heap.size ((w.alloc (.cells cs.toArray 28)).alloc (.cells ds.toArray 28)) (((w.alloc (.cells cs.toArray 28)).alloc (.cells ds.toArray 28)).drewN q) := ⟨rfl, rfl, rfl, Nat.le_refl _, fun _ _ => rfl⟩
    exact EqualFunc_any _ _ cs ds T U P Q _ (t1.below hb) (t2.below hb) (tn_range r1 (by rw [s2]; omega) hb) (tn_range b1 (by rw [s2]; omega) hb)
  rw [hT.out]
  clear hT h1 h2 t1 t2 r1 b1 a1 a2 a3 a4 b2 b3 b4 hb1 hb2 s2 e1 e2 e3 e4 f1 f2 f3 f4
  generalize sameF T U 0 32 = B at hF ⊢
  generalize (l == m) = C at hE ⊢
  cases C <;> cases B
  all_goals
    go_enter Tryz.func17, Tryz.ntmps17
    go_upto_region 1 with fail
    go_quiet (first | (go_at_call 42; exact Calls.quiet_of (hE.out _ ⟨_, rfl⟩)) | (go_at_call 43; exact Calls.quiet_of (hF.out _ ⟨_, rfl⟩)))
    go_wp2_with fail
    go_ret
    exact ⟨rfl, hW.out.trans ⟨rfl, rfl, rfl, Nat.le_refl _, fun _ _ => rfl⟩⟩
end Go.Proofs.YtebeajnaamglkaaGreatDoor
