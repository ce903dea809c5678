/- The walks of fencepostkit.Same[int] and fencepostkit.Deps. Conditions: none. -/
import Derived.Test.YtebeajnaamglkaaDoorTntCk
import Derived.Deep.QuietTactic
import Derived.BigQuiet
set_option linter.unusedSimpArgs false
set_option linter.unusedVariables false
namespace Go.Proofs.YtebeajnaamglkaaDoor
open Go.RowKit
def Quiet (w : World) (v : Value) (e : Ending) (w' : World) : Prop := e = .returned v ∧ ∃ q, w' = w.drewN q
theorem drew_ex (w : World) (q n : Nat) : ∃ q', (w.drewN q).drewN n = w.drewN q' := ⟨q + n, by simp [World.drewN, Nat.add_assoc]⟩
set_option maxRecDepth 100000 in
set_option maxHeartbeats 4000000 in
theorem Same_any (v1 v2 : Value) (l1 l2 : List Int) (B1 B2 : Nat) (w : World) (h1 : RL w B1 v1 l1) (h2 : RL w B2 v2 l2) :
    Calls Tryd.prog 15 #[v1, v2] w (Quiet w (.bool (l1 == l2))) := by
  obtain ⟨A1, c1, rfl, a1, a2, a3⟩ := h1.form
  obtain ⟨A2, c2, rfl, b1, b2, b3⟩ := h2.form
  unfold maxLen at a2 b2
  by_cases hl : l1.length = l2.length
  · obtain ⟨R, hR⟩ : ∃ R, (l1 == l2) = R := ⟨_, rfl⟩
    rw [hR]
    replace hR := Lib.hid hR
    rw [← hl] at b1 ⊢
    have a4 := Lib.hid a3
    have b4 := Lib.hid b3
    replace hl := Lib.hid hl
    clear a3 b3 h1 h2
    go_enter Tryd.func15, Tryd.ntmps15
    go_wp2_with fail
    go_loopw [5] (fun i wr => ∃ k : Nat, k ≤ l1.length ∧ i = .int .i64 k ∧ (∃ q, wr = w.drewN q) ∧ Hid (∀ j, j < k → l1[j]? = l2[j]?)) (fun i _ => l1.length - (intOf i).toNat)
    case atStart => exact ⟨0, Nat.zero_le _, rfl, ⟨0, rfl⟩, Lib.hid fun j hj => absurd hj (Nat.not_lt_zero _)⟩
    case round =>
      obtain ⟨k, hk, rfl, ⟨q, rfl⟩, hsm⟩ := hrel
      by_cases hlt : k < l1.length
      · obtain ⟨x, hx, -⟩ := drop_at hlt
        obtain ⟨y, hy, -⟩ := drop_at (l := l2) (k := k) (by rw [← hl.out]; exact hlt)
        obtain ⟨p1, o1, rfl, -, hc1⟩ := a4.out.resolve_left (fun e => by rw [e] at hlt; exact absurd hlt (Nat.not_lt_zero _))
        obtain ⟨p2, o2, rfl, -, hc2⟩ := b4.out.resolve_left (fun e => by rw [hl.out, e] at hlt; exact absurd hlt (Nat.not_lt_zero _))
        have m1 : w.cell? ⟨p1, o1 + k, none⟩ = some (.int .i64 x) := hc1 k x hx
        have m2 : w.cell? ⟨p2, o2 + k, none⟩ = some (.int .i64 y) := hc2 k y hy
        have n0 : (0 : Int) ≤ (k : Int) ∧ (k : Int) < (l1.length : Int) := by omega
        obtain ⟨n1, n2⟩ := n0
        have n3 : k < c1 := by omega
        have n4 : k < c2 := by omega
        replace hc1 := Lib.hid hc1
        replace hc2 := Lib.hid hc2
        by_cases hxy : x = y
        · have hne : (x != y) = false := by rw [hxy]; simp
          have hsm2 : Hid (∀ j, j < k + 1 → l1[j]? = l2[j]?) := Lib.hid fun j hj => by
            by_cases e : j = k
            · subst e; rw [hx, hy, hxy]
            · exact hsm.out j (by omega)
          clear hx hy hxy
          go_upto_region 6 with fail
          go_quiet (fail)
          go_wp2_with fail
          go_roundw
          case rel => exact ⟨k + 1, by omega, by go_num, ⟨_, rfl⟩, hsm2⟩
          case measure => simp [intOf]; omega
        · have hne : (x != y) = true := by simpa using hxy
          have hRf : Hid (R = false) := Lib.hid (by
            rw [← hR.out, beq_eq_false_iff_ne]
            intro e
            rw [e, hy] at hx
            exact hxy (Option.some.inj hx).symm)
          clear hx hy hxy
          go_upto_region 6 with fail
          go_quiet (fail)
          go_wp2_with fail
          go_ret
          exact ⟨by rw [hRf.out]; rfl, drew_ex _ _ _⟩
      · obtain rfl : k = l1.length := by omega
        have hRt : Hid (R = true) := Lib.hid (by
          rw [← hR.out, beq_iff_eq]
          refine List.ext_getElem? fun j => ?_
          by_cases hj : j < l1.length
          · exact hsm.out j hj
          · rw [List.getElem?_eq_none (by omega), List.getElem?_eq_none (by rw [← hl.out]; omega)])
        go_wp2_with fail
        go_ret
        exact ⟨by rw [hRt.out]; rfl, q, rfl⟩
  · have hf : (l1 == l2) = false := by rw [beq_eq_false_iff_ne]; intro e; exact hl (by rw [e])
    rw [hf]
    have hne : ((l1.length : Int) != (l2.length : Int)) = true := by simp; omega
    have hne2 : (l1.length != l2.length) = true := by simpa using hl
    clear hf a3 b3 h1 h2
    go_enter Tryd.func15, Tryd.ntmps15
    go_wp2_with fail
    go_ret
    exact ⟨rfl, 0, rfl⟩
set_option maxRecDepth 100000 in
set_option maxHeartbeats 4000000 in
theorem Deps_any (a1 a2 a3 b1 b2 b3 : Value) (l1 l2 l3 m1 m2 m3 : List Int) (w : World) (h1 : RL w w.heap.size a1 l1) (h2 : RL w w.heap.size a2 l2) (h3 : RL w w.heap.size a3 l3) (g1 : RL w w.heap.size b1 m1) (g2 : RL w w.heap.size b2 m2) (g3 : RL w w.heap.size b3 m3) :
    Calls Tryd.prog 21 #[.agg #[a1, a2, a3], .agg #[b1, b2, b3]] w fun e w' => e = .returned (.bool (l1 == m1 && l2 == m2 && l3 == m3)) ∧ Below w.heap.size w w' := by
  have hS1 : Hid (∀ W, Below w.heap.size w W → Calls Tryd.prog 15 #[a1, b1] W (Quiet W (.bool (l1 == m1)))) := Lib.hid fun W hb => Same_any a1 b1 l1 m1 _ _ W (h1.below hb (Nat.le_refl _)) (g1.below hb (Nat.le_refl _))
  have hS2 : Hid (∀ W, Below w.heap.size w W → Calls Tryd.prog 15 #[a2, b2] W (Quiet W (.bool (l2 == m2)))) := Lib.hid fun W hb => Same_any a2 b2 l2 m2 _ _ W (h2.below hb (Nat.le_refl _)) (g2.below hb (Nat.le_refl _))
  have hS3 : Hid (∀ W, Below w.heap.size w W → Calls Tryd.prog 15 #[a3, b3] W (Quiet W (.bool (l3 == m3)))) := Lib.hid fun W hb => Same_any a3 b3 l3 m3 _ _ W (h3.below hb (Nat.le_refl _)) (g3.below hb (Nat.le_refl _))
  have hb1 : Below w.heap.size w ((w.alloc (.cells #[a1, a2, a3] 35)).alloc (.cells #[b1, b2, b3] 35)) := ((Below.refl _ _).alloc (Nat.le_refl _) _).alloc (by simp) _
  have hbW : ∀ n, Below w.heap.size w (((w.alloc (.cells #[a1, a2, a3] 35)).alloc (.cells #[b1, b2, b3] 35)).drewN n) := fun n => hb1.trans ⟨rfl, rfl, rfl, Nat.le_refl _, fun _ _ => rfl⟩
  replace hbW := Lib.hid hbW
  clear h1 h2 h3 g1 g2 g3
  generalize (l1 == m1) = p1 at *
  generalize (l2 == m2) = p2 at *
  generalize (l3 == m3) = p3 at *
  cases p1 <;> cases p2 <;> cases p3
  all_goals
    go_enter Tryd.func21, Tryd.ntmps21
    go_wp2_with (first | (go_at_call 15; (with_reducible refine (hS1.out _ (by first | exact hb1 | exact hbW.out _)).mono ?_); rintro e w1 ⟨rfl, q, rfl⟩) | (go_at_call 15; (with_reducible refine (hS2.out _ (by first | exact hb1 | exact hbW.out _)).mono ?_); rintro e w1 ⟨rfl, q, rfl⟩) | (go_at_call 15; (with_reducible refine (hS3.out _ (by first | exact hb1 | exact hbW.out _)).mono ?_); rintro e w1 ⟨rfl, q, rfl⟩))
    go_ret
    exact ⟨rfl, by first | exact hb1 | exact hbW.out _⟩
end Go.Proofs.YtebeajnaamglkaaDoor
