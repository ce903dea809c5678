/- The walks of slices.Clone at whatever slice of ints, and of taint.Check. Conditions: none. -/
import Derived.Test.YtebeajnaamglkaaDoorTntMg
import Derived.Deep.MidRow
import Derived.Great.Walk
set_option linter.unusedSimpArgs false
set_option linter.unusedVariables false
namespace Go.Proofs.YtebeajnaamglkaaDoor
open Go.RowKit
theorem Clone_RL (v : Value) (l : List Int) (B : Nat) (w : World) (h : RL w B v l) (hl : l.length ≤ 1000000) :
    Calls Tryd.prog 28 #[v] w (NewRL w l) := by
  obtain ⟨A, c, rfl, h1, h2, h3⟩ := h.form
  rcases h3 with rfl | ⟨b, o, rfl, hb, hc⟩
  · rcases A with _ | ad
    · refine (Tryd.slices_Clone_int_nil 0 c w).mono ?_
      rintro e w' ⟨he, rfl⟩
      exact ⟨⟨_, he, RP.nil _ _⟩, Below.refl _ _⟩
    · refine (Tryd.slices_Clone_int_zero ad c w).mono ?_
      rintro e w' ⟨v', he, ho, -, hb⟩
      exact ⟨⟨v', he, RP.of_own (l := []) ho rfl⟩, hb⟩
  · refine (Tryd.slices_Clone_int b o l.length c l w (Nat.le_refl _) (by omega) (fun j hj => ?_)).mono ?_
    · rw [hc j l[j] (List.getElem?_eq_getElem hj)]; simp [List.getD, hj]
    · rintro e w' ⟨v', he, ho, -, hb⟩
      rw [List.take_length] at ho
      exact ⟨⟨v', he, RP.of_own ho rfl⟩, hb⟩
/-- A taint's cells: 32 lists and the path's. -/
structure TS (w : World) (P : Nat → Prop) (cs : List Value) (T : List (List Int)) : Prop where
  lc : cs.length = 33
  lt : T.length = 33
  at_ : ∀ (j : Nat) (v : Value) (l : List Int), cs[j]? = some v → T[j]? = some l → RP w P v l
theorem TS.below {w w' : World} {P : Nat → Prop} {cs : List Value} {T : List (List Int)} (h : TS w P cs T) (hb : Below w.heap.size w w') : TS w' P cs T :=
  ⟨h.lc, h.lt, fun j v l h1 h2 => (h.at_ j v l h1 h2).below hb⟩
theorem TS.mono {w : World} {P Q : Nat → Prop} {cs : List Value} {T : List (List Int)} (h : TS w P cs T) (hq : ∀ b, P b → Q b) : TS w Q cs T :=
  ⟨h.lc, h.lt, fun j v l h1 h2 => (h.at_ j v l h1 h2).mono hq⟩
theorem TS.setCell {w : World} {P : Nat → Prop} {cs : List Value} {T : List (List Int)} (h : TS w P cs T) (p : Addr) (u : Value) (hp : ¬ P p.block) : TS (w.setCell p u) P cs T :=
  ⟨h.lc, h.lt, fun j v l h1 h2 => (h.at_ j v l h1 h2).setCell p u hp⟩
theorem TS.get {w : World} {P : Nat → Prop} {cs : List Value} {T : List (List Int)} (h : TS w P cs T) (j : Nat) (hj : j < 33) : ∃ v l, cs[j]? = some v ∧ T[j]? = some l ∧ T.getD j [] = l ∧ RP w P v l := by
  have h1 : j < cs.length := by rw [h.lc]; exact hj
  have h2 : j < T.length := by rw [h.lt]; exact hj
  refine ⟨cs[j], T[j], List.getElem?_eq_getElem h1, List.getElem?_eq_getElem h2, by simp [List.getD, h2], h.at_ j _ _ (List.getElem?_eq_getElem h1) (List.getElem?_eq_getElem h2)⟩
theorem TS.one {w : World} {P : Nat → Prop} {cs : List Value} {T : List (List Int)} (h : TS w P cs T) : ∀ v ∈ cs, v.oneCell' = true := fun v hv => by
  obtain ⟨j, hj, rfl⟩ := List.mem_iff_getElem.1 hv
  have hl : j < T.length := by rw [h.lt, ← h.lc]; exact hj
  exact (h.at_ j _ _ (List.getElem?_eq_getElem hj) (List.getElem?_eq_getElem hl)).one
/-- A list in the box turned. -/
theorem TS.set {w : World} {P : Nat → Prop} {cs : List Value} {T : List (List Int)} (h : TS w P cs T) (k : Nat) (v : Value) (l : List Int) (hr : RP w P v l) : TS w P (cs.set k v) (T.set k l) :=
  ⟨by rw [List.length_set]; exact h.lc, by rw [List.length_set]; exact h.lt, fun j u m h1 h2 => by
    by_cases e : k = j
    · subst e
      by_cases hk : k < 33
      · rw [List.getElem?_set_self (by rw [h.lc]; exact hk)] at h1
        rw [List.getElem?_set_self (by rw [h.lt]; exact hk)] at h2
        cases h1; cases h2; exact hr
      · rw [List.getElem?_eq_none (by rw [List.length_set, h.lc]; omega)] at h1; cases h1
    · rw [List.getElem?_set_ne e] at h1 h2
      exact h.at_ j u m h1 h2⟩
/-- A slice with its list. -/
structure RS (w : World) (P : Nat → Prop) where
  v : Value
  l : List Int
  h : RP w P v l
instance (w : World) (P : Nat → Prop) : Inhabited (RS w P) := ⟨⟨_, _, RP.nil w P⟩⟩
/-- The first 32 lists, with their slices. -/
def TS.rows {w : World} {P : Nat → Prop} {cs : List Value} {T : List (List Int)} (h : TS w P cs T) : List (RS w P) :=
  List.ofFn fun j : Fin 32 => ⟨cs[j.1]'(by rw [h.lc]; omega), T[j.1]'(by rw [h.lt]; omega), h.at_ j.1 _ _ (List.getElem?_eq_getElem _) (List.getElem?_eq_getElem _)⟩
theorem TS.rows_len {w : World} {P : Nat → Prop} {cs : List Value} {T : List (List Int)} (h : TS w P cs T) : h.rows.length = 32 := List.length_ofFn
theorem TS.rows_v {w : World} {P : Nat → Prop} {cs : List Value} {T : List (List Int)} (h : TS w P cs T) (j : Nat) (hj : j < 32) : cs[j]? = some h.rows[j]!.v := by
  have h1 : j < cs.length := by rw [h.lc]; omega
  rw [List.getElem?_eq_getElem h1, getElem!_pos h.rows j (by rw [h.rows_len]; exact hj)]
  simp only [TS.rows, List.getElem_ofFn]
theorem TS.rows_any {w : World} {P : Nat → Prop} {cs : List Value} {T : List (List Int)} (h : TS w P cs T) (p : List Int → Bool) : h.rows.any (fun x => p x.l) = (T.take 32).any p := by
  have e : h.rows.map (·.l) = T.take 32 := by
    apply List.ext_getElem?
    intro j
    by_cases hj : j < 32
    · have h2 : j < T.length := by rw [h.lt]; omega
      rw [List.getElem?_map, List.getElem?_take_of_lt hj, List.getElem?_eq_getElem h2, List.getElem?_eq_getElem (by rw [h.rows_len]; exact hj)]
      simp only [TS.rows, List.getElem_ofFn, Option.map_some]
    · rw [List.getElem?_eq_none (by simp [h.rows_len]; omega), List.getElem?_eq_none (by simp; omega)]
  rw [← e, List.any_map]; rfl
def taintE (T : List (List Int)) : Int := if (T.getD 0 []).isEmpty && risingB (T.getD 32 []) && !((T.take 32).any fun l => !risingB l) then 0 else 2
theorem notRising_any (v : Value) (l : List Int) (B : Nat) (w : World) (h : RL w B v l) :
    Calls Tryd.prog 36 #[v] w fun e w' => e = .returned (.bool (!risingB l)) ∧ w = w' := by
  have hR := Lib.hid (fun W => Rising_any v l B W)
  go_enter Tryd.func36, Tryd.ntmps36
  go_wp2_with (go_at_call 19; refine (hR.out _ h).mono ?_; rintro e w' ⟨rfl, rfl⟩)
  go_ret
  exact ⟨rfl, rfl⟩
theorem Rows_bad (cs : List Value) (T : List (List Int)) (w : World) (P : Nat → Prop) (b : Nat) (h : TS w P cs T) (hc : ∀ j v, cs[j]? = some v → w.cell? ⟨b, j, none⟩ = some v) :
    Calls Tryd.prog 35 #[.slice (some ⟨b, 0, none⟩) 32 32, .func (.func 36) #[] #[]] w fun e w' => e = .returned (.bool ((T.take 32).any fun l => !risingB l)) ∧ ∃ q, w' = w.drewN q := by
  have eg : ∀ args w, (callFunc 36 args).run Tryd.prog w = .ok (.enter 36 args) w := enters_of Tryd.func36 (by kernel_rfl) rfl
  have hcon := Tryd.slices_ContainsFunc_f35 (fun x : RS w P => x.v) (fun x => !risingB x.l) 36 #[] eg b 0 32 32 h.rows w
    (fun W x hb => (notRising_any x.v x.l _ W (x.h.below hb).rl).mono fun e w' ⟨he, hw⟩ => ⟨he, 0, hw.symm⟩) (by rw [h.rows_len]; exact Nat.le_refl _) (by decide)
    (fun j hj => by rw [h.rows_len] at hj; rw [Nat.zero_add]; exact hc j _ (h.rows_v j hj))
  rw [List.take_of_length_le (by rw [h.rows_len]; exact Nat.le_refl _), h.rows_any fun l => !risingB l] at hcon
  exact hcon
set_option maxRecDepth 100000 in
set_option maxHeartbeats 4000000 in
/-- taint.Check, whatever the taint. -/
theorem TCheck_any (cs : List Value) (T : List (List Int)) (P : Nat → Prop) (w : World) (h : TS w P cs T) :
    Calls Tryd.prog 16 #[.agg cs.toArray] w fun e w' => e = .returned (.int .i64 (taintE T)) ∧ Below w.heap.size w w' := by
  have hb1 : Below w.heap.size w (w.alloc (.cells cs.toArray 27)) := (Below.refl _ _).alloc (Nat.le_refl _) _
  have hc1 : Hid (∀ j v, cs[j]? = some v → (w.alloc (.cells cs.toArray 27)).cell? ⟨w.heap.size, j, none⟩ = some v) := Lib.hid fun j v hv => by rw [World.cell?_alloc_new]; simpa using hv
  have h1 := h.below hb1
  obtain ⟨v0, l0, e0, t0, g0, r0⟩ := h1.get 0 (by decide)
  obtain ⟨v32, l32, e32, t32, g32, r32⟩ := h1.get 32 (by decide)
  have c0 := hc1.out 0 v0 e0
  have c32 := hc1.out 32 v32 e32
  have hbad := Lib.hid (Rows_bad cs T _ P w.heap.size h1 hc1.out)
  have hris := Lib.hid (Rising_any v32 l32 _ _ r32.rl)
  have hE : taintE T = if l0.isEmpty && risingB l32 && !((T.take 32).any fun l => !risingB l) then 0 else 2 := by unfold taintE; rw [g0, g32]
  rw [hE]
  clear hE g0 g32 t0 t32 r32 h h1 hc1
  obtain ⟨A, c, rfl, a1, a2, a3⟩ := r0.form
  clear r0 a3
  unfold maxLen at a2
  generalize ((T.take 32).any fun l => !risingB l) = bad at hbad ⊢
  generalize risingB l32 = ris at hris ⊢
  rcases l0 with _ | ⟨x, l0⟩
  · cases ris
    · go_enter Tryd.func16, Tryd.ntmps16
      go_wp2_with (first | (go_at_call 19; refine hris.out.mono ?_; rintro e w' ⟨rfl, rfl⟩) | (go_at_call 35; refine hbad.out.mono ?_; rintro e w' ⟨rfl, q, rfl⟩))
      go_ret
      exact ⟨rfl, hb1⟩
    · cases bad
      · go_enter Tryd.func16, Tryd.ntmps16
        go_wp2_with (first | (go_at_call 19; refine hris.out.mono ?_; rintro e w' ⟨rfl, rfl⟩) | (go_at_call 35; refine hbad.out.mono ?_; rintro e w' ⟨rfl, q, rfl⟩))
        go_ret
        exact ⟨rfl, hb1.trans ⟨rfl, rfl, rfl, Nat.le_refl _, fun _ _ => rfl⟩⟩
      · go_enter Tryd.func16, Tryd.ntmps16
        go_wp2_with (first | (go_at_call 19; refine hris.out.mono ?_; rintro e w' ⟨rfl, rfl⟩) | (go_at_call 35; refine hbad.out.mono ?_; rintro e w' ⟨rfl, q, rfl⟩))
        go_ret
        exact ⟨rfl, hb1.trans ⟨rfl, rfl, rfl, Nat.le_refl _, fun _ _ => rfl⟩⟩
  · have hl : (0 : Int) < ((l0.length + 1 : Nat) : Int) := by omega
    simp only [List.length_cons] at *
    go_enter Tryd.func16, Tryd.ntmps16
    go_wp2_with fail
    go_ret
    exact ⟨rfl, hb1⟩
end Go.Proofs.YtebeajnaamglkaaDoor
