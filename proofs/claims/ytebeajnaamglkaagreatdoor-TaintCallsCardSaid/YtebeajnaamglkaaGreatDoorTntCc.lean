/- TaintCalls, whatever comes. Conditions: the library's table of ASCII spaces lies as its initialiser lays it. -/
import Derived.Test.YtebeajnaamglkaaGreatDoorTntCf
import Derived.Test.YtebeajnaamglkaaGreatDoorTntLi
import Derived.Test.YtebeajnaamglkaaGreatDoorTntKt
import Derived.Deep.DeepCutAuto
import Derived.Deep.RegionHeld
import Derived.Deep.QuietTactic
import Derived.BigQuiet
set_option linter.unusedSimpArgs false
set_option linter.unusedVariables false
namespace Go.Proofs.YtebeajnaamglkaaGreatDoor
open Go.RowKit
theorem drew_belowC (w : World) : Below w.heap.size w w.drew := ⟨rfl, rfl, rfl, Nat.le_refl _, fun _ _ => rfl⟩
theorem three_one {va vd vw : Value} (h1 : va.oneCell' = true) (h2 : vd.oneCell' = true) (h3 : vw.oneCell' = true) : ∀ v ∈ [va, vd, vw], v.oneCell' = true := fun v hv => by
  simp only [List.mem_cons, List.not_mem_nil, or_false] at hv
  rcases hv with rfl | rfl | rfl
  · exact h1
  · exact h2
  · exact h3
theorem sameT_self (T : List (List Int)) : sameT T T = true := by
  unfold sameT sameF
  simp
theorem Deps_yesC (va vd vw ua ud uw : Value) (da dd dw : List Int) (w : World) (h1 : RL w w.heap.size va da) (h2 : RL w w.heap.size vd dd) (h3 : RL w w.heap.size vw dw) (g1 : RL w w.heap.size ua da) (g2 : RL w w.heap.size ud dd) (g3 : RL w w.heap.size uw dw) :
    Calls Tryz.prog 12 #[.agg #[va, vd, vw], .agg #[ua, ud, uw]] w fun e w' => e = .returned (.bool true) ∧ Below w.heap.size w w' := by
  have key := Deps_any va vd vw ua ud uw da dd dw da dd dw w h1 h2 h3 g1 g2 g3
  rw [show (da == da && dd == dd && dw == dw) = true by simp] at key
  exact key
theorem Same_yesC (v u : Value) (l m : List Int) (w : World) (h : RL w w.heap.size v l) (g : RL w w.heap.size u m) (e : l = m) : Calls Tryz.prog 20 #[v, u] w (Quiet w (.bool true)) := by
  have := Same_any v u l m _ _ w h g
  rw [show (l == m) = true by rw [e]; simp] at this
  exact this
theorem Quiet.far {w w' : World} {v : Value} {e : Ending} (h : Quiet w v e w') : e = .returned v ∧ Below w.heap.size w w' := h.below
/-- The law's arguments are too long. -/
def longK (T O : List (List Int)) (la lb : List Int) : Bool := !lightT T || !lightT O || decide (60 < la.length) || decide (60 < lb.length)
set_option maxRecDepth 100000 in
set_option maxHeartbeats 16000000 in
theorem Calls_long (cs os : List Value) (T O : List (List Int)) (i : InsnV) (ev : Int) (ua ub : Value) (la lb : List Int) (w : World) (h : TS w (fun b => b < w.heap.size) cs T) (g : TS w (fun b => b < w.heap.size) os O) (hop : i.op ≤ 9223372036854775807)
    (ha : RL w w.heap.size ua la) (hb : RL w w.heap.size ub lb) (ht : Tabs w) (hlong : longK T O la lb = true) :
    Calls Tryz.prog 4 #[.agg cs.toArray, .agg os.toArray, .agg i.cells, .int .i64 ev, ua, ub] w fun e w' => e = .returned (.bool true) ∧ Below w.heap.size w w' := by
  have huT := Tryz.underlying28
  have huI := Tryz.underlying33
  have hlc := h.lc
  have hLC := LC.start w cs.toArray os.toArray i.cells T O 28 28 33 h g
  obtain ⟨ics, hics⟩ : ∃ l, l = i.cells.toList := ⟨_, rfl⟩
  have hsc : Hid ((Tryz.prog.info? 28).map (·.size) = some cs.length) := Lib.hid (by rw [hlc]; exact size_taint)
  have hso : Hid ((Tryz.prog.info? 28).map (·.size) = some os.length) := Lib.hid (by rw [g.lc]; exact size_taint)
  have hsi : Hid ((Tryz.prog.info? 33).map (·.size) = some ics.length) := Lib.hid (by rw [hics]; kernel_rfl)
  have hLv := Lib.hid (fun W (hW : Below w.heap.size w W) => lives_any W (ht.later hW (Nat.le_refl _)))
  have hLg := Lib.hid (fun W h2 => Light_any cs T (fun b => b < w.heap.size) W h2)
  have hLo := Lib.hid (fun W h2 => Light_any os O (fun b => b < w.heap.size) W h2)
  have hia : Hid (i.cells = ics.toArray) := Lib.hid (by rw [hics])
  rw [← hics, List.toList_toArray, List.toList_toArray] at hLC
  rw [hia.out] at hLC ⊢
  obtain ⟨A1, k1, rfl, a1, a2, a3⟩ := ha.form
  obtain ⟨A2, k2, rfl, b1, b2, b3⟩ := hb.form
  clear ha hb a1 a2 a3 b1 b2 b3 hop h g
  have hund : ∀ b : Bool, (some undef = some (Value.bool b)) = False := fun b => by simp [undef]
  unfold longK at hlong
  cases h1 : lightT T
  · rw [h1] at hLg
    clear hlong h1 hics
    go_enter Tryz.func4, Tryz.ntmps4
    go_upto_region 1 with fail
    generalize ((w.alloc (.cells cs.toArray 28)).alloc (.cells os.toArray 28)).alloc (.cells ics.toArray 33) = W0 at hLC ⊢
    go_upto_region 3 with (go_at_call 5; (with_reducible refine (hLv.out _ hLC.bl).mono ?_); rintro e w1 ⟨rfl, hb1⟩; have hL := Lib.hid (hLC.keep hb1); clear hb1 hLC hLv)
    go_wp2_with (first | (refine wpList_load_midG 28 _ rfl (by rfl) w.heap.size 0 rfl cs _ hL.out.r0 huT rfl hsc.out ?_) | (refine wpList_load_midG 28 _ rfl (by rfl) (w.heap.size + 1) 0 rfl os _ hL.out.r1 huT rfl hso.out ?_) | (go_at_call 14; (with_reducible refine (hLg.out _ hL.out.ts).mono ?_); rintro e w2 ⟨rfl, hb2⟩; replace hL := Lib.hid (hL.out.keep hb2); clear hb2 hLg) | (go_at_call 14; (with_reducible refine (hLo.out _ hL.out.ot).mono ?_); rintro e w3 ⟨rfl, hb3⟩; replace hL := Lib.hid (hL.out.keep hb3); clear hb3 hLo))
    go_ret
    exact ⟨rfl, hL.out.bl⟩
  · rw [h1] at hLg
    cases h2 : lightT O
    · rw [h2] at hLo
      clear hlong h1 h2 hics
      go_enter Tryz.func4, Tryz.ntmps4
      go_upto_region 1 with fail
      generalize ((w.alloc (.cells cs.toArray 28)).alloc (.cells os.toArray 28)).alloc (.cells ics.toArray 33) = W0 at hLC ⊢
      go_upto_region 3 with (go_at_call 5; (with_reducible refine (hLv.out _ hLC.bl).mono ?_); rintro e w1 ⟨rfl, hb1⟩; have hL := Lib.hid (hLC.keep hb1); clear hb1 hLC hLv)
      go_wp2_with (first | (refine wpList_load_midG 28 _ rfl (by rfl) w.heap.size 0 rfl cs _ hL.out.r0 huT rfl hsc.out ?_) | (refine wpList_load_midG 28 _ rfl (by rfl) (w.heap.size + 1) 0 rfl os _ hL.out.r1 huT rfl hso.out ?_) | (go_at_call 14; (with_reducible refine (hLg.out _ hL.out.ts).mono ?_); rintro e w2 ⟨rfl, hb2⟩; replace hL := Lib.hid (hL.out.keep hb2); clear hb2 hLg) | (go_at_call 14; (with_reducible refine (hLo.out _ hL.out.ot).mono ?_); rintro e w3 ⟨rfl, hb3⟩; replace hL := Lib.hid (hL.out.keep hb3); clear hb3 hLo))
      go_ret
      exact ⟨rfl, hL.out.bl⟩
    · rw [h2] at hLo
      rw [h1, h2] at hlong
      by_cases h3 : 60 < la.length
      · have d3 : decide (60 < (la.length : Int)) = true := decide_eq_true (by omega)
        clear hlong h1 h2 h3 hics
        go_enter Tryz.func4, Tryz.ntmps4
        go_upto_region 1 with fail
        generalize ((w.alloc (.cells cs.toArray 28)).alloc (.cells os.toArray 28)).alloc (.cells ics.toArray 33) = W0 at hLC ⊢
        go_upto_region 3 with (go_at_call 5; (with_reducible refine (hLv.out _ hLC.bl).mono ?_); rintro e w1 ⟨rfl, hb1⟩; have hL := Lib.hid (hLC.keep hb1); clear hb1 hLC hLv)
        go_wp2_with (first | (refine wpList_load_midG 28 _ rfl (by rfl) w.heap.size 0 rfl cs _ hL.out.r0 huT rfl hsc.out ?_) | (refine wpList_load_midG 28 _ rfl (by rfl) (w.heap.size + 1) 0 rfl os _ hL.out.r1 huT rfl hso.out ?_) | (go_at_call 14; (with_reducible refine (hLg.out _ hL.out.ts).mono ?_); rintro e w2 ⟨rfl, hb2⟩; replace hL := Lib.hid (hL.out.keep hb2); clear hb2 hLg) | (go_at_call 14; (with_reducible refine (hLo.out _ hL.out.ot).mono ?_); rintro e w3 ⟨rfl, hb3⟩; replace hL := Lib.hid (hL.out.keep hb3); clear hb3 hLo))
        go_ret
        exact ⟨rfl, hL.out.bl⟩
      · have h4 : 60 < lb.length := by simpa [h3] using hlong
        have d3 : decide (60 < (la.length : Int)) = false := decide_eq_false (by omega)
        have d4 : decide (60 < (lb.length : Int)) = true := decide_eq_true (by omega)
        clear hlong h1 h2 h3 h4 hics
        go_enter Tryz.func4, Tryz.ntmps4
        go_upto_region 1 with fail
        generalize ((w.alloc (.cells cs.toArray 28)).alloc (.cells os.toArray 28)).alloc (.cells ics.toArray 33) = W0 at hLC ⊢
        go_upto_region 3 with (go_at_call 5; (with_reducible refine (hLv.out _ hLC.bl).mono ?_); rintro e w1 ⟨rfl, hb1⟩; have hL := Lib.hid (hLC.keep hb1); clear hb1 hLC hLv)
        go_wp2_with (first | (refine wpList_load_midG 28 _ rfl (by rfl) w.heap.size 0 rfl cs _ hL.out.r0 huT rfl hsc.out ?_) | (refine wpList_load_midG 28 _ rfl (by rfl) (w.heap.size + 1) 0 rfl os _ hL.out.r1 huT rfl hso.out ?_) | (go_at_call 14; (with_reducible refine (hLg.out _ hL.out.ts).mono ?_); rintro e w2 ⟨rfl, hb2⟩; replace hL := Lib.hid (hL.out.keep hb2); clear hb2 hLg) | (go_at_call 14; (with_reducible refine (hLo.out _ hL.out.ot).mono ?_); rintro e w3 ⟨rfl, hb3⟩; replace hL := Lib.hid (hL.out.keep hb3); clear hb3 hLo))
        go_ret
        exact ⟨rfl, hL.out.bl⟩
set_option maxRecDepth 100000 in
set_option maxHeartbeats 16000000 in
theorem Calls_short (cs os : List Value) (T O : List (List Int)) (i : InsnV) (ev : Int) (ua ub : Value) (la lb : List Int) (w : World) (h : TS w (fun b => b < w.heap.size) cs T) (g : TS w (fun b => b < w.heap.size) os O) (hop : i.op ≤ 9223372036854775807)
    (ha : RL w w.heap.size ua la) (hb : RL w w.heap.size ub lb) (ht : Tabs w) (hlong : longK T O la lb = false) :
    Calls Tryz.prog 4 #[.agg cs.toArray, .agg os.toArray, .agg i.cells, .int .i64 ev, ua, ub] w fun e w' => e = .returned (.bool true) ∧ Below w.heap.size w w' := by
  have huT := Tryz.underlying28
  have huI := Tryz.underlying33
  have hlc := h.lc
  have hLC := LC.start w cs.toArray os.toArray i.cells T O 28 28 33 h g
  obtain ⟨ics, hics⟩ : ∃ l, l = i.cells.toList := ⟨_, rfl⟩
  have hsc : Hid ((Tryz.prog.info? 28).map (·.size) = some cs.length) := Lib.hid (by rw [hlc]; exact size_taint)
  have hso : Hid ((Tryz.prog.info? 28).map (·.size) = some os.length) := Lib.hid (by rw [g.lc]; exact size_taint)
  have hsi : Hid ((Tryz.prog.info? 33).map (·.size) = some ics.length) := Lib.hid (by rw [hics]; kernel_rfl)
  have hLv := Lib.hid (fun W (hW : Below w.heap.size w W) => lives_any W (ht.later hW (Nat.le_refl _)))
  have hLg := Lib.hid (fun W h2 => Light_any cs T (fun b => b < w.heap.size) W h2)
  have hLo := Lib.hid (fun W h2 => Light_any os O (fun b => b < w.heap.size) W h2)
  have hia : Hid (i.cells = ics.toArray) := Lib.hid (by rw [hics])
  rw [← hics, List.toList_toArray, List.toList_toArray] at hLC
  rw [hia.out] at hLC ⊢
  obtain ⟨A1, k1, rfl, a1, a2, a3⟩ := ha.form
  obtain ⟨A2, k2, rfl, b1, b2, b3⟩ := hb.form
  have hk : lightT T = true ∧ lightT O = true ∧ la.length ≤ 60 ∧ lb.length ≤ 60 := by
    unfold longK at hlong
    simp only [Bool.or_eq_false_iff, Bool.not_eq_false', decide_eq_false_iff_not] at hlong
    exact ⟨hlong.1.1.1, hlong.1.1.2, by omega, by omega⟩
  obtain ⟨hl1, hl2, hn1, hn2⟩ := hk
  have hlen : ∀ l ∈ T, l.length ≤ 100000 := fun l hm => Nat.le_trans (lightT_all h.lt hl1 l hm) (by decide)
  rw [hl1] at hLg
  rw [hl2] at hLo
  have d3 : decide (60 < (la.length : Int)) = false := decide_eq_false (by omega)
  have d4 : decide (60 < (lb.length : Int)) = false := decide_eq_false (by omega)
  have hund : ∀ b : Bool, (some undef = some (Value.bool b)) = False := fun b => by simp [undef]
  have hOw : Hid (∀ W, LC w W cs os ics T O → Calls Tryz.prog 15 #[.agg cs.toArray] W (OwnPost W T)) := Lib.hid fun W hW => KOwnTaint_any cs T _ W hW.ts hlen
  obtain ⟨U, hU⟩ : ∃ x, resT T i ev = x := ⟨_, rfl⟩
  obtain ⟨da, hda⟩ : ∃ x, resA T i ev = x := ⟨_, rfl⟩
  obtain ⟨dd, hdd⟩ : ∃ x, resD T i ev = x := ⟨_, rfl⟩
  obtain ⟨dw, hdw⟩ : ∃ x, resW T i ev = x := ⟨_, rfl⟩
  obtain ⟨E, hE⟩ : ∃ x, resE T i ev = x := ⟨_, rfl⟩
  have hSt : Hid (∀ (c : List Value) (P : Nat → Prop) W, TS W P c T → Below w.heap.size w W → Calls Tryz.prog 9 #[.agg c.toArray, .agg ics.toArray, .int .i64 ev] W (StepE W U da dd dw E)) := Lib.hid fun c P W hW hB => by
    rw [← hia.out, ← hU, ← hda, ← hdd, ← hdw, ← hE]; exact Step_any c T P i ev W hW hlen hop (ht.later hB (Nat.le_refl _))
  have hRs : Hid (∀ W, TS W (fun b => b < w.heap.size) cs T → Calls Tryz.prog 10 #[.agg cs.toArray, .agg ics.toArray, .int .i64 ev] W (StepE W U da dd dw E)) := Lib.hid fun W hW => by
    rw [← hia.out, ← hU, ← hda, ← hdd, ← hdw, ← hE]; exact RStep_any cs T _ i ev W hW hlen
  replace hU := Lib.hid hU
  replace hda := Lib.hid hda
  replace hdd := Lib.hid hdd
  replace hdw := Lib.hid hdw
  replace hE := Lib.hid hE
  replace hics := Lib.hid hics
  replace hlen := Lib.hid hlen
  replace h := Lib.hid h
  replace g := Lib.hid g
  replace ha := Lib.hid ha
  replace hb := Lib.hid hb
  replace hl1 := Lib.hid hl1
  replace hl2 := Lib.hid hl2
  replace hlong := Lib.hid hlong
  clear a3 b3
  go_enter Tryz.func4, Tryz.ntmps4
  go_upto_region 1 with fail
  generalize ((w.alloc (.cells cs.toArray 28)).alloc (.cells os.toArray 28)).alloc (.cells ics.toArray 33) = W0 at hLC ⊢
  go_upto_region 3 with (go_at_call 5; (with_reducible refine (hLv.out _ hLC.bl).mono ?_); rintro e w1 ⟨rfl, hb1⟩; have hL := Lib.hid (hLC.keep hb1); clear hb1 hLC hLv)
  go_upto_region 5 with (first | (refine wpList_load_midG 28 _ rfl (by rfl) w.heap.size 0 rfl cs _ hL.out.r0 huT rfl hsc.out ?_) | (refine wpList_load_midG 28 _ rfl (by rfl) (w.heap.size + 1) 0 rfl os _ hL.out.r1 huT rfl hso.out ?_) | (go_at_call 14; (with_reducible refine (hLg.out _ hL.out.ts).mono ?_); rintro e w2 ⟨rfl, hb2⟩; replace hL := Lib.hid (hL.out.keep hb2); clear hb2 hLg) | (go_at_call 14; (with_reducible refine (hLo.out _ hL.out.ot).mono ?_); rintro e w3 ⟨rfl, hb3⟩; replace hL := Lib.hid (hL.out.keep hb3); clear hb3 hLo))
  clear d3 d4
  go_cut [13, 14, 15] (fun a b c wx => ∃ X Y ds va vd vw, a = .pointer (some ⟨X, 0, none⟩) ∧ b = .pointer (some ⟨Y, 0, none⟩) ∧ c = .int .i64 E ∧ TY w wx cs os ics T O X Y ds U va vd vw da dd dw)
  case first =>
    refine wp_region_held_drew (S := fun W => LC w W cs os ics T O) (by kernel_rfl) (hL.out.keep (drew_belowC _)) (fun hHeld => ?_)
    refine wpAnyH_take (i := 0) rfl (by kernel_rfl) (by kernel_rfl) (by kernel_rfl) (fun _ _ _ h => h) (yieldsIf_load_mid (by rfl) _ _ rfl w.heap.size 0 rfl cs _ (fun W hS => hS.r0) huT rfl hsc.out) hHeld ?_
    try simp only [Act.put, List.getElem_toArray, List.getElem_cons_zero, List.setIfInBounds_toArray, List.set_cons_zero, List.set_cons_succ]
    refine wpAnyH_take (i := 2) rfl (by kernel_rfl) (by kernel_rfl) (by kernel_rfl) (fun _ _ _ h => h) (yieldsIf_load_mid (by rfl) _ _ rfl (w.heap.size + 2) 0 rfl ics _ (fun W hS => hS.ri) huI rfl hsi.out) hHeld ?_
    try simp only [Act.put, List.getElem_toArray, List.getElem_cons_succ, List.getElem_cons_zero, List.setIfInBounds_toArray, List.set_cons_zero, List.set_cons_succ]
    refine wpAnyH_take (i := 3) (v := .int .i64 ev) rfl (by kernel_rfl) (by kernel_rfl) (by kernel_rfl) (fun _ _ _ h => h) (Or.inl ⟨by rfl, fun W _ => by kernel_rfl⟩) hHeld ?_
    try simp only [Act.put, List.getElem_toArray, List.getElem_cons_succ, List.getElem_cons_zero, List.setIfInBounds_toArray, List.set_cons_zero, List.set_cons_succ]
    generalize World.drew _ = W1 at hHeld ⊢
    refine wpAnyH_ready (rs := [1, 9, 10]) (by kernel_rfl) (by simp) ?_
    refine AllReadyH.cons rfl (fun K hK2 => ?_) ?_
    · as_aux_lemma =>
        rw [if_pos (by rfl)]
        simp only [List.getElem_toArray, List.getElem_cons_succ, List.getElem_cons_zero]
        go_wp2_with (go_at_call 15; (with_reducible refine (hOw.out _ hHeld).mono ?_); rintro e W2 ⟨c1, rfl, hT1, hb⟩)
        refine hK2.out _ _ (hHeld.keep hb) (fun hHeld2 => ?_)
        clear hK2 K hHeld
        have hHeld := hHeld2
        clear hHeld2
        try simp only [Act.put, List.getElem_toArray, List.getElem_cons_succ, List.getElem_cons_zero, List.setIfInBounds_toArray, List.set_cons_zero, List.set_cons_succ]
        clear hb
        refine wpAnyH_ready (rs := [4, 9, 10]) (by kernel_rfl) (by simp) ?_
        refine AllReadyH.cons rfl (fun K hK2 => ?_) ?_
        · as_aux_lemma =>
            rw [if_pos (by rfl)]
            simp only [List.getElem_toArray, List.getElem_cons_succ, List.getElem_cons_zero]
            have hlo : w.heap.size + 2 < W2.heap.size := hHeld.lt
            go_wp2_with (go_at_call 9; (with_reducible refine (hSt.out _ _ _ hT1 hHeld.bl).mono ?_); rintro e W3 ⟨ds, va, vd, vw, rfl, hTs, has, hds, hws, hb⟩)
            obtain ⟨hi, hhe⟩ : ∃ n, n = W3.heap.size := ⟨_, rfl⟩
            have hSR : SR W3 W2.heap.size hi ds U va vd vw da dd dw := by rw [hhe]; exact ⟨hTs.win, has.win, hds.win, hws.win⟩
            have hhi : hi ≤ W3.heap.size := Nat.le_of_eq hhe
            clear hhe
            replace hT1 := hT1.below hb
            refine hK2.out _ _ (hHeld.keep hb) (fun hHeld2 => ?_)
            clear hK2 K hHeld
            have hHeld := hHeld2
            clear hHeld2
            try simp only [Act.put, List.getElem_toArray, List.getElem_cons_succ, List.getElem_cons_zero, List.setIfInBounds_toArray, List.set_cons_zero, List.set_cons_succ]
            clear hb hTs has hds hws hT1
            refine wpAnyH_take (i := 5) (v := .tuple #[.agg ds.toArray, .agg #[va, vd, vw], .int .i64 E]) rfl (by kernel_rfl) (by kernel_rfl) (by kernel_rfl) (fun _ _ _ h => h) (Or.inl ⟨by rfl, fun W _ => by kernel_rfl⟩) hHeld ?_
            try simp only [Act.put, List.getElem_toArray, List.getElem_cons_succ, List.getElem_cons_zero, List.setIfInBounds_toArray, List.set_cons_zero, List.set_cons_succ]
            refine wpAnyH_take (i := 6) (v := .agg ds.toArray) rfl (by kernel_rfl) (by kernel_rfl) (by kernel_rfl) (fun _ _ _ h => h) (Or.inl ⟨by rfl, fun W _ => by kernel_rfl⟩) hHeld ?_
            try simp only [Act.put, List.getElem_toArray, List.getElem_cons_succ, List.getElem_cons_zero, List.setIfInBounds_toArray, List.set_cons_zero, List.set_cons_succ]
            refine wpAnyH_take (i := 7) (v := .agg #[va, vd, vw]) rfl (by kernel_rfl) (by kernel_rfl) (by kernel_rfl) (fun _ _ _ h => h) (Or.inl ⟨by rfl, fun W _ => by kernel_rfl⟩) hHeld ?_
            try simp only [Act.put, List.getElem_toArray, List.getElem_cons_succ, List.getElem_cons_zero, List.setIfInBounds_toArray, List.set_cons_zero, List.set_cons_succ]
            refine wpAnyH_take (i := 8) (v := .int .i64 E) rfl (by kernel_rfl) (by kernel_rfl) (by kernel_rfl) (fun _ _ _ h => h) (Or.inl ⟨by rfl, fun W _ => by kernel_rfl⟩) hHeld ?_
            try simp only [Act.put, List.getElem_toArray, List.getElem_cons_succ, List.getElem_cons_zero, List.setIfInBounds_toArray, List.set_cons_zero, List.set_cons_succ]
            refine wpAnyH_ready (rs := [9, 10]) (by kernel_rfl) (by simp) ?_
            refine AllReadyH.cons rfl (fun K hK2 => ?_) ?_
            · as_aux_lemma =>
                rw [if_pos (by rfl)]
                simp only [List.getElem_toArray, List.getElem_cons_succ, List.getElem_cons_zero]
                obtain ⟨-, htX, hb, hsz⟩ := new_block W3 #[.slice none 0 0, .slice none 0 0, .slice none 0 0, .slice none 0 0, .slice none 0 0, .slice none 0 0, .slice none 0 0, .slice none 0 0, .slice none 0 0, .slice none 0 0, .slice none 0 0, .slice none 0 0, .slice none 0 0, .slice none 0 0, .slice none 0 0, .slice none 0 0, .slice none 0 0, .slice none 0 0, .slice none 0 0, .slice none 0 0, .slice none 0 0, .slice none 0 0, .slice none 0 0, .slice none 0 0, .slice none 0 0, .slice none 0 0, .slice none 0 0, .slice none 0 0, .slice none 0 0, .slice none 0 0, .slice none 0 0, .slice none 0 0, .slice none 0 0] 28
                have hX1 := hHeld.lt
                have nX : W3.heap.size < W2.heap.size ∨ hi ≤ W3.heap.size := .inr hhi
                replace hSR := hSR.keep hb
                replace hhi := Nat.le_trans hhi hb.size
                have hlX : W3.heap.size < (W3.alloc (.cells #[.slice none 0 0, .slice none 0 0, .slice none 0 0, .slice none 0 0, .slice none 0 0, .slice none 0 0, .slice none 0 0, .slice none 0 0, .slice none 0 0, .slice none 0 0, .slice none 0 0, .slice none 0 0, .slice none 0 0, .slice none 0 0, .slice none 0 0, .slice none 0 0, .slice none 0 0, .slice none 0 0, .slice none 0 0, .slice none 0 0, .slice none 0 0, .slice none 0 0, .slice none 0 0, .slice none 0 0, .slice none 0 0, .slice none 0 0, .slice none 0 0, .slice none 0 0, .slice none 0 0, .slice none 0 0, .slice none 0 0, .slice none 0 0, .slice none 0 0] 28)).heap.size := by rw [hsz]; exact Nat.lt_succ_self _
                go_simp
                refine hK2.out _ _ (hHeld.keep hb) (fun hHeld2 => ?_)
                clear hK2 K hHeld
                have hHeld := hHeld2
                clear hHeld2
                try simp only [Act.put, List.getElem_toArray, List.getElem_cons_succ, List.getElem_cons_zero, List.setIfInBounds_toArray, List.set_cons_zero, List.set_cons_succ]
                clear hb hsz
                generalize W3.alloc (.cells #[.slice none 0 0, .slice none 0 0, .slice none 0 0, .slice none 0 0, .slice none 0 0, .slice none 0 0, .slice none 0 0, .slice none 0 0, .slice none 0 0, .slice none 0 0, .slice none 0 0, .slice none 0 0, .slice none 0 0, .slice none 0 0, .slice none 0 0, .slice none 0 0, .slice none 0 0, .slice none 0 0, .slice none 0 0, .slice none 0 0, .slice none 0 0, .slice none 0 0, .slice none 0 0, .slice none 0 0, .slice none 0 0, .slice none 0 0, .slice none 0 0, .slice none 0 0, .slice none 0 0, .slice none 0 0, .slice none 0 0, .slice none 0 0, .slice none 0 0] 28) = W4 at hHeld htX hlX hSR hhi ⊢
                generalize hXe : W3.heap.size = X at htX hX1 hlX nX ⊢
                clear hXe
                refine wpAnyH_ready (rs := [10]) (by kernel_rfl) (by simp) (AllReadyH.cons rfl (fun K hK2 => ?_) AllReadyH.nil)
                rw [if_pos (by rfl)]
                simp only [List.getElem_toArray, List.getElem_cons_succ, List.getElem_cons_zero]
                obtain ⟨-, htY, hb, hsz⟩ := new_block W4 #[.slice none 0 0, .slice none 0 0, .slice none 0 0] 35
                have hY1 := hHeld.lt
                have hne : X ≠ W4.heap.size := by omega
                have nY : W4.heap.size < W2.heap.size ∨ hi ≤ W4.heap.size := .inr hhi
                replace htX := tn_there htX hlX hb
                replace hlX := Nat.lt_of_lt_of_le hlX hb.size
                replace hSR := hSR.keep hb
                replace hhi := Nat.le_trans hhi hb.size
                have hlY : W4.heap.size < (W4.alloc (.cells #[.slice none 0 0, .slice none 0 0, .slice none 0 0] 35)).heap.size := by rw [hsz]; exact Nat.lt_succ_self _
                go_simp
                refine hK2.out _ _ (hHeld.keep hb) (fun hHeld2 => ?_)
                clear hK2 K hHeld
                have hHeld := hHeld2
                clear hHeld2
                try simp only [Act.put, List.getElem_toArray, List.getElem_cons_succ, List.getElem_cons_zero, List.setIfInBounds_toArray, List.set_cons_zero, List.set_cons_succ]
                clear hb hsz
                generalize W4.alloc (.cells #[.slice none 0 0, .slice none 0 0, .slice none 0 0] 35) = W5 at hHeld htY hlY htX hlX hSR hhi ⊢
                generalize hYe : W4.heap.size = Y at htY hY1 hlY hne nY ⊢
                clear hYe
                have hTZ := hSR.fullC hHeld htX htY hne hX1 hY1 hlX hlY nX nY
                have hlcd := Lib.hid hSR.ts.lc
                have hod : Hid (ds.toArray.all (·.oneCell') = true) := Lib.hid (all_oneCell_toArray hSR.ts.one)
                have hpd : Hid ((#[va, vd, vw] : Array Value).all (·.oneCell') = true) := Lib.hid (all_oneCell_toArray (three_one hSR.ra.one hSR.rv.one hSR.rx.one))
                have hsd : Hid ((Tryz.prog.info? 28).map (·.size) = some ds.toArray.size) := Lib.hid (by rw [List.size_toArray, hSR.ts.lc]; exact size_taint)
                clear hSR hhi nX nY hne
                refine wpAnyH_ready (rs := [11]) (by kernel_rfl) (by simp) (AllReadyH.cons rfl (fun K hK2 => ?_) AllReadyH.nil)
                rw [if_pos (by rfl)]
                simp only [List.getElem_toArray, List.getElem_cons_succ, List.getElem_cons_zero]
                refine wp_store_mid 28 _ _ rfl X 0 ds.toArray rfl rfl (fun j hj => htX j (by rw [List.size_toArray, hlcd.out] at hj; exact hj)) hsd.out hod.out ?_
                change K _ (World.setCells _ X 0 ds)
                refine hK2.out _ _ (hHeld.far hX1 ds) (fun hHeld2 => ?_)
                clear hK2 K hHeld
                have hHeld := hHeld2
                clear hHeld2
                try simp only [Act.put, List.getElem_toArray, List.getElem_cons_succ, List.getElem_cons_zero, List.setIfInBounds_toArray, List.set_cons_zero, List.set_cons_succ]
                refine wpAnyH_ready (rs := [12]) (by kernel_rfl) (by simp) (AllReadyH.cons rfl (fun K hK2 => ?_) AllReadyH.nil)
                rw [if_pos (by rfl)]
                simp only [List.getElem_toArray, List.getElem_cons_succ, List.getElem_cons_zero]
                refine wp_store_mid 35 _ _ rfl Y 0 #[va, vd, vw] rfl rfl (World.there_setCells htY X 0 ds) size_deps hpd.out ?_
                change K _ (World.setCells (World.setCells _ X 0 ds) Y 0 [va, vd, vw])
                refine hK2.out _ _ (hHeld.far hY1 _) (fun hHeld2 => ?_)
                clear hK2 K hHeld
                have hHeld := hHeld2
                clear hHeld2
                try simp only [Act.put, List.getElem_toArray, List.getElem_cons_succ, List.getElem_cons_zero, List.setIfInBounds_toArray, List.set_cons_zero, List.set_cons_succ]
                refine wpAnyH_take (i := 13) (v := .int .i64 E) rfl (by kernel_rfl) (by kernel_rfl) (by kernel_rfl) (fun _ _ _ h => h) (Or.inl ⟨by rfl, fun W _ => by kernel_rfl⟩) hHeld ?_
                try simp only [Act.put, List.getElem_toArray, List.getElem_cons_succ, List.getElem_cons_zero, List.setIfInBounds_toArray, List.set_cons_zero, List.set_cons_succ]
                refine wpAnyH_done (by kernel_rfl) ?_ _
                go_wp2_with fail
                go_meet
                exact ⟨X, Y, ds, va, vd, vw, rfl, rfl, rfl, hTZ⟩
            refine AllReadyH.cons rfl (fun K hK2 => ?_) ?_
            · as_aux_lemma =>
                rw [if_pos (by rfl)]
                simp only [List.getElem_toArray, List.getElem_cons_succ, List.getElem_cons_zero]
                obtain ⟨-, htY, hb, hsz⟩ := new_block W3 #[.slice none 0 0, .slice none 0 0, .slice none 0 0] 35
                have hY1 := hHeld.lt
                have nY : W3.heap.size < W2.heap.size ∨ hi ≤ W3.heap.size := .inr hhi
                replace hSR := hSR.keep hb
                replace hhi := Nat.le_trans hhi hb.size
                have hlY : W3.heap.size < (W3.alloc (.cells #[.slice none 0 0, .slice none 0 0, .slice none 0 0] 35)).heap.size := by rw [hsz]; exact Nat.lt_succ_self _
                go_simp
                refine hK2.out _ _ (hHeld.keep hb) (fun hHeld2 => ?_)
                clear hK2 K hHeld
                have hHeld := hHeld2
                clear hHeld2
                try simp only [Act.put, List.getElem_toArray, List.getElem_cons_succ, List.getElem_cons_zero, List.setIfInBounds_toArray, List.set_cons_zero, List.set_cons_succ]
                clear hb hsz
                generalize W3.alloc (.cells #[.slice none 0 0, .slice none 0 0, .slice none 0 0] 35) = W4 at hHeld htY hlY hSR hhi ⊢
                generalize hYe : W3.heap.size = Y at htY hY1 hlY nY ⊢
                clear hYe
                refine wpAnyH_ready (rs := [9]) (by kernel_rfl) (by simp) (AllReadyH.cons rfl (fun K hK2 => ?_) AllReadyH.nil)
                rw [if_pos (by rfl)]
                simp only [List.getElem_toArray, List.getElem_cons_succ, List.getElem_cons_zero]
                obtain ⟨-, htX, hb, hsz⟩ := new_block W4 #[.slice none 0 0, .slice none 0 0, .slice none 0 0, .slice none 0 0, .slice none 0 0, .slice none 0 0, .slice none 0 0, .slice none 0 0, .slice none 0 0, .slice none 0 0, .slice none 0 0, .slice none 0 0, .slice none 0 0, .slice none 0 0, .slice none 0 0, .slice none 0 0, .slice none 0 0, .slice none 0 0, .slice none 0 0, .slice none 0 0, .slice none 0 0, .slice none 0 0, .slice none 0 0, .slice none 0 0, .slice none 0 0, .slice none 0 0, .slice none 0 0, .slice none 0 0, .slice none 0 0, .slice none 0 0, .slice none 0 0, .slice none 0 0, .slice none 0 0] 28
                have hX1 := hHeld.lt
                have hne : W4.heap.size ≠ Y := by omega
                have nX : W4.heap.size < W2.heap.size ∨ hi ≤ W4.heap.size := .inr hhi
                replace htY := tn_there htY hlY hb
                replace hlY := Nat.lt_of_lt_of_le hlY hb.size
                replace hSR := hSR.keep hb
                replace hhi := Nat.le_trans hhi hb.size
                have hlX : W4.heap.size < (W4.alloc (.cells #[.slice none 0 0, .slice none 0 0, .slice none 0 0, .slice none 0 0, .slice none 0 0, .slice none 0 0, .slice none 0 0, .slice none 0 0, .slice none 0 0, .slice none 0 0, .slice none 0 0, .slice none 0 0, .slice none 0 0, .slice none 0 0, .slice none 0 0, .slice none 0 0, .slice none 0 0, .slice none 0 0, .slice none 0 0, .slice none 0 0, .slice none 0 0, .slice none 0 0, .slice none 0 0, .slice none 0 0, .slice none 0 0, .slice none 0 0, .slice none 0 0, .slice none 0 0, .slice none 0 0, .slice none 0 0, .slice none 0 0, .slice none 0 0, .slice none 0 0] 28)).heap.size := by rw [hsz]; exact Nat.lt_succ_self _
                go_simp
                refine hK2.out _ _ (hHeld.keep hb) (fun hHeld2 => ?_)
                clear hK2 K hHeld
                have hHeld := hHeld2
                clear hHeld2
                try simp only [Act.put, List.getElem_toArray, List.getElem_cons_succ, List.getElem_cons_zero, List.setIfInBounds_toArray, List.set_cons_zero, List.set_cons_succ]
                clear hb hsz
                generalize W4.alloc (.cells #[.slice none 0 0, .slice none 0 0, .slice none 0 0, .slice none 0 0, .slice none 0 0, .slice none 0 0, .slice none 0 0, .slice none 0 0, .slice none 0 0, .slice none 0 0, .slice none 0 0, .slice none 0 0, .slice none 0 0, .slice none 0 0, .slice none 0 0, .slice none 0 0, .slice none 0 0, .slice none 0 0, .slice none 0 0, .slice none 0 0, .slice none 0 0, .slice none 0 0, .slice none 0 0, .slice none 0 0, .slice none 0 0, .slice none 0 0, .slice none 0 0, .slice none 0 0, .slice none 0 0, .slice none 0 0, .slice none 0 0, .slice none 0 0, .slice none 0 0] 28) = W5 at hHeld htX hlX htY hlY hSR hhi ⊢
                generalize hXe : W4.heap.size = X at htX hX1 hlX hne nX ⊢
                clear hXe
                have hTZ := hSR.fullC hHeld htX htY hne hX1 hY1 hlX hlY nX nY
                have hlcd := Lib.hid hSR.ts.lc
                have hod : Hid (ds.toArray.all (·.oneCell') = true) := Lib.hid (all_oneCell_toArray hSR.ts.one)
                have hpd : Hid ((#[va, vd, vw] : Array Value).all (·.oneCell') = true) := Lib.hid (all_oneCell_toArray (three_one hSR.ra.one hSR.rv.one hSR.rx.one))
                have hsd : Hid ((Tryz.prog.info? 28).map (·.size) = some ds.toArray.size) := Lib.hid (by rw [List.size_toArray, hSR.ts.lc]; exact size_taint)
                clear hSR hhi nX nY hne
                refine wpAnyH_ready (rs := [11]) (by kernel_rfl) (by simp) (AllReadyH.cons rfl (fun K hK2 => ?_) AllReadyH.nil)
                rw [if_pos (by rfl)]
                simp only [List.getElem_toArray, List.getElem_cons_succ, List.getElem_cons_zero]
                refine wp_store_mid 28 _ _ rfl X 0 ds.toArray rfl rfl (fun j hj => htX j (by rw [List.size_toArray, hlcd.out] at hj; exact hj)) hsd.out hod.out ?_
                change K _ (World.setCells _ X 0 ds)
                refine hK2.out _ _ (hHeld.far hX1 ds) (fun hHeld2 => ?_)
                clear hK2 K hHeld
                have hHeld := hHeld2
                clear hHeld2
                try simp only [Act.put, List.getElem_toArray, List.getElem_cons_succ, List.getElem_cons_zero, List.setIfInBounds_toArray, List.set_cons_zero, List.set_cons_succ]
                refine wpAnyH_ready (rs := [12]) (by kernel_rfl) (by simp) (AllReadyH.cons rfl (fun K hK2 => ?_) AllReadyH.nil)
                rw [if_pos (by rfl)]
                simp only [List.getElem_toArray, List.getElem_cons_succ, List.getElem_cons_zero]
                refine wp_store_mid 35 _ _ rfl Y 0 #[va, vd, vw] rfl rfl (World.there_setCells htY X 0 ds) size_deps hpd.out ?_
                change K _ (World.setCells (World.setCells _ X 0 ds) Y 0 [va, vd, vw])
                refine hK2.out _ _ (hHeld.far hY1 _) (fun hHeld2 => ?_)
                clear hK2 K hHeld
                have hHeld := hHeld2
                clear hHeld2
                try simp only [Act.put, List.getElem_toArray, List.getElem_cons_succ, List.getElem_cons_zero, List.setIfInBounds_toArray, List.set_cons_zero, List.set_cons_succ]
                refine wpAnyH_take (i := 13) (v := .int .i64 E) rfl (by kernel_rfl) (by kernel_rfl) (by kernel_rfl) (fun _ _ _ h => h) (Or.inl ⟨by rfl, fun W _ => by kernel_rfl⟩) hHeld ?_
                try simp only [Act.put, List.getElem_toArray, List.getElem_cons_succ, List.getElem_cons_zero, List.setIfInBounds_toArray, List.set_cons_zero, List.set_cons_succ]
                refine wpAnyH_done (by kernel_rfl) ?_ _
                go_wp2_with fail
                go_meet
                exact ⟨X, Y, ds, va, vd, vw, rfl, rfl, rfl, hTZ⟩
            exact AllReadyH.nil
        refine AllReadyH.cons rfl (fun K hK2 => ?_) ?_
        · as_aux_lemma =>
            rw [if_pos (by rfl)]
            simp only [List.getElem_toArray, List.getElem_cons_succ, List.getElem_cons_zero]
            obtain ⟨-, htX, hb, hsz⟩ := new_block W2 #[.slice none 0 0, .slice none 0 0, .slice none 0 0, .slice none 0 0, .slice none 0 0, .slice none 0 0, .slice none 0 0, .slice none 0 0, .slice none 0 0, .slice none 0 0, .slice none 0 0, .slice none 0 0, .slice none 0 0, .slice none 0 0, .slice none 0 0, .slice none 0 0, .slice none 0 0, .slice none 0 0, .slice none 0 0, .slice none 0 0, .slice none 0 0, .slice none 0 0, .slice none 0 0, .slice none 0 0, .slice none 0 0, .slice none 0 0, .slice none 0 0, .slice none 0 0, .slice none 0 0, .slice none 0 0, .slice none 0 0, .slice none 0 0, .slice none 0 0] 28
            have hX1 := hHeld.lt
            replace hT1 := hT1.below hb
            have hlX : W2.heap.size < (W2.alloc (.cells #[.slice none 0 0, .slice none 0 0, .slice none 0 0, .slice none 0 0, .slice none 0 0, .slice none 0 0, .slice none 0 0, .slice none 0 0, .slice none 0 0, .slice none 0 0, .slice none 0 0, .slice none 0 0, .slice none 0 0, .slice none 0 0, .slice none 0 0, .slice none 0 0, .slice none 0 0, .slice none 0 0, .slice none 0 0, .slice none 0 0, .slice none 0 0, .slice none 0 0, .slice none 0 0, .slice none 0 0, .slice none 0 0, .slice none 0 0, .slice none 0 0, .slice none 0 0, .slice none 0 0, .slice none 0 0, .slice none 0 0, .slice none 0 0, .slice none 0 0] 28)).heap.size := by rw [hsz]; exact Nat.lt_succ_self _
            go_simp
            refine hK2.out _ _ (hHeld.keep hb) (fun hHeld2 => ?_)
            clear hK2 K hHeld
            have hHeld := hHeld2
            clear hHeld2
            try simp only [Act.put, List.getElem_toArray, List.getElem_cons_succ, List.getElem_cons_zero, List.setIfInBounds_toArray, List.set_cons_zero, List.set_cons_succ]
            clear hb hsz
            generalize W2.alloc (.cells #[.slice none 0 0, .slice none 0 0, .slice none 0 0, .slice none 0 0, .slice none 0 0, .slice none 0 0, .slice none 0 0, .slice none 0 0, .slice none 0 0, .slice none 0 0, .slice none 0 0, .slice none 0 0, .slice none 0 0, .slice none 0 0, .slice none 0 0, .slice none 0 0, .slice none 0 0, .slice none 0 0, .slice none 0 0, .slice none 0 0, .slice none 0 0, .slice none 0 0, .slice none 0 0, .slice none 0 0, .slice none 0 0, .slice none 0 0, .slice none 0 0, .slice none 0 0, .slice none 0 0, .slice none 0 0, .slice none 0 0, .slice none 0 0, .slice none 0 0] 28) = W3 at hHeld htX hlX hT1 ⊢
            generalize hXe : W2.heap.size = X at htX hX1 hlX ⊢
            clear hXe
            refine wpAnyH_ready (rs := [4, 10]) (by kernel_rfl) (by simp) ?_
            refine AllReadyH.cons rfl (fun K hK2 => ?_) ?_
            · as_aux_lemma =>
                rw [if_pos (by rfl)]
                simp only [List.getElem_toArray, List.getElem_cons_succ, List.getElem_cons_zero]
                have hlo : w.heap.size + 2 < W3.heap.size := hHeld.lt
                go_wp2_with (go_at_call 9; (with_reducible refine (hSt.out _ _ _ hT1 hHeld.bl).mono ?_); rintro e W4 ⟨ds, va, vd, vw, rfl, hTs, has, hds, hws, hb⟩)
                obtain ⟨hi, hhe⟩ : ∃ n, n = W4.heap.size := ⟨_, rfl⟩
                have hSR : SR W4 W3.heap.size hi ds U va vd vw da dd dw := by rw [hhe]; exact ⟨hTs.win, has.win, hds.win, hws.win⟩
                have hhi : hi ≤ W4.heap.size := Nat.le_of_eq hhe
                clear hhe
                have nX : X < W3.heap.size ∨ hi ≤ X := .inl hlX
                replace htX := tn_there htX hlX hb
                replace hlX := Nat.lt_of_lt_of_le hlX hb.size
                replace hT1 := hT1.below hb
                refine hK2.out _ _ (hHeld.keep hb) (fun hHeld2 => ?_)
                clear hK2 K hHeld
                have hHeld := hHeld2
                clear hHeld2
                try simp only [Act.put, List.getElem_toArray, List.getElem_cons_succ, List.getElem_cons_zero, List.setIfInBounds_toArray, List.set_cons_zero, List.set_cons_succ]
                clear hb hTs has hds hws hT1
                refine wpAnyH_take (i := 5) (v := .tuple #[.agg ds.toArray, .agg #[va, vd, vw], .int .i64 E]) rfl (by kernel_rfl) (by kernel_rfl) (by kernel_rfl) (fun _ _ _ h => h) (Or.inl ⟨by rfl, fun W _ => by kernel_rfl⟩) hHeld ?_
                try simp only [Act.put, List.getElem_toArray, List.getElem_cons_succ, List.getElem_cons_zero, List.setIfInBounds_toArray, List.set_cons_zero, List.set_cons_succ]
                refine wpAnyH_take (i := 6) (v := .agg ds.toArray) rfl (by kernel_rfl) (by kernel_rfl) (by kernel_rfl) (fun _ _ _ h => h) (Or.inl ⟨by rfl, fun W _ => by kernel_rfl⟩) hHeld ?_
                try simp only [Act.put, List.getElem_toArray, List.getElem_cons_succ, List.getElem_cons_zero, List.setIfInBounds_toArray, List.set_cons_zero, List.set_cons_succ]
                refine wpAnyH_take (i := 7) (v := .agg #[va, vd, vw]) rfl (by kernel_rfl) (by kernel_rfl) (by kernel_rfl) (fun _ _ _ h => h) (Or.inl ⟨by rfl, fun W _ => by kernel_rfl⟩) hHeld ?_
                try simp only [Act.put, List.getElem_toArray, List.getElem_cons_succ, List.getElem_cons_zero, List.setIfInBounds_toArray, List.set_cons_zero, List.set_cons_succ]
                refine wpAnyH_take (i := 8) (v := .int .i64 E) rfl (by kernel_rfl) (by kernel_rfl) (by kernel_rfl) (fun _ _ _ h => h) (Or.inl ⟨by rfl, fun W _ => by kernel_rfl⟩) hHeld ?_
                try simp only [Act.put, List.getElem_toArray, List.getElem_cons_succ, List.getElem_cons_zero, List.setIfInBounds_toArray, List.set_cons_zero, List.set_cons_succ]
                refine wpAnyH_ready (rs := [10]) (by kernel_rfl) (by simp) (AllReadyH.cons rfl (fun K hK2 => ?_) AllReadyH.nil)
                rw [if_pos (by rfl)]
                simp only [List.getElem_toArray, List.getElem_cons_succ, List.getElem_cons_zero]
                obtain ⟨-, htY, hb, hsz⟩ := new_block W4 #[.slice none 0 0, .slice none 0 0, .slice none 0 0] 35
                have hY1 := hHeld.lt
                have hne : X ≠ W4.heap.size := by omega
                have nY : W4.heap.size < W3.heap.size ∨ hi ≤ W4.heap.size := .inr hhi
                replace htX := tn_there htX hlX hb
                replace hlX := Nat.lt_of_lt_of_le hlX hb.size
                replace hSR := hSR.keep hb
                replace hhi := Nat.le_trans hhi hb.size
                have hlY : W4.heap.size < (W4.alloc (.cells #[.slice none 0 0, .slice none 0 0, .slice none 0 0] 35)).heap.size := by rw [hsz]; exact Nat.lt_succ_self _
                go_simp
                refine hK2.out _ _ (hHeld.keep hb) (fun hHeld2 => ?_)
                clear hK2 K hHeld
                have hHeld := hHeld2
                clear hHeld2
                try simp only [Act.put, List.getElem_toArray, List.getElem_cons_succ, List.getElem_cons_zero, List.setIfInBounds_toArray, List.set_cons_zero, List.set_cons_succ]
                clear hb hsz
                generalize W4.alloc (.cells #[.slice none 0 0, .slice none 0 0, .slice none 0 0] 35) = W5 at hHeld htY hlY htX hlX hSR hhi ⊢
                generalize hYe : W4.heap.size = Y at htY hY1 hlY hne nY ⊢
                clear hYe
                have hTZ := hSR.fullC hHeld htX htY hne hX1 hY1 hlX hlY nX nY
                have hlcd := Lib.hid hSR.ts.lc
                have hod : Hid (ds.toArray.all (·.oneCell') = true) := Lib.hid (all_oneCell_toArray hSR.ts.one)
                have hpd : Hid ((#[va, vd, vw] : Array Value).all (·.oneCell') = true) := Lib.hid (all_oneCell_toArray (three_one hSR.ra.one hSR.rv.one hSR.rx.one))
                have hsd : Hid ((Tryz.prog.info? 28).map (·.size) = some ds.toArray.size) := Lib.hid (by rw [List.size_toArray, hSR.ts.lc]; exact size_taint)
                clear hSR hhi nX nY hne
                refine wpAnyH_ready (rs := [11]) (by kernel_rfl) (by simp) (AllReadyH.cons rfl (fun K hK2 => ?_) AllReadyH.nil)
                rw [if_pos (by rfl)]
                simp only [List.getElem_toArray, List.getElem_cons_succ, List.getElem_cons_zero]
                refine wp_store_mid 28 _ _ rfl X 0 ds.toArray rfl rfl (fun j hj => htX j (by rw [List.size_toArray, hlcd.out] at hj; exact hj)) hsd.out hod.out ?_
                change K _ (World.setCells _ X 0 ds)
                refine hK2.out _ _ (hHeld.far hX1 ds) (fun hHeld2 => ?_)
                clear hK2 K hHeld
                have hHeld := hHeld2
                clear hHeld2
                try simp only [Act.put, List.getElem_toArray, List.getElem_cons_succ, List.getElem_cons_zero, List.setIfInBounds_toArray, List.set_cons_zero, List.set_cons_succ]
                refine wpAnyH_ready (rs := [12]) (by kernel_rfl) (by simp) (AllReadyH.cons rfl (fun K hK2 => ?_) AllReadyH.nil)
                rw [if_pos (by rfl)]
                simp only [List.getElem_toArray, List.getElem_cons_succ, List.getElem_cons_zero]
                refine wp_store_mid 35 _ _ rfl Y 0 #[va, vd, vw] rfl rfl (World.there_setCells htY X 0 ds) size_deps hpd.out ?_
                change K _ (World.setCells (World.setCells _ X 0 ds) Y 0 [va, vd, vw])
                refine hK2.out _ _ (hHeld.far hY1 _) (fun hHeld2 => ?_)
                clear hK2 K hHeld
                have hHeld := hHeld2
                clear hHeld2
                try simp only [Act.put, List.getElem_toArray, List.getElem_cons_succ, List.getElem_cons_zero, List.setIfInBounds_toArray, List.set_cons_zero, List.set_cons_succ]
                refine wpAnyH_take (i := 13) (v := .int .i64 E) rfl (by kernel_rfl) (by kernel_rfl) (by kernel_rfl) (fun _ _ _ h => h) (Or.inl ⟨by rfl, fun W _ => by kernel_rfl⟩) hHeld ?_
                try simp only [Act.put, List.getElem_toArray, List.getElem_cons_succ, List.getElem_cons_zero, List.setIfInBounds_toArray, List.set_cons_zero, List.set_cons_succ]
                refine wpAnyH_done (by kernel_rfl) ?_ _
                go_wp2_with fail
                go_meet
                exact ⟨X, Y, ds, va, vd, vw, rfl, rfl, rfl, hTZ⟩
            refine AllReadyH.cons rfl (fun K hK2 => ?_) ?_
            · as_aux_lemma =>
                rw [if_pos (by rfl)]
                simp only [List.getElem_toArray, List.getElem_cons_succ, List.getElem_cons_zero]
                obtain ⟨-, htY, hb, hsz⟩ := new_block W3 #[.slice none 0 0, .slice none 0 0, .slice none 0 0] 35
                have hY1 := hHeld.lt
                have hne : X ≠ W3.heap.size := by omega
                replace htX := tn_there htX hlX hb
                replace hlX := Nat.lt_of_lt_of_le hlX hb.size
                replace hT1 := hT1.below hb
                have hlY : W3.heap.size < (W3.alloc (.cells #[.slice none 0 0, .slice none 0 0, .slice none 0 0] 35)).heap.size := by rw [hsz]; exact Nat.lt_succ_self _
                go_simp
                refine hK2.out _ _ (hHeld.keep hb) (fun hHeld2 => ?_)
                clear hK2 K hHeld
                have hHeld := hHeld2
                clear hHeld2
                try simp only [Act.put, List.getElem_toArray, List.getElem_cons_succ, List.getElem_cons_zero, List.setIfInBounds_toArray, List.set_cons_zero, List.set_cons_succ]
                clear hb hsz
                generalize W3.alloc (.cells #[.slice none 0 0, .slice none 0 0, .slice none 0 0] 35) = W4 at hHeld htY hlY htX hlX hT1 ⊢
                generalize hYe : W3.heap.size = Y at htY hY1 hlY hne ⊢
                clear hYe
                refine wpAnyH_ready (rs := [4]) (by kernel_rfl) (by simp) (AllReadyH.cons rfl (fun K hK2 => ?_) AllReadyH.nil)
                rw [if_pos (by rfl)]
                simp only [List.getElem_toArray, List.getElem_cons_succ, List.getElem_cons_zero]
                have hlo : w.heap.size + 2 < W4.heap.size := hHeld.lt
                go_wp2_with (go_at_call 9; (with_reducible refine (hSt.out _ _ _ hT1 hHeld.bl).mono ?_); rintro e W5 ⟨ds, va, vd, vw, rfl, hTs, has, hds, hws, hb⟩)
                obtain ⟨hi, hhe⟩ : ∃ n, n = W5.heap.size := ⟨_, rfl⟩
                have hSR : SR W5 W4.heap.size hi ds U va vd vw da dd dw := by rw [hhe]; exact ⟨hTs.win, has.win, hds.win, hws.win⟩
                have hhi : hi ≤ W5.heap.size := Nat.le_of_eq hhe
                clear hhe
                have nX : X < W4.heap.size ∨ hi ≤ X := .inl hlX
                have nY : Y < W4.heap.size ∨ hi ≤ Y := .inl hlY
                replace htX := tn_there htX hlX hb
                replace hlX := Nat.lt_of_lt_of_le hlX hb.size
                replace htY := tn_there htY hlY hb
                replace hlY := Nat.lt_of_lt_of_le hlY hb.size
                replace hT1 := hT1.below hb
                refine hK2.out _ _ (hHeld.keep hb) (fun hHeld2 => ?_)
                clear hK2 K hHeld
                have hHeld := hHeld2
                clear hHeld2
                try simp only [Act.put, List.getElem_toArray, List.getElem_cons_succ, List.getElem_cons_zero, List.setIfInBounds_toArray, List.set_cons_zero, List.set_cons_succ]
                clear hb hTs has hds hws hT1
                refine wpAnyH_take (i := 5) (v := .tuple #[.agg ds.toArray, .agg #[va, vd, vw], .int .i64 E]) rfl (by kernel_rfl) (by kernel_rfl) (by kernel_rfl) (fun _ _ _ h => h) (Or.inl ⟨by rfl, fun W _ => by kernel_rfl⟩) hHeld ?_
                try simp only [Act.put, List.getElem_toArray, List.getElem_cons_succ, List.getElem_cons_zero, List.setIfInBounds_toArray, List.set_cons_zero, List.set_cons_succ]
                refine wpAnyH_take (i := 6) (v := .agg ds.toArray) rfl (by kernel_rfl) (by kernel_rfl) (by kernel_rfl) (fun _ _ _ h => h) (Or.inl ⟨by rfl, fun W _ => by kernel_rfl⟩) hHeld ?_
                try simp only [Act.put, List.getElem_toArray, List.getElem_cons_succ, List.getElem_cons_zero, List.setIfInBounds_toArray, List.set_cons_zero, List.set_cons_succ]
                refine wpAnyH_take (i := 7) (v := .agg #[va, vd, vw]) rfl (by kernel_rfl) (by kernel_rfl) (by kernel_rfl) (fun _ _ _ h => h) (Or.inl ⟨by rfl, fun W _ => by kernel_rfl⟩) hHeld ?_
                try simp only [Act.put, List.getElem_toArray, List.getElem_cons_succ, List.getElem_cons_zero, List.setIfInBounds_toArray, List.set_cons_zero, List.set_cons_succ]
                refine wpAnyH_take (i := 8) (v := .int .i64 E) rfl (by kernel_rfl) (by kernel_rfl) (by kernel_rfl) (fun _ _ _ h => h) (Or.inl ⟨by rfl, fun W _ => by kernel_rfl⟩) hHeld ?_
                try simp only [Act.put, List.getElem_toArray, List.getElem_cons_succ, List.getElem_cons_zero, List.setIfInBounds_toArray, List.set_cons_zero, List.set_cons_succ]
                have hTZ := hSR.fullC hHeld htX htY hne hX1 hY1 hlX hlY nX nY
                have hlcd := Lib.hid hSR.ts.lc
                have hod : Hid (ds.toArray.all (·.oneCell') = true) := Lib.hid (all_oneCell_toArray hSR.ts.one)
                have hpd : Hid ((#[va, vd, vw] : Array Value).all (·.oneCell') = true) := Lib.hid (all_oneCell_toArray (three_one hSR.ra.one hSR.rv.one hSR.rx.one))
                have hsd : Hid ((Tryz.prog.info? 28).map (·.size) = some ds.toArray.size) := Lib.hid (by rw [List.size_toArray, hSR.ts.lc]; exact size_taint)
                clear hSR hhi nX nY hne
                refine wpAnyH_ready (rs := [11]) (by kernel_rfl) (by simp) (AllReadyH.cons rfl (fun K hK2 => ?_) AllReadyH.nil)
                rw [if_pos (by rfl)]
                simp only [List.getElem_toArray, List.getElem_cons_succ, List.getElem_cons_zero]
                refine wp_store_mid 28 _ _ rfl X 0 ds.toArray rfl rfl (fun j hj => htX j (by rw [List.size_toArray, hlcd.out] at hj; exact hj)) hsd.out hod.out ?_
                change K _ (World.setCells _ X 0 ds)
                refine hK2.out _ _ (hHeld.far hX1 ds) (fun hHeld2 => ?_)
                clear hK2 K hHeld
                have hHeld := hHeld2
                clear hHeld2
                try simp only [Act.put, List.getElem_toArray, List.getElem_cons_succ, List.getElem_cons_zero, List.setIfInBounds_toArray, List.set_cons_zero, List.set_cons_succ]
                refine wpAnyH_ready (rs := [12]) (by kernel_rfl) (by simp) (AllReadyH.cons rfl (fun K hK2 => ?_) AllReadyH.nil)
                rw [if_pos (by rfl)]
                simp only [List.getElem_toArray, List.getElem_cons_succ, List.getElem_cons_zero]
                refine wp_store_mid 35 _ _ rfl Y 0 #[va, vd, vw] rfl rfl (World.there_setCells htY X 0 ds) size_deps hpd.out ?_
                change K _ (World.setCells (World.setCells _ X 0 ds) Y 0 [va, vd, vw])
                refine hK2.out _ _ (hHeld.far hY1 _) (fun hHeld2 => ?_)
                clear hK2 K hHeld
                have hHeld := hHeld2
                clear hHeld2
                try simp only [Act.put, List.getElem_toArray, List.getElem_cons_succ, List.getElem_cons_zero, List.setIfInBounds_toArray, List.set_cons_zero, List.set_cons_succ]
                refine wpAnyH_take (i := 13) (v := .int .i64 E) rfl (by kernel_rfl) (by kernel_rfl) (by kernel_rfl) (fun _ _ _ h => h) (Or.inl ⟨by rfl, fun W _ => by kernel_rfl⟩) hHeld ?_
                try simp only [Act.put, List.getElem_toArray, List.getElem_cons_succ, List.getElem_cons_zero, List.setIfInBounds_toArray, List.set_cons_zero, List.set_cons_succ]
                refine wpAnyH_done (by kernel_rfl) ?_ _
                go_wp2_with fail
                go_meet
                exact ⟨X, Y, ds, va, vd, vw, rfl, rfl, rfl, hTZ⟩
            exact AllReadyH.nil
        refine AllReadyH.cons rfl (fun K hK2 => ?_) ?_
        · as_aux_lemma =>
            rw [if_pos (by rfl)]
            simp only [List.getElem_toArray, List.getElem_cons_succ, List.getElem_cons_zero]
            obtain ⟨-, htY, hb, hsz⟩ := new_block W2 #[.slice none 0 0, .slice none 0 0, .slice none 0 0] 35
            have hY1 := hHeld.lt
            replace hT1 := hT1.below hb
            have hlY : W2.heap.size < (W2.alloc (.cells #[.slice none 0 0, .slice none 0 0, .slice none 0 0] 35)).heap.size := by rw [hsz]; exact Nat.lt_succ_self _
            go_simp
            refine hK2.out _ _ (hHeld.keep hb) (fun hHeld2 => ?_)
            clear hK2 K hHeld
            have hHeld := hHeld2
            clear hHeld2
            try simp only [Act.put, List.getElem_toArray, List.getElem_cons_succ, List.getElem_cons_zero, List.setIfInBounds_toArray, List.set_cons_zero, List.set_cons_succ]
            clear hb hsz
            generalize W2.alloc (.cells #[.slice none 0 0, .slice none 0 0, .slice none 0 0] 35) = W3 at hHeld htY hlY hT1 ⊢
            generalize hYe : W2.heap.size = Y at htY hY1 hlY ⊢
            clear hYe
            refine wpAnyH_ready (rs := [4, 9]) (by kernel_rfl) (by simp) ?_
            refine AllReadyH.cons rfl (fun K hK2 => ?_) ?_
            · as_aux_lemma =>
                rw [if_pos (by rfl)]
                simp only [List.getElem_toArray, List.getElem_cons_succ, List.getElem_cons_zero]
                have hlo : w.heap.size + 2 < W3.heap.size := hHeld.lt
                go_wp2_with (go_at_call 9; (with_reducible refine (hSt.out _ _ _ hT1 hHeld.bl).mono ?_); rintro e W4 ⟨ds, va, vd, vw, rfl, hTs, has, hds, hws, hb⟩)
                obtain ⟨hi, hhe⟩ : ∃ n, n = W4.heap.size := ⟨_, rfl⟩
                have hSR : SR W4 W3.heap.size hi ds U va vd vw da dd dw := by rw [hhe]; exact ⟨hTs.win, has.win, hds.win, hws.win⟩
                have hhi : hi ≤ W4.heap.size := Nat.le_of_eq hhe
                clear hhe
                have nY : Y < W3.heap.size ∨ hi ≤ Y := .inl hlY
                replace htY := tn_there htY hlY hb
                replace hlY := Nat.lt_of_lt_of_le hlY hb.size
                replace hT1 := hT1.below hb
                refine hK2.out _ _ (hHeld.keep hb) (fun hHeld2 => ?_)
                clear hK2 K hHeld
                have hHeld := hHeld2
                clear hHeld2
                try simp only [Act.put, List.getElem_toArray, List.getElem_cons_succ, List.getElem_cons_zero, List.setIfInBounds_toArray, List.set_cons_zero, List.set_cons_succ]
                clear hb hTs has hds hws hT1
                refine wpAnyH_take (i := 5) (v := .tuple #[.agg ds.toArray, .agg #[va, vd, vw], .int .i64 E]) rfl (by kernel_rfl) (by kernel_rfl) (by kernel_rfl) (fun _ _ _ h => h) (Or.inl ⟨by rfl, fun W _ => by kernel_rfl⟩) hHeld ?_
                try simp only [Act.put, List.getElem_toArray, List.getElem_cons_succ, List.getElem_cons_zero, List.setIfInBounds_toArray, List.set_cons_zero, List.set_cons_succ]
                refine wpAnyH_take (i := 6) (v := .agg ds.toArray) rfl (by kernel_rfl) (by kernel_rfl) (by kernel_rfl) (fun _ _ _ h => h) (Or.inl ⟨by rfl, fun W _ => by kernel_rfl⟩) hHeld ?_
                try simp only [Act.put, List.getElem_toArray, List.getElem_cons_succ, List.getElem_cons_zero, List.setIfInBounds_toArray, List.set_cons_zero, List.set_cons_succ]
                refine wpAnyH_take (i := 7) (v := .agg #[va, vd, vw]) rfl (by kernel_rfl) (by kernel_rfl) (by kernel_rfl) (fun _ _ _ h => h) (Or.inl ⟨by rfl, fun W _ => by kernel_rfl⟩) hHeld ?_
                try simp only [Act.put, List.getElem_toArray, List.getElem_cons_succ, List.getElem_cons_zero, List.setIfInBounds_toArray, List.set_cons_zero, List.set_cons_succ]
                refine wpAnyH_take (i := 8) (v := .int .i64 E) rfl (by kernel_rfl) (by kernel_rfl) (by kernel_rfl) (fun _ _ _ h => h) (Or.inl ⟨by rfl, fun W _ => by kernel_rfl⟩) hHeld ?_
                try simp only [Act.put, List.getElem_toArray, List.getElem_cons_succ, List.getElem_cons_zero, List.setIfInBounds_toArray, List.set_cons_zero, List.set_cons_succ]
                refine wpAnyH_ready (rs := [9]) (by kernel_rfl) (by simp) (AllReadyH.cons rfl (fun K hK2 => ?_) AllReadyH.nil)
                rw [if_pos (by rfl)]
                simp only [List.getElem_toArray, List.getElem_cons_succ, List.getElem_cons_zero]
                obtain ⟨-, htX, hb, hsz⟩ := new_block W4 #[.slice none 0 0, .slice none 0 0, .slice none 0 0, .slice none 0 0, .slice none 0 0, .slice none 0 0, .slice none 0 0, .slice none 0 0, .slice none 0 0, .slice none 0 0, .slice none 0 0, .slice none 0 0, .slice none 0 0, .slice none 0 0, .slice none 0 0, .slice none 0 0, .slice none 0 0, .slice none 0 0, .slice none 0 0, .slice none 0 0, .slice none 0 0, .slice none 0 0, .slice none 0 0, .slice none 0 0, .slice none 0 0, .slice none 0 0, .slice none 0 0, .slice none 0 0, .slice none 0 0, .slice none 0 0, .slice none 0 0, .slice none 0 0, .slice none 0 0] 28
                have hX1 := hHeld.lt
                have hne : W4.heap.size ≠ Y := by omega
                have nX : W4.heap.size < W3.heap.size ∨ hi ≤ W4.heap.size := .inr hhi
                replace htY := tn_there htY hlY hb
                replace hlY := Nat.lt_of_lt_of_le hlY hb.size
                replace hSR := hSR.keep hb
                replace hhi := Nat.le_trans hhi hb.size
                have hlX : W4.heap.size < (W4.alloc (.cells #[.slice none 0 0, .slice none 0 0, .slice none 0 0, .slice none 0 0, .slice none 0 0, .slice none 0 0, .slice none 0 0, .slice none 0 0, .slice none 0 0, .slice none 0 0, .slice none 0 0, .slice none 0 0, .slice none 0 0, .slice none 0 0, .slice none 0 0, .slice none 0 0, .slice none 0 0, .slice none 0 0, .slice none 0 0, .slice none 0 0, .slice none 0 0, .slice none 0 0, .slice none 0 0, .slice none 0 0, .slice none 0 0, .slice none 0 0, .slice none 0 0, .slice none 0 0, .slice none 0 0, .slice none 0 0, .slice none 0 0, .slice none 0 0, .slice none 0 0] 28)).heap.size := by rw [hsz]; exact Nat.lt_succ_self _
                go_simp
                refine hK2.out _ _ (hHeld.keep hb) (fun hHeld2 => ?_)
                clear hK2 K hHeld
                have hHeld := hHeld2
                clear hHeld2
                try simp only [Act.put, List.getElem_toArray, List.getElem_cons_succ, List.getElem_cons_zero, List.setIfInBounds_toArray, List.set_cons_zero, List.set_cons_succ]
                clear hb hsz
                generalize W4.alloc (.cells #[.slice none 0 0, .slice none 0 0, .slice none 0 0, .slice none 0 0, .slice none 0 0, .slice none 0 0, .slice none 0 0, .slice none 0 0, .slice none 0 0, .slice none 0 0, .slice none 0 0, .slice none 0 0, .slice none 0 0, .slice none 0 0, .slice none 0 0, .slice none 0 0, .slice none 0 0, .slice none 0 0, .slice none 0 0, .slice none 0 0, .slice none 0 0, .slice none 0 0, .slice none 0 0, .slice none 0 0, .slice none 0 0, .slice none 0 0, .slice none 0 0, .slice none 0 0, .slice none 0 0, .slice none 0 0, .slice none 0 0, .slice none 0 0, .slice none 0 0] 28) = W5 at hHeld htX hlX htY hlY hSR hhi ⊢
                generalize hXe : W4.heap.size = X at htX hX1 hlX hne nX ⊢
                clear hXe
                have hTZ := hSR.fullC hHeld htX htY hne hX1 hY1 hlX hlY nX nY
                have hlcd := Lib.hid hSR.ts.lc
                have hod : Hid (ds.toArray.all (·.oneCell') = true) := Lib.hid (all_oneCell_toArray hSR.ts.one)
                have hpd : Hid ((#[va, vd, vw] : Array Value).all (·.oneCell') = true) := Lib.hid (all_oneCell_toArray (three_one hSR.ra.one hSR.rv.one hSR.rx.one))
                have hsd : Hid ((Tryz.prog.info? 28).map (·.size) = some ds.toArray.size) := Lib.hid (by rw [List.size_toArray, hSR.ts.lc]; exact size_taint)
                clear hSR hhi nX nY hne
                refine wpAnyH_ready (rs := [11]) (by kernel_rfl) (by simp) (AllReadyH.cons rfl (fun K hK2 => ?_) AllReadyH.nil)
                rw [if_pos (by rfl)]
                simp only [List.getElem_toArray, List.getElem_cons_succ, List.getElem_cons_zero]
                refine wp_store_mid 28 _ _ rfl X 0 ds.toArray rfl rfl (fun j hj => htX j (by rw [List.size_toArray, hlcd.out] at hj; exact hj)) hsd.out hod.out ?_
                change K _ (World.setCells _ X 0 ds)
                refine hK2.out _ _ (hHeld.far hX1 ds) (fun hHeld2 => ?_)
                clear hK2 K hHeld
                have hHeld := hHeld2
                clear hHeld2
                try simp only [Act.put, List.getElem_toArray, List.getElem_cons_succ, List.getElem_cons_zero, List.setIfInBounds_toArray, List.set_cons_zero, List.set_cons_succ]
                refine wpAnyH_ready (rs := [12]) (by kernel_rfl) (by simp) (AllReadyH.cons rfl (fun K hK2 => ?_) AllReadyH.nil)
                rw [if_pos (by rfl)]
                simp only [List.getElem_toArray, List.getElem_cons_succ, List.getElem_cons_zero]
                refine wp_store_mid 35 _ _ rfl Y 0 #[va, vd, vw] rfl rfl (World.there_setCells htY X 0 ds) size_deps hpd.out ?_
                change K _ (World.setCells (World.setCells _ X 0 ds) Y 0 [va, vd, vw])
                refine hK2.out _ _ (hHeld.far hY1 _) (fun hHeld2 => ?_)
                clear hK2 K hHeld
                have hHeld := hHeld2
                clear hHeld2
                try simp only [Act.put, List.getElem_toArray, List.getElem_cons_succ, List.getElem_cons_zero, List.setIfInBounds_toArray, List.set_cons_zero, List.set_cons_succ]
                refine wpAnyH_take (i := 13) (v := .int .i64 E) rfl (by kernel_rfl) (by kernel_rfl) (by kernel_rfl) (fun _ _ _ h => h) (Or.inl ⟨by rfl, fun W _ => by kernel_rfl⟩) hHeld ?_
                try simp only [Act.put, List.getElem_toArray, List.getElem_cons_succ, List.getElem_cons_zero, List.setIfInBounds_toArray, List.set_cons_zero, List.set_cons_succ]
                refine wpAnyH_done (by kernel_rfl) ?_ _
                go_wp2_with fail
                go_meet
                exact ⟨X, Y, ds, va, vd, vw, rfl, rfl, rfl, hTZ⟩
            refine AllReadyH.cons rfl (fun K hK2 => ?_) ?_
            · as_aux_lemma =>
                rw [if_pos (by rfl)]
                simp only [List.getElem_toArray, List.getElem_cons_succ, List.getElem_cons_zero]
                obtain ⟨-, htX, hb, hsz⟩ := new_block W3 #[.slice none 0 0, .slice none 0 0, .slice none 0 0, .slice none 0 0, .slice none 0 0, .slice none 0 0, .slice none 0 0, .slice none 0 0, .slice none 0 0, .slice none 0 0, .slice none 0 0, .slice none 0 0, .slice none 0 0, .slice none 0 0, .slice none 0 0, .slice none 0 0, .slice none 0 0, .slice none 0 0, .slice none 0 0, .slice none 0 0, .slice none 0 0, .slice none 0 0, .slice none 0 0, .slice none 0 0, .slice none 0 0, .slice none 0 0, .slice none 0 0, .slice none 0 0, .slice none 0 0, .slice none 0 0, .slice none 0 0, .slice none 0 0, .slice none 0 0] 28
                have hX1 := hHeld.lt
                have hne : W3.heap.size ≠ Y := by omega
                replace htY := tn_there htY hlY hb
                replace hlY := Nat.lt_of_lt_of_le hlY hb.size
                replace hT1 := hT1.below hb
                have hlX : W3.heap.size < (W3.alloc (.cells #[.slice none 0 0, .slice none 0 0, .slice none 0 0, .slice none 0 0, .slice none 0 0, .slice none 0 0, .slice none 0 0, .slice none 0 0, .slice none 0 0, .slice none 0 0, .slice none 0 0, .slice none 0 0, .slice none 0 0, .slice none 0 0, .slice none 0 0, .slice none 0 0, .slice none 0 0, .slice none 0 0, .slice none 0 0, .slice none 0 0, .slice none 0 0, .slice none 0 0, .slice none 0 0, .slice none 0 0, .slice none 0 0, .slice none 0 0, .slice none 0 0, .slice none 0 0, .slice none 0 0, .slice none 0 0, .slice none 0 0, .slice none 0 0, .slice none 0 0] 28)).heap.size := by rw [hsz]; exact Nat.lt_succ_self _
                go_simp
                refine hK2.out _ _ (hHeld.keep hb) (fun hHeld2 => ?_)
                clear hK2 K hHeld
                have hHeld := hHeld2
                clear hHeld2
                try simp only [Act.put, List.getElem_toArray, List.getElem_cons_succ, List.getElem_cons_zero, List.setIfInBounds_toArray, List.set_cons_zero, List.set_cons_succ]
                clear hb hsz
                generalize W3.alloc (.cells #[.slice none 0 0, .slice none 0 0, .slice none 0 0, .slice none 0 0, .slice none 0 0, .slice none 0 0, .slice none 0 0, .slice none 0 0, .slice none 0 0, .slice none 0 0, .slice none 0 0, .slice none 0 0, .slice none 0 0, .slice none 0 0, .slice none 0 0, .slice none 0 0, .slice none 0 0, .slice none 0 0, .slice none 0 0, .slice none 0 0, .slice none 0 0, .slice none 0 0, .slice none 0 0, .slice none 0 0, .slice none 0 0, .slice none 0 0, .slice none 0 0, .slice none 0 0, .slice none 0 0, .slice none 0 0, .slice none 0 0, .slice none 0 0, .slice none 0 0] 28) = W4 at hHeld htX hlX htY hlY hT1 ⊢
                generalize hXe : W3.heap.size = X at htX hX1 hlX hne ⊢
                clear hXe
                refine wpAnyH_ready (rs := [4]) (by kernel_rfl) (by simp) (AllReadyH.cons rfl (fun K hK2 => ?_) AllReadyH.nil)
                rw [if_pos (by rfl)]
                simp only [List.getElem_toArray, List.getElem_cons_succ, List.getElem_cons_zero]
                have hlo : w.heap.size + 2 < W4.heap.size := hHeld.lt
                go_wp2_with (go_at_call 9; (with_reducible refine (hSt.out _ _ _ hT1 hHeld.bl).mono ?_); rintro e W5 ⟨ds, va, vd, vw, rfl, hTs, has, hds, hws, hb⟩)
                obtain ⟨hi, hhe⟩ : ∃ n, n = W5.heap.size := ⟨_, rfl⟩
                have hSR : SR W5 W4.heap.size hi ds U va vd vw da dd dw := by rw [hhe]; exact ⟨hTs.win, has.win, hds.win, hws.win⟩
                have hhi : hi ≤ W5.heap.size := Nat.le_of_eq hhe
                clear hhe
                have nY : Y < W4.heap.size ∨ hi ≤ Y := .inl hlY
                have nX : X < W4.heap.size ∨ hi ≤ X := .inl hlX
                replace htY := tn_there htY hlY hb
                replace hlY := Nat.lt_of_lt_of_le hlY hb.size
                replace htX := tn_there htX hlX hb
                replace hlX := Nat.lt_of_lt_of_le hlX hb.size
                replace hT1 := hT1.below hb
                refine hK2.out _ _ (hHeld.keep hb) (fun hHeld2 => ?_)
                clear hK2 K hHeld
                have hHeld := hHeld2
                clear hHeld2
                try simp only [Act.put, List.getElem_toArray, List.getElem_cons_succ, List.getElem_cons_zero, List.setIfInBounds_toArray, List.set_cons_zero, List.set_cons_succ]
                clear hb hTs has hds hws hT1
                refine wpAnyH_take (i := 5) (v := .tuple #[.agg ds.toArray, .agg #[va, vd, vw], .int .i64 E]) rfl (by kernel_rfl) (by kernel_rfl) (by kernel_rfl) (fun _ _ _ h => h) (Or.inl ⟨by rfl, fun W _ => by kernel_rfl⟩) hHeld ?_
                try simp only [Act.put, List.getElem_toArray, List.getElem_cons_succ, List.getElem_cons_zero, List.setIfInBounds_toArray, List.set_cons_zero, List.set_cons_succ]
                refine wpAnyH_take (i := 6) (v := .agg ds.toArray) rfl (by kernel_rfl) (by kernel_rfl) (by kernel_rfl) (fun _ _ _ h => h) (Or.inl ⟨by rfl, fun W _ => by kernel_rfl⟩) hHeld ?_
                try simp only [Act.put, List.getElem_toArray, List.getElem_cons_succ, List.getElem_cons_zero, List.setIfInBounds_toArray, List.set_cons_zero, List.set_cons_succ]
                refine wpAnyH_take (i := 7) (v := .agg #[va, vd, vw]) rfl (by kernel_rfl) (by kernel_rfl) (by kernel_rfl) (fun _ _ _ h => h) (Or.inl ⟨by rfl, fun W _ => by kernel_rfl⟩) hHeld ?_
                try simp only [Act.put, List.getElem_toArray, List.getElem_cons_succ, List.getElem_cons_zero, List.setIfInBounds_toArray, List.set_cons_zero, List.set_cons_succ]
                refine wpAnyH_take (i := 8) (v := .int .i64 E) rfl (by kernel_rfl) (by kernel_rfl) (by kernel_rfl) (fun _ _ _ h => h) (Or.inl ⟨by rfl, fun W _ => by kernel_rfl⟩) hHeld ?_
                try simp only [Act.put, List.getElem_toArray, List.getElem_cons_succ, List.getElem_cons_zero, List.setIfInBounds_toArray, List.set_cons_zero, List.set_cons_succ]
                have hTZ := hSR.fullC hHeld htX htY hne hX1 hY1 hlX hlY nX nY
                have hlcd := Lib.hid hSR.ts.lc
                have hod : Hid (ds.toArray.all (·.oneCell') = true) := Lib.hid (all_oneCell_toArray hSR.ts.one)
                have hpd : Hid ((#[va, vd, vw] : Array Value).all (·.oneCell') = true) := Lib.hid (all_oneCell_toArray (three_one hSR.ra.one hSR.rv.one hSR.rx.one))
                have hsd : Hid ((Tryz.prog.info? 28).map (·.size) = some ds.toArray.size) := Lib.hid (by rw [List.size_toArray, hSR.ts.lc]; exact size_taint)
                clear hSR hhi nX nY hne
                refine wpAnyH_ready (rs := [11]) (by kernel_rfl) (by simp) (AllReadyH.cons rfl (fun K hK2 => ?_) AllReadyH.nil)
                rw [if_pos (by rfl)]
                simp only [List.getElem_toArray, List.getElem_cons_succ, List.getElem_cons_zero]
                refine wp_store_mid 28 _ _ rfl X 0 ds.toArray rfl rfl (fun j hj => htX j (by rw [List.size_toArray, hlcd.out] at hj; exact hj)) hsd.out hod.out ?_
                change K _ (World.setCells _ X 0 ds)
                refine hK2.out _ _ (hHeld.far hX1 ds) (fun hHeld2 => ?_)
                clear hK2 K hHeld
                have hHeld := hHeld2
                clear hHeld2
                try simp only [Act.put, List.getElem_toArray, List.getElem_cons_succ, List.getElem_cons_zero, List.setIfInBounds_toArray, List.set_cons_zero, List.set_cons_succ]
                refine wpAnyH_ready (rs := [12]) (by kernel_rfl) (by simp) (AllReadyH.cons rfl (fun K hK2 => ?_) AllReadyH.nil)
                rw [if_pos (by rfl)]
                simp only [List.getElem_toArray, List.getElem_cons_succ, List.getElem_cons_zero]
                refine wp_store_mid 35 _ _ rfl Y 0 #[va, vd, vw] rfl rfl (World.there_setCells htY X 0 ds) size_deps hpd.out ?_
                change K _ (World.setCells (World.setCells _ X 0 ds) Y 0 [va, vd, vw])
                refine hK2.out _ _ (hHeld.far hY1 _) (fun hHeld2 => ?_)
                clear hK2 K hHeld
                have hHeld := hHeld2
                clear hHeld2
                try simp only [Act.put, List.getElem_toArray, List.getElem_cons_succ, List.getElem_cons_zero, List.setIfInBounds_toArray, List.set_cons_zero, List.set_cons_succ]
                refine wpAnyH_take (i := 13) (v := .int .i64 E) rfl (by kernel_rfl) (by kernel_rfl) (by kernel_rfl) (fun _ _ _ h => h) (Or.inl ⟨by rfl, fun W _ => by kernel_rfl⟩) hHeld ?_
                try simp only [Act.put, List.getElem_toArray, List.getElem_cons_succ, List.getElem_cons_zero, List.setIfInBounds_toArray, List.set_cons_zero, List.set_cons_succ]
                refine wpAnyH_done (by kernel_rfl) ?_ _
                go_wp2_with fail
                go_meet
                exact ⟨X, Y, ds, va, vd, vw, rfl, rfl, rfl, hTZ⟩
            exact AllReadyH.nil
        exact AllReadyH.nil
    refine AllReadyH.cons rfl (fun K hK2 => ?_) ?_
    · as_aux_lemma =>
        rw [if_pos (by rfl)]
        simp only [List.getElem_toArray, List.getElem_cons_succ, List.getElem_cons_zero]
        obtain ⟨-, htX, hb, hsz⟩ := new_block W1 #[.slice none 0 0, .slice none 0 0, .slice none 0 0, .slice none 0 0, .slice none 0 0, .slice none 0 0, .slice none 0 0, .slice none 0 0, .slice none 0 0, .slice none 0 0, .slice none 0 0, .slice none 0 0, .slice none 0 0, .slice none 0 0, .slice none 0 0, .slice none 0 0, .slice none 0 0, .slice none 0 0, .slice none 0 0, .slice none 0 0, .slice none 0 0, .slice none 0 0, .slice none 0 0, .slice none 0 0, .slice none 0 0, .slice none 0 0, .slice none 0 0, .slice none 0 0, .slice none 0 0, .slice none 0 0, .slice none 0 0, .slice none 0 0, .slice none 0 0] 28
        have hX1 := hHeld.lt
        have hlX : W1.heap.size < (W1.alloc (.cells #[.slice none 0 0, .slice none 0 0, .slice none 0 0, .slice none 0 0, .slice none 0 0, .slice none 0 0, .slice none 0 0, .slice none 0 0, .slice none 0 0, .slice none 0 0, .slice none 0 0, .slice none 0 0, .slice none 0 0, .slice none 0 0, .slice none 0 0, .slice none 0 0, .slice none 0 0, .slice none 0 0, .slice none 0 0, .slice none 0 0, .slice none 0 0, .slice none 0 0, .slice none 0 0, .slice none 0 0, .slice none 0 0, .slice none 0 0, .slice none 0 0, .slice none 0 0, .slice none 0 0, .slice none 0 0, .slice none 0 0, .slice none 0 0, .slice none 0 0] 28)).heap.size := by rw [hsz]; exact Nat.lt_succ_self _
        go_simp
        refine hK2.out _ _ (hHeld.keep hb) (fun hHeld2 => ?_)
        clear hK2 K hHeld
        have hHeld := hHeld2
        clear hHeld2
        try simp only [Act.put, List.getElem_toArray, List.getElem_cons_succ, List.getElem_cons_zero, List.setIfInBounds_toArray, List.set_cons_zero, List.set_cons_succ]
        clear hb hsz
        generalize W1.alloc (.cells #[.slice none 0 0, .slice none 0 0, .slice none 0 0, .slice none 0 0, .slice none 0 0, .slice none 0 0, .slice none 0 0, .slice none 0 0, .slice none 0 0, .slice none 0 0, .slice none 0 0, .slice none 0 0, .slice none 0 0, .slice none 0 0, .slice none 0 0, .slice none 0 0, .slice none 0 0, .slice none 0 0, .slice none 0 0, .slice none 0 0, .slice none 0 0, .slice none 0 0, .slice none 0 0, .slice none 0 0, .slice none 0 0, .slice none 0 0, .slice none 0 0, .slice none 0 0, .slice none 0 0, .slice none 0 0, .slice none 0 0, .slice none 0 0, .slice none 0 0] 28) = W2 at hHeld htX hlX ⊢
        generalize hXe : W1.heap.size = X at htX hX1 hlX ⊢
        clear hXe
        refine wpAnyH_ready (rs := [1, 10]) (by kernel_rfl) (by simp) ?_
        refine AllReadyH.cons rfl (fun K hK2 => ?_) ?_
        · as_aux_lemma =>
            rw [if_pos (by rfl)]
            simp only [List.getElem_toArray, List.getElem_cons_succ, List.getElem_cons_zero]
            go_wp2_with (go_at_call 15; (with_reducible refine (hOw.out _ hHeld).mono ?_); rintro e W3 ⟨c1, rfl, hT1, hb⟩)
            replace htX := tn_there htX hlX hb
            replace hlX := Nat.lt_of_lt_of_le hlX hb.size
            refine hK2.out _ _ (hHeld.keep hb) (fun hHeld2 => ?_)
            clear hK2 K hHeld
            have hHeld := hHeld2
            clear hHeld2
            try simp only [Act.put, List.getElem_toArray, List.getElem_cons_succ, List.getElem_cons_zero, List.setIfInBounds_toArray, List.set_cons_zero, List.set_cons_succ]
            clear hb
            refine wpAnyH_ready (rs := [4, 10]) (by kernel_rfl) (by simp) ?_
            refine AllReadyH.cons rfl (fun K hK2 => ?_) ?_
            · as_aux_lemma =>
                rw [if_pos (by rfl)]
                simp only [List.getElem_toArray, List.getElem_cons_succ, List.getElem_cons_zero]
                have hlo : w.heap.size + 2 < W3.heap.size := hHeld.lt
                go_wp2_with (go_at_call 9; (with_reducible refine (hSt.out _ _ _ hT1 hHeld.bl).mono ?_); rintro e W4 ⟨ds, va, vd, vw, rfl, hTs, has, hds, hws, hb⟩)
                obtain ⟨hi, hhe⟩ : ∃ n, n = W4.heap.size := ⟨_, rfl⟩
                have hSR : SR W4 W3.heap.size hi ds U va vd vw da dd dw := by rw [hhe]; exact ⟨hTs.win, has.win, hds.win, hws.win⟩
                have hhi : hi ≤ W4.heap.size := Nat.le_of_eq hhe
                clear hhe
                have nX : X < W3.heap.size ∨ hi ≤ X := .inl hlX
                replace htX := tn_there htX hlX hb
                replace hlX := Nat.lt_of_lt_of_le hlX hb.size
                replace hT1 := hT1.below hb
                refine hK2.out _ _ (hHeld.keep hb) (fun hHeld2 => ?_)
                clear hK2 K hHeld
                have hHeld := hHeld2
                clear hHeld2
                try simp only [Act.put, List.getElem_toArray, List.getElem_cons_succ, List.getElem_cons_zero, List.setIfInBounds_toArray, List.set_cons_zero, List.set_cons_succ]
                clear hb hTs has hds hws hT1
                refine wpAnyH_take (i := 5) (v := .tuple #[.agg ds.toArray, .agg #[va, vd, vw], .int .i64 E]) rfl (by kernel_rfl) (by kernel_rfl) (by kernel_rfl) (fun _ _ _ h => h) (Or.inl ⟨by rfl, fun W _ => by kernel_rfl⟩) hHeld ?_
                try simp only [Act.put, List.getElem_toArray, List.getElem_cons_succ, List.getElem_cons_zero, List.setIfInBounds_toArray, List.set_cons_zero, List.set_cons_succ]
                refine wpAnyH_take (i := 6) (v := .agg ds.toArray) rfl (by kernel_rfl) (by kernel_rfl) (by kernel_rfl) (fun _ _ _ h => h) (Or.inl ⟨by rfl, fun W _ => by kernel_rfl⟩) hHeld ?_
                try simp only [Act.put, List.getElem_toArray, List.getElem_cons_succ, List.getElem_cons_zero, List.setIfInBounds_toArray, List.set_cons_zero, List.set_cons_succ]
                refine wpAnyH_take (i := 7) (v := .agg #[va, vd, vw]) rfl (by kernel_rfl) (by kernel_rfl) (by kernel_rfl) (fun _ _ _ h => h) (Or.inl ⟨by rfl, fun W _ => by kernel_rfl⟩) hHeld ?_
                try simp only [Act.put, List.getElem_toArray, List.getElem_cons_succ, List.getElem_cons_zero, List.setIfInBounds_toArray, List.set_cons_zero, List.set_cons_succ]
                refine wpAnyH_take (i := 8) (v := .int .i64 E) rfl (by kernel_rfl) (by kernel_rfl) (by kernel_rfl) (fun _ _ _ h => h) (Or.inl ⟨by rfl, fun W _ => by kernel_rfl⟩) hHeld ?_
                try simp only [Act.put, List.getElem_toArray, List.getElem_cons_succ, List.getElem_cons_zero, List.setIfInBounds_toArray, List.set_cons_zero, List.set_cons_succ]
                refine wpAnyH_ready (rs := [10]) (by kernel_rfl) (by simp) (AllReadyH.cons rfl (fun K hK2 => ?_) AllReadyH.nil)
                rw [if_pos (by rfl)]
                simp only [List.getElem_toArray, List.getElem_cons_succ, List.getElem_cons_zero]
                obtain ⟨-, htY, hb, hsz⟩ := new_block W4 #[.slice none 0 0, .slice none 0 0, .slice none 0 0] 35
                have hY1 := hHeld.lt
                have hne : X ≠ W4.heap.size := by omega
                have nY : W4.heap.size < W3.heap.size ∨ hi ≤ W4.heap.size := .inr hhi
                replace htX := tn_there htX hlX hb
                replace hlX := Nat.lt_of_lt_of_le hlX hb.size
                replace hSR := hSR.keep hb
                replace hhi := Nat.le_trans hhi hb.size
                have hlY : W4.heap.size < (W4.alloc (.cells #[.slice none 0 0, .slice none 0 0, .slice none 0 0] 35)).heap.size := by rw [hsz]; exact Nat.lt_succ_self _
                go_simp
                refine hK2.out _ _ (hHeld.keep hb) (fun hHeld2 => ?_)
                clear hK2 K hHeld
                have hHeld := hHeld2
                clear hHeld2
                try simp only [Act.put, List.getElem_toArray, List.getElem_cons_succ, List.getElem_cons_zero, List.setIfInBounds_toArray, List.set_cons_zero, List.set_cons_succ]
                clear hb hsz
                generalize W4.alloc (.cells #[.slice none 0 0, .slice none 0 0, .slice none 0 0] 35) = W5 at hHeld htY hlY htX hlX hSR hhi ⊢
                generalize hYe : W4.heap.size = Y at htY hY1 hlY hne nY ⊢
                clear hYe
                have hTZ := hSR.fullC hHeld htX htY hne hX1 hY1 hlX hlY nX nY
                have hlcd := Lib.hid hSR.ts.lc
                have hod : Hid (ds.toArray.all (·.oneCell') = true) := Lib.hid (all_oneCell_toArray hSR.ts.one)
                have hpd : Hid ((#[va, vd, vw] : Array Value).all (·.oneCell') = true) := Lib.hid (all_oneCell_toArray (three_one hSR.ra.one hSR.rv.one hSR.rx.one))
                have hsd : Hid ((Tryz.prog.info? 28).map (·.size) = some ds.toArray.size) := Lib.hid (by rw [List.size_toArray, hSR.ts.lc]; exact size_taint)
                clear hSR hhi nX nY hne
                refine wpAnyH_ready (rs := [11]) (by kernel_rfl) (by simp) (AllReadyH.cons rfl (fun K hK2 => ?_) AllReadyH.nil)
                rw [if_pos (by rfl)]
                simp only [List.getElem_toArray, List.getElem_cons_succ, List.getElem_cons_zero]
                refine wp_store_mid 28 _ _ rfl X 0 ds.toArray rfl rfl (fun j hj => htX j (by rw [List.size_toArray, hlcd.out] at hj; exact hj)) hsd.out hod.out ?_
                change K _ (World.setCells _ X 0 ds)
                refine hK2.out _ _ (hHeld.far hX1 ds) (fun hHeld2 => ?_)
                clear hK2 K hHeld
                have hHeld := hHeld2
                clear hHeld2
                try simp only [Act.put, List.getElem_toArray, List.getElem_cons_succ, List.getElem_cons_zero, List.setIfInBounds_toArray, List.set_cons_zero, List.set_cons_succ]
                refine wpAnyH_ready (rs := [12]) (by kernel_rfl) (by simp) (AllReadyH.cons rfl (fun K hK2 => ?_) AllReadyH.nil)
                rw [if_pos (by rfl)]
                simp only [List.getElem_toArray, List.getElem_cons_succ, List.getElem_cons_zero]
                refine wp_store_mid 35 _ _ rfl Y 0 #[va, vd, vw] rfl rfl (World.there_setCells htY X 0 ds) size_deps hpd.out ?_
                change K _ (World.setCells (World.setCells _ X 0 ds) Y 0 [va, vd, vw])
                refine hK2.out _ _ (hHeld.far hY1 _) (fun hHeld2 => ?_)
                clear hK2 K hHeld
                have hHeld := hHeld2
                clear hHeld2
                try simp only [Act.put, List.getElem_toArray, List.getElem_cons_succ, List.getElem_cons_zero, List.setIfInBounds_toArray, List.set_cons_zero, List.set_cons_succ]
                refine wpAnyH_take (i := 13) (v := .int .i64 E) rfl (by kernel_rfl) (by kernel_rfl) (by kernel_rfl) (fun _ _ _ h => h) (Or.inl ⟨by rfl, fun W _ => by kernel_rfl⟩) hHeld ?_
                try simp only [Act.put, List.getElem_toArray, List.getElem_cons_succ, List.getElem_cons_zero, List.setIfInBounds_toArray, List.set_cons_zero, List.set_cons_succ]
                refine wpAnyH_done (by kernel_rfl) ?_ _
                go_wp2_with fail
                go_meet
                exact ⟨X, Y, ds, va, vd, vw, rfl, rfl, rfl, hTZ⟩
            refine AllReadyH.cons rfl (fun K hK2 => ?_) ?_
            · as_aux_lemma =>
                rw [if_pos (by rfl)]
                simp only [List.getElem_toArray, List.getElem_cons_succ, List.getElem_cons_zero]
                obtain ⟨-, htY, hb, hsz⟩ := new_block W3 #[.slice none 0 0, .slice none 0 0, .slice none 0 0] 35
                have hY1 := hHeld.lt
                have hne : X ≠ W3.heap.size := by omega
                replace htX := tn_there htX hlX hb
                replace hlX := Nat.lt_of_lt_of_le hlX hb.size
                replace hT1 := hT1.below hb
                have hlY : W3.heap.size < (W3.alloc (.cells #[.slice none 0 0, .slice none 0 0, .slice none 0 0] 35)).heap.size := by rw [hsz]; exact Nat.lt_succ_self _
                go_simp
                refine hK2.out _ _ (hHeld.keep hb) (fun hHeld2 => ?_)
                clear hK2 K hHeld
                have hHeld := hHeld2
                clear hHeld2
                try simp only [Act.put, List.getElem_toArray, List.getElem_cons_succ, List.getElem_cons_zero, List.setIfInBounds_toArray, List.set_cons_zero, List.set_cons_succ]
                clear hb hsz
                generalize W3.alloc (.cells #[.slice none 0 0, .slice none 0 0, .slice none 0 0] 35) = W4 at hHeld htY hlY htX hlX hT1 ⊢
                generalize hYe : W3.heap.size = Y at htY hY1 hlY hne ⊢
                clear hYe
                refine wpAnyH_ready (rs := [4]) (by kernel_rfl) (by simp) (AllReadyH.cons rfl (fun K hK2 => ?_) AllReadyH.nil)
                rw [if_pos (by rfl)]
                simp only [List.getElem_toArray, List.getElem_cons_succ, List.getElem_cons_zero]
                have hlo : w.heap.size + 2 < W4.heap.size := hHeld.lt
                go_wp2_with (go_at_call 9; (with_reducible refine (hSt.out _ _ _ hT1 hHeld.bl).mono ?_); rintro e W5 ⟨ds, va, vd, vw, rfl, hTs, has, hds, hws, hb⟩)
                obtain ⟨hi, hhe⟩ : ∃ n, n = W5.heap.size := ⟨_, rfl⟩
                have hSR : SR W5 W4.heap.size hi ds U va vd vw da dd dw := by rw [hhe]; exact ⟨hTs.win, has.win, hds.win, hws.win⟩
                have hhi : hi ≤ W5.heap.size := Nat.le_of_eq hhe
                clear hhe
                have nX : X < W4.heap.size ∨ hi ≤ X := .inl hlX
                have nY : Y < W4.heap.size ∨ hi ≤ Y := .inl hlY
                replace htX := tn_there htX hlX hb
                replace hlX := Nat.lt_of_lt_of_le hlX hb.size
                replace htY := tn_there htY hlY hb
                replace hlY := Nat.lt_of_lt_of_le hlY hb.size
                replace hT1 := hT1.below hb
                refine hK2.out _ _ (hHeld.keep hb) (fun hHeld2 => ?_)
                clear hK2 K hHeld
                have hHeld := hHeld2
                clear hHeld2
                try simp only [Act.put, List.getElem_toArray, List.getElem_cons_succ, List.getElem_cons_zero, List.setIfInBounds_toArray, List.set_cons_zero, List.set_cons_succ]
                clear hb hTs has hds hws hT1
                refine wpAnyH_take (i := 5) (v := .tuple #[.agg ds.toArray, .agg #[va, vd, vw], .int .i64 E]) rfl (by kernel_rfl) (by kernel_rfl) (by kernel_rfl) (fun _ _ _ h => h) (Or.inl ⟨by rfl, fun W _ => by kernel_rfl⟩) hHeld ?_
                try simp only [Act.put, List.getElem_toArray, List.getElem_cons_succ, List.getElem_cons_zero, List.setIfInBounds_toArray, List.set_cons_zero, List.set_cons_succ]
                refine wpAnyH_take (i := 6) (v := .agg ds.toArray) rfl (by kernel_rfl) (by kernel_rfl) (by kernel_rfl) (fun _ _ _ h => h) (Or.inl ⟨by rfl, fun W _ => by kernel_rfl⟩) hHeld ?_
                try simp only [Act.put, List.getElem_toArray, List.getElem_cons_succ, List.getElem_cons_zero, List.setIfInBounds_toArray, List.set_cons_zero, List.set_cons_succ]
                refine wpAnyH_take (i := 7) (v := .agg #[va, vd, vw]) rfl (by kernel_rfl) (by kernel_rfl) (by kernel_rfl) (fun _ _ _ h => h) (Or.inl ⟨by rfl, fun W _ => by kernel_rfl⟩) hHeld ?_
                try simp only [Act.put, List.getElem_toArray, List.getElem_cons_succ, List.getElem_cons_zero, List.setIfInBounds_toArray, List.set_cons_zero, List.set_cons_succ]
                refine wpAnyH_take (i := 8) (v := .int .i64 E) rfl (by kernel_rfl) (by kernel_rfl) (by kernel_rfl) (fun _ _ _ h => h) (Or.inl ⟨by rfl, fun W _ => by kernel_rfl⟩) hHeld ?_
                try simp only [Act.put, List.getElem_toArray, List.getElem_cons_succ, List.getElem_cons_zero, List.setIfInBounds_toArray, List.set_cons_zero, List.set_cons_succ]
                have hTZ := hSR.fullC hHeld htX htY hne hX1 hY1 hlX hlY nX nY
                have hlcd := Lib.hid hSR.ts.lc
                have hod : Hid (ds.toArray.all (·.oneCell') = true) := Lib.hid (all_oneCell_toArray hSR.ts.one)
                have hpd : Hid ((#[va, vd, vw] : Array Value).all (·.oneCell') = true) := Lib.hid (all_oneCell_toArray (three_one hSR.ra.one hSR.rv.one hSR.rx.one))
                have hsd : Hid ((Tryz.prog.info? 28).map (·.size) = some ds.toArray.size) := Lib.hid (by rw [List.size_toArray, hSR.ts.lc]; exact size_taint)
                clear hSR hhi nX nY hne
                refine wpAnyH_ready (rs := [11]) (by kernel_rfl) (by simp) (AllReadyH.cons rfl (fun K hK2 => ?_) AllReadyH.nil)
                rw [if_pos (by rfl)]
                simp only [List.getElem_toArray, List.getElem_cons_succ, List.getElem_cons_zero]
                refine wp_store_mid 28 _ _ rfl X 0 ds.toArray rfl rfl (fun j hj => htX j (by rw [List.size_toArray, hlcd.out] at hj; exact hj)) hsd.out hod.out ?_
                change K _ (World.setCells _ X 0 ds)
                refine hK2.out _ _ (hHeld.far hX1 ds) (fun hHeld2 => ?_)
                clear hK2 K hHeld
                have hHeld := hHeld2
                clear hHeld2
                try simp only [Act.put, List.getElem_toArray, List.getElem_cons_succ, List.getElem_cons_zero, List.setIfInBounds_toArray, List.set_cons_zero, List.set_cons_succ]
                refine wpAnyH_ready (rs := [12]) (by kernel_rfl) (by simp) (AllReadyH.cons rfl (fun K hK2 => ?_) AllReadyH.nil)
                rw [if_pos (by rfl)]
                simp only [List.getElem_toArray, List.getElem_cons_succ, List.getElem_cons_zero]
                refine wp_store_mid 35 _ _ rfl Y 0 #[va, vd, vw] rfl rfl (World.there_setCells htY X 0 ds) size_deps hpd.out ?_
                change K _ (World.setCells (World.setCells _ X 0 ds) Y 0 [va, vd, vw])
                refine hK2.out _ _ (hHeld.far hY1 _) (fun hHeld2 => ?_)
                clear hK2 K hHeld
                have hHeld := hHeld2
                clear hHeld2
                try simp only [Act.put, List.getElem_toArray, List.getElem_cons_succ, List.getElem_cons_zero, List.setIfInBounds_toArray, List.set_cons_zero, List.set_cons_succ]
                refine wpAnyH_take (i := 13) (v := .int .i64 E) rfl (by kernel_rfl) (by kernel_rfl) (by kernel_rfl) (fun _ _ _ h => h) (Or.inl ⟨by rfl, fun W _ => by kernel_rfl⟩) hHeld ?_
                try simp only [Act.put, List.getElem_toArray, List.getElem_cons_succ, List.getElem_cons_zero, List.setIfInBounds_toArray, List.set_cons_zero, List.set_cons_succ]
                refine wpAnyH_done (by kernel_rfl) ?_ _
                go_wp2_with fail
                go_meet
                exact ⟨X, Y, ds, va, vd, vw, rfl, rfl, rfl, hTZ⟩
            exact AllReadyH.nil
        refine AllReadyH.cons rfl (fun K hK2 => ?_) ?_
        · as_aux_lemma =>
            rw [if_pos (by rfl)]
            simp only [List.getElem_toArray, List.getElem_cons_succ, List.getElem_cons_zero]
            obtain ⟨-, htY, hb, hsz⟩ := new_block W2 #[.slice none 0 0, .slice none 0 0, .slice none 0 0] 35
            have hY1 := hHeld.lt
            have hne : X ≠ W2.heap.size := by omega
            replace htX := tn_there htX hlX hb
            replace hlX := Nat.lt_of_lt_of_le hlX hb.size
            have hlY : W2.heap.size < (W2.alloc (.cells #[.slice none 0 0, .slice none 0 0, .slice none 0 0] 35)).heap.size := by rw [hsz]; exact Nat.lt_succ_self _
            go_simp
            refine hK2.out _ _ (hHeld.keep hb) (fun hHeld2 => ?_)
            clear hK2 K hHeld
            have hHeld := hHeld2
            clear hHeld2
            try simp only [Act.put, List.getElem_toArray, List.getElem_cons_succ, List.getElem_cons_zero, List.setIfInBounds_toArray, List.set_cons_zero, List.set_cons_succ]
            clear hb hsz
            generalize W2.alloc (.cells #[.slice none 0 0, .slice none 0 0, .slice none 0 0] 35) = W3 at hHeld htY hlY htX hlX ⊢
            generalize hYe : W2.heap.size = Y at htY hY1 hlY hne ⊢
            clear hYe
            refine wpAnyH_ready (rs := [1]) (by kernel_rfl) (by simp) (AllReadyH.cons rfl (fun K hK2 => ?_) AllReadyH.nil)
            rw [if_pos (by rfl)]
            simp only [List.getElem_toArray, List.getElem_cons_succ, List.getElem_cons_zero]
            go_wp2_with (go_at_call 15; (with_reducible refine (hOw.out _ hHeld).mono ?_); rintro e W4 ⟨c1, rfl, hT1, hb⟩)
            replace htX := tn_there htX hlX hb
            replace hlX := Nat.lt_of_lt_of_le hlX hb.size
            replace htY := tn_there htY hlY hb
            replace hlY := Nat.lt_of_lt_of_le hlY hb.size
            refine hK2.out _ _ (hHeld.keep hb) (fun hHeld2 => ?_)
            clear hK2 K hHeld
            have hHeld := hHeld2
            clear hHeld2
            try simp only [Act.put, List.getElem_toArray, List.getElem_cons_succ, List.getElem_cons_zero, List.setIfInBounds_toArray, List.set_cons_zero, List.set_cons_succ]
            clear hb
            refine wpAnyH_ready (rs := [4]) (by kernel_rfl) (by simp) (AllReadyH.cons rfl (fun K hK2 => ?_) AllReadyH.nil)
            rw [if_pos (by rfl)]
            simp only [List.getElem_toArray, List.getElem_cons_succ, List.getElem_cons_zero]
            have hlo : w.heap.size + 2 < W4.heap.size := hHeld.lt
            go_wp2_with (go_at_call 9; (with_reducible refine (hSt.out _ _ _ hT1 hHeld.bl).mono ?_); rintro e W5 ⟨ds, va, vd, vw, rfl, hTs, has, hds, hws, hb⟩)
            obtain ⟨hi, hhe⟩ : ∃ n, n = W5.heap.size := ⟨_, rfl⟩
            have hSR : SR W5 W4.heap.size hi ds U va vd vw da dd dw := by rw [hhe]; exact ⟨hTs.win, has.win, hds.win, hws.win⟩
            have hhi : hi ≤ W5.heap.size := Nat.le_of_eq hhe
            clear hhe
            have nX : X < W4.heap.size ∨ hi ≤ X := .inl hlX
            have nY : Y < W4.heap.size ∨ hi ≤ Y := .inl hlY
            replace htX := tn_there htX hlX hb
            replace hlX := Nat.lt_of_lt_of_le hlX hb.size
            replace htY := tn_there htY hlY hb
            replace hlY := Nat.lt_of_lt_of_le hlY hb.size
            replace hT1 := hT1.below hb
            refine hK2.out _ _ (hHeld.keep hb) (fun hHeld2 => ?_)
            clear hK2 K hHeld
            have hHeld := hHeld2
            clear hHeld2
            try simp only [Act.put, List.getElem_toArray, List.getElem_cons_succ, List.getElem_cons_zero, List.setIfInBounds_toArray, List.set_cons_zero, List.set_cons_succ]
            clear hb hTs has hds hws hT1
            refine wpAnyH_take (i := 5) (v := .tuple #[.agg ds.toArray, .agg #[va, vd, vw], .int .i64 E]) rfl (by kernel_rfl) (by kernel_rfl) (by kernel_rfl) (fun _ _ _ h => h) (Or.inl ⟨by rfl, fun W _ => by kernel_rfl⟩) hHeld ?_
            try simp only [Act.put, List.getElem_toArray, List.getElem_cons_succ, List.getElem_cons_zero, List.setIfInBounds_toArray, List.set_cons_zero, List.set_cons_succ]
            refine wpAnyH_take (i := 6) (v := .agg ds.toArray) rfl (by kernel_rfl) (by kernel_rfl) (by kernel_rfl) (fun _ _ _ h => h) (Or.inl ⟨by rfl, fun W _ => by kernel_rfl⟩) hHeld ?_
            try simp only [Act.put, List.getElem_toArray, List.getElem_cons_succ, List.getElem_cons_zero, List.setIfInBounds_toArray, List.set_cons_zero, List.set_cons_succ]
            refine wpAnyH_take (i := 7) (v := .agg #[va, vd, vw]) rfl (by kernel_rfl) (by kernel_rfl) (by kernel_rfl) (fun _ _ _ h => h) (Or.inl ⟨by rfl, fun W _ => by kernel_rfl⟩) hHeld ?_
            try simp only [Act.put, List.getElem_toArray, List.getElem_cons_succ, List.getElem_cons_zero, List.setIfInBounds_toArray, List.set_cons_zero, List.set_cons_succ]
            refine wpAnyH_take (i := 8) (v := .int .i64 E) rfl (by kernel_rfl) (by kernel_rfl) (by kernel_rfl) (fun _ _ _ h => h) (Or.inl ⟨by rfl, fun W _ => by kernel_rfl⟩) hHeld ?_
            try simp only [Act.put, List.getElem_toArray, List.getElem_cons_succ, List.getElem_cons_zero, List.setIfInBounds_toArray, List.set_cons_zero, List.set_cons_succ]
            have hTZ := hSR.fullC hHeld htX htY hne hX1 hY1 hlX hlY nX nY
            have hlcd := Lib.hid hSR.ts.lc
            have hod : Hid (ds.toArray.all (·.oneCell') = true) := Lib.hid (all_oneCell_toArray hSR.ts.one)
            have hpd : Hid ((#[va, vd, vw] : Array Value).all (·.oneCell') = true) := Lib.hid (all_oneCell_toArray (three_one hSR.ra.one hSR.rv.one hSR.rx.one))
            have hsd : Hid ((Tryz.prog.info? 28).map (·.size) = some ds.toArray.size) := Lib.hid (by rw [List.size_toArray, hSR.ts.lc]; exact size_taint)
            clear hSR hhi nX nY hne
            refine wpAnyH_ready (rs := [11]) (by kernel_rfl) (by simp) (AllReadyH.cons rfl (fun K hK2 => ?_) AllReadyH.nil)
            rw [if_pos (by rfl)]
            simp only [List.getElem_toArray, List.getElem_cons_succ, List.getElem_cons_zero]
            refine wp_store_mid 28 _ _ rfl X 0 ds.toArray rfl rfl (fun j hj => htX j (by rw [List.size_toArray, hlcd.out] at hj; exact hj)) hsd.out hod.out ?_
            change K _ (World.setCells _ X 0 ds)
            refine hK2.out _ _ (hHeld.far hX1 ds) (fun hHeld2 => ?_)
            clear hK2 K hHeld
            have hHeld := hHeld2
            clear hHeld2
            try simp only [Act.put, List.getElem_toArray, List.getElem_cons_succ, List.getElem_cons_zero, List.setIfInBounds_toArray, List.set_cons_zero, List.set_cons_succ]
            refine wpAnyH_ready (rs := [12]) (by kernel_rfl) (by simp) (AllReadyH.cons rfl (fun K hK2 => ?_) AllReadyH.nil)
            rw [if_pos (by rfl)]
            simp only [List.getElem_toArray, List.getElem_cons_succ, List.getElem_cons_zero]
            refine wp_store_mid 35 _ _ rfl Y 0 #[va, vd, vw] rfl rfl (World.there_setCells htY X 0 ds) size_deps hpd.out ?_
            change K _ (World.setCells (World.setCells _ X 0 ds) Y 0 [va, vd, vw])
            refine hK2.out _ _ (hHeld.far hY1 _) (fun hHeld2 => ?_)
            clear hK2 K hHeld
            have hHeld := hHeld2
            clear hHeld2
            try simp only [Act.put, List.getElem_toArray, List.getElem_cons_succ, List.getElem_cons_zero, List.setIfInBounds_toArray, List.set_cons_zero, List.set_cons_succ]
            refine wpAnyH_take (i := 13) (v := .int .i64 E) rfl (by kernel_rfl) (by kernel_rfl) (by kernel_rfl) (fun _ _ _ h => h) (Or.inl ⟨by rfl, fun W _ => by kernel_rfl⟩) hHeld ?_
            try simp only [Act.put, List.getElem_toArray, List.getElem_cons_succ, List.getElem_cons_zero, List.setIfInBounds_toArray, List.set_cons_zero, List.set_cons_succ]
            refine wpAnyH_done (by kernel_rfl) ?_ _
            go_wp2_with fail
            go_meet
            exact ⟨X, Y, ds, va, vd, vw, rfl, rfl, rfl, hTZ⟩
        exact AllReadyH.nil
    refine AllReadyH.cons rfl (fun K hK2 => ?_) ?_
    · as_aux_lemma =>
        rw [if_pos (by rfl)]
        simp only [List.getElem_toArray, List.getElem_cons_succ, List.getElem_cons_zero]
        obtain ⟨-, htY, hb, hsz⟩ := new_block W1 #[.slice none 0 0, .slice none 0 0, .slice none 0 0] 35
        have hY1 := hHeld.lt
        have hlY : W1.heap.size < (W1.alloc (.cells #[.slice none 0 0, .slice none 0 0, .slice none 0 0] 35)).heap.size := by rw [hsz]; exact Nat.lt_succ_self _
        go_simp
        refine hK2.out _ _ (hHeld.keep hb) (fun hHeld2 => ?_)
        clear hK2 K hHeld
        have hHeld := hHeld2
        clear hHeld2
        try simp only [Act.put, List.getElem_toArray, List.getElem_cons_succ, List.getElem_cons_zero, List.setIfInBounds_toArray, List.set_cons_zero, List.set_cons_succ]
        clear hb hsz
        generalize W1.alloc (.cells #[.slice none 0 0, .slice none 0 0, .slice none 0 0] 35) = W2 at hHeld htY hlY ⊢
        generalize hYe : W1.heap.size = Y at htY hY1 hlY ⊢
        clear hYe
        refine wpAnyH_ready (rs := [1, 9]) (by kernel_rfl) (by simp) ?_
        refine AllReadyH.cons rfl (fun K hK2 => ?_) ?_
        · as_aux_lemma =>
            rw [if_pos (by rfl)]
            simp only [List.getElem_toArray, List.getElem_cons_succ, List.getElem_cons_zero]
            go_wp2_with (go_at_call 15; (with_reducible refine (hOw.out _ hHeld).mono ?_); rintro e W3 ⟨c1, rfl, hT1, hb⟩)
            replace htY := tn_there htY hlY hb
            replace hlY := Nat.lt_of_lt_of_le hlY hb.size
            refine hK2.out _ _ (hHeld.keep hb) (fun hHeld2 => ?_)
            clear hK2 K hHeld
            have hHeld := hHeld2
            clear hHeld2
            try simp only [Act.put, List.getElem_toArray, List.getElem_cons_succ, List.getElem_cons_zero, List.setIfInBounds_toArray, List.set_cons_zero, List.set_cons_succ]
            clear hb
            refine wpAnyH_ready (rs := [4, 9]) (by kernel_rfl) (by simp) ?_
            refine AllReadyH.cons rfl (fun K hK2 => ?_) ?_
            · as_aux_lemma =>
                rw [if_pos (by rfl)]
                simp only [List.getElem_toArray, List.getElem_cons_succ, List.getElem_cons_zero]
                have hlo : w.heap.size + 2 < W3.heap.size := hHeld.lt
                go_wp2_with (go_at_call 9; (with_reducible refine (hSt.out _ _ _ hT1 hHeld.bl).mono ?_); rintro e W4 ⟨ds, va, vd, vw, rfl, hTs, has, hds, hws, hb⟩)
                obtain ⟨hi, hhe⟩ : ∃ n, n = W4.heap.size := ⟨_, rfl⟩
                have hSR : SR W4 W3.heap.size hi ds U va vd vw da dd dw := by rw [hhe]; exact ⟨hTs.win, has.win, hds.win, hws.win⟩
                have hhi : hi ≤ W4.heap.size := Nat.le_of_eq hhe
                clear hhe
                have nY : Y < W3.heap.size ∨ hi ≤ Y := .inl hlY
                replace htY := tn_there htY hlY hb
                replace hlY := Nat.lt_of_lt_of_le hlY hb.size
                replace hT1 := hT1.below hb
                refine hK2.out _ _ (hHeld.keep hb) (fun hHeld2 => ?_)
                clear hK2 K hHeld
                have hHeld := hHeld2
                clear hHeld2
                try simp only [Act.put, List.getElem_toArray, List.getElem_cons_succ, List.getElem_cons_zero, List.setIfInBounds_toArray, List.set_cons_zero, List.set_cons_succ]
                clear hb hTs has hds hws hT1
                refine wpAnyH_take (i := 5) (v := .tuple #[.agg ds.toArray, .agg #[va, vd, vw], .int .i64 E]) rfl (by kernel_rfl) (by kernel_rfl) (by kernel_rfl) (fun _ _ _ h => h) (Or.inl ⟨by rfl, fun W _ => by kernel_rfl⟩) hHeld ?_
                try simp only [Act.put, List.getElem_toArray, List.getElem_cons_succ, List.getElem_cons_zero, List.setIfInBounds_toArray, List.set_cons_zero, List.set_cons_succ]
                refine wpAnyH_take (i := 6) (v := .agg ds.toArray) rfl (by kernel_rfl) (by kernel_rfl) (by kernel_rfl) (fun _ _ _ h => h) (Or.inl ⟨by rfl, fun W _ => by kernel_rfl⟩) hHeld ?_
                try simp only [Act.put, List.getElem_toArray, List.getElem_cons_succ, List.getElem_cons_zero, List.setIfInBounds_toArray, List.set_cons_zero, List.set_cons_succ]
                refine wpAnyH_take (i := 7) (v := .agg #[va, vd, vw]) rfl (by kernel_rfl) (by kernel_rfl) (by kernel_rfl) (fun _ _ _ h => h) (Or.inl ⟨by rfl, fun W _ => by kernel_rfl⟩) hHeld ?_
                try simp only [Act.put, List.getElem_toArray, List.getElem_cons_succ, List.getElem_cons_zero, List.setIfInBounds_toArray, List.set_cons_zero, List.set_cons_succ]
                refine wpAnyH_take (i := 8) (v := .int .i64 E) rfl (by kernel_rfl) (by kernel_rfl) (by kernel_rfl) (fun _ _ _ h => h) (Or.inl ⟨by rfl, fun W _ => by kernel_rfl⟩) hHeld ?_
                try simp only [Act.put, List.getElem_toArray, List.getElem_cons_succ, List.getElem_cons_zero, List.setIfInBounds_toArray, List.set_cons_zero, List.set_cons_succ]
                refine wpAnyH_ready (rs := [9]) (by kernel_rfl) (by simp) (AllReadyH.cons rfl (fun K hK2 => ?_) AllReadyH.nil)
                rw [if_pos (by rfl)]
                simp only [List.getElem_toArray, List.getElem_cons_succ, List.getElem_cons_zero]
                obtain ⟨-, htX, hb, hsz⟩ := new_block W4 #[.slice none 0 0, .slice none 0 0, .slice none 0 0, .slice none 0 0, .slice none 0 0, .slice none 0 0, .slice none 0 0, .slice none 0 0, .slice none 0 0, .slice none 0 0, .slice none 0 0, .slice none 0 0, .slice none 0 0, .slice none 0 0, .slice none 0 0, .slice none 0 0, .slice none 0 0, .slice none 0 0, .slice none 0 0, .slice none 0 0, .slice none 0 0, .slice none 0 0, .slice none 0 0, .slice none 0 0, .slice none 0 0, .slice none 0 0, .slice none 0 0, .slice none 0 0, .slice none 0 0, .slice none 0 0, .slice none 0 0, .slice none 0 0, .slice none 0 0] 28
                have hX1 := hHeld.lt
                have hne : W4.heap.size ≠ Y := by omega
                have nX : W4.heap.size < W3.heap.size ∨ hi ≤ W4.heap.size := .inr hhi
                replace htY := tn_there htY hlY hb
                replace hlY := Nat.lt_of_lt_of_le hlY hb.size
                replace hSR := hSR.keep hb
                replace hhi := Nat.le_trans hhi hb.size
                have hlX : W4.heap.size < (W4.alloc (.cells #[.slice none 0 0, .slice none 0 0, .slice none 0 0, .slice none 0 0, .slice none 0 0, .slice none 0 0, .slice none 0 0, .slice none 0 0, .slice none 0 0, .slice none 0 0, .slice none 0 0, .slice none 0 0, .slice none 0 0, .slice none 0 0, .slice none 0 0, .slice none 0 0, .slice none 0 0, .slice none 0 0, .slice none 0 0, .slice none 0 0, .slice none 0 0, .slice none 0 0, .slice none 0 0, .slice none 0 0, .slice none 0 0, .slice none 0 0, .slice none 0 0, .slice none 0 0, .slice none 0 0, .slice none 0 0, .slice none 0 0, .slice none 0 0, .slice none 0 0] 28)).heap.size := by rw [hsz]; exact Nat.lt_succ_self _
                go_simp
                refine hK2.out _ _ (hHeld.keep hb) (fun hHeld2 => ?_)
                clear hK2 K hHeld
                have hHeld := hHeld2
                clear hHeld2
                try simp only [Act.put, List.getElem_toArray, List.getElem_cons_succ, List.getElem_cons_zero, List.setIfInBounds_toArray, List.set_cons_zero, List.set_cons_succ]
                clear hb hsz
                generalize W4.alloc (.cells #[.slice none 0 0, .slice none 0 0, .slice none 0 0, .slice none 0 0, .slice none 0 0, .slice none 0 0, .slice none 0 0, .slice none 0 0, .slice none 0 0, .slice none 0 0, .slice none 0 0, .slice none 0 0, .slice none 0 0, .slice none 0 0, .slice none 0 0, .slice none 0 0, .slice none 0 0, .slice none 0 0, .slice none 0 0, .slice none 0 0, .slice none 0 0, .slice none 0 0, .slice none 0 0, .slice none 0 0, .slice none 0 0, .slice none 0 0, .slice none 0 0, .slice none 0 0, .slice none 0 0, .slice none 0 0, .slice none 0 0, .slice none 0 0, .slice none 0 0] 28) = W5 at hHeld htX hlX htY hlY hSR hhi ⊢
                generalize hXe : W4.heap.size = X at htX hX1 hlX hne nX ⊢
                clear hXe
                have hTZ := hSR.fullC hHeld htX htY hne hX1 hY1 hlX hlY nX nY
                have hlcd := Lib.hid hSR.ts.lc
                have hod : Hid (ds.toArray.all (·.oneCell') = true) := Lib.hid (all_oneCell_toArray hSR.ts.one)
                have hpd : Hid ((#[va, vd, vw] : Array Value).all (·.oneCell') = true) := Lib.hid (all_oneCell_toArray (three_one hSR.ra.one hSR.rv.one hSR.rx.one))
                have hsd : Hid ((Tryz.prog.info? 28).map (·.size) = some ds.toArray.size) := Lib.hid (by rw [List.size_toArray, hSR.ts.lc]; exact size_taint)
                clear hSR hhi nX nY hne
                refine wpAnyH_ready (rs := [11]) (by kernel_rfl) (by simp) (AllReadyH.cons rfl (fun K hK2 => ?_) AllReadyH.nil)
                rw [if_pos (by rfl)]
                simp only [List.getElem_toArray, List.getElem_cons_succ, List.getElem_cons_zero]
                refine wp_store_mid 28 _ _ rfl X 0 ds.toArray rfl rfl (fun j hj => htX j (by rw [List.size_toArray, hlcd.out] at hj; exact hj)) hsd.out hod.out ?_
                change K _ (World.setCells _ X 0 ds)
                refine hK2.out _ _ (hHeld.far hX1 ds) (fun hHeld2 => ?_)
                clear hK2 K hHeld
                have hHeld := hHeld2
                clear hHeld2
                try simp only [Act.put, List.getElem_toArray, List.getElem_cons_succ, List.getElem_cons_zero, List.setIfInBounds_toArray, List.set_cons_zero, List.set_cons_succ]
                refine wpAnyH_ready (rs := [12]) (by kernel_rfl) (by simp) (AllReadyH.cons rfl (fun K hK2 => ?_) AllReadyH.nil)
                rw [if_pos (by rfl)]
                simp only [List.getElem_toArray, List.getElem_cons_succ, List.getElem_cons_zero]
                refine wp_store_mid 35 _ _ rfl Y 0 #[va, vd, vw] rfl rfl (World.there_setCells htY X 0 ds) size_deps hpd.out ?_
                change K _ (World.setCells (World.setCells _ X 0 ds) Y 0 [va, vd, vw])
                refine hK2.out _ _ (hHeld.far hY1 _) (fun hHeld2 => ?_)
                clear hK2 K hHeld
                have hHeld := hHeld2
                clear hHeld2
                try simp only [Act.put, List.getElem_toArray, List.getElem_cons_succ, List.getElem_cons_zero, List.setIfInBounds_toArray, List.set_cons_zero, List.set_cons_succ]
                refine wpAnyH_take (i := 13) (v := .int .i64 E) rfl (by kernel_rfl) (by kernel_rfl) (by kernel_rfl) (fun _ _ _ h => h) (Or.inl ⟨by rfl, fun W _ => by kernel_rfl⟩) hHeld ?_
                try simp only [Act.put, List.getElem_toArray, List.getElem_cons_succ, List.getElem_cons_zero, List.setIfInBounds_toArray, List.set_cons_zero, List.set_cons_succ]
                refine wpAnyH_done (by kernel_rfl) ?_ _
                go_wp2_with fail
                go_meet
                exact ⟨X, Y, ds, va, vd, vw, rfl, rfl, rfl, hTZ⟩
            refine AllReadyH.cons rfl (fun K hK2 => ?_) ?_
            · as_aux_lemma =>
                rw [if_pos (by rfl)]
                simp only [List.getElem_toArray, List.getElem_cons_succ, List.getElem_cons_zero]
                obtain ⟨-, htX, hb, hsz⟩ := new_block W3 #[.slice none 0 0, .slice none 0 0, .slice none 0 0, .slice none 0 0, .slice none 0 0, .slice none 0 0, .slice none 0 0, .slice none 0 0, .slice none 0 0, .slice none 0 0, .slice none 0 0, .slice none 0 0, .slice none 0 0, .slice none 0 0, .slice none 0 0, .slice none 0 0, .slice none 0 0, .slice none 0 0, .slice none 0 0, .slice none 0 0, .slice none 0 0, .slice none 0 0, .slice none 0 0, .slice none 0 0, .slice none 0 0, .slice none 0 0, .slice none 0 0, .slice none 0 0, .slice none 0 0, .slice none 0 0, .slice none 0 0, .slice none 0 0, .slice none 0 0] 28
                have hX1 := hHeld.lt
                have hne : W3.heap.size ≠ Y := by omega
                replace htY := tn_there htY hlY hb
                replace hlY := Nat.lt_of_lt_of_le hlY hb.size
                replace hT1 := hT1.below hb
                have hlX : W3.heap.size < (W3.alloc (.cells #[.slice none 0 0, .slice none 0 0, .slice none 0 0, .slice none 0 0, .slice none 0 0, .slice none 0 0, .slice none 0 0, .slice none 0 0, .slice none 0 0, .slice none 0 0, .slice none 0 0, .slice none 0 0, .slice none 0 0, .slice none 0 0, .slice none 0 0, .slice none 0 0, .slice none 0 0, .slice none 0 0, .slice none 0 0, .slice none 0 0, .slice none 0 0, .slice none 0 0, .slice none 0 0, .slice none 0 0, .slice none 0 0, .slice none 0 0, .slice none 0 0, .slice none 0 0, .slice none 0 0, .slice none 0 0, .slice none 0 0, .slice none 0 0, .slice none 0 0] 28)).heap.size := by rw [hsz]; exact Nat.lt_succ_self _
                go_simp
                refine hK2.out _ _ (hHeld.keep hb) (fun hHeld2 => ?_)
                clear hK2 K hHeld
                have hHeld := hHeld2
                clear hHeld2
                try simp only [Act.put, List.getElem_toArray, List.getElem_cons_succ, List.getElem_cons_zero, List.setIfInBounds_toArray, List.set_cons_zero, List.set_cons_succ]
                clear hb hsz
                generalize W3.alloc (.cells #[.slice none 0 0, .slice none 0 0, .slice none 0 0, .slice none 0 0, .slice none 0 0, .slice none 0 0, .slice none 0 0, .slice none 0 0, .slice none 0 0, .slice none 0 0, .slice none 0 0, .slice none 0 0, .slice none 0 0, .slice none 0 0, .slice none 0 0, .slice none 0 0, .slice none 0 0, .slice none 0 0, .slice none 0 0, .slice none 0 0, .slice none 0 0, .slice none 0 0, .slice none 0 0, .slice none 0 0, .slice none 0 0, .slice none 0 0, .slice none 0 0, .slice none 0 0, .slice none 0 0, .slice none 0 0, .slice none 0 0, .slice none 0 0, .slice none 0 0] 28) = W4 at hHeld htX hlX htY hlY hT1 ⊢
                generalize hXe : W3.heap.size = X at htX hX1 hlX hne ⊢
                clear hXe
                refine wpAnyH_ready (rs := [4]) (by kernel_rfl) (by simp) (AllReadyH.cons rfl (fun K hK2 => ?_) AllReadyH.nil)
                rw [if_pos (by rfl)]
                simp only [List.getElem_toArray, List.getElem_cons_succ, List.getElem_cons_zero]
                have hlo : w.heap.size + 2 < W4.heap.size := hHeld.lt
                go_wp2_with (go_at_call 9; (with_reducible refine (hSt.out _ _ _ hT1 hHeld.bl).mono ?_); rintro e W5 ⟨ds, va, vd, vw, rfl, hTs, has, hds, hws, hb⟩)
                obtain ⟨hi, hhe⟩ : ∃ n, n = W5.heap.size := ⟨_, rfl⟩
                have hSR : SR W5 W4.heap.size hi ds U va vd vw da dd dw := by rw [hhe]; exact ⟨hTs.win, has.win, hds.win, hws.win⟩
                have hhi : hi ≤ W5.heap.size := Nat.le_of_eq hhe
                clear hhe
                have nY : Y < W4.heap.size ∨ hi ≤ Y := .inl hlY
                have nX : X < W4.heap.size ∨ hi ≤ X := .inl hlX
                replace htY := tn_there htY hlY hb
                replace hlY := Nat.lt_of_lt_of_le hlY hb.size
                replace htX := tn_there htX hlX hb
                replace hlX := Nat.lt_of_lt_of_le hlX hb.size
                replace hT1 := hT1.below hb
                refine hK2.out _ _ (hHeld.keep hb) (fun hHeld2 => ?_)
                clear hK2 K hHeld
                have hHeld := hHeld2
                clear hHeld2
                try simp only [Act.put, List.getElem_toArray, List.getElem_cons_succ, List.getElem_cons_zero, List.setIfInBounds_toArray, List.set_cons_zero, List.set_cons_succ]
                clear hb hTs has hds hws hT1
                refine wpAnyH_take (i := 5) (v := .tuple #[.agg ds.toArray, .agg #[va, vd, vw], .int .i64 E]) rfl (by kernel_rfl) (by kernel_rfl) (by kernel_rfl) (fun _ _ _ h => h) (Or.inl ⟨by rfl, fun W _ => by kernel_rfl⟩) hHeld ?_
                try simp only [Act.put, List.getElem_toArray, List.getElem_cons_succ, List.getElem_cons_zero, List.setIfInBounds_toArray, List.set_cons_zero, List.set_cons_succ]
                refine wpAnyH_take (i := 6) (v := .agg ds.toArray) rfl (by kernel_rfl) (by kernel_rfl) (by kernel_rfl) (fun _ _ _ h => h) (Or.inl ⟨by rfl, fun W _ => by kernel_rfl⟩) hHeld ?_
                try simp only [Act.put, List.getElem_toArray, List.getElem_cons_succ, List.getElem_cons_zero, List.setIfInBounds_toArray, List.set_cons_zero, List.set_cons_succ]
                refine wpAnyH_take (i := 7) (v := .agg #[va, vd, vw]) rfl (by kernel_rfl) (by kernel_rfl) (by kernel_rfl) (fun _ _ _ h => h) (Or.inl ⟨by rfl, fun W _ => by kernel_rfl⟩) hHeld ?_
                try simp only [Act.put, List.getElem_toArray, List.getElem_cons_succ, List.getElem_cons_zero, List.setIfInBounds_toArray, List.set_cons_zero, List.set_cons_succ]
                refine wpAnyH_take (i := 8) (v := .int .i64 E) rfl (by kernel_rfl) (by kernel_rfl) (by kernel_rfl) (fun _ _ _ h => h) (Or.inl ⟨by rfl, fun W _ => by kernel_rfl⟩) hHeld ?_
                try simp only [Act.put, List.getElem_toArray, List.getElem_cons_succ, List.getElem_cons_zero, List.setIfInBounds_toArray, List.set_cons_zero, List.set_cons_succ]
                have hTZ := hSR.fullC hHeld htX htY hne hX1 hY1 hlX hlY nX nY
                have hlcd := Lib.hid hSR.ts.lc
                have hod : Hid (ds.toArray.all (·.oneCell') = true) := Lib.hid (all_oneCell_toArray hSR.ts.one)
                have hpd : Hid ((#[va, vd, vw] : Array Value).all (·.oneCell') = true) := Lib.hid (all_oneCell_toArray (three_one hSR.ra.one hSR.rv.one hSR.rx.one))
                have hsd : Hid ((Tryz.prog.info? 28).map (·.size) = some ds.toArray.size) := Lib.hid (by rw [List.size_toArray, hSR.ts.lc]; exact size_taint)
                clear hSR hhi nX nY hne
                refine wpAnyH_ready (rs := [11]) (by kernel_rfl) (by simp) (AllReadyH.cons rfl (fun K hK2 => ?_) AllReadyH.nil)
                rw [if_pos (by rfl)]
                simp only [List.getElem_toArray, List.getElem_cons_succ, List.getElem_cons_zero]
                refine wp_store_mid 28 _ _ rfl X 0 ds.toArray rfl rfl (fun j hj => htX j (by rw [List.size_toArray, hlcd.out] at hj; exact hj)) hsd.out hod.out ?_
                change K _ (World.setCells _ X 0 ds)
                refine hK2.out _ _ (hHeld.far hX1 ds) (fun hHeld2 => ?_)
                clear hK2 K hHeld
                have hHeld := hHeld2
                clear hHeld2
                try simp only [Act.put, List.getElem_toArray, List.getElem_cons_succ, List.getElem_cons_zero, List.setIfInBounds_toArray, List.set_cons_zero, List.set_cons_succ]
                refine wpAnyH_ready (rs := [12]) (by kernel_rfl) (by simp) (AllReadyH.cons rfl (fun K hK2 => ?_) AllReadyH.nil)
                rw [if_pos (by rfl)]
                simp only [List.getElem_toArray, List.getElem_cons_succ, List.getElem_cons_zero]
                refine wp_store_mid 35 _ _ rfl Y 0 #[va, vd, vw] rfl rfl (World.there_setCells htY X 0 ds) size_deps hpd.out ?_
                change K _ (World.setCells (World.setCells _ X 0 ds) Y 0 [va, vd, vw])
                refine hK2.out _ _ (hHeld.far hY1 _) (fun hHeld2 => ?_)
                clear hK2 K hHeld
                have hHeld := hHeld2
                clear hHeld2
                try simp only [Act.put, List.getElem_toArray, List.getElem_cons_succ, List.getElem_cons_zero, List.setIfInBounds_toArray, List.set_cons_zero, List.set_cons_succ]
                refine wpAnyH_take (i := 13) (v := .int .i64 E) rfl (by kernel_rfl) (by kernel_rfl) (by kernel_rfl) (fun _ _ _ h => h) (Or.inl ⟨by rfl, fun W _ => by kernel_rfl⟩) hHeld ?_
                try simp only [Act.put, List.getElem_toArray, List.getElem_cons_succ, List.getElem_cons_zero, List.setIfInBounds_toArray, List.set_cons_zero, List.set_cons_succ]
                refine wpAnyH_done (by kernel_rfl) ?_ _
                go_wp2_with fail
                go_meet
                exact ⟨X, Y, ds, va, vd, vw, rfl, rfl, rfl, hTZ⟩
            exact AllReadyH.nil
        refine AllReadyH.cons rfl (fun K hK2 => ?_) ?_
        · as_aux_lemma =>
            rw [if_pos (by rfl)]
            simp only [List.getElem_toArray, List.getElem_cons_succ, List.getElem_cons_zero]
            obtain ⟨-, htX, hb, hsz⟩ := new_block W2 #[.slice none 0 0, .slice none 0 0, .slice none 0 0, .slice none 0 0, .slice none 0 0, .slice none 0 0, .slice none 0 0, .slice none 0 0, .slice none 0 0, .slice none 0 0, .slice none 0 0, .slice none 0 0, .slice none 0 0, .slice none 0 0, .slice none 0 0, .slice none 0 0, .slice none 0 0, .slice none 0 0, .slice none 0 0, .slice none 0 0, .slice none 0 0, .slice none 0 0, .slice none 0 0, .slice none 0 0, .slice none 0 0, .slice none 0 0, .slice none 0 0, .slice none 0 0, .slice none 0 0, .slice none 0 0, .slice none 0 0, .slice none 0 0, .slice none 0 0] 28
            have hX1 := hHeld.lt
            have hne : W2.heap.size ≠ Y := by omega
            replace htY := tn_there htY hlY hb
            replace hlY := Nat.lt_of_lt_of_le hlY hb.size
            have hlX : W2.heap.size < (W2.alloc (.cells #[.slice none 0 0, .slice none 0 0, .slice none 0 0, .slice none 0 0, .slice none 0 0, .slice none 0 0, .slice none 0 0, .slice none 0 0, .slice none 0 0, .slice none 0 0, .slice none 0 0, .slice none 0 0, .slice none 0 0, .slice none 0 0, .slice none 0 0, .slice none 0 0, .slice none 0 0, .slice none 0 0, .slice none 0 0, .slice none 0 0, .slice none 0 0, .slice none 0 0, .slice none 0 0, .slice none 0 0, .slice none 0 0, .slice none 0 0, .slice none 0 0, .slice none 0 0, .slice none 0 0, .slice none 0 0, .slice none 0 0, .slice none 0 0, .slice none 0 0] 28)).heap.size := by rw [hsz]; exact Nat.lt_succ_self _
            go_simp
            refine hK2.out _ _ (hHeld.keep hb) (fun hHeld2 => ?_)
            clear hK2 K hHeld
            have hHeld := hHeld2
            clear hHeld2
            try simp only [Act.put, List.getElem_toArray, List.getElem_cons_succ, List.getElem_cons_zero, List.setIfInBounds_toArray, List.set_cons_zero, List.set_cons_succ]
            clear hb hsz
            generalize W2.alloc (.cells #[.slice none 0 0, .slice none 0 0, .slice none 0 0, .slice none 0 0, .slice none 0 0, .slice none 0 0, .slice none 0 0, .slice none 0 0, .slice none 0 0, .slice none 0 0, .slice none 0 0, .slice none 0 0, .slice none 0 0, .slice none 0 0, .slice none 0 0, .slice none 0 0, .slice none 0 0, .slice none 0 0, .slice none 0 0, .slice none 0 0, .slice none 0 0, .slice none 0 0, .slice none 0 0, .slice none 0 0, .slice none 0 0, .slice none 0 0, .slice none 0 0, .slice none 0 0, .slice none 0 0, .slice none 0 0, .slice none 0 0, .slice none 0 0, .slice none 0 0] 28) = W3 at hHeld htX hlX htY hlY ⊢
            generalize hXe : W2.heap.size = X at htX hX1 hlX hne ⊢
            clear hXe
            refine wpAnyH_ready (rs := [1]) (by kernel_rfl) (by simp) (AllReadyH.cons rfl (fun K hK2 => ?_) AllReadyH.nil)
            rw [if_pos (by rfl)]
            simp only [List.getElem_toArray, List.getElem_cons_succ, List.getElem_cons_zero]
            go_wp2_with (go_at_call 15; (with_reducible refine (hOw.out _ hHeld).mono ?_); rintro e W4 ⟨c1, rfl, hT1, hb⟩)
            replace htY := tn_there htY hlY hb
            replace hlY := Nat.lt_of_lt_of_le hlY hb.size
            replace htX := tn_there htX hlX hb
            replace hlX := Nat.lt_of_lt_of_le hlX hb.size
            refine hK2.out _ _ (hHeld.keep hb) (fun hHeld2 => ?_)
            clear hK2 K hHeld
            have hHeld := hHeld2
            clear hHeld2
            try simp only [Act.put, List.getElem_toArray, List.getElem_cons_succ, List.getElem_cons_zero, List.setIfInBounds_toArray, List.set_cons_zero, List.set_cons_succ]
            clear hb
            refine wpAnyH_ready (rs := [4]) (by kernel_rfl) (by simp) (AllReadyH.cons rfl (fun K hK2 => ?_) AllReadyH.nil)
            rw [if_pos (by rfl)]
            simp only [List.getElem_toArray, List.getElem_cons_succ, List.getElem_cons_zero]
            have hlo : w.heap.size + 2 < W4.heap.size := hHeld.lt
            go_wp2_with (go_at_call 9; (with_reducible refine (hSt.out _ _ _ hT1 hHeld.bl).mono ?_); rintro e W5 ⟨ds, va, vd, vw, rfl, hTs, has, hds, hws, hb⟩)
            obtain ⟨hi, hhe⟩ : ∃ n, n = W5.heap.size := ⟨_, rfl⟩
            have hSR : SR W5 W4.heap.size hi ds U va vd vw da dd dw := by rw [hhe]; exact ⟨hTs.win, has.win, hds.win, hws.win⟩
            have hhi : hi ≤ W5.heap.size := Nat.le_of_eq hhe
            clear hhe
            have nY : Y < W4.heap.size ∨ hi ≤ Y := .inl hlY
            have nX : X < W4.heap.size ∨ hi ≤ X := .inl hlX
            replace htY := tn_there htY hlY hb
            replace hlY := Nat.lt_of_lt_of_le hlY hb.size
            replace htX := tn_there htX hlX hb
            replace hlX := Nat.lt_of_lt_of_le hlX hb.size
            replace hT1 := hT1.below hb
            refine hK2.out _ _ (hHeld.keep hb) (fun hHeld2 => ?_)
            clear hK2 K hHeld
            have hHeld := hHeld2
            clear hHeld2
            try simp only [Act.put, List.getElem_toArray, List.getElem_cons_succ, List.getElem_cons_zero, List.setIfInBounds_toArray, List.set_cons_zero, List.set_cons_succ]
            clear hb hTs has hds hws hT1
            refine wpAnyH_take (i := 5) (v := .tuple #[.agg ds.toArray, .agg #[va, vd, vw], .int .i64 E]) rfl (by kernel_rfl) (by kernel_rfl) (by kernel_rfl) (fun _ _ _ h => h) (Or.inl ⟨by rfl, fun W _ => by kernel_rfl⟩) hHeld ?_
            try simp only [Act.put, List.getElem_toArray, List.getElem_cons_succ, List.getElem_cons_zero, List.setIfInBounds_toArray, List.set_cons_zero, List.set_cons_succ]
            refine wpAnyH_take (i := 6) (v := .agg ds.toArray) rfl (by kernel_rfl) (by kernel_rfl) (by kernel_rfl) (fun _ _ _ h => h) (Or.inl ⟨by rfl, fun W _ => by kernel_rfl⟩) hHeld ?_
            try simp only [Act.put, List.getElem_toArray, List.getElem_cons_succ, List.getElem_cons_zero, List.setIfInBounds_toArray, List.set_cons_zero, List.set_cons_succ]
            refine wpAnyH_take (i := 7) (v := .agg #[va, vd, vw]) rfl (by kernel_rfl) (by kernel_rfl) (by kernel_rfl) (fun _ _ _ h => h) (Or.inl ⟨by rfl, fun W _ => by kernel_rfl⟩) hHeld ?_
            try simp only [Act.put, List.getElem_toArray, List.getElem_cons_succ, List.getElem_cons_zero, List.setIfInBounds_toArray, List.set_cons_zero, List.set_cons_succ]
            refine wpAnyH_take (i := 8) (v := .int .i64 E) rfl (by kernel_rfl) (by kernel_rfl) (by kernel_rfl) (fun _ _ _ h => h) (Or.inl ⟨by rfl, fun W _ => by kernel_rfl⟩) hHeld ?_
            try simp only [Act.put, List.getElem_toArray, List.getElem_cons_succ, List.getElem_cons_zero, List.setIfInBounds_toArray, List.set_cons_zero, List.set_cons_succ]
            have hTZ := hSR.fullC hHeld htX htY hne hX1 hY1 hlX hlY nX nY
            have hlcd := Lib.hid hSR.ts.lc
            have hod : Hid (ds.toArray.all (·.oneCell') = true) := Lib.hid (all_oneCell_toArray hSR.ts.one)
            have hpd : Hid ((#[va, vd, vw] : Array Value).all (·.oneCell') = true) := Lib.hid (all_oneCell_toArray (three_one hSR.ra.one hSR.rv.one hSR.rx.one))
            have hsd : Hid ((Tryz.prog.info? 28).map (·.size) = some ds.toArray.size) := Lib.hid (by rw [List.size_toArray, hSR.ts.lc]; exact size_taint)
            clear hSR hhi nX nY hne
            refine wpAnyH_ready (rs := [11]) (by kernel_rfl) (by simp) (AllReadyH.cons rfl (fun K hK2 => ?_) AllReadyH.nil)
            rw [if_pos (by rfl)]
            simp only [List.getElem_toArray, List.getElem_cons_succ, List.getElem_cons_zero]
            refine wp_store_mid 28 _ _ rfl X 0 ds.toArray rfl rfl (fun j hj => htX j (by rw [List.size_toArray, hlcd.out] at hj; exact hj)) hsd.out hod.out ?_
            change K _ (World.setCells _ X 0 ds)
            refine hK2.out _ _ (hHeld.far hX1 ds) (fun hHeld2 => ?_)
            clear hK2 K hHeld
            have hHeld := hHeld2
            clear hHeld2
            try simp only [Act.put, List.getElem_toArray, List.getElem_cons_succ, List.getElem_cons_zero, List.setIfInBounds_toArray, List.set_cons_zero, List.set_cons_succ]
            refine wpAnyH_ready (rs := [12]) (by kernel_rfl) (by simp) (AllReadyH.cons rfl (fun K hK2 => ?_) AllReadyH.nil)
            rw [if_pos (by rfl)]
            simp only [List.getElem_toArray, List.getElem_cons_succ, List.getElem_cons_zero]
            refine wp_store_mid 35 _ _ rfl Y 0 #[va, vd, vw] rfl rfl (World.there_setCells htY X 0 ds) size_deps hpd.out ?_
            change K _ (World.setCells (World.setCells _ X 0 ds) Y 0 [va, vd, vw])
            refine hK2.out _ _ (hHeld.far hY1 _) (fun hHeld2 => ?_)
            clear hK2 K hHeld
            have hHeld := hHeld2
            clear hHeld2
            try simp only [Act.put, List.getElem_toArray, List.getElem_cons_succ, List.getElem_cons_zero, List.setIfInBounds_toArray, List.set_cons_zero, List.set_cons_succ]
            refine wpAnyH_take (i := 13) (v := .int .i64 E) rfl (by kernel_rfl) (by kernel_rfl) (by kernel_rfl) (fun _ _ _ h => h) (Or.inl ⟨by rfl, fun W _ => by kernel_rfl⟩) hHeld ?_
            try simp only [Act.put, List.getElem_toArray, List.getElem_cons_succ, List.getElem_cons_zero, List.setIfInBounds_toArray, List.set_cons_zero, List.set_cons_succ]
            refine wpAnyH_done (by kernel_rfl) ?_ _
            go_wp2_with fail
            go_meet
            exact ⟨X, Y, ds, va, vd, vw, rfl, rfl, rfl, hTZ⟩
        exact AllReadyH.nil
    exact AllReadyH.nil
  case rest =>
  obtain ⟨X, Y, ds, va, vd, vw, rfl, rfl, rfl, hZ⟩ := hcut
  clear hL hOw hSt
  have hr0 := hZ.lf.r0
  have hri := hZ.lf.ri
  have hts := Lib.hid hZ.lf.ts
  replace hZ := Lib.hid hZ
  go_upto_region 7 with (first | (refine wpList_load_mid rfl 28 _ rfl w.heap.size 0 rfl cs _ hr0 huT rfl hsc.out ?_) | (refine wpList_load_mid rfl 33 _ rfl (w.heap.size + 2) 0 rfl ics _ hri huI rfl hsi.out ?_) | (go_at_call 10; (with_reducible refine (hRs.out _ hts.out).mono ?_); rintro e w28 ⟨css, vas, vds, vws, rfl, hTs, has, hds, hws, hbs⟩; have hzs := T0.new w28 #[.slice none 0 0, .slice none 0 0, .slice none 0 0, .slice none 0 0, .slice none 0 0, .slice none 0 0, .slice none 0 0, .slice none 0 0, .slice none 0 0, .slice none 0 0, .slice none 0 0, .slice none 0 0, .slice none 0 0, .slice none 0 0, .slice none 0 0, .slice none 0 0, .slice none 0 0, .slice none 0 0, .slice none 0 0, .slice none 0 0, .slice none 0 0, .slice none 0 0, .slice none 0 0, .slice none 0 0, .slice none 0 0, .slice none 0 0, .slice none 0 0, .slice none 0 0, .slice none 0 0, .slice none 0 0, .slice none 0 0, .slice none 0 0, .slice none 0 0] #[.slice none 0 0, .slice none 0 0, .slice none 0 0] 28 35 rfl rfl; have hys := hzs.cells w28.heap.size (Nat.le_refl _) css; have hfs := hzs.full hTs has hds hws; have hlcs := Lib.hid hTs.lc; have hss : Hid ((Tryz.prog.info? 28).map (·.size) = some css.toArray.size) := Lib.hid (by rw [List.size_toArray, hTs.lc]; exact size_taint); have hos : Hid (css.toArray.all (·.oneCell') = true) := Lib.hid (all_oneCell_toArray hTs.one); have hps : Hid ((#[vas, vds, vws] : Array Value).all (·.oneCell') = true) := Lib.hid (all_oneCell_toArray hfs.1.one)) | (refine wpList_store_mid rfl 28 _ _ rfl w28.heap.size 0 css.toArray rfl rfl (fun j hj => hzs.tt j (by rw [List.size_toArray, hlcs.out] at hj; exact hj)) hss.out hos.out ?_; change wpList _ _ _ _ _ (World.setCells _ w28.heap.size 0 css)) | (refine wpList_store_mid rfl 35 _ _ rfl (w28.heap.size + 1) 0 #[vas, vds, vws] rfl rfl (fun j hj => hys.td j hj) size_deps hps.out ?_; change wpList _ _ _ _ _ (World.setCells (World.setCells _ w28.heap.size 0 css) (w28.heap.size + 1) 0 [vas, vds, vws]); generalize ((((w28.alloc (.cells #[.slice none 0 0, .slice none 0 0, .slice none 0 0, .slice none 0 0, .slice none 0 0, .slice none 0 0, .slice none 0 0, .slice none 0 0, .slice none 0 0, .slice none 0 0, .slice none 0 0, .slice none 0 0, .slice none 0 0, .slice none 0 0, .slice none 0 0, .slice none 0 0, .slice none 0 0, .slice none 0 0, .slice none 0 0, .slice none 0 0, .slice none 0 0, .slice none 0 0, .slice none 0 0, .slice none 0 0, .slice none 0 0, .slice none 0 0, .slice none 0 0, .slice none 0 0, .slice none 0 0, .slice none 0 0, .slice none 0 0, .slice none 0 0, .slice none 0 0] 28)).alloc (.cells #[.slice none 0 0, .slice none 0 0, .slice none 0 0] 35)).setCells w28.heap.size 0 css).setCells (w28.heap.size + 1) 0 [vas, vds, vws]) = Ws at hfs ⊢))
  obtain ⟨hXs, hcs⟩ := hfs
  have hZ28 := hZ.out.keep (bl_step hbs hcs)
  clear hzs hys hlcs hss hos hps hTs has hds hws hbs hcs hZ hts hri hr0 hRs
  have huD := Tryz.underlying35
  have hsd : Hid ((Tryz.prog.info? 28).map (·.size) = some ds.length) := Lib.hid (by rw [hZ28.ts.lc]; exact size_taint)
  have hss2 : Hid ((Tryz.prog.info? 28).map (·.size) = some css.length) := Lib.hid (by rw [hXs.ts.lc]; exact size_taint)
  have hK1 : Hid (∀ W, TY w W cs os ics T O X Y ds U va vd vw da dd dw ∧ TQ W w28.heap.size css U vas vds vws da dd dw → Calls Tryz.prog 11 #[.agg ds.toArray, .agg css.toArray] W fun e w' => e = .returned (.bool true) ∧ Below W.heap.size W w') := Lib.hid fun W hW => by
    have := KTaint_any ds css U U _ _ W hW.1.ts hW.2.ts
    rw [sameT_self] at this; exact this
  have hC1 : Hid (∀ W, TY w W cs os ics T O X Y ds U va vd vw da dd dw ∧ TQ W w28.heap.size css U vas vds vws da dd dw → Calls Tryz.prog 13 #[.agg cs.toArray] W fun e w' => e = .returned (.int .i64 (taintE T)) ∧ Below W.heap.size W w') := Lib.hid fun W hW => TCheck_any cs T _ W hW.1.lf.ts
  have hC2 : Hid (∀ W, TY w W cs os ics T O X Y ds U va vd vw da dd dw ∧ TQ W w28.heap.size css U vas vds vws da dd dw → Calls Tryz.prog 16 #[.agg cs.toArray] W fun e w' => e = .returned (.int .i64 (taintE T)) ∧ Below W.heap.size W w') := Lib.hid fun W hW => RCheck_any cs T _ W hW.1.lf.ts hlen.out
  have hM1 : Hid (∀ W, TY w W cs os ics T O X Y ds U va vd vw da dd dw ∧ TQ W w28.heap.size css U vas vds vws da dd dw → Calls Tryz.prog 17 #[.agg cs.toArray, .agg os.toArray] W fun e w' => e = .returned (.bool (sameT T O)) ∧ Below W.heap.size W w') := Lib.hid fun W hW => TSame_any cs os T O _ _ W hW.1.lf.ts hW.1.lf.ot
  have hM2 : Hid (∀ W, TY w W cs os ics T O X Y ds U va vd vw da dd dw ∧ TQ W w28.heap.size css U vas vds vws da dd dw → Calls Tryz.prog 11 #[.agg cs.toArray, .agg os.toArray] W fun e w' => e = .returned (.bool (sameT T O)) ∧ Below W.heap.size W w') := Lib.hid fun W hW => KTaint_any cs os T O _ _ W hW.1.lf.ts hW.1.lf.ot
  have hra : Hid (∀ W, TY w W cs os ics T O X Y ds U va vd vw da dd dw ∧ TQ W w28.heap.size css U vas vds vws da dd dw → RL W W.heap.size (.slice A1 la.length k1) la) := Lib.hid fun W hW => (ha.out.below hW.1.lf.bl (Nat.le_refl _)).more hW.1.lf.bl.size
  have hrb : Hid (∀ W, TY w W cs os ics T O X Y ds U va vd vw da dd dw ∧ TQ W w28.heap.size css U vas vds vws da dd dw → RL W W.heap.size (.slice A2 lb.length k2) lb) := Lib.hid fun W hW => (hb.out.below hW.1.lf.bl (Nat.le_refl _)).more hW.1.lf.bl.size
  have hR1 : Hid (∀ W, TY w W cs os ics T O X Y ds U va vd vw da dd dw ∧ TQ W w28.heap.size css U vas vds vws da dd dw → Calls Tryz.prog 18 #[.slice A1 la.length k1] W fun e w' => e = .returned (.bool (risingB la)) ∧ Below W.heap.size W w') := Lib.hid fun W hW => (Rising_any _ la _ W (hra.out W hW)).mono fun e w' ⟨h1, h2⟩ => ⟨h1, by rw [← h2]; exact Below.refl _ _⟩
  have hR2 : Hid (∀ W, TY w W cs os ics T O X Y ds U va vd vw da dd dw ∧ TQ W w28.heap.size css U vas vds vws da dd dw → Calls Tryz.prog 19 #[.slice A1 la.length k1] W fun e w' => e = .returned (.bool (risingB la)) ∧ Below W.heap.size W w') := Lib.hid fun W hW => (RRising_any _ la _ W (hra.out W hW) (by omega)).mono fun e w' hq => hq.below
  generalize taintE T = tE at hC1 hC2
  generalize sameT T O = sTO at hM1 hM2
  generalize risingB la = rla at hR1 hR2
  go_upto_region 7 with fail
  refine wp_region_held_drew (S := fun W => TY w W cs os ics T O X Y ds U va vd vw da dd dw ∧ TQ W w28.heap.size css U vas vds vws da dd dw) (by kernel_rfl) ⟨hZ28.keep (drew_belowC _), hXs.keep (drew_belowC _)⟩ (fun hHeld => ?_)
  refine wpAnyH_take (i := 0) rfl (by kernel_rfl) (by kernel_rfl) (by kernel_rfl) (fun _ _ _ h => h) (yieldsIf_load_mid (by rfl) _ _ rfl (X) 0 rfl (ds) _ (fun W hS => hS.1.rt) huT rfl hsd.out) hHeld ?_
  try simp only [Act.put, List.getElem_toArray, List.getElem_cons_zero, List.setIfInBounds_toArray, List.set_cons_zero, List.set_cons_succ]
  generalize World.drew _ = W1 at hHeld ⊢
  refine wpAnyH_take (i := 1) rfl (by kernel_rfl) (by kernel_rfl) (by kernel_rfl) (fun _ _ _ h => h) (yieldsIf_load_mid (by rfl) _ _ rfl (w28.heap.size) 0 rfl (css) _ (fun W hS => hS.2.rt) huT rfl hss2.out) hHeld ?_
  try simp only [Act.put, List.getElem_toArray, List.getElem_cons_succ, List.getElem_cons_zero, List.setIfInBounds_toArray, List.set_cons_zero, List.set_cons_succ]
  clear hZ28 hXs
  refine wpAnyH_ready (rs := [2]) (by kernel_rfl) (by simp) (AllReadyH.cons rfl (fun K hK2 => ?_) AllReadyH.nil)
  rw [if_pos (by rfl)]
  simp only [List.getElem_toArray, List.getElem_cons_succ, List.getElem_cons_zero]
  go_wp2_with (go_at_call 11; (with_reducible refine (hK1.out _ hHeld).mono ?_); rintro e W2 ⟨rfl, hb⟩)
  refine hK2.out _ _ (⟨hHeld.1.keep hb, hHeld.2.keep hb⟩) (fun hHeld2 => ?_)
  clear hK2 K hHeld
  have hHeld := hHeld2
  clear hHeld2
  try simp only [Act.put, List.getElem_toArray, List.getElem_cons_succ, List.getElem_cons_zero, List.setIfInBounds_toArray, List.set_cons_zero, List.set_cons_succ]
  clear hb
  refine wpAnyH_take (i := 3) (v := .bool true) rfl (by kernel_rfl) (by kernel_rfl) (by kernel_rfl) (fun _ _ _ h => h) (Or.inl ⟨by rfl, fun W _ => by go_simp⟩) hHeld ?_
  try simp only [Act.put, List.getElem_toArray, List.getElem_cons_succ, List.getElem_cons_zero, List.setIfInBounds_toArray, List.set_cons_zero, List.set_cons_succ]
  refine wpAnyH_take (i := 4) rfl (by kernel_rfl) (by kernel_rfl) (by kernel_rfl) (fun _ _ _ h => h) (yieldsIf_load_mid (by rfl) _ _ rfl (Y) 0 rfl ([va, vd, vw]) _ (fun W hS => hS.1.rd) huD rfl size_deps) hHeld ?_
  try simp only [Act.put, List.getElem_toArray, List.getElem_cons_succ, List.getElem_cons_zero, List.setIfInBounds_toArray, List.set_cons_zero, List.set_cons_succ]
  refine wpAnyH_take (i := 5) rfl (by kernel_rfl) (by kernel_rfl) (by kernel_rfl) (fun _ _ _ h => h) (yieldsIf_load_mid (by rfl) _ _ rfl (w28.heap.size + 1) 0 rfl ([vas, vds, vws]) _ (fun W hS => hS.2.rd) huD rfl size_deps) hHeld ?_
  try simp only [Act.put, List.getElem_toArray, List.getElem_cons_succ, List.getElem_cons_zero, List.setIfInBounds_toArray, List.set_cons_zero, List.set_cons_succ]
  refine wpAnyH_ready (rs := [6]) (by kernel_rfl) (by simp) (AllReadyH.cons rfl (fun K hK2 => ?_) AllReadyH.nil)
  rw [if_pos (by rfl)]
  simp only [List.getElem_toArray, List.getElem_cons_succ, List.getElem_cons_zero]
  go_wp2_with (go_at_call 12; (with_reducible refine (Deps_yesC va vd vw vas vds vws da dd dw W2 hHeld.1.ra.rl hHeld.1.rv.rl hHeld.1.rx.rl hHeld.2.ra.rl hHeld.2.rv.rl hHeld.2.rx.rl).mono ?_); rintro e W3 ⟨rfl, hb⟩)
  refine hK2.out _ _ (⟨hHeld.1.keep hb, hHeld.2.keep hb⟩) (fun hHeld2 => ?_)
  clear hK2 K hHeld
  have hHeld := hHeld2
  clear hHeld2
  try simp only [Act.put, List.getElem_toArray, List.getElem_cons_succ, List.getElem_cons_zero, List.setIfInBounds_toArray, List.set_cons_zero, List.set_cons_succ]
  clear hb
  refine wpAnyH_take (i := 7) (v := .bool true) rfl (by kernel_rfl) (by kernel_rfl) (by kernel_rfl) (fun _ _ _ h => h) (Or.inl ⟨by rfl, fun W _ => by go_simp⟩) hHeld ?_
  try simp only [Act.put, List.getElem_toArray, List.getElem_cons_succ, List.getElem_cons_zero, List.setIfInBounds_toArray, List.set_cons_zero, List.set_cons_succ]
  refine wpAnyH_take (i := 8) (v := .bool true) rfl (by kernel_rfl) (by kernel_rfl) (by kernel_rfl) (fun _ _ _ h => h) (Or.inl ⟨by rfl, fun W _ => by go_simp⟩) hHeld ?_
  try simp only [Act.put, List.getElem_toArray, List.getElem_cons_succ, List.getElem_cons_zero, List.setIfInBounds_toArray, List.set_cons_zero, List.set_cons_succ]
  refine wpAnyH_take (i := 9) (v := .int .i64 E) rfl (by kernel_rfl) (by kernel_rfl) (by kernel_rfl) (fun _ _ _ h => h) (Or.inl ⟨by rfl, fun W _ => by kernel_rfl⟩) hHeld ?_
  try simp only [Act.put, List.getElem_toArray, List.getElem_cons_succ, List.getElem_cons_zero, List.setIfInBounds_toArray, List.set_cons_zero, List.set_cons_succ]
  refine wpAnyH_take (i := 10) (v := .int .i64 E) rfl (by kernel_rfl) (by kernel_rfl) (by kernel_rfl) (fun _ _ _ h => h) (Or.inl ⟨by rfl, fun W _ => by kernel_rfl⟩) hHeld ?_
  try simp only [Act.put, List.getElem_toArray, List.getElem_cons_succ, List.getElem_cons_zero, List.setIfInBounds_toArray, List.set_cons_zero, List.set_cons_succ]
  refine wpAnyH_take (i := 11) (v := .bool true) rfl (by kernel_rfl) (by kernel_rfl) (by kernel_rfl) (fun _ _ _ h => h) (Or.inl ⟨by rfl, fun W _ => by go_simp⟩) hHeld ?_
  try simp only [Act.put, List.getElem_toArray, List.getElem_cons_succ, List.getElem_cons_zero, List.setIfInBounds_toArray, List.set_cons_zero, List.set_cons_succ]
  refine wpAnyH_take (i := 12) (v := .bool true) rfl (by kernel_rfl) (by kernel_rfl) (by kernel_rfl) (fun _ _ _ h => h) (Or.inl ⟨by rfl, fun W _ => by go_simp⟩) hHeld ?_
  try simp only [Act.put, List.getElem_toArray, List.getElem_cons_succ, List.getElem_cons_zero, List.setIfInBounds_toArray, List.set_cons_zero, List.set_cons_succ]
  refine wpAnyH_take (i := 13) (v := .bool true) rfl (by kernel_rfl) (by kernel_rfl) (by kernel_rfl) (fun _ _ _ h => h) (Or.inl ⟨by rfl, fun W _ => by go_simp⟩) hHeld ?_
  try simp only [Act.put, List.getElem_toArray, List.getElem_cons_succ, List.getElem_cons_zero, List.setIfInBounds_toArray, List.set_cons_zero, List.set_cons_succ]
  refine wpAnyH_take (i := 14) rfl (by kernel_rfl) (by kernel_rfl) (by kernel_rfl) (fun _ _ _ h => h) (yieldsIf_load_mid (by rfl) _ _ rfl (w.heap.size) 0 rfl (cs) _ (fun W hS => hS.1.lf.r0) huT rfl hsc.out) hHeld ?_
  try simp only [Act.put, List.getElem_toArray, List.getElem_cons_succ, List.getElem_cons_zero, List.setIfInBounds_toArray, List.set_cons_zero, List.set_cons_succ]
  refine wpAnyH_take (i := 16) rfl (by kernel_rfl) (by kernel_rfl) (by kernel_rfl) (fun _ _ _ h => h) (yieldsIf_load_mid (by rfl) _ _ rfl (w.heap.size) 0 rfl (cs) _ (fun W hS => hS.1.lf.r0) huT rfl hsc.out) hHeld ?_
  try simp only [Act.put, List.getElem_toArray, List.getElem_cons_succ, List.getElem_cons_zero, List.setIfInBounds_toArray, List.set_cons_zero, List.set_cons_succ]
  refine wpAnyH_ready (rs := [15]) (by kernel_rfl) (by simp) (AllReadyH.cons rfl (fun K hK2 => ?_) AllReadyH.nil)
  rw [if_pos (by rfl)]
  simp only [List.getElem_toArray, List.getElem_cons_succ, List.getElem_cons_zero]
  go_wp2_with (go_at_call 13; (with_reducible refine (hC1.out _ hHeld).mono ?_); rintro e W4 ⟨rfl, hb⟩)
  refine hK2.out _ _ (⟨hHeld.1.keep hb, hHeld.2.keep hb⟩) (fun hHeld2 => ?_)
  clear hK2 K hHeld
  have hHeld := hHeld2
  clear hHeld2
  try simp only [Act.put, List.getElem_toArray, List.getElem_cons_succ, List.getElem_cons_zero, List.setIfInBounds_toArray, List.set_cons_zero, List.set_cons_succ]
  clear hb
  refine wpAnyH_ready (rs := [17]) (by kernel_rfl) (by simp) (AllReadyH.cons rfl (fun K hK2 => ?_) AllReadyH.nil)
  rw [if_pos (by rfl)]
  simp only [List.getElem_toArray, List.getElem_cons_succ, List.getElem_cons_zero]
  go_wp2_with (go_at_call 16; (with_reducible refine (hC2.out _ hHeld).mono ?_); rintro e W5 ⟨rfl, hb⟩)
  refine hK2.out _ _ (⟨hHeld.1.keep hb, hHeld.2.keep hb⟩) (fun hHeld2 => ?_)
  clear hK2 K hHeld
  have hHeld := hHeld2
  clear hHeld2
  try simp only [Act.put, List.getElem_toArray, List.getElem_cons_succ, List.getElem_cons_zero, List.setIfInBounds_toArray, List.set_cons_zero, List.set_cons_succ]
  clear hb
  refine wpAnyH_take (i := 18) (v := .bool true) rfl (by kernel_rfl) (by kernel_rfl) (by kernel_rfl) (fun _ _ _ h => h) (Or.inl ⟨by rfl, fun W _ => by go_simp⟩) hHeld ?_
  try simp only [Act.put, List.getElem_toArray, List.getElem_cons_succ, List.getElem_cons_zero, List.setIfInBounds_toArray, List.set_cons_zero, List.set_cons_succ]
  refine wpAnyH_take (i := 19) (v := .bool true) rfl (by kernel_rfl) (by kernel_rfl) (by kernel_rfl) (fun _ _ _ h => h) (Or.inl ⟨by rfl, fun W _ => by go_simp⟩) hHeld ?_
  try simp only [Act.put, List.getElem_toArray, List.getElem_cons_succ, List.getElem_cons_zero, List.setIfInBounds_toArray, List.set_cons_zero, List.set_cons_succ]
  refine wpAnyH_take (i := 20) (v := .bool true) rfl (by kernel_rfl) (by kernel_rfl) (by kernel_rfl) (fun _ _ _ h => h) (Or.inl ⟨by rfl, fun W _ => by go_simp⟩) hHeld ?_
  try simp only [Act.put, List.getElem_toArray, List.getElem_cons_succ, List.getElem_cons_zero, List.setIfInBounds_toArray, List.set_cons_zero, List.set_cons_succ]
  refine wpAnyH_take (i := 21) rfl (by kernel_rfl) (by kernel_rfl) (by kernel_rfl) (fun _ _ _ h => h) (yieldsIf_load_mid (by rfl) _ _ rfl (w.heap.size) 0 rfl (cs) _ (fun W hS => hS.1.lf.r0) huT rfl hsc.out) hHeld ?_
  try simp only [Act.put, List.getElem_toArray, List.getElem_cons_succ, List.getElem_cons_zero, List.setIfInBounds_toArray, List.set_cons_zero, List.set_cons_succ]
  refine wpAnyH_take (i := 22) rfl (by kernel_rfl) (by kernel_rfl) (by kernel_rfl) (fun _ _ _ h => h) (yieldsIf_load_mid (by rfl) _ _ rfl (w.heap.size + 1) 0 rfl (os) _ (fun W hS => hS.1.lf.r1) huT rfl hso.out) hHeld ?_
  try simp only [Act.put, List.getElem_toArray, List.getElem_cons_succ, List.getElem_cons_zero, List.setIfInBounds_toArray, List.set_cons_zero, List.set_cons_succ]
  refine wpAnyH_take (i := 24) rfl (by kernel_rfl) (by kernel_rfl) (by kernel_rfl) (fun _ _ _ h => h) (yieldsIf_load_mid (by rfl) _ _ rfl (w.heap.size) 0 rfl (cs) _ (fun W hS => hS.1.lf.r0) huT rfl hsc.out) hHeld ?_
  try simp only [Act.put, List.getElem_toArray, List.getElem_cons_succ, List.getElem_cons_zero, List.setIfInBounds_toArray, List.set_cons_zero, List.set_cons_succ]
  refine wpAnyH_take (i := 25) rfl (by kernel_rfl) (by kernel_rfl) (by kernel_rfl) (fun _ _ _ h => h) (yieldsIf_load_mid (by rfl) _ _ rfl (w.heap.size + 1) 0 rfl (os) _ (fun W hS => hS.1.lf.r1) huT rfl hso.out) hHeld ?_
  try simp only [Act.put, List.getElem_toArray, List.getElem_cons_succ, List.getElem_cons_zero, List.setIfInBounds_toArray, List.set_cons_zero, List.set_cons_succ]
  refine wpAnyH_ready (rs := [23]) (by kernel_rfl) (by simp) (AllReadyH.cons rfl (fun K hK2 => ?_) AllReadyH.nil)
  rw [if_pos (by rfl)]
  simp only [List.getElem_toArray, List.getElem_cons_succ, List.getElem_cons_zero]
  go_wp2_with (go_at_call 17; (with_reducible refine (hM1.out _ hHeld).mono ?_); rintro e W6 ⟨rfl, hb⟩)
  refine hK2.out _ _ (⟨hHeld.1.keep hb, hHeld.2.keep hb⟩) (fun hHeld2 => ?_)
  clear hK2 K hHeld
  have hHeld := hHeld2
  clear hHeld2
  try simp only [Act.put, List.getElem_toArray, List.getElem_cons_succ, List.getElem_cons_zero, List.setIfInBounds_toArray, List.set_cons_zero, List.set_cons_succ]
  clear hb
  refine wpAnyH_ready (rs := [26]) (by kernel_rfl) (by simp) (AllReadyH.cons rfl (fun K hK2 => ?_) AllReadyH.nil)
  rw [if_pos (by rfl)]
  simp only [List.getElem_toArray, List.getElem_cons_succ, List.getElem_cons_zero]
  go_wp2_with (go_at_call 11; (with_reducible refine (hM2.out _ hHeld).mono ?_); rintro e W7 ⟨rfl, hb⟩)
  refine hK2.out _ _ (⟨hHeld.1.keep hb, hHeld.2.keep hb⟩) (fun hHeld2 => ?_)
  clear hK2 K hHeld
  have hHeld := hHeld2
  clear hHeld2
  try simp only [Act.put, List.getElem_toArray, List.getElem_cons_succ, List.getElem_cons_zero, List.setIfInBounds_toArray, List.set_cons_zero, List.set_cons_succ]
  clear hb
  refine wpAnyH_take (i := 27) (v := .bool true) rfl (by kernel_rfl) (by kernel_rfl) (by kernel_rfl) (fun _ _ _ h => h) (Or.inl ⟨by rfl, fun W _ => by go_simp⟩) hHeld ?_
  try simp only [Act.put, List.getElem_toArray, List.getElem_cons_succ, List.getElem_cons_zero, List.setIfInBounds_toArray, List.set_cons_zero, List.set_cons_succ]
  refine wpAnyH_take (i := 28) (v := .bool true) rfl (by kernel_rfl) (by kernel_rfl) (by kernel_rfl) (fun _ _ _ h => h) (Or.inl ⟨by rfl, fun W _ => by go_simp⟩) hHeld ?_
  try simp only [Act.put, List.getElem_toArray, List.getElem_cons_succ, List.getElem_cons_zero, List.setIfInBounds_toArray, List.set_cons_zero, List.set_cons_succ]
  refine wpAnyH_take (i := 29) (v := .bool true) rfl (by kernel_rfl) (by kernel_rfl) (by kernel_rfl) (fun _ _ _ h => h) (Or.inl ⟨by rfl, fun W _ => by go_simp⟩) hHeld ?_
  try simp only [Act.put, List.getElem_toArray, List.getElem_cons_succ, List.getElem_cons_zero, List.setIfInBounds_toArray, List.set_cons_zero, List.set_cons_succ]
  refine wpAnyH_take (i := 30) (v := .slice A1 la.length k1) rfl (by kernel_rfl) (by kernel_rfl) (by kernel_rfl) (fun _ _ _ h => h) (Or.inl ⟨by rfl, fun W _ => by kernel_rfl⟩) hHeld ?_
  try simp only [Act.put, List.getElem_toArray, List.getElem_cons_succ, List.getElem_cons_zero, List.setIfInBounds_toArray, List.set_cons_zero, List.set_cons_succ]
  refine wpAnyH_take (i := 32) (v := .slice A1 la.length k1) rfl (by kernel_rfl) (by kernel_rfl) (by kernel_rfl) (fun _ _ _ h => h) (Or.inl ⟨by rfl, fun W _ => by kernel_rfl⟩) hHeld ?_
  try simp only [Act.put, List.getElem_toArray, List.getElem_cons_succ, List.getElem_cons_zero, List.setIfInBounds_toArray, List.set_cons_zero, List.set_cons_succ]
  refine wpAnyH_ready (rs := [31]) (by kernel_rfl) (by simp) (AllReadyH.cons rfl (fun K hK2 => ?_) AllReadyH.nil)
  rw [if_pos (by rfl)]
  simp only [List.getElem_toArray, List.getElem_cons_succ, List.getElem_cons_zero]
  go_wp2_with (go_at_call 18; (with_reducible refine (hR1.out _ hHeld).mono ?_); rintro e W8 ⟨rfl, hb⟩)
  refine hK2.out _ _ (⟨hHeld.1.keep hb, hHeld.2.keep hb⟩) (fun hHeld2 => ?_)
  clear hK2 K hHeld
  have hHeld := hHeld2
  clear hHeld2
  try simp only [Act.put, List.getElem_toArray, List.getElem_cons_succ, List.getElem_cons_zero, List.setIfInBounds_toArray, List.set_cons_zero, List.set_cons_succ]
  clear hb
  refine wpAnyH_ready (rs := [33]) (by kernel_rfl) (by simp) (AllReadyH.cons rfl (fun K hK2 => ?_) AllReadyH.nil)
  rw [if_pos (by rfl)]
  simp only [List.getElem_toArray, List.getElem_cons_succ, List.getElem_cons_zero]
  go_wp2_with (go_at_call 19; (with_reducible refine (hR2.out _ hHeld).mono ?_); rintro e W9 ⟨rfl, hb⟩)
  refine hK2.out _ _ (⟨hHeld.1.keep hb, hHeld.2.keep hb⟩) (fun hHeld2 => ?_)
  clear hK2 K hHeld
  have hHeld := hHeld2
  clear hHeld2
  try simp only [Act.put, List.getElem_toArray, List.getElem_cons_succ, List.getElem_cons_zero, List.setIfInBounds_toArray, List.set_cons_zero, List.set_cons_succ]
  clear hb
  refine wpAnyH_take (i := 34) (v := .bool true) rfl (by kernel_rfl) (by kernel_rfl) (by kernel_rfl) (fun _ _ _ h => h) (Or.inl ⟨by rfl, fun W _ => by go_simp⟩) hHeld ?_
  try simp only [Act.put, List.getElem_toArray, List.getElem_cons_succ, List.getElem_cons_zero, List.setIfInBounds_toArray, List.set_cons_zero, List.set_cons_succ]
  refine wpAnyH_take (i := 35) (v := .bool true) rfl (by kernel_rfl) (by kernel_rfl) (by kernel_rfl) (fun _ _ _ h => h) (Or.inl ⟨by rfl, fun W _ => by go_simp⟩) hHeld ?_
  try simp only [Act.put, List.getElem_toArray, List.getElem_cons_succ, List.getElem_cons_zero, List.setIfInBounds_toArray, List.set_cons_zero, List.set_cons_succ]
  refine wpAnyH_take (i := 36) (v := .bool true) rfl (by kernel_rfl) (by kernel_rfl) (by kernel_rfl) (fun _ _ _ h => h) (Or.inl ⟨by rfl, fun W _ => by go_simp⟩) hHeld ?_
  try simp only [Act.put, List.getElem_toArray, List.getElem_cons_succ, List.getElem_cons_zero, List.setIfInBounds_toArray, List.set_cons_zero, List.set_cons_succ]
  refine wpAnyH_take (i := 37) (v := .slice A1 la.length k1) rfl (by kernel_rfl) (by kernel_rfl) (by kernel_rfl) (fun _ _ _ h => h) (Or.inl ⟨by rfl, fun W _ => by kernel_rfl⟩) hHeld ?_
  try simp only [Act.put, List.getElem_toArray, List.getElem_cons_succ, List.getElem_cons_zero, List.setIfInBounds_toArray, List.set_cons_zero, List.set_cons_succ]
  refine wpAnyH_take (i := 39) (v := .slice A2 lb.length k2) rfl (by kernel_rfl) (by kernel_rfl) (by kernel_rfl) (fun _ _ _ h => h) (Or.inl ⟨by rfl, fun W _ => by kernel_rfl⟩) hHeld ?_
  try simp only [Act.put, List.getElem_toArray, List.getElem_cons_succ, List.getElem_cons_zero, List.setIfInBounds_toArray, List.set_cons_zero, List.set_cons_succ]
  refine wpAnyH_take (i := 42) (v := .slice A1 la.length k1) rfl (by kernel_rfl) (by kernel_rfl) (by kernel_rfl) (fun _ _ _ h => h) (Or.inl ⟨by rfl, fun W _ => by kernel_rfl⟩) hHeld ?_
  try simp only [Act.put, List.getElem_toArray, List.getElem_cons_succ, List.getElem_cons_zero, List.setIfInBounds_toArray, List.set_cons_zero, List.set_cons_succ]
  refine wpAnyH_take (i := 43) (v := .slice A2 lb.length k2) rfl (by kernel_rfl) (by kernel_rfl) (by kernel_rfl) (fun _ _ _ h => h) (Or.inl ⟨by rfl, fun W _ => by kernel_rfl⟩) hHeld ?_
  try simp only [Act.put, List.getElem_toArray, List.getElem_cons_succ, List.getElem_cons_zero, List.setIfInBounds_toArray, List.set_cons_zero, List.set_cons_succ]
  refine wpAnyH_ready (rs := [38]) (by kernel_rfl) (by simp) (AllReadyH.cons rfl (fun K hK2 => ?_) AllReadyH.nil)
  rw [if_pos (by rfl)]
  simp only [List.getElem_toArray, List.getElem_cons_succ, List.getElem_cons_zero]
  go_wp2_with (go_at_call 22; (with_reducible refine (KOwn_any _ la _ (hra.out _ hHeld) (by omega)).mono ?_); rintro e W10 ⟨⟨v38, rfl, r38⟩, hb⟩)
  refine hK2.out _ _ (⟨hHeld.1.keep hb, hHeld.2.keep hb⟩) (fun hHeld2 => ?_)
  clear hK2 K hHeld
  have hHeld := hHeld2
  clear hHeld2
  try simp only [Act.put, List.getElem_toArray, List.getElem_cons_succ, List.getElem_cons_zero, List.setIfInBounds_toArray, List.set_cons_zero, List.set_cons_succ]
  clear hb
  refine wpAnyH_ready (rs := [40]) (by kernel_rfl) (by simp) (AllReadyH.cons rfl (fun K hK2 => ?_) AllReadyH.nil)
  rw [if_pos (by rfl)]
  simp only [List.getElem_toArray, List.getElem_cons_succ, List.getElem_cons_zero]
  go_wp2_with (go_at_call 22; (with_reducible refine (KOwn_any _ lb _ (hrb.out _ hHeld) (by omega)).mono ?_); rintro e W11 ⟨⟨v40, rfl, r40⟩, hb⟩; replace r38 := r38.below hb)
  refine hK2.out _ _ (⟨hHeld.1.keep hb, hHeld.2.keep hb⟩) (fun hHeld2 => ?_)
  clear hK2 K hHeld
  have hHeld := hHeld2
  clear hHeld2
  try simp only [Act.put, List.getElem_toArray, List.getElem_cons_succ, List.getElem_cons_zero, List.setIfInBounds_toArray, List.set_cons_zero, List.set_cons_succ]
  clear hb
  refine wpAnyH_ready (rs := [41]) (by kernel_rfl) (by simp) (AllReadyH.cons rfl (fun K hK2 => ?_) AllReadyH.nil)
  rw [if_pos (by rfl)]
  simp only [List.getElem_toArray, List.getElem_cons_succ, List.getElem_cons_zero]
  go_wp2_with (go_at_call 21; (with_reducible refine (Join_any v38 v40 la lb _ r38.rl r40.rl (by omega)).mono ?_); rintro e W12 ⟨⟨v41, rfl, r41⟩, hb⟩; clear r38 r40)
  refine hK2.out _ _ (⟨hHeld.1.keep hb, hHeld.2.keep hb⟩) (fun hHeld2 => ?_)
  clear hK2 K hHeld
  have hHeld := hHeld2
  clear hHeld2
  try simp only [Act.put, List.getElem_toArray, List.getElem_cons_succ, List.getElem_cons_zero, List.setIfInBounds_toArray, List.set_cons_zero, List.set_cons_succ]
  clear hb
  refine wpAnyH_ready (rs := [44]) (by kernel_rfl) (by simp) (AllReadyH.cons rfl (fun K hK2 => ?_) AllReadyH.nil)
  rw [if_pos (by rfl)]
  simp only [List.getElem_toArray, List.getElem_cons_succ, List.getElem_cons_zero]
  go_wp2_with (go_at_call 23; (with_reducible refine (RJoin_any _ _ la lb _ (hra.out _ hHeld) (hrb.out _ hHeld) (by omega)).mono ?_); rintro e W13 ⟨⟨v44, rfl, r44⟩, hb⟩; replace r41 := r41.below hb)
  refine hK2.out _ _ (⟨hHeld.1.keep hb, hHeld.2.keep hb⟩) (fun hHeld2 => ?_)
  clear hK2 K hHeld
  have hHeld := hHeld2
  clear hHeld2
  try simp only [Act.put, List.getElem_toArray, List.getElem_cons_succ, List.getElem_cons_zero, List.setIfInBounds_toArray, List.set_cons_zero, List.set_cons_succ]
  clear hb
  refine wpAnyH_ready (rs := [45]) (by kernel_rfl) (by simp) (AllReadyH.cons rfl (fun K hK2 => ?_) AllReadyH.nil)
  rw [if_pos (by rfl)]
  simp only [List.getElem_toArray, List.getElem_cons_succ, List.getElem_cons_zero]
  go_wp2_with (go_at_call 20; (with_reducible refine (Same_yesC v41 v44 _ _ _ r41.rl r44.rl rfl).mono ?_); rintro e W14 hq; obtain ⟨rfl, hb⟩ := hq.below; clear r41 r44)
  refine hK2.out _ _ (⟨hHeld.1.keep hb, hHeld.2.keep hb⟩) (fun hHeld2 => ?_)
  clear hK2 K hHeld
  have hHeld := hHeld2
  clear hHeld2
  try simp only [Act.put, List.getElem_toArray, List.getElem_cons_succ, List.getElem_cons_zero, List.setIfInBounds_toArray, List.set_cons_zero, List.set_cons_succ]
  clear hb
  refine wpAnyH_take (i := 46) (v := .bool true) rfl (by kernel_rfl) (by kernel_rfl) (by kernel_rfl) (fun _ _ _ h => h) (Or.inl ⟨by rfl, fun W _ => by go_simp⟩) hHeld ?_
  try simp only [Act.put, List.getElem_toArray, List.getElem_cons_succ, List.getElem_cons_zero, List.setIfInBounds_toArray, List.set_cons_zero, List.set_cons_succ]
  refine wpAnyH_take (i := 47) (v := .bool true) rfl (by kernel_rfl) (by kernel_rfl) (by kernel_rfl) (fun _ _ _ h => h) (Or.inl ⟨by rfl, fun W _ => by go_simp⟩) hHeld ?_
  try simp only [Act.put, List.getElem_toArray, List.getElem_cons_succ, List.getElem_cons_zero, List.setIfInBounds_toArray, List.set_cons_zero, List.set_cons_succ]
  refine wpAnyH_done (by kernel_rfl) ?_ _
  go_wp2_with fail
  go_ret
  exact ⟨rfl, hHeld.1.lf.bl⟩
/-- TaintCalls, whatever comes. -/
theorem TaintCalls_any (cs os : List Value) (T O : List (List Int)) (i : InsnV) (ev : Int) (ua ub : Value) (la lb : List Int) (w : World) (h : TS w (fun b => b < w.heap.size) cs T) (g : TS w (fun b => b < w.heap.size) os O) (hop : i.op ≤ 9223372036854775807)
    (ha : RL w w.heap.size ua la) (hb : RL w w.heap.size ub lb) (ht : Tabs w) :
    Calls Tryz.prog 4 #[.agg cs.toArray, .agg os.toArray, .agg i.cells, .int .i64 ev, ua, ub] w fun e w' => e = .returned (.bool true) ∧ Below w.heap.size w w' := by
  cases hl : longK T O la lb
  · exact Calls_short cs os T O i ev ua ub la lb w h g hop ha hb ht hl
  · exact Calls_long cs os T O i ev ua ub la lb w h g hop ha hb ht hl
end Go.Proofs.YtebeajnaamglkaaGreatDoor
