/- The walk of the document's Step where it is refused, and of fencepostkit.Taint. Conditions: the lists are not longer than a hundred thousand numbers. -/
import Derived.Test.YtebeajnaamglkaaGreatDoorTntDs
import Derived.Test.YtebeajnaamglkaaGreatDoorTntLw
import Derived.Test.YtebeajnaamglkaaGreatDoorTntSe
set_option linter.unusedSimpArgs false
set_option linter.unusedVariables false
namespace Go.Proofs.YtebeajnaamglkaaGreatDoor
open Go.RowKit
set_option maxRecDepth 100000 in
set_option maxHeartbeats 16000000 in
theorem RStep_bad1 (cs : List Value) (T : List (List Int)) (P : Nat → Prop) (i : InsnV) (ev : Int) (w : World) (h : TS w P cs T) (hE : taintE T = 2) (hlen : ∀ l ∈ T, l.length ≤ 100000) :
    Calls Tryz.prog 10 #[.agg cs.toArray, .agg i.cells, .int .i64 ev] w (StepBad w) := by
  have hu := Tryz.underlying28
  have hui := Tryz.underlying33
  have hud := Tryz.underlying35
  have hlc := h.lc
  have hS := S0.start w cs.toArray i.cells #[.slice none 0 0, .slice none 0 0, .slice none 0 0, .slice none 0 0, .slice none 0 0, .slice none 0 0, .slice none 0 0, .slice none 0 0, .slice none 0 0, .slice none 0 0, .slice none 0 0, .slice none 0 0, .slice none 0 0, .slice none 0 0, .slice none 0 0, .slice none 0 0, .slice none 0 0, .slice none 0 0, .slice none 0 0, .slice none 0 0, .slice none 0 0, .slice none 0 0, .slice none 0 0, .slice none 0 0, .slice none 0 0, .slice none 0 0, .slice none 0 0, .slice none 0 0, .slice none 0 0, .slice none 0 0, .slice none 0 0, .slice none 0 0, .slice none 0 0] #[.slice none 0 0, .slice none 0 0, .slice none 0 0] 28 33 28 35 (by rw [List.size_toArray]; exact hlc) rfl rfl
  obtain ⟨ics, hics⟩ : ∃ l, l = i.cells.toList := ⟨_, rfl⟩
  have hs1 : Hid ((Tryz.prog.info? 28).map (·.size) = some cs.length) := Lib.hid (by rw [hlc]; exact size_taint)
  have hs2 : Hid ((Tryz.prog.info? 33).map (·.size) = some ics.length) := Lib.hid (by rw [hics]; kernel_rfl)
  have hKT := Lib.hid (fun W h2 => RCheck_any cs T P W h2 hlen)
  have hKI := Lib.hid (fun W => R2Check_any i W)
  rw [hE] at hKT
  have hia : Hid (i.cells = ics.toArray) := Lib.hid (by rw [hics])
  rw [← hics] at hS
  rw [List.toList_toArray] at hS
  rw [hia.out] at hKI hS ⊢
  have hTS := h.below hS.bl
  clear hics
  go_enter Tryz.func10, Tryz.ntmps10
  go_upto_region 1 with fail
  generalize World.alloc _ (.cells #[.slice none 0 0, .slice none 0 0, .slice none 0 0] 35) = W1 at hS hTS ⊢
  go_upto_region 2 with (first | (refine wpList_load_midG 28 _ rfl (by rfl) w.heap.size 0 rfl cs _ hS.r0 hu rfl hs1.out ?_) | (refine wpList_load_midG 33 _ rfl (by rfl) (w.heap.size + 1) 0 rfl ics _ hS.ib hui rfl hs2.out ?_) | (go_at_call 16; refine (hKT.out _ hTS).mono ?_; rintro e w2 ⟨rfl, hb2⟩; replace hS := hS.keep hb2; replace hTS := hTS.below hb2; clear hb2) | (go_at_call 36; refine (hKI.out _).mono ?_; rintro e w3 ⟨rfl, hb3⟩; replace hS := hS.keep hb3; replace hTS := hTS.below hb3; clear hb3))
  go_wp2_with (first | (refine wpList_store_mid rfl 28 _ _ rfl (w.heap.size + 2) 0 zeroTL.toArray rfl rfl (fun j hj => hS.z6 j hj) size_taint zeroTL_one ?_; change wpList _ _ _ _ _ (World.setCells _ (w.heap.size + 2) 0 zeroTL); have r6 := World.rangeAt_setCells_same _ (w.heap.size + 2) 0 zeroTL (fun j hj => hS.z6 j hj); have hz7 := World.there_setCells hS.z7 (w.heap.size + 2) 0 zeroTL; have hb6 := tn_below (Nat.le_add_right w.heap.size 2) zeroTL 0 _ hS.bl; generalize World.setCells _ (w.heap.size + 2) 0 zeroTL = w8 at r6 hz7 hb6 ⊢) | (refine wpList_store_mid rfl 35 _ _ rfl (w.heap.size + 3) 0 #[.slice none 0 0, .slice none 0 0, .slice none 0 0] rfl rfl (fun j hj => hz7 j hj) size_deps zero3_one ?_; change wpList _ _ _ _ _ (World.setCells _ (w.heap.size + 3) 0 [.slice none 0 0, .slice none 0 0, .slice none 0 0]); replace r6 := World.rangeAt_setCells_apart r6 (w.heap.size + 3) 0 [.slice none 0 0, .slice none 0 0, .slice none 0 0] (.inl (by omega)); have r7 := World.rangeAt_setCells_same w8 (w.heap.size + 3) 0 [.slice none 0 0, .slice none 0 0, .slice none 0 0] (fun j hj => hz7 j hj); have hb7 := tn_below (Nat.le_add_right w.heap.size 3) [.slice none 0 0, .slice none 0 0, .slice none 0 0] 0 _ hb6; generalize World.setCells w8 (w.heap.size + 3) 0 [.slice none 0 0, .slice none 0 0, .slice none 0 0] = w9 at r6 r7 hb7 ⊢))
  have hl6 := run_loadVar_mid w9 (w.heap.size + 2) 0 28 zeroTL _ r6 hu rfl size_taint
  have hl7 := run_loadVar_mid w9 (w.heap.size + 3) 0 35 [.slice none 0 0, .slice none 0 0, .slice none 0 0] _ r7 hud rfl size_deps
  exact bodyPost_ret (v := .tuple #[.agg zeroTL.toArray, .agg #[.slice none 0 0, .slice none 0 0, .slice none 0 0], .int .i64 2]) (res_3 Tryz.results10 _ _ _ _ _ _ _ rfl rfl rfl hl6 hl7) rfl ⟨rfl, hb7⟩
set_option maxRecDepth 100000 in
set_option maxHeartbeats 16000000 in
theorem RStep_bad2 (cs : List Value) (T : List (List Int)) (P : Nat → Prop) (i : InsnV) (ev : Int) (w : World) (h : TS w P cs T) (hE : taintE T = 0) (hc : checkE i = 2) (hlen : ∀ l ∈ T, l.length ≤ 100000) :
    Calls Tryz.prog 10 #[.agg cs.toArray, .agg i.cells, .int .i64 ev] w (StepBad w) := by
  have hu := Tryz.underlying28
  have hui := Tryz.underlying33
  have hud := Tryz.underlying35
  have hlc := h.lc
  have hS := S0.start w cs.toArray i.cells #[.slice none 0 0, .slice none 0 0, .slice none 0 0, .slice none 0 0, .slice none 0 0, .slice none 0 0, .slice none 0 0, .slice none 0 0, .slice none 0 0, .slice none 0 0, .slice none 0 0, .slice none 0 0, .slice none 0 0, .slice none 0 0, .slice none 0 0, .slice none 0 0, .slice none 0 0, .slice none 0 0, .slice none 0 0, .slice none 0 0, .slice none 0 0, .slice none 0 0, .slice none 0 0, .slice none 0 0, .slice none 0 0, .slice none 0 0, .slice none 0 0, .slice none 0 0, .slice none 0 0, .slice none 0 0, .slice none 0 0, .slice none 0 0, .slice none 0 0] #[.slice none 0 0, .slice none 0 0, .slice none 0 0] 28 33 28 35 (by rw [List.size_toArray]; exact hlc) rfl rfl
  obtain ⟨ics, hics⟩ : ∃ l, l = i.cells.toList := ⟨_, rfl⟩
  have hs1 : Hid ((Tryz.prog.info? 28).map (·.size) = some cs.length) := Lib.hid (by rw [hlc]; exact size_taint)
  have hs2 : Hid ((Tryz.prog.info? 33).map (·.size) = some ics.length) := Lib.hid (by rw [hics]; kernel_rfl)
  have hKT := Lib.hid (fun W h2 => RCheck_any cs T P W h2 hlen)
  have hKI := Lib.hid (fun W => R2Check_any i W)
  rw [hE] at hKT
  rw [hc] at hKI
  have hia : Hid (i.cells = ics.toArray) := Lib.hid (by rw [hics])
  rw [← hics] at hS
  rw [List.toList_toArray] at hS
  rw [hia.out] at hKI hS ⊢
  have hTS := h.below hS.bl
  clear hics
  go_enter Tryz.func10, Tryz.ntmps10
  go_upto_region 1 with fail
  generalize World.alloc _ (.cells #[.slice none 0 0, .slice none 0 0, .slice none 0 0] 35) = W1 at hS hTS ⊢
  go_upto_region 2 with (first | (refine wpList_load_midG 28 _ rfl (by rfl) w.heap.size 0 rfl cs _ hS.r0 hu rfl hs1.out ?_) | (refine wpList_load_midG 33 _ rfl (by rfl) (w.heap.size + 1) 0 rfl ics _ hS.ib hui rfl hs2.out ?_) | (go_at_call 16; refine (hKT.out _ hTS).mono ?_; rintro e w2 ⟨rfl, hb2⟩; replace hS := hS.keep hb2; replace hTS := hTS.below hb2; clear hb2) | (go_at_call 36; refine (hKI.out _).mono ?_; rintro e w3 ⟨rfl, hb3⟩; replace hS := hS.keep hb3; replace hTS := hTS.below hb3; clear hb3))
  go_wp2_with (first | (refine wpList_store_mid rfl 28 _ _ rfl (w.heap.size + 2) 0 zeroTL.toArray rfl rfl (fun j hj => hS.z6 j hj) size_taint zeroTL_one ?_; change wpList _ _ _ _ _ (World.setCells _ (w.heap.size + 2) 0 zeroTL); have r6 := World.rangeAt_setCells_same _ (w.heap.size + 2) 0 zeroTL (fun j hj => hS.z6 j hj); have hz7 := World.there_setCells hS.z7 (w.heap.size + 2) 0 zeroTL; have hb6 := tn_below (Nat.le_add_right w.heap.size 2) zeroTL 0 _ hS.bl; generalize World.setCells _ (w.heap.size + 2) 0 zeroTL = w8 at r6 hz7 hb6 ⊢) | (refine wpList_store_mid rfl 35 _ _ rfl (w.heap.size + 3) 0 #[.slice none 0 0, .slice none 0 0, .slice none 0 0] rfl rfl (fun j hj => hz7 j hj) size_deps zero3_one ?_; change wpList _ _ _ _ _ (World.setCells _ (w.heap.size + 3) 0 [.slice none 0 0, .slice none 0 0, .slice none 0 0]); replace r6 := World.rangeAt_setCells_apart r6 (w.heap.size + 3) 0 [.slice none 0 0, .slice none 0 0, .slice none 0 0] (.inl (by omega)); have r7 := World.rangeAt_setCells_same w8 (w.heap.size + 3) 0 [.slice none 0 0, .slice none 0 0, .slice none 0 0] (fun j hj => hz7 j hj); have hb7 := tn_below (Nat.le_add_right w.heap.size 3) [.slice none 0 0, .slice none 0 0, .slice none 0 0] 0 _ hb6; generalize World.setCells w8 (w.heap.size + 3) 0 [.slice none 0 0, .slice none 0 0, .slice none 0 0] = w9 at r6 r7 hb7 ⊢))
  have hl6 := run_loadVar_mid w9 (w.heap.size + 2) 0 28 zeroTL _ r6 hu rfl size_taint
  have hl7 := run_loadVar_mid w9 (w.heap.size + 3) 0 35 [.slice none 0 0, .slice none 0 0, .slice none 0 0] _ r7 hud rfl size_deps
  exact bodyPost_ret (v := .tuple #[.agg zeroTL.toArray, .agg #[.slice none 0 0, .slice none 0 0, .slice none 0 0], .int .i64 2]) (res_3 Tryz.results10 _ _ _ _ _ _ _ rfl rfl rfl hl6 hl7) rfl ⟨rfl, hb7⟩
set_option maxRecDepth 100000 in
set_option maxHeartbeats 16000000 in
theorem RStep_bad3 (cs : List Value) (T : List (List Int)) (P : Nat → Prop) (i : InsnV) (ev : Int) (w : World) (h : TS w P cs T) (hE : taintE T = 0) (hc : checkE i = 0) (hev : ev < -1) (hlen : ∀ l ∈ T, l.length ≤ 100000) :
    Calls Tryz.prog 10 #[.agg cs.toArray, .agg i.cells, .int .i64 ev] w (StepBad w) := by
  have hu := Tryz.underlying28
  have hui := Tryz.underlying33
  have hud := Tryz.underlying35
  have hlc := h.lc
  have hS := S0.start w cs.toArray i.cells #[.slice none 0 0, .slice none 0 0, .slice none 0 0, .slice none 0 0, .slice none 0 0, .slice none 0 0, .slice none 0 0, .slice none 0 0, .slice none 0 0, .slice none 0 0, .slice none 0 0, .slice none 0 0, .slice none 0 0, .slice none 0 0, .slice none 0 0, .slice none 0 0, .slice none 0 0, .slice none 0 0, .slice none 0 0, .slice none 0 0, .slice none 0 0, .slice none 0 0, .slice none 0 0, .slice none 0 0, .slice none 0 0, .slice none 0 0, .slice none 0 0, .slice none 0 0, .slice none 0 0, .slice none 0 0, .slice none 0 0, .slice none 0 0, .slice none 0 0] #[.slice none 0 0, .slice none 0 0, .slice none 0 0] 28 33 28 35 (by rw [List.size_toArray]; exact hlc) rfl rfl
  obtain ⟨ics, hics⟩ : ∃ l, l = i.cells.toList := ⟨_, rfl⟩
  have hs1 : Hid ((Tryz.prog.info? 28).map (·.size) = some cs.length) := Lib.hid (by rw [hlc]; exact size_taint)
  have hs2 : Hid ((Tryz.prog.info? 33).map (·.size) = some ics.length) := Lib.hid (by rw [hics]; kernel_rfl)
  have hKT := Lib.hid (fun W h2 => RCheck_any cs T P W h2 hlen)
  have hKI := Lib.hid (fun W => R2Check_any i W)
  rw [hE] at hKT
  rw [hc] at hKI
  have hev2 : decide (ev < -1) = true := decide_eq_true hev
  have hia : Hid (i.cells = ics.toArray) := Lib.hid (by rw [hics])
  rw [← hics] at hS
  rw [List.toList_toArray] at hS
  rw [hia.out] at hKI hS ⊢
  have hTS := h.below hS.bl
  clear hics
  go_enter Tryz.func10, Tryz.ntmps10
  go_upto_region 1 with fail
  generalize World.alloc _ (.cells #[.slice none 0 0, .slice none 0 0, .slice none 0 0] 35) = W1 at hS hTS ⊢
  go_upto_region 2 with (first | (refine wpList_load_midG 28 _ rfl (by rfl) w.heap.size 0 rfl cs _ hS.r0 hu rfl hs1.out ?_) | (refine wpList_load_midG 33 _ rfl (by rfl) (w.heap.size + 1) 0 rfl ics _ hS.ib hui rfl hs2.out ?_) | (go_at_call 16; refine (hKT.out _ hTS).mono ?_; rintro e w2 ⟨rfl, hb2⟩; replace hS := hS.keep hb2; replace hTS := hTS.below hb2; clear hb2) | (go_at_call 36; refine (hKI.out _).mono ?_; rintro e w3 ⟨rfl, hb3⟩; replace hS := hS.keep hb3; replace hTS := hTS.below hb3; clear hb3))
  go_wp2_with (first | (refine wpList_store_mid rfl 28 _ _ rfl (w.heap.size + 2) 0 zeroTL.toArray rfl rfl (fun j hj => hS.z6 j hj) size_taint zeroTL_one ?_; change wpList _ _ _ _ _ (World.setCells _ (w.heap.size + 2) 0 zeroTL); have r6 := World.rangeAt_setCells_same _ (w.heap.size + 2) 0 zeroTL (fun j hj => hS.z6 j hj); have hz7 := World.there_setCells hS.z7 (w.heap.size + 2) 0 zeroTL; have hb6 := tn_below (Nat.le_add_right w.heap.size 2) zeroTL 0 _ hS.bl; generalize World.setCells _ (w.heap.size + 2) 0 zeroTL = w8 at r6 hz7 hb6 ⊢) | (refine wpList_store_mid rfl 35 _ _ rfl (w.heap.size + 3) 0 #[.slice none 0 0, .slice none 0 0, .slice none 0 0] rfl rfl (fun j hj => hz7 j hj) size_deps zero3_one ?_; change wpList _ _ _ _ _ (World.setCells _ (w.heap.size + 3) 0 [.slice none 0 0, .slice none 0 0, .slice none 0 0]); replace r6 := World.rangeAt_setCells_apart r6 (w.heap.size + 3) 0 [.slice none 0 0, .slice none 0 0, .slice none 0 0] (.inl (by omega)); have r7 := World.rangeAt_setCells_same w8 (w.heap.size + 3) 0 [.slice none 0 0, .slice none 0 0, .slice none 0 0] (fun j hj => hz7 j hj); have hb7 := tn_below (Nat.le_add_right w.heap.size 3) [.slice none 0 0, .slice none 0 0, .slice none 0 0] 0 _ hb6; generalize World.setCells w8 (w.heap.size + 3) 0 [.slice none 0 0, .slice none 0 0, .slice none 0 0] = w9 at r6 r7 hb7 ⊢))
  have hl6 := run_loadVar_mid w9 (w.heap.size + 2) 0 28 zeroTL _ r6 hu rfl size_taint
  have hl7 := run_loadVar_mid w9 (w.heap.size + 3) 0 35 [.slice none 0 0, .slice none 0 0, .slice none 0 0] _ r7 hud rfl size_deps
  exact bodyPost_ret (v := .tuple #[.agg zeroTL.toArray, .agg #[.slice none 0 0, .slice none 0 0, .slice none 0 0], .int .i64 2]) (res_3 Tryz.results10 _ _ _ _ _ _ _ rfl rfl rfl hl6 hl7) rfl ⟨rfl, hb7⟩
/-- The document's Step, whatever comes. -/
theorem RStep_any (cs : List Value) (T : List (List Int)) (P : Nat → Prop) (i : InsnV) (ev : Int) (w : World) (h : TS w P cs T) (hlen : ∀ l ∈ T, l.length ≤ 100000) :
    Calls Tryz.prog 10 #[.agg cs.toArray, .agg i.cells, .int .i64 ev] w (StepE w (resT T i ev) (resA T i ev) (resD T i ev) (resW T i ev) (resE T i ev)) := by
  have bad : mayT T i ev = false → Calls Tryz.prog 10 #[.agg cs.toArray, .agg i.cells, .int .i64 ev] w (StepBad w) → Calls Tryz.prog 10 #[.agg cs.toArray, .agg i.cells, .int .i64 ev] w (StepE w (resT T i ev) (resA T i ev) (resD T i ev) (resW T i ev) (resE T i ev)) := fun hm hc => by
    unfold resT resA resD resW resE
    simp only [hm]
    exact hc.mono fun e w' => StepE.of_bad
  by_cases h1 : taintE T = 0
  · by_cases h2 : checkE i = 0
    · by_cases h3 : -1 ≤ ev
      · have hm : mayT T i ev = true := by unfold mayT; simp [h1, h2, h3]
        unfold resT resA resD resW resE
        simp only [hm]
        exact (RStep_ok cs T P i ev w h hlen h1 h2 h3).mono fun e w' hp => hp
      · exact bad (by unfold mayT; simp [h3]) (RStep_bad3 cs T P i ev w h h1 h2 (by omega) hlen)
    · exact bad (by unfold mayT; simp [h2]) (RStep_bad2 cs T P i ev w h h1 (checkE_ne h2) hlen)
  · exact bad (by unfold mayT; simp [h1]) (RStep_bad1 cs T P i ev w h (taintE_ne h1) hlen)
set_option maxRecDepth 100000 in
set_option maxHeartbeats 4000000 in
/-- fencepostkit.Taint, whatever the taints. -/
theorem KTaint_any (cs ds : List Value) (T U : List (List Int)) (P Q : Nat → Prop) (w : World) (h1 : TS w P cs T) (h2 : TS w Q ds U) :
    Calls Tryz.prog 11 #[.agg cs.toArray, .agg ds.toArray] w fun e w' => e = .returned (.bool (sameT T U)) ∧ Below w.heap.size w w' := by
  obtain ⟨a1, a2, a3, a4⟩ := new_block w cs.toArray 28
  obtain ⟨b1, b2, b3, b4⟩ := new_block (w.alloc (.cells cs.toArray 28)) ds.toArray 28
  have hb2 := bl_step a3 b3
  have s2 : ((w.alloc (.cells cs.toArray 28)).alloc (.cells ds.toArray 28)).heap.size = w.heap.size + 2 := by omega
  have r1 := tn_range a1 (by omega) b3
  rw [a4] at b1
  have t1 := h1.below hb2
  have t2 := h2.below hb2
  rw [List.toList_toArray] at r1 b1
  obtain ⟨R, hR⟩ : ∃ R, sameT T U = R := ⟨_, rfl⟩
  have hRr : Hid ((sameF T U 0 32 && (T.getD 32 [] == U.getD 32 [])) = R) := Lib.hid (by rw [← hR]; unfold sameT; rw [Bool.and_comm])
  rw [hR]
  have hB := Lib.hid hb2
  clear a1 a2 a3 a4 b2 b3 b4 h1 h2 hb2 hR
  generalize hW0 : (w.alloc (.cells cs.toArray 28)).alloc (.cells ds.toArray 28) = W0 at *
  have hrow : Hid (∀ W, (∃ q, W = W0.drewN q) → ∀ k, k < 33 → ∃ A1 n1 k1 A2 n2 k2 l m, W.cell? ⟨w.heap.size, k, none⟩ = some (.slice A1 n1 k1) ∧ W.cell? ⟨w.heap.size + 1, k, none⟩ = some (.slice A2 n2 k2) ∧ T.getD k [] = l ∧ U.getD k [] = m ∧ ∀ n, Calls Tryz.prog 20 #[.slice A1 n1 k1, .slice A2 n2 k2] (W.drewN n) fun e w' => e = .returned (.bool (l == m)) ∧ ∃ q, w' = (W.drewN n).drewN q) := Lib.hid (by
    rintro W ⟨q, rfl⟩ k hk
    obtain ⟨v, l, e1, e2, e3, e4⟩ := t1.get k hk
    obtain ⟨u, m, f1, f2, f3, f4⟩ := t2.get k hk
    have hb : ∀ q, Below W0.heap.size W0 (W0.drewN q) := fun q => ⟨rfl, rfl, rfl, Nat.le_refl _, fun _ _ => rfl⟩
    have hb2 : ∀ n, Below (W0.drewN q).heap.size (W0.drewN q) ((W0.drewN q).drewN n) := fun n => ⟨rfl, rfl, rfl, Nat.le_refl _, fun _ _ => rfl⟩
    have x1 := tn_range r1 (by rw [s2]; omega) (hb q)
    have x2 := tn_range b1 (by rw [s2]; omega) (hb q)
    obtain ⟨A1, k1, rfl, -⟩ := e4.form
    obtain ⟨A2, k2, rfl, -⟩ := f4.form
    refine ⟨A1, _, k1, A2, _, k2, l, m, by have := x1 k _ e1; rwa [Nat.zero_add] at this, by have := x2 k _ f1; rwa [Nat.zero_add] at this, e3, f3, fun n => ?_⟩
    exact Same_any _ _ l m _ _ _ ((e4.below (hb q)).below (hb2 n)).rl ((f4.below (hb q)).below (hb2 n)).rl)
  clear r1 b1 t1 t2 s2
  go_enter Tryz.func11, Tryz.ntmps11
  go_upto_region 1 with fail
  try rw [hW0]
  clear hW0
  go_upto_region 2 with fail
  go_loopw [5] (fun i wr => ∃ k : Nat, k ≤ 32 ∧ i = .int .i64 k ∧ (∃ q, wr = W0.drewN q) ∧ Hid ((sameF T U k (32 - k) && (T.getD 32 [] == U.getD 32 [])) = R)) (fun i _ => 32 - (intOf i).toNat)
  case atStart => exact ⟨0, Nat.zero_le _, rfl, ⟨0, rfl⟩, Lib.hid hRr.out⟩
  case round =>
    obtain ⟨k, hk, rfl, hq, hr⟩ := hrel
    have hBq : Below w.heap.size w wr := by obtain ⟨q, rfl⟩ := hq; exact hB.out.trans ⟨rfl, rfl, rfl, Nat.le_refl _, fun _ _ => rfl⟩
    have hqd : Hid (∀ n, ∃ q, wr.drewN n = W0.drewN q) := Lib.hid (by obtain ⟨q, rfl⟩ := hq; exact fun n => drew_ex _ _ _)
    by_cases hlt : k < 32
    · obtain ⟨A1, n1, k1, A2, n2, k2, l, m, c1, c2, e1, e2, hS⟩ := hrow.out wr hq k (by omega)
      have hr2 := hr.out
      rw [show 32 - k = (32 - (k + 1)) + 1 by omega, sameF_succ, e1, e2] at hr2
      replace hr2 := Lib.hid hr2
      replace hS := Lib.hid hS
      replace e1 := Lib.hid e1
      replace e2 := Lib.hid e2
      replace hq := Lib.hid hq
      have hk1 : (0 : Int) ≤ (k : Int) ∧ (k : Int) < 32 := by omega
      obtain ⟨hk1, hk2⟩ := hk1
      generalize (l == m) = B at hr2 hS
      cases B
      · have hRf : Hid (R = false) := Lib.hid (by rw [← hr2.out]; rfl)
        go_upto_region 4 with fail
        go_quiet ((go_at_call 20; exact Calls.quiet_of (hS.out _)))
        go_wp2_with fail
        go_ret
        exact ⟨by rw [hRf.out]; rfl, hBq.trans ⟨rfl, rfl, rfl, Nat.le_refl _, fun _ _ => rfl⟩⟩
      · have hr3 : Hid ((sameF T U (k + 1) (32 - (k + 1)) && (T.getD 32 [] == U.getD 32 [])) = R) := Lib.hid (by rw [← hr2.out, Bool.true_and])
        go_upto_region 4 with fail
        go_quiet ((go_at_call 20; exact Calls.quiet_of (hS.out _)))
        go_wp2_with fail
        go_roundw
        case rel => exact ⟨k + 1, by omega, by go_num, hqd.out _, hr3⟩
        case measure => simp [intOf]; omega
    · obtain rfl : k = 32 := by omega
      obtain ⟨A1, n1, k1, A2, n2, k2, l, m, c1, c2, e1, e2, hS⟩ := hrow.out wr hq 32 (by decide)
      have hRt : Hid (R = (l == m)) := Lib.hid (by rw [← hr.out, e1, e2]; rfl)
      have hS0 : Calls Tryz.prog 20 #[.slice A1 n1 k1, .slice A2 n2 k2] wr (fun e w' => e = .returned (.bool (l == m)) ∧ ∃ q, w' = wr.drewN q) := hS 0
      replace hS0 := Lib.hid hS0
      generalize (l == m) = B at hRt hS0
      replace e1 := Lib.hid e1
      replace e2 := Lib.hid e2
      replace hq := Lib.hid hq
      clear hS
      go_wp2_with (go_at_call 20; (with_reducible refine hS0.out.mono ?_); rintro e w1 ⟨rfl, q1, rfl⟩)
      go_ret
      exact ⟨by rw [hRt.out]; rfl, hBq.trans ⟨rfl, rfl, rfl, Nat.le_refl _, fun _ _ => rfl⟩⟩
end Go.Proofs.YtebeajnaamglkaaGreatDoor
