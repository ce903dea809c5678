/- The walk of taint.Step where it is refused. Conditions: none. -/
import Derived.Test.YtebeajnaamglkaaDoorTntSt
set_option linter.unusedSimpArgs false
set_option linter.unusedVariables false
namespace Go.Proofs.YtebeajnaamglkaaDoor
open Go.RowKit
def zeroTL : List Value := List.replicate 33 (.slice none 0 0)
theorem zeroTL_one : zeroTL.toArray.all (·.oneCell') = true := by kernel_rfl
theorem zero3_one : (#[.slice none 0 0, .slice none 0 0, .slice none 0 0] : Array Value).all (·.oneCell') = true := by kernel_rfl
def StepBad (w : World) (e : Ending) (w' : World) : Prop := e = .returned (.tuple #[.agg zeroTL.toArray, .agg #[.slice none 0 0, .slice none 0 0, .slice none 0 0], .int .i64 2]) ∧ Below w.heap.size w w'
set_option maxRecDepth 100000 in
set_option maxHeartbeats 16000000 in
theorem Step_bad1 (cs : List Value) (T : List (List Int)) (P : Nat → Prop) (i : InsnV) (ev : Int) (w : World) (h : TS w P cs T) (hE : taintE T = 2) (hop : i.op ≤ 9223372036854775807) (ht : Tabs w) :
    Calls Tryd.prog 10 #[.agg cs.toArray, .agg i.cells, .int .i64 ev] w (StepBad w) := by
  have hu := Tryd.underlying27
  have hui := Tryd.underlying33
  have hud := Tryd.underlying35
  have hlc := h.lc
  have hS := S0.start w cs.toArray i.cells #[.slice none 0 0, .slice none 0 0, .slice none 0 0, .slice none 0 0, .slice none 0 0, .slice none 0 0, .slice none 0 0, .slice none 0 0, .slice none 0 0, .slice none 0 0, .slice none 0 0, .slice none 0 0, .slice none 0 0, .slice none 0 0, .slice none 0 0, .slice none 0 0, .slice none 0 0, .slice none 0 0, .slice none 0 0, .slice none 0 0, .slice none 0 0, .slice none 0 0, .slice none 0 0, .slice none 0 0, .slice none 0 0, .slice none 0 0, .slice none 0 0, .slice none 0 0, .slice none 0 0, .slice none 0 0, .slice none 0 0, .slice none 0 0, .slice none 0 0] #[.slice none 0 0, .slice none 0 0, .slice none 0 0] 27 33 27 35 (by rw [List.size_toArray]; exact hlc) rfl rfl
  obtain ⟨ics, hics⟩ : ∃ l, l = i.cells.toList := ⟨_, rfl⟩
  have hs1 : Hid ((Tryd.prog.info? 27).map (·.size) = some cs.length) := Lib.hid (by rw [hlc]; exact size_taint)
  have hs2 : Hid ((Tryd.prog.info? 33).map (·.size) = some ics.length) := Lib.hid (by rw [hics]; kernel_rfl)
  have hKT := Lib.hid (fun W h2 => TCheck_any cs T P W h2)
  have hKI := Lib.hid (fun W hW => Check_any i hop W hW)
  rw [hE] at hKT
  have hia : Hid (i.cells = ics.toArray) := Lib.hid (by rw [hics])
  rw [← hics] at hS
  rw [List.toList_toArray] at hS
  rw [hia.out] at hKI hS ⊢
  have hTS := h.below hS.bl
  clear hics
  go_enter Tryd.func10, Tryd.ntmps10
  go_upto_region 1 with fail
  generalize World.alloc _ (.cells #[.slice none 0 0, .slice none 0 0, .slice none 0 0] 35) = W1 at hS hTS ⊢
  go_upto_region 2 with (first | (refine wpList_load_midG 27 _ rfl (by rfl) w.heap.size 0 rfl cs _ hS.r0 hu rfl hs1.out ?_) | (refine wpList_load_midG 33 _ rfl (by rfl) (w.heap.size + 1) 0 rfl ics _ hS.ib hui rfl hs2.out ?_) | (go_at_call 16; refine (hKT.out _ hTS).mono ?_; rintro e w2 ⟨rfl, hb2⟩; replace hS := hS.keep hb2; replace hTS := hTS.below hb2; clear hb2) | (go_at_call 25; refine (hKI.out _ (ht.later hS.bl (Nat.le_refl _))).mono ?_; rintro e w3 ⟨rfl, hb3⟩; replace hS := hS.keep hb3; replace hTS := hTS.below hb3; clear hb3))
  go_wp2_with (first | (refine wpList_store_mid rfl 27 _ _ rfl (w.heap.size + 2) 0 zeroTL.toArray rfl rfl (fun j hj => hS.z6 j hj) size_taint zeroTL_one ?_; change wpList _ _ _ _ _ (World.setCells _ (w.heap.size + 2) 0 zeroTL); have r6 := World.rangeAt_setCells_same _ (w.heap.size + 2) 0 zeroTL (fun j hj => hS.z6 j hj); have hz7 := World.there_setCells hS.z7 (w.heap.size + 2) 0 zeroTL; have hb6 := tn_below (Nat.le_add_right w.heap.size 2) zeroTL 0 _ hS.bl; generalize World.setCells _ (w.heap.size + 2) 0 zeroTL = w8 at r6 hz7 hb6 ⊢) | (refine wpList_store_mid rfl 35 _ _ rfl (w.heap.size + 3) 0 #[.slice none 0 0, .slice none 0 0, .slice none 0 0] rfl rfl (fun j hj => hz7 j hj) size_deps zero3_one ?_; change wpList _ _ _ _ _ (World.setCells _ (w.heap.size + 3) 0 [.slice none 0 0, .slice none 0 0, .slice none 0 0]); replace r6 := World.rangeAt_setCells_apart r6 (w.heap.size + 3) 0 [.slice none 0 0, .slice none 0 0, .slice none 0 0] (.inl (by omega)); have r7 := World.rangeAt_setCells_same w8 (w.heap.size + 3) 0 [.slice none 0 0, .slice none 0 0, .slice none 0 0] (fun j hj => hz7 j hj); have hb7 := tn_below (Nat.le_add_right w.heap.size 3) [.slice none 0 0, .slice none 0 0, .slice none 0 0] 0 _ hb6; generalize World.setCells w8 (w.heap.size + 3) 0 [.slice none 0 0, .slice none 0 0, .slice none 0 0] = w9 at r6 r7 hb7 ⊢))
  have hl6 := run_loadVar_mid w9 (w.heap.size + 2) 0 27 zeroTL _ r6 hu rfl size_taint
  have hl7 := run_loadVar_mid w9 (w.heap.size + 3) 0 35 [.slice none 0 0, .slice none 0 0, .slice none 0 0] _ r7 hud rfl size_deps
  exact bodyPost_ret (v := .tuple #[.agg zeroTL.toArray, .agg #[.slice none 0 0, .slice none 0 0, .slice none 0 0], .int .i64 2]) (res_3 Tryd.results10 _ _ _ _ _ _ _ rfl rfl rfl hl6 hl7) rfl ⟨rfl, hb7⟩
set_option maxRecDepth 100000 in
set_option maxHeartbeats 16000000 in
theorem Step_bad2 (cs : List Value) (T : List (List Int)) (P : Nat → Prop) (i : InsnV) (ev : Int) (w : World) (h : TS w P cs T) (hE : taintE T = 0) (hc : checkE i = 2) (hop : i.op ≤ 9223372036854775807) (ht : Tabs w) :
    Calls Tryd.prog 10 #[.agg cs.toArray, .agg i.cells, .int .i64 ev] w (StepBad w) := by
  have hu := Tryd.underlying27
  have hui := Tryd.underlying33
  have hud := Tryd.underlying35
  have hlc := h.lc
  have hS := S0.start w cs.toArray i.cells #[.slice none 0 0, .slice none 0 0, .slice none 0 0, .slice none 0 0, .slice none 0 0, .slice none 0 0, .slice none 0 0, .slice none 0 0, .slice none 0 0, .slice none 0 0, .slice none 0 0, .slice none 0 0, .slice none 0 0, .slice none 0 0, .slice none 0 0, .slice none 0 0, .slice none 0 0, .slice none 0 0, .slice none 0 0, .slice none 0 0, .slice none 0 0, .slice none 0 0, .slice none 0 0, .slice none 0 0, .slice none 0 0, .slice none 0 0, .slice none 0 0, .slice none 0 0, .slice none 0 0, .slice none 0 0, .slice none 0 0, .slice none 0 0, .slice none 0 0] #[.slice none 0 0, .slice none 0 0, .slice none 0 0] 27 33 27 35 (by rw [List.size_toArray]; exact hlc) rfl rfl
  obtain ⟨ics, hics⟩ : ∃ l, l = i.cells.toList := ⟨_, rfl⟩
  have hs1 : Hid ((Tryd.prog.info? 27).map (·.size) = some cs.length) := Lib.hid (by rw [hlc]; exact size_taint)
  have hs2 : Hid ((Tryd.prog.info? 33).map (·.size) = some ics.length) := Lib.hid (by rw [hics]; kernel_rfl)
  have hKT := Lib.hid (fun W h2 => TCheck_any cs T P W h2)
  have hKI := Lib.hid (fun W hW => Check_any i hop W hW)
  rw [hE] at hKT
  rw [hc] at hKI
  have hia : Hid (i.cells = ics.toArray) := Lib.hid (by rw [hics])
  rw [← hics] at hS
  rw [List.toList_toArray] at hS
  rw [hia.out] at hKI hS ⊢
  have hTS := h.below hS.bl
  clear hics
  go_enter Tryd.func10, Tryd.ntmps10
  go_upto_region 1 with fail
  generalize World.alloc _ (.cells #[.slice none 0 0, .slice none 0 0, .slice none 0 0] 35) = W1 at hS hTS ⊢
  go_upto_region 2 with (first | (refine wpList_load_midG 27 _ rfl (by rfl) w.heap.size 0 rfl cs _ hS.r0 hu rfl hs1.out ?_) | (refine wpList_load_midG 33 _ rfl (by rfl) (w.heap.size + 1) 0 rfl ics _ hS.ib hui rfl hs2.out ?_) | (go_at_call 16; refine (hKT.out _ hTS).mono ?_; rintro e w2 ⟨rfl, hb2⟩; replace hS := hS.keep hb2; replace hTS := hTS.below hb2; clear hb2) | (go_at_call 25; refine (hKI.out _ (ht.later hS.bl (Nat.le_refl _))).mono ?_; rintro e w3 ⟨rfl, hb3⟩; replace hS := hS.keep hb3; replace hTS := hTS.below hb3; clear hb3))
  go_wp2_with (first | (refine wpList_store_mid rfl 27 _ _ rfl (w.heap.size + 2) 0 zeroTL.toArray rfl rfl (fun j hj => hS.z6 j hj) size_taint zeroTL_one ?_; change wpList _ _ _ _ _ (World.setCells _ (w.heap.size + 2) 0 zeroTL); have r6 := World.rangeAt_setCells_same _ (w.heap.size + 2) 0 zeroTL (fun j hj => hS.z6 j hj); have hz7 := World.there_setCells hS.z7 (w.heap.size + 2) 0 zeroTL; have hb6 := tn_below (Nat.le_add_right w.heap.size 2) zeroTL 0 _ hS.bl; generalize World.setCells _ (w.heap.size + 2) 0 zeroTL = w8 at r6 hz7 hb6 ⊢) | (refine wpList_store_mid rfl 35 _ _ rfl (w.heap.size + 3) 0 #[.slice none 0 0, .slice none 0 0, .slice none 0 0] rfl rfl (fun j hj => hz7 j hj) size_deps zero3_one ?_; change wpList _ _ _ _ _ (World.setCells _ (w.heap.size + 3) 0 [.slice none 0 0, .slice none 0 0, .slice none 0 0]); replace r6 := World.rangeAt_setCells_apart r6 (w.heap.size + 3) 0 [.slice none 0 0, .slice none 0 0, .slice none 0 0] (.inl (by omega)); have r7 := World.rangeAt_setCells_same w8 (w.heap.size + 3) 0 [.slice none 0 0, .slice none 0 0, .slice none 0 0] (fun j hj => hz7 j hj); have hb7 := tn_below (Nat.le_add_right w.heap.size 3) [.slice none 0 0, .slice none 0 0, .slice none 0 0] 0 _ hb6; generalize World.setCells w8 (w.heap.size + 3) 0 [.slice none 0 0, .slice none 0 0, .slice none 0 0] = w9 at r6 r7 hb7 ⊢))
  have hl6 := run_loadVar_mid w9 (w.heap.size + 2) 0 27 zeroTL _ r6 hu rfl size_taint
  have hl7 := run_loadVar_mid w9 (w.heap.size + 3) 0 35 [.slice none 0 0, .slice none 0 0, .slice none 0 0] _ r7 hud rfl size_deps
  exact bodyPost_ret (v := .tuple #[.agg zeroTL.toArray, .agg #[.slice none 0 0, .slice none 0 0, .slice none 0 0], .int .i64 2]) (res_3 Tryd.results10 _ _ _ _ _ _ _ rfl rfl rfl hl6 hl7) rfl ⟨rfl, hb7⟩
set_option maxRecDepth 100000 in
set_option maxHeartbeats 16000000 in
theorem Step_bad3 (cs : List Value) (T : List (List Int)) (P : Nat → Prop) (i : InsnV) (ev : Int) (w : World) (h : TS w P cs T) (hE : taintE T = 0) (hc : checkE i = 0) (hev : ev < -1) (hop : i.op ≤ 9223372036854775807) (ht : Tabs w) :
    Calls Tryd.prog 10 #[.agg cs.toArray, .agg i.cells, .int .i64 ev] w (StepBad w) := by
  have hu := Tryd.underlying27
  have hui := Tryd.underlying33
  have hud := Tryd.underlying35
  have hlc := h.lc
  have hS := S0.start w cs.toArray i.cells #[.slice none 0 0, .slice none 0 0, .slice none 0 0, .slice none 0 0, .slice none 0 0, .slice none 0 0, .slice none 0 0, .slice none 0 0, .slice none 0 0, .slice none 0 0, .slice none 0 0, .slice none 0 0, .slice none 0 0, .slice none 0 0, .slice none 0 0, .slice none 0 0, .slice none 0 0, .slice none 0 0, .slice none 0 0, .slice none 0 0, .slice none 0 0, .slice none 0 0, .slice none 0 0, .slice none 0 0, .slice none 0 0, .slice none 0 0, .slice none 0 0, .slice none 0 0, .slice none 0 0, .slice none 0 0, .slice none 0 0, .slice none 0 0, .slice none 0 0] #[.slice none 0 0, .slice none 0 0, .slice none 0 0] 27 33 27 35 (by rw [List.size_toArray]; exact hlc) rfl rfl
  obtain ⟨ics, hics⟩ : ∃ l, l = i.cells.toList := ⟨_, rfl⟩
  have hs1 : Hid ((Tryd.prog.info? 27).map (·.size) = some cs.length) := Lib.hid (by rw [hlc]; exact size_taint)
  have hs2 : Hid ((Tryd.prog.info? 33).map (·.size) = some ics.length) := Lib.hid (by rw [hics]; kernel_rfl)
  have hKT := Lib.hid (fun W h2 => TCheck_any cs T P W h2)
  have hKI := Lib.hid (fun W hW => Check_any i hop W hW)
  rw [hE] at hKT
  rw [hc] at hKI
  have hev2 : decide (ev < -1) = true := decide_eq_true hev
  have hia : Hid (i.cells = ics.toArray) := Lib.hid (by rw [hics])
  rw [← hics] at hS
  rw [List.toList_toArray] at hS
  rw [hia.out] at hKI hS ⊢
  have hTS := h.below hS.bl
  clear hics
  go_enter Tryd.func10, Tryd.ntmps10
  go_upto_region 1 with fail
  generalize World.alloc _ (.cells #[.slice none 0 0, .slice none 0 0, .slice none 0 0] 35) = W1 at hS hTS ⊢
  go_upto_region 2 with (first | (refine wpList_load_midG 27 _ rfl (by rfl) w.heap.size 0 rfl cs _ hS.r0 hu rfl hs1.out ?_) | (refine wpList_load_midG 33 _ rfl (by rfl) (w.heap.size + 1) 0 rfl ics _ hS.ib hui rfl hs2.out ?_) | (go_at_call 16; refine (hKT.out _ hTS).mono ?_; rintro e w2 ⟨rfl, hb2⟩; replace hS := hS.keep hb2; replace hTS := hTS.below hb2; clear hb2) | (go_at_call 25; refine (hKI.out _ (ht.later hS.bl (Nat.le_refl _))).mono ?_; rintro e w3 ⟨rfl, hb3⟩; replace hS := hS.keep hb3; replace hTS := hTS.below hb3; clear hb3))
  go_wp2_with (first | (refine wpList_store_mid rfl 27 _ _ rfl (w.heap.size + 2) 0 zeroTL.toArray rfl rfl (fun j hj => hS.z6 j hj) size_taint zeroTL_one ?_; change wpList _ _ _ _ _ (World.setCells _ (w.heap.size + 2) 0 zeroTL); have r6 := World.rangeAt_setCells_same _ (w.heap.size + 2) 0 zeroTL (fun j hj => hS.z6 j hj); have hz7 := World.there_setCells hS.z7 (w.heap.size + 2) 0 zeroTL; have hb6 := tn_below (Nat.le_add_right w.heap.size 2) zeroTL 0 _ hS.bl; generalize World.setCells _ (w.heap.size + 2) 0 zeroTL = w8 at r6 hz7 hb6 ⊢) | (refine wpList_store_mid rfl 35 _ _ rfl (w.heap.size + 3) 0 #[.slice none 0 0, .slice none 0 0, .slice none 0 0] rfl rfl (fun j hj => hz7 j hj) size_deps zero3_one ?_; change wpList _ _ _ _ _ (World.setCells _ (w.heap.size + 3) 0 [.slice none 0 0, .slice none 0 0, .slice none 0 0]); replace r6 := World.rangeAt_setCells_apart r6 (w.heap.size + 3) 0 [.slice none 0 0, .slice none 0 0, .slice none 0 0] (.inl (by omega)); have r7 := World.rangeAt_setCells_same w8 (w.heap.size + 3) 0 [.slice none 0 0, .slice none 0 0, .slice none 0 0] (fun j hj => hz7 j hj); have hb7 := tn_below (Nat.le_add_right w.heap.size 3) [.slice none 0 0, .slice none 0 0, .slice none 0 0] 0 _ hb6; generalize World.setCells w8 (w.heap.size + 3) 0 [.slice none 0 0, .slice none 0 0, .slice none 0 0] = w9 at r6 r7 hb7 ⊢))
  have hl6 := run_loadVar_mid w9 (w.heap.size + 2) 0 27 zeroTL _ r6 hu rfl size_taint
  have hl7 := run_loadVar_mid w9 (w.heap.size + 3) 0 35 [.slice none 0 0, .slice none 0 0, .slice none 0 0] _ r7 hud rfl size_deps
  exact bodyPost_ret (v := .tuple #[.agg zeroTL.toArray, .agg #[.slice none 0 0, .slice none 0 0, .slice none 0 0], .int .i64 2]) (res_3 Tryd.results10 _ _ _ _ _ _ _ rfl rfl rfl hl6 hl7) rfl ⟨rfl, hb7⟩
end Go.Proofs.YtebeajnaamglkaaDoor
