/- The walk of taint.Step where it is refused. The walks of fencepostkit.Same[int] and fencepostkit.Deps. Plain: what taint.Step computes at the law's examples. No program in sight. The walks of taint.New and the law's start. A step's taint and dependencies in boxes of their own. Conditions: as each theorem says. -/
import Derived.Test.YtebeajnaamglkaaGreatDoorTntSt
import Derived.Test.YtebeajnaamglkaaGreatDoorTntMw
import Derived.Deep.QuietTactic
import Derived.BigQuiet
import Derived.Test.YtebeajnaamglkaaGreatDoorTntSd
import Derived.Test.YtebeajnaamglkaaGreatDoorFieldsPl
set_option linter.unusedSimpArgs false
set_option linter.unusedVariables false
namespace Go.Proofs.YtebeajnaamglkaaGreatDoor
open Go.RowKit
def zeroTL : List Value := List.replicate 33 (.slice none 0 0)
theorem zeroTL_one : zeroTL.toArray.all (·.oneCell') = true := by kernel_rfl
theorem zero3_one : (#[.slice none 0 0, .slice none 0 0, .slice none 0 0] : Array Value).all (·.oneCell') = true := by kernel_rfl
def StepBad (w : World) (e : Ending) (w' : World) : Prop := e = .returned (.tuple #[.agg zeroTL.toArray, .agg #[.slice none 0 0, .slice none 0 0, .slice none 0 0], .int .i64 2]) ∧ Below w.heap.size w w'
set_option maxRecDepth 100000 in
set_option maxHeartbeats 16000000 in
theorem Step_bad1 (cs : List Value) (T : List (List Int)) (P : Nat → Prop) (i : InsnV) (ev : Int) (w : World) (h : TS w P cs T) (hE : taintE T = 2) (hop : i.op ≤ 9223372036854775807) (ht : Tabs w) :
    Calls Tryz.prog 9 #[.agg cs.toArray, .agg i.cells, .int .i64 ev] w (StepBad w) := by
  have hu := Tryz.underlying28
  have hui := Tryz.underlying33
  have hud := Tryz.underlying35
  have hlc := h.lc
  have hS := S0.start w cs.toArray i.cells #[.slice none 0 0, .slice none 0 0, .slice none 0 0, .slice none 0 0, .slice none 0 0, .slice none 0 0, .slice none 0 0, .slice none 0 0, .slice none 0 0, .slice none 0 0, .slice none 0 0, .slice none 0 0, .slice none 0 0, .slice none 0 0, .slice none 0 0, .slice none 0 0, .slice none 0 0, .slice none 0 0, .slice none 0 0, .slice none 0 0, .slice none 0 0, .slice none 0 0, .slice none 0 0, .slice none 0 0, .slice none 0 0, .slice none 0 0, .slice none 0 0, .slice none 0 0, .slice none 0 0, .slice none 0 0, .slice none 0 0, .slice none 0 0, .slice none 0 0] #[.slice none 0 0, .slice none 0 0, .slice none 0 0] 28 33 28 35 (by rw [List.size_toArray]; exact hlc) rfl rfl
  obtain ⟨ics, hics⟩ : ∃ l, l = i.cells.toList := ⟨_, rfl⟩
  have hs1 : Hid ((Tryz.prog.info? 28).map (·.size) = some cs.length) := Lib.hid (by rw [hlc]; exact size_taint)
  have hs2 : Hid ((Tryz.prog.info? 33).map (·.size) = some ics.length) := Lib.hid (by rw [hics]; kernel_rfl)
  have hKT := Lib.hid (fun W h2 => TCheck_any cs T P W h2)
  have hKI := Lib.hid (fun W hW => Check_any i hop W hW)
  rw [hE] at hKT
  have hia : Hid (i.cells = ics.toArray) := Lib.hid (by rw [hics])
  rw [← hics] at hS
  rw [List.toList_toArray] at hS
  rw [hia.out] at hKI hS ⊢
  have hTS := h.below hS.bl
  clear hics
  go_enter Tryz.func9, Tryz.ntmps9
  go_upto_region 1 with fail
  generalize World.alloc _ (.cells #[.slice none 0 0, .slice none 0 0, .slice none 0 0] 35) = W1 at hS hTS ⊢
  go_upto_region 2 with (first | (refine wpList_load_midG 28 _ rfl (by rfl) w.heap.size 0 rfl cs _ hS.r0 hu rfl hs1.out ?_) | (refine wpList_load_midG 33 _ rfl (by rfl) (w.heap.size + 1) 0 rfl ics _ hS.ib hui rfl hs2.out ?_) | (go_at_call 13; refine (hKT.out _ hTS).mono ?_; rintro e w2 ⟨rfl, hb2⟩; replace hS := hS.keep hb2; replace hTS := hTS.below hb2; clear hb2) | (go_at_call 27; refine (hKI.out _ (ht.later hS.bl (Nat.le_refl _))).mono ?_; rintro e w3 ⟨rfl, hb3⟩; replace hS := hS.keep hb3; replace hTS := hTS.below hb3; clear hb3))
  go_wp2_with (first | (refine wpList_store_mid rfl 28 _ _ rfl (w.heap.size + 2) 0 zeroTL.toArray rfl rfl (fun j hj => hS.z6 j hj) size_taint zeroTL_one ?_; change wpList _ _ _ _ _ (World.setCells _ (w.heap.size + 2) 0 zeroTL); have r6 := World.rangeAt_setCells_same _ (w.heap.size + 2) 0 zeroTL (fun j hj => hS.z6 j hj); have hz7 := World.there_setCells hS.z7 (w.heap.size + 2) 0 zeroTL; have hb6 := tn_below (Nat.le_add_right w.heap.size 2) zeroTL 0 _ hS.bl; generalize World.setCells _ (w.heap.size + 2) 0 zeroTL = w8 at r6 hz7 hb6 ⊢) | (refine wpList_store_mid rfl 35 _ _ rfl (w.heap.size + 3) 0 #[.slice none 0 0, .slice none 0 0, .slice none 0 0] rfl rfl (fun j hj => hz7 j hj) size_deps zero3_one ?_; change wpList _ _ _ _ _ (World.setCells _ (w.heap.size + 3) 0 [.slice none 0 0, .slice none 0 0, .slice none 0 0]); replace r6 := World.rangeAt_setCells_apart r6 (w.heap.size + 3) 0 [.slice none 0 0, .slice none 0 0, .slice none 0 0] (.inl (by omega)); have r7 := World.rangeAt_setCells_same w8 (w.heap.size + 3) 0 [.slice none 0 0, .slice none 0 0, .slice none 0 0] (fun j hj => hz7 j hj); have hb7 := tn_below (Nat.le_add_right w.heap.size 3) [.slice none 0 0, .slice none 0 0, .slice none 0 0] 0 _ hb6; generalize World.setCells w8 (w.heap.size + 3) 0 [.slice none 0 0, .slice none 0 0, .slice none 0 0] = w9 at r6 r7 hb7 ⊢))
  have hl6 := run_loadVar_mid w9 (w.heap.size + 2) 0 28 zeroTL _ r6 hu rfl size_taint
  have hl7 := run_loadVar_mid w9 (w.heap.size + 3) 0 35 [.slice none 0 0, .slice none 0 0, .slice none 0 0] _ r7 hud rfl size_deps
  exact bodyPost_ret (v := .tuple #[.agg zeroTL.toArray, .agg #[.slice none 0 0, .slice none 0 0, .slice none 0 0], .int .i64 2]) (res_3 Tryz.results9 _ _ _ _ _ _ _ rfl rfl rfl hl6 hl7) rfl ⟨rfl, hb7⟩
set_option maxRecDepth 100000 in
set_option maxHeartbeats 16000000 in
theorem Step_bad2 (cs : List Value) (T : List (List Int)) (P : Nat → Prop) (i : InsnV) (ev : Int) (w : World) (h : TS w P cs T) (hE : taintE T = 0) (hc : checkE i = 2) (hop : i.op ≤ 9223372036854775807) (ht : Tabs w) :
    Calls Tryz.prog 9 #[.agg cs.toArray, .agg i.cells, .int .i64 ev] w (StepBad w) := by
  have hu := Tryz.underlying28
  have hui := Tryz.underlying33
  have hud := Tryz.underlying35
  have hlc := h.lc
  have hS := S0.start w cs.toArray i.cells #[.slice none 0 0, .slice none 0 0, .slice none 0 0, .slice none 0 0, .slice none 0 0, .slice none 0 0, .slice none 0 0, .slice none 0 0, .slice none 0 0, .slice none 0 0, .slice none 0 0, .slice none 0 0, .slice none 0 0, .slice none 0 0, .slice none 0 0, .slice none 0 0, .slice none 0 0, .slice none 0 0, .slice none 0 0, .slice none 0 0, .slice none 0 0, .slice none 0 0, .slice none 0 0, .slice none 0 0, .slice none 0 0, .slice none 0 0, .slice none 0 0, .slice none 0 0, .slice none 0 0, .slice none 0 0, .slice none 0 0, .slice none 0 0, .slice none 0 0] #[.slice none 0 0, .slice none 0 0, .slice none 0 0] 28 33 28 35 (by rw [List.size_toArray]; exact hlc) rfl rfl
  obtain ⟨ics, hics⟩ : ∃ l, l = i.cells.toList := ⟨_, rfl⟩
  have hs1 : Hid ((Tryz.prog.info? 28).map (·.size) = some cs.length) := Lib.hid (by rw [hlc]; exact size_taint)
  have hs2 : Hid ((Tryz.prog.info? 33).map (·.size) = some ics.length) := Lib.hid (by rw [hics]; kernel_rfl)
  have hKT := Lib.hid (fun W h2 => TCheck_any cs T P W h2)
  have hKI := Lib.hid (fun W hW => Check_any i hop W hW)
  rw [hE] at hKT
  rw [hc] at hKI
  have hia : Hid (i.cells = ics.toArray) := Lib.hid (by rw [hics])
  rw [← hics] at hS
  rw [List.toList_toArray] at hS
  rw [hia.out] at hKI hS ⊢
  have hTS := h.below hS.bl
  clear hics
  go_enter Tryz.func9, Tryz.ntmps9
  go_upto_region 1 with fail
  generalize World.alloc _ (.cells #[.slice none 0 0, .slice none 0 0, .slice none 0 0] 35) = W1 at hS hTS ⊢
  go_upto_region 2 with (first | (refine wpList_load_midG 28 _ rfl (by rfl) w.heap.size 0 rfl cs _ hS.r0 hu rfl hs1.out ?_) | (refine wpList_load_midG 33 _ rfl (by rfl) (w.heap.size + 1) 0 rfl ics _ hS.ib hui rfl hs2.out ?_) | (go_at_call 13; refine (hKT.out _ hTS).mono ?_; rintro e w2 ⟨rfl, hb2⟩; replace hS := hS.keep hb2; replace hTS := hTS.below hb2; clear hb2) | (go_at_call 27; refine (hKI.out _ (ht.later hS.bl (Nat.le_refl _))).mono ?_; rintro e w3 ⟨rfl, hb3⟩; replace hS := hS.keep hb3; replace hTS := hTS.below hb3; clear hb3))
  go_wp2_with (first | (refine wpList_store_mid rfl 28 _ _ rfl (w.heap.size + 2) 0 zeroTL.toArray rfl rfl (fun j hj => hS.z6 j hj) size_taint zeroTL_one ?_; change wpList _ _ _ _ _ (World.setCells _ (w.heap.size + 2) 0 zeroTL); have r6 := World.rangeAt_setCells_same _ (w.heap.size + 2) 0 zeroTL (fun j hj => hS.z6 j hj); have hz7 := World.there_setCells hS.z7 (w.heap.size + 2) 0 zeroTL; have hb6 := tn_below (Nat.le_add_right w.heap.size 2) zeroTL 0 _ hS.bl; generalize World.setCells _ (w.heap.size + 2) 0 zeroTL = w8 at r6 hz7 hb6 ⊢) | (refine wpList_store_mid rfl 35 _ _ rfl (w.heap.size + 3) 0 #[.slice none 0 0, .slice none 0 0, .slice none 0 0] rfl rfl (fun j hj => hz7 j hj) size_deps zero3_one ?_; change wpList _ _ _ _ _ (World.setCells _ (w.heap.size + 3) 0 [.slice none 0 0, .slice none 0 0, .slice none 0 0]); replace r6 := World.rangeAt_setCells_apart r6 (w.heap.size + 3) 0 [.slice none 0 0, .slice none 0 0, .slice none 0 0] (.inl (by omega)); have r7 := World.rangeAt_setCells_same w8 (w.heap.size + 3) 0 [.slice none 0 0, .slice none 0 0, .slice none 0 0] (fun j hj => hz7 j hj); have hb7 := tn_below (Nat.le_add_right w.heap.size 3) [.slice none 0 0, .slice none 0 0, .slice none 0 0] 0 _ hb6; generalize World.setCells w8 (w.heap.size + 3) 0 [.slice none 0 0, .slice none 0 0, .slice none 0 0] = w9 at r6 r7 hb7 ⊢))
  have hl6 := run_loadVar_mid w9 (w.heap.size + 2) 0 28 zeroTL _ r6 hu rfl size_taint
  have hl7 := run_loadVar_mid w9 (w.heap.size + 3) 0 35 [.slice none 0 0, .slice none 0 0, .slice none 0 0] _ r7 hud rfl size_deps
  exact bodyPost_ret (v := .tuple #[.agg zeroTL.toArray, .agg #[.slice none 0 0, .slice none 0 0, .slice none 0 0], .int .i64 2]) (res_3 Tryz.results9 _ _ _ _ _ _ _ rfl rfl rfl hl6 hl7) rfl ⟨rfl, hb7⟩
set_option maxRecDepth 100000 in
set_option maxHeartbeats 16000000 in
theorem Step_bad3 (cs : List Value) (T : List (List Int)) (P : Nat → Prop) (i : InsnV) (ev : Int) (w : World) (h : TS w P cs T) (hE : taintE T = 0) (hc : checkE i = 0) (hev : ev < -1) (hop : i.op ≤ 9223372036854775807) (ht : Tabs w) :
    Calls Tryz.prog 9 #[.agg cs.toArray, .agg i.cells, .int .i64 ev] w (StepBad w) := by
  have hu := Tryz.underlying28
  have hui := Tryz.underlying33
  have hud := Tryz.underlying35
  have hlc := h.lc
  have hS := S0.start w cs.toArray i.cells #[.slice none 0 0, .slice none 0 0, .slice none 0 0, .slice none 0 0, .slice none 0 0, .slice none 0 0, .slice none 0 0, .slice none 0 0, .slice none 0 0, .slice none 0 0, .slice none 0 0, .slice none 0 0, .slice none 0 0, .slice none 0 0, .slice none 0 0, .slice none 0 0, .slice none 0 0, .slice none 0 0, .slice none 0 0, .slice none 0 0, .slice none 0 0, .slice none 0 0, .slice none 0 0, .slice none 0 0, .slice none 0 0, .slice none 0 0, .slice none 0 0, .slice none 0 0, .slice none 0 0, .slice none 0 0, .slice none 0 0, .slice none 0 0, .slice none 0 0] #[.slice none 0 0, .slice none 0 0, .slice none 0 0] 28 33 28 35 (by rw [List.size_toArray]; exact hlc) rfl rfl
  obtain ⟨ics, hics⟩ : ∃ l, l = i.cells.toList := ⟨_, rfl⟩
  have hs1 : Hid ((Tryz.prog.info? 28).map (·.size) = some cs.length) := Lib.hid (by rw [hlc]; exact size_taint)
  have hs2 : Hid ((Tryz.prog.info? 33).map (·.size) = some ics.length) := Lib.hid (by rw [hics]; kernel_rfl)
  have hKT := Lib.hid (fun W h2 => TCheck_any cs T P W h2)
  have hKI := Lib.hid (fun W hW => Check_any i hop W hW)
  rw [hE] at hKT
  rw [hc] at hKI
  have hev2 : decide (ev < -1) = true := decide_eq_true hev
  have hia : Hid (i.cells = ics.toArray) := Lib.hid (by rw [hics])
  rw [← hics] at hS
  rw [List.toList_toArray] at hS
  rw [hia.out] at hKI hS ⊢
  have hTS := h.below hS.bl
  clear hics
  go_enter Tryz.func9, Tryz.ntmps9
  go_upto_region 1 with fail
  generalize World.alloc _ (.cells #[.slice none 0 0, .slice none 0 0, .slice none 0 0] 35) = W1 at hS hTS ⊢
  go_upto_region 2 with (first | (refine wpList_load_midG 28 _ rfl (by rfl) w.heap.size 0 rfl cs _ hS.r0 hu rfl hs1.out ?_) | (refine wpList_load_midG 33 _ rfl (by rfl) (w.heap.size + 1) 0 rfl ics _ hS.ib hui rfl hs2.out ?_) | (go_at_call 13; refine (hKT.out _ hTS).mono ?_; rintro e w2 ⟨rfl, hb2⟩; replace hS := hS.keep hb2; replace hTS := hTS.below hb2; clear hb2) | (go_at_call 27; refine (hKI.out _ (ht.later hS.bl (Nat.le_refl _))).mono ?_; rintro e w3 ⟨rfl, hb3⟩; replace hS := hS.keep hb3; replace hTS := hTS.below hb3; clear hb3))
  go_wp2_with (first | (refine wpList_store_mid rfl 28 _ _ rfl (w.heap.size + 2) 0 zeroTL.toArray rfl rfl (fun j hj => hS.z6 j hj) size_taint zeroTL_one ?_; change wpList _ _ _ _ _ (World.setCells _ (w.heap.size + 2) 0 zeroTL); have r6 := World.rangeAt_setCells_same _ (w.heap.size + 2) 0 zeroTL (fun j hj => hS.z6 j hj); have hz7 := World.there_setCells hS.z7 (w.heap.size + 2) 0 zeroTL; have hb6 := tn_below (Nat.le_add_right w.heap.size 2) zeroTL 0 _ hS.bl; generalize World.setCells _ (w.heap.size + 2) 0 zeroTL = w8 at r6 hz7 hb6 ⊢) | (refine wpList_store_mid rfl 35 _ _ rfl (w.heap.size + 3) 0 #[.slice none 0 0, .slice none 0 0, .slice none 0 0] rfl rfl (fun j hj => hz7 j hj) size_deps zero3_one ?_; change wpList _ _ _ _ _ (World.setCells _ (w.heap.size + 3) 0 [.slice none 0 0, .slice none 0 0, .slice none 0 0]); replace r6 := World.rangeAt_setCells_apart r6 (w.heap.size + 3) 0 [.slice none 0 0, .slice none 0 0, .slice none 0 0] (.inl (by omega)); have r7 := World.rangeAt_setCells_same w8 (w.heap.size + 3) 0 [.slice none 0 0, .slice none 0 0, .slice none 0 0] (fun j hj => hz7 j hj); have hb7 := tn_below (Nat.le_add_right w.heap.size 3) [.slice none 0 0, .slice none 0 0, .slice none 0 0] 0 _ hb6; generalize World.setCells w8 (w.heap.size + 3) 0 [.slice none 0 0, .slice none 0 0, .slice none 0 0] = w9 at r6 r7 hb7 ⊢))
  have hl6 := run_loadVar_mid w9 (w.heap.size + 2) 0 28 zeroTL _ r6 hu rfl size_taint
  have hl7 := run_loadVar_mid w9 (w.heap.size + 3) 0 35 [.slice none 0 0, .slice none 0 0, .slice none 0 0] _ r7 hud rfl size_deps
  exact bodyPost_ret (v := .tuple #[.agg zeroTL.toArray, .agg #[.slice none 0 0, .slice none 0 0, .slice none 0 0], .int .i64 2]) (res_3 Tryz.results9 _ _ _ _ _ _ _ rfl rfl rfl hl6 hl7) rfl ⟨rfl, hb7⟩
end Go.Proofs.YtebeajnaamglkaaGreatDoor
namespace Go.Proofs.YtebeajnaamglkaaGreatDoor
open Go.RowKit
def Quiet (w : World) (v : Value) (e : Ending) (w' : World) : Prop := e = .returned v ∧ ∃ q, w' = w.drewN q
theorem drew_ex (w : World) (q n : Nat) : ∃ q', (w.drewN q).drewN n = w.drewN q' := ⟨q + n, by simp [World.drewN, Nat.add_assoc]⟩
set_option maxRecDepth 100000 in
set_option maxHeartbeats 4000000 in
theorem Same_any (v1 v2 : Value) (l1 l2 : List Int) (B1 B2 : Nat) (w : World) (h1 : RL w B1 v1 l1) (h2 : RL w B2 v2 l2) :
    Calls Tryz.prog 20 #[v1, v2] w (Quiet w (.bool (l1 == l2))) := by
  obtain ⟨A1, c1, rfl, a1, a2, a3⟩ := h1.form
  obtain ⟨A2, c2, rfl, b1, b2, b3⟩ := h2.form
  unfold maxLen at a2 b2
  by_cases hl : l1.length = l2.length
  · obtain ⟨R, hR⟩ : ∃ R, (l1 == l2) = R := ⟨_, rfl⟩
    rw [hR]
    replace hR := Lib.hid hR
    rw [← hl] at b1 ⊢
    have a4 := Lib.hid a3
    have b4 := Lib.hid b3
    replace hl := Lib.hid hl
    clear a3 b3 h1 h2
    go_enter Tryz.func20, Tryz.ntmps20
    go_wp2_with fail
    go_loopw [5] (fun i wr => ∃ k : Nat, k ≤ l1.length ∧ i = .int .i64 k ∧ (∃ q, wr = w.drewN q) ∧ Hid (∀ j, j < k → l1[j]? = l2[j]?)) (fun i _ => l1.length - (intOf i).toNat)
    case atStart => exact ⟨0, Nat.zero_le _, rfl, ⟨0, rfl⟩, Lib.hid fun j hj => absurd hj (Nat.not_lt_zero _)⟩
    case round =>
      obtain ⟨k, hk, rfl, ⟨q, rfl⟩, hsm⟩ := hrel
      by_cases hlt : k < l1.length
      · obtain ⟨x, hx, -⟩ := drop_at hlt
        obtain ⟨y, hy, -⟩ := drop_at (l := l2) (k := k) (by rw [← hl.out]; exact hlt)
        obtain ⟨p1, o1, rfl, -, hc1⟩ := a4.out.resolve_left (fun e => by rw [e] at hlt; exact absurd hlt (Nat.not_lt_zero _))
        obtain ⟨p2, o2, rfl, -, hc2⟩ := b4.out.resolve_left (fun e => by rw [hl.out, e] at hlt; exact absurd hlt (Nat.not_lt_zero _))
        have m1 : w.cell? ⟨p1, o1 + k, none⟩ = some (.int .i64 x) := hc1 k x hx
        have m2 : w.cell? ⟨p2, o2 + k, none⟩ = some (.int .i64 y) := hc2 k y hy
        have n0 : (0 : Int) ≤ (k : Int) ∧ (k : Int) < (l1.length : Int) := by omega
        obtain ⟨n1, n2⟩ := n0
        have n3 : k < c1 := by omega
        have n4 : k < c2 := by omega
        replace hc1 := Lib.hid hc1
        replace hc2 := Lib.hid hc2
        by_cases hxy : x = y
        · have hne : (x != y) = false := by rw [hxy]; simp
          have hsm2 : Hid (∀ j, j < k + 1 → l1[j]? = l2[j]?) := Lib.hid fun j hj => by
            by_cases e : j = k
            · subst e; rw [hx, hy, hxy]
            · exact hsm.out j (by omega)
          clear hx hy hxy
          go_upto_region 6 with fail
          go_quiet (fail)
          go_wp2_with fail
          go_roundw
          case rel => exact ⟨k + 1, by omega, by go_num, ⟨_, rfl⟩, hsm2⟩
          case measure => simp [intOf]; omega
        · have hne : (x != y) = true := by simpa using hxy
          have hRf : Hid (R = false) := Lib.hid (by
            rw [← hR.out, beq_eq_false_iff_ne]
            intro e
            rw [e, hy] at hx
            exact hxy (Option.some.inj hx).symm)
          clear hx hy hxy
          go_upto_region 6 with fail
          go_quiet (fail)
          go_wp2_with fail
          go_ret
          exact ⟨by rw [hRf.out]; rfl, drew_ex _ _ _⟩
      · obtain rfl : k = l1.length := by omega
        have hRt : Hid (R = true) := Lib.hid (by
          rw [← hR.out, beq_iff_eq]
          refine List.ext_getElem? fun j => ?_
          by_cases hj : j < l1.length
          · exact hsm.out j hj
          · rw [List.getElem?_eq_none (by omega), List.getElem?_eq_none (by rw [← hl.out]; omega)])
        go_wp2_with fail
        go_ret
        exact ⟨by rw [hRt.out]; rfl, q, rfl⟩
  · have hf : (l1 == l2) = false := by rw [beq_eq_false_iff_ne]; intro e; exact hl (by rw [e])
    rw [hf]
    have hne : ((l1.length : Int) != (l2.length : Int)) = true := by simp; omega
    have hne2 : (l1.length != l2.length) = true := by simpa using hl
    clear hf a3 b3 h1 h2
    go_enter Tryz.func20, Tryz.ntmps20
    go_wp2_with fail
    go_ret
    exact ⟨rfl, 0, rfl⟩
set_option maxRecDepth 100000 in
set_option maxHeartbeats 4000000 in
theorem Deps_any (a1 a2 a3 b1 b2 b3 : Value) (l1 l2 l3 m1 m2 m3 : List Int) (w : World) (h1 : RL w w.heap.size a1 l1) (h2 : RL w w.heap.size a2 l2) (h3 : RL w w.heap.size a3 l3) (g1 : RL w w.heap.size b1 m1) (g2 : RL w w.heap.size b2 m2) (g3 : RL w w.heap.size b3 m3) :
    Calls Tryz.prog 12 #[.agg #[a1, a2, a3], .agg #[b1, b2, b3]] w fun e w' => e = .returned (.bool (l1 == m1 && l2 == m2 && l3 == m3)) ∧ Below w.heap.size w w' := by
  have hS1 : Hid (∀ W, Below w.heap.size w W → Calls Tryz.prog 20 #[a1, b1] W (Quiet W (.bool (l1 == m1)))) := Lib.hid fun W hb => Same_any a1 b1 l1 m1 _ _ W (h1.below hb (Nat.le_refl _)) (g1.below hb (Nat.le_refl _))
  have hS2 : Hid (∀ W, Below w.heap.size w W → Calls Tryz.prog 20 #[a2, b2] W (Quiet W (.bool (l2 == m2)))) := Lib.hid fun W hb => Same_any a2 b2 l2 m2 _ _ W (h2.below hb (Nat.le_refl _)) (g2.below hb (Nat.le_refl _))
  have hS3 : Hid (∀ W, Below w.heap.size w W → Calls Tryz.prog 20 #[a3, b3] W (Quiet W (.bool (l3 == m3)))) := Lib.hid fun W hb => Same_any a3 b3 l3 m3 _ _ W (h3.below hb (Nat.le_refl _)) (g3.below hb (Nat.le_refl _))
  have hb1 : Below w.heap.size w ((w.alloc (.cells #[a1, a2, a3] 35)).alloc (.cells #[b1, b2, b3] 35)) := ((Below.refl _ _).alloc (Nat.le_refl _) _).alloc (by simp) _
  have hbW : ∀ n, Below w.heap.size w (((w.alloc (.cells #[a1, a2, a3] 35)).alloc (.cells #[b1, b2, b3] 35)).drewN n) := fun n => hb1.trans ⟨rfl, rfl, rfl, Nat.le_refl _, fun _ _ => rfl⟩
  replace hbW := Lib.hid hbW
  clear h1 h2 h3 g1 g2 g3
  generalize (l1 == m1) = p1 at *
  generalize (l2 == m2) = p2 at *
  generalize (l3 == m3) = p3 at *
  cases p1 <;> cases p2 <;> cases p3
  all_goals
    go_enter Tryz.func12, Tryz.ntmps12
    go_wp2_with (first | (go_at_call 20; (with_reducible refine (hS1.out _ (by first | exact hb1 | exact hbW.out _)).mono ?_); rintro e w1 ⟨rfl, q, rfl⟩) | (go_at_call 20; (with_reducible refine (hS2.out _ (by first | exact hb1 | exact hbW.out _)).mono ?_); rintro e w1 ⟨rfl, q, rfl⟩) | (go_at_call 20; (with_reducible refine (hS3.out _ (by first | exact hb1 | exact hbW.out _)).mono ?_); rintro e w1 ⟨rfl, q, rfl⟩))
    go_ret
    exact ⟨rfl, by first | exact hb1 | exact hbW.out _⟩
end Go.Proofs.YtebeajnaamglkaaGreatDoor
namespace Go.Proofs.YtebeajnaamglkaaGreatDoor
def zeroT : List (List Int) := List.replicate 33 []
def startT : List (List Int) := (zeroT.set 5 [3]).set 6 [4]
/-- add x7, x5, x6 · sd x6, 0(x5) · beq x5, x0, 8 -/
def iv1 : InsnV := ⟨35, 7, 5, 6, 0, false, false, 0, 0⟩
def iv2 : InsnV := ⟨21, 0, 5, 6, 0, false, false, 0, 0⟩
def iv3 : InsnV := ⟨5, 0, 5, 0, 8, false, false, 0, 0⟩
theorem start_ok : taintE startT = 0 ∧ checkE iv1 = 0 ∧ checkE iv2 = 0 ∧ checkE iv3 = 0 := by decide +kernel
theorem start_len : ∀ l ∈ startT, l.length ≤ 100000 := by decide +kernel
theorem rp1 : readsP iv1 = [5, 6] := by
  unfold readsP; rw [if_neg (by decide), ms2, if_pos (by decide), compact2]; decide
theorem rp3 : readsP iv3 = [5] := by
  unfold readsP; rw [if_neg (by decide), ms2, if_neg (by decide), compact2]; decide
theorem lv1 : addrT startT iv1 = [] ∧ dataT startT iv1 = [] ∧ startT.getD 32 [] = [] := by decide +kernel
theorem lv2 : addrT startT iv2 = [3] ∧ dataT startT iv2 = [4] := by decide +kernel
theorem st1 : (stepT startT iv1 (-1)).getD 7 [] = [3, 4] := by
  unfold stepT outT readT
  rw [rp1]
  decide +kernel
theorem st3 : (stepT startT iv3 (-1)).getD 32 [] = [3] := by
  unfold stepT outT wayT readT
  rw [rp3]
  decide +kernel
end Go.Proofs.YtebeajnaamglkaaGreatDoor
namespace Go.Proofs.YtebeajnaamglkaaGreatDoor
open Go.RowKit
theorem zeroTS (w : World) (P : Nat → Prop) : TS w P zeroTL zeroT := ⟨rfl, rfl, fun j v l h1 h2 => by
  unfold zeroTL at h1
  unfold zeroT at h2
  rw [List.getElem?_replicate] at h1 h2
  by_cases hj : j < 33
  · rw [if_pos hj] at h1 h2; cases h1; cases h2; exact RP.nil _ _
  · rw [if_neg hj] at h1; cases h1⟩
set_option maxRecDepth 100000 in
theorem New_any (w : World) : Calls Tryz.prog 6 #[] w fun e w' => e = .returned (.agg zeroTL.toArray) ∧ Below w.heap.size w w' := by
  have hu := Tryz.underlying28
  obtain ⟨-, hz, hb, -⟩ := new_block w #[.slice none 0 0, .slice none 0 0, .slice none 0 0, .slice none 0 0, .slice none 0 0, .slice none 0 0, .slice none 0 0, .slice none 0 0, .slice none 0 0, .slice none 0 0, .slice none 0 0, .slice none 0 0, .slice none 0 0, .slice none 0 0, .slice none 0 0, .slice none 0 0, .slice none 0 0, .slice none 0 0, .slice none 0 0, .slice none 0 0, .slice none 0 0, .slice none 0 0, .slice none 0 0, .slice none 0 0, .slice none 0 0, .slice none 0 0, .slice none 0 0, .slice none 0 0, .slice none 0 0, .slice none 0 0, .slice none 0 0, .slice none 0 0, .slice none 0 0] 28
  go_enter Tryz.func6, Tryz.ntmps6
  go_upto_region 1 with fail
  generalize w.alloc _ = W1 at hz hb ⊢
  go_wp2_with (refine wpList_store_mid rfl 28 _ _ rfl w.heap.size 0 zeroTL.toArray rfl rfl (fun j hj => hz j hj) size_taint zeroTL_one ?_; change wpList _ _ _ _ _ (World.setCells _ w.heap.size 0 zeroTL); have r6 := World.rangeAt_setCells_same W1 w.heap.size 0 zeroTL (fun j hj => hz j hj); have hb6 := tn_below (Nat.le_refl w.heap.size) zeroTL 0 _ hb; generalize World.setCells W1 w.heap.size 0 zeroTL = w8 at r6 hb6 ⊢)
  have hl6 := run_loadVar_mid w8 w.heap.size 0 28 zeroTL _ r6 hu rfl size_taint
  exact bodyPost_ret (v := .agg zeroTL.toArray) (res_cell_mid Tryz.results6 _ _ _ _ rfl hl6) rfl ⟨rfl, hb6⟩
theorem lit_rp {W : World} (n : Int) (b : Nat) (lo : Nat) (h : W.cell? ⟨b, 0, none⟩ = some (.int .i64 n)) (hl : lo ≤ b) (hb : b < W.heap.size) : RP W (fun x => lo ≤ x) (.slice (some ⟨b, 0, none⟩) 1 1) [n] :=
  ⟨⟨_, 1, rfl, Nat.le_refl _, by simp [maxLen], .inr ⟨b, 0, rfl, hl, hb, fun j x hx => by rcases j with _ | j <;> simp at hx ⊢; rw [← hx]; exact h⟩⟩⟩
set_option maxRecDepth 100000 in
set_option maxHeartbeats 4000000 in
theorem start_any (w : World) : Calls Tryz.prog 24 #[] w (OwnPost w startT) := by
  have hu := Tryz.underlying28
  obtain ⟨-, hz, hb, hsz⟩ := new_block w #[.slice none 0 0, .slice none 0 0, .slice none 0 0, .slice none 0 0, .slice none 0 0, .slice none 0 0, .slice none 0 0, .slice none 0 0, .slice none 0 0, .slice none 0 0, .slice none 0 0, .slice none 0 0, .slice none 0 0, .slice none 0 0, .slice none 0 0, .slice none 0 0, .slice none 0 0, .slice none 0 0, .slice none 0 0, .slice none 0 0, .slice none 0 0, .slice none 0 0, .slice none 0 0, .slice none 0 0, .slice none 0 0, .slice none 0 0, .slice none 0 0, .slice none 0 0, .slice none 0 0, .slice none 0 0, .slice none 0 0, .slice none 0 0, .slice none 0 0] 28
  have hNew := Lib.hid (fun W => New_any W)
  go_enter Tryz.func24, Tryz.ntmps24
  go_upto_region 1 with fail
  generalize w.alloc _ = W1 at hz hb hsz ⊢
  replace hsz := Lib.hid hsz
  go_upto_region 2 with (first | (go_at_call 6; refine (hNew.out _).mono ?_; rintro e w2 ⟨rfl, hb2⟩; obtain ⟨-, hy, hby, hsy⟩ := new_block w2 #[.slice none 0 0, .slice none 0 0, .slice none 0 0, .slice none 0 0, .slice none 0 0, .slice none 0 0, .slice none 0 0, .slice none 0 0, .slice none 0 0, .slice none 0 0, .slice none 0 0, .slice none 0 0, .slice none 0 0, .slice none 0 0, .slice none 0 0, .slice none 0 0, .slice none 0 0, .slice none 0 0, .slice none 0 0, .slice none 0 0, .slice none 0 0, .slice none 0 0, .slice none 0 0, .slice none 0 0, .slice none 0 0, .slice none 0 0, .slice none 0 0, .slice none 0 0, .slice none 0 0, .slice none 0 0, .slice none 0 0, .slice none 0 0, .slice none 0 0] 28; replace hsy := Lib.hid hsy) | (refine wpList_store_mid rfl 28 _ _ rfl w2.heap.size 0 zeroTL.toArray rfl rfl (fun j hj => hy j hj) size_taint zeroTL_one ?_; change wpList _ _ _ _ _ (World.setCells _ w2.heap.size 0 zeroTL); generalize World.alloc _ _ = W3 at hy hby hsy ⊢; have r3 := World.rangeAt_setCells_same W3 w2.heap.size 0 zeroTL (fun j hj => hy j hj); have hy3 := World.there_setCells hy w2.heap.size 0 zeroTL; have hb3 := tn_below (Nat.le_refl w2.heap.size) zeroTL 0 _ hby; have hs3 := tn_size w2.heap.size zeroTL 0 W3; generalize World.setCells W3 w2.heap.size 0 zeroTL = w3 at r3 hy3 hb3 hs3 ⊢))
  have hl2 : w.heap.size < w2.heap.size := by have := hb2.size; rw [hsz.out] at this; omega
  have hl3 : w3.heap.size = w2.heap.size + 1 := by rw [hs3, hsy.out]
  have hz3 : w3.there w.heap.size 0 33 := tn_there (tn_there hz (by rw [hsz.out]; omega) hb2) hl2 hb3
  have hb03 : Below w.heap.size w w3 := (hb.trans (hb2.mono (by rw [hsz.out]; omega))).trans (hb3.mono (by omega))
  have c5 : w3.cell? ⟨w2.heap.size, 5, none⟩ = some (.slice none 0 0) := by have := r3 5 _ rfl; rwa [Nat.zero_add] at this
  have c6 : w3.cell? ⟨w2.heap.size, 6, none⟩ = some (.slice none 0 0) := by have := r3 6 _ rfl; rwa [Nat.zero_add] at this
  have f5 : w3.frozen? ⟨w2.heap.size, 5, none⟩ = false := by have := (hy3 5 (by decide)).2; rwa [Nat.zero_add] at this
  have f6 : w3.frozen? ⟨w2.heap.size, 6, none⟩ = false := by have := (hy3 6 (by decide)).2; rwa [Nat.zero_add] at this
  have hlt3 : w2.heap.size < w3.heap.size := by omega
  have hne3 : w2.heap.size ≠ w3.heap.size := by omega
  have hne4 : w2.heap.size ≠ w3.heap.size + 1 := by omega
  clear hs3
  have hl4 := Lib.hid hl3
  clear hl3
  obtain ⟨q1, -, q3, q4⟩ := new_block w3 #[.int .i64 3] 3
  obtain ⟨p1, -, p3, p4⟩ := new_block (w3.alloc (.cells #[.int .i64 3] 3)) #[.int .i64 4] 3
  have hb4 := Lib.hid (q3.trans (p3.mono (by rw [q4]; omega)))
  clear q1 q3 q4 p1 p3 p4
  go_upto_region 3 with fail
  have r4 := tn_set (tn_set r3 (show 5 < zeroTL.length by decide) (.slice (some ⟨w3.heap.size, 0, none⟩) 1 1)) (show 6 < (zeroTL.set 5 _).length by rw [List.length_set]; decide) (.slice (some ⟨w3.heap.size + 1, 0, none⟩) 1 1)
  have hz4 := World.there_setCells (World.there_setCells hz3 w2.heap.size 5 [.slice (some ⟨w3.heap.size, 0, none⟩) 1 1]) w2.heap.size 6 [.slice (some ⟨w3.heap.size + 1, 0, none⟩) 1 1]
  have hb5 := (hb03.setCell (p := ⟨w2.heap.size, 5, none⟩) (Nat.le_of_lt hl2) (.slice (some ⟨w3.heap.size, 0, none⟩) 1 1)).setCell (p := ⟨w2.heap.size, 6, none⟩) (Nat.le_of_lt hl2) (.slice (some ⟨w3.heap.size + 1, 0, none⟩) 1 1)
  have hs5 : ((w3.setCell ⟨w2.heap.size, 5, none⟩ (.slice (some ⟨w3.heap.size, 0, none⟩) 1 1)).setCell ⟨w2.heap.size, 6, none⟩ (.slice (some ⟨w3.heap.size + 1, 0, none⟩) 1 1)).heap.size = w3.heap.size := by simp
  change World.there ((w3.setCell ⟨w2.heap.size, 5, none⟩ (.slice (some ⟨w3.heap.size, 0, none⟩) 1 1)).setCell ⟨w2.heap.size, 6, none⟩ (.slice (some ⟨w3.heap.size + 1, 0, none⟩) 1 1)) _ _ _ at hz4
  generalize (w3.setCell ⟨w2.heap.size, 5, none⟩ (.slice (some ⟨w3.heap.size, 0, none⟩) 1 1)).setCell ⟨w2.heap.size, 6, none⟩ (.slice (some ⟨w3.heap.size + 1, 0, none⟩) 1 1) = w5 at r4 hz4 hb5 hs5 ⊢
  have hl5 : w5.heap.size = w2.heap.size + 1 := by rw [hs5, hl4.out]
  obtain ⟨q1, -, q3, q4⟩ := new_block w5 #[.int .i64 3] 3
  generalize w5.alloc (.cells #[.int .i64 3] 3) = w6 at *
  obtain ⟨p1, -, p3, p4⟩ := new_block w6 #[.int .i64 4] 3
  generalize w6.alloc (.cells #[.int .i64 4] 3) = w7 at *
  have hb57 := q3.trans (p3.mono (by rw [q4]; omega))
  have r7 := tn_range r4 (by omega) hb57
  have hz7 := tn_there hz4 (by omega) hb57
  have hb7 := hb5.trans (hb57.mono (by omega))
  have e5 : w7.cell? ⟨w3.heap.size, 0, none⟩ = some (.int .i64 3) := by
    rw [p3.cell (p := ⟨w3.heap.size, 0, none⟩) (by rw [q4, hs5]; exact Nat.lt_succ_self _), ← hs5]; have := q1 0 _ rfl; rwa [Nat.zero_add] at this
  have e6 : w7.cell? ⟨w3.heap.size + 1, 0, none⟩ = some (.int .i64 4) := by
    rw [← hs5, ← q4]; have := p1 0 _ rfl; rwa [Nat.zero_add] at this
  have hTS : TS w7 (fun b => w2.heap.size + 1 ≤ b) ((zeroTL.set 5 (.slice (some ⟨w3.heap.size, 0, none⟩) 1 1)).set 6 (.slice (some ⟨w3.heap.size + 1, 0, none⟩) 1 1)) startT :=
    ((zeroTS w7 _).set 5 _ [3] (lit_rp 3 _ _ e5 (by rw [hl4.out]; exact Nat.le_refl _) (by omega))).set 6 _ [4] (lit_rp 4 _ _ e6 (by rw [hl4.out]; omega) (by omega))
  clear q1 q3 q4 p1 p3 p4 e5 e6 hb57 hb5 hz4 r4 hs5 hl5
  generalize (zeroTL.set 5 _).set 6 _ = cs' at r7 hTS
  have hlc := Lib.hid hTS.lc
  have hs1 : Hid ((Tryz.prog.info? 28).map (·.size) = some cs'.length) := Lib.hid (by rw [hTS.lc]; exact size_taint)
  have h1c : Hid (cs'.toArray.all (·.oneCell') = true) := Lib.hid (all_oneCell_toArray hTS.one)
  go_wp2_with (first | (refine wpList_load_mid rfl 28 _ rfl w2.heap.size 0 rfl cs' _ r7 hu rfl hs1.out ?_) | (refine wpList_store_mid rfl 28 _ _ rfl w.heap.size 0 cs'.toArray rfl rfl (fun j hj => hz7 j (by rw [List.size_toArray, hlc.out] at hj; exact hj)) (by rw [List.size_toArray]; exact hs1.out) h1c.out ?_; generalize hW9 : w7.setCells w.heap.size 0 cs'.toArray.toList = w9; replace hW9 := Lib.hid hW9))
  have hr9 : w9.rangeAt w.heap.size 0 cs' := by rw [← hW9.out]; exact World.rangeAt_setCells_same _ _ _ _ (by rw [hlc.out]; exact hz7)
  have hlv := run_loadVar_mid w9 w.heap.size 0 28 cs' _ hr9 hu rfl hs1.out
  exact bodyPost_ret (v := .agg cs'.toArray) (res_cell_mid Tryz.results24 _ _ _ _ rfl hlv) rfl ⟨cs', rfl, by rw [← hW9.out]; exact (hTS.cells _ _ _ (by omega)).mono fun b hb => by omega, by rw [← hW9.out]; exact tn_below (Nat.le_refl _) _ _ _ hb7⟩
end Go.Proofs.YtebeajnaamglkaaGreatDoor
namespace Go.Proofs.YtebeajnaamglkaaGreatDoor
open Go.RowKit
/-- A taint in the block X, dependencies in the next one; their lists lie in elder blocks. -/
structure TQ (W : World) (X : Nat) (cs : List Value) (T : List (List Int)) (va vd vw : Value) (da dd dw : List Int) : Prop where
  rt : W.rangeAt X 0 cs
  rd : W.rangeAt (X + 1) 0 [va, vd, vw]
  tt : W.there X 0 33
  td : W.there (X + 1) 0 3
  ts : TS W (fun b => b < X) cs T
  ra : RP W (fun b => b < X) va da
  rv : RP W (fun b => b < X) vd dd
  rx : RP W (fun b => b < X) vw dw
  lt : X + 1 < W.heap.size
theorem TQ.keep {W W' : World} {X : Nat} {cs : List Value} {T : List (List Int)} {va vd vw : Value} {da dd dw : List Int} (h : TQ W X cs T va vd vw da dd dw) (hb : Below W.heap.size W W') : TQ W' X cs T va vd vw da dd dw :=
  have hl := h.lt
  ⟨tn_range h.rt (by omega) hb, tn_range h.rd hl hb, tn_there h.tt (by omega) hb, tn_there h.td hl hb, h.ts.below hb, h.ra.below hb, h.rv.below hb, h.rx.below hb, Nat.lt_of_lt_of_le hl hb.size⟩
theorem TQ.one {W : World} {X : Nat} {cs : List Value} {T : List (List Int)} {va vd vw : Value} {da dd dw : List Int} (h : TQ W X cs T va vd vw da dd dw) : ∀ v ∈ [va, vd, vw], v.oneCell' = true := fun v hv => by
  simp only [List.mem_cons, List.not_mem_nil, or_false] at hv
  rcases hv with rfl | rfl | rfl
  · exact h.ra.one
  · exact h.rv.one
  · exact h.rx.one
theorem TQ.reg {W : World} {X : Nat} {cs : List Value} {T : List (List Int)} {va vd vw : Value} {da dd dw : List Int} (h : TQ W X cs T va vd vw da dd dw) (k : Nat) (hk : k < 33) : ∃ v, W.cell? ⟨X, k, none⟩ = some v ∧ RP W (fun b => b < X) v (T.getD k []) := by
  obtain ⟨v, l, e1, e2, e3, e4⟩ := h.ts.get k hk
  have := h.rt k v e1
  rw [Nat.zero_add] at this
  exact ⟨v, this, by rw [e3]; exact e4⟩
/-- The two boxes made, then filled. -/
structure T0 (w W : World) : Prop where
  tt : W.there w.heap.size 0 33
  td : W.there (w.heap.size + 1) 0 3
  bl : Below w.heap.size w W
  sz : W.heap.size = w.heap.size + 2
theorem T0.new (w : World) (Z : Array Value) (Y : Array Value) (t1 t2 : TypeId) (hZ : Z.size = 33) (hY : Y.size = 3) : T0 w ((w.alloc (.cells Z t1)).alloc (.cells Y t2)) := by
  obtain ⟨a1, a2, a3, a4⟩ := new_block w Z t1
  generalize w.alloc (.cells Z t1) = W1 at *
  obtain ⟨b1, b2, b3, b4⟩ := new_block W1 Y t2
  generalize W1.alloc (.cells Y t2) = W2 at *
  rw [hZ] at a2
  rw [hY] at b2
  exact ⟨tn_there a2 (by omega) b3, by rw [← a4]; exact b2, a3.trans (b3.mono (by omega)), by omega⟩
theorem T0.cells {w W : World} (h : T0 w W) (b : Nat) (hb : w.heap.size ≤ b) (vs : List Value) : T0 w (W.setCells b 0 vs) :=
  ⟨World.there_setCells h.tt _ _ _, World.there_setCells h.td _ _ _, tn_below hb _ _ _ h.bl, by rw [tn_size]; exact h.sz⟩
theorem T0.full {w W : World} (h : T0 w W) {P : Nat → Prop} {cs : List Value} {T : List (List Int)} {va vd vw : Value} {da dd dw : List Int} (hT : TS w P cs T) (ha : RP w P va da) (hd : RP w P vd dd) (hw : RP w P vw dw) :
    TQ ((W.setCells w.heap.size 0 cs).setCells (w.heap.size + 1) 0 [va, vd, vw]) w.heap.size cs T va vd vw da dd dw ∧ Below w.heap.size w ((W.setCells w.heap.size 0 cs).setCells (w.heap.size + 1) 0 [va, vd, vw]) := by
  have h1 := h.cells w.heap.size (Nat.le_refl _) cs
  have h2 := h1.cells (w.heap.size + 1) (Nat.le_succ _) [va, vd, vw]
  have key : ∀ {v : Value} {l : List Int}, RP w P v l → RP ((W.setCells w.heap.size 0 cs).setCells (w.heap.size + 1) 0 [va, vd, vw]) (fun b => b < w.heap.size) v l := fun hv => (hv.rl.rp (Nat.le_refl _)).below h2.bl
  refine ⟨⟨World.rangeAt_setCells_apart (World.rangeAt_setCells_same _ _ _ _ (by rw [hT.lc]; exact h.tt)) _ _ _ (.inl (by omega)), World.rangeAt_setCells_same _ _ _ _ h1.td, h2.tt, h2.td, (hT.old).below h2.bl, key ha, key hd, key hw, by rw [h2.sz]; omega⟩, h2.bl⟩
theorem lit_rl2 (W : World) (a b : Int) (t : TypeId) : RL (W.alloc (.cells #[.int .i64 a, .int .i64 b] t)) (W.alloc (.cells #[.int .i64 a, .int .i64 b] t)).heap.size (.slice (some ⟨W.heap.size, 0, none⟩) 2 2) [a, b] :=
  ⟨⟨_, 2, rfl, Nat.le_refl _, by simp [maxLen], .inr ⟨_, _, rfl, by simp, fun j x hx => by rw [World.cell?_alloc_new, Nat.zero_add]; rcases j with _ | _ | j <;> simp at hx ⊢ <;> exact hx⟩⟩⟩
theorem lit_rl3 (W : World) (a b c : Int) (t : TypeId) : RL (W.alloc (.cells #[.int .i64 a, .int .i64 b, .int .i64 c] t)) (W.alloc (.cells #[.int .i64 a, .int .i64 b, .int .i64 c] t)).heap.size (.slice (some ⟨W.heap.size, 0, none⟩) 3 3) [a, b, c] :=
  ⟨⟨_, 3, rfl, Nat.le_refl _, by simp [maxLen], .inr ⟨_, _, rfl, by simp, fun j x hx => by rw [World.cell?_alloc_new, Nat.zero_add]; rcases j with _ | _ | _ | j <;> simp at hx ⊢ <;> exact hx⟩⟩⟩
/-- A list whatever, and a literal: are they the same? -/
theorem Same_lit1 (v : Value) (l : List Int) (P : Nat → Prop) (w : World) (h : RP w P v l) (a : Int) :
    Calls Tryz.prog 20 #[v, .slice (some ⟨w.heap.size, 0, none⟩) 1 1] (w.alloc (.cells #[.int .i64 a] 3)) (Quiet (w.alloc (.cells #[.int .i64 a] 3)) (.bool (l == [a]))) :=
  Same_any _ _ l [a] _ _ _ (h.rl.below ((Below.refl _ _).alloc (Nat.le_refl _) _) (Nat.le_refl _)) (RL.lit w a 3)
theorem Same_lit2 (v : Value) (l : List Int) (P : Nat → Prop) (w : World) (h : RP w P v l) (a b : Int) :
    Calls Tryz.prog 20 #[v, .slice (some ⟨w.heap.size, 0, none⟩) 2 2] (w.alloc (.cells #[.int .i64 a, .int .i64 b] 3)) (Quiet (w.alloc (.cells #[.int .i64 a, .int .i64 b] 3)) (.bool (l == [a, b]))) :=
  Same_any _ _ l [a, b] _ _ _ (h.rl.below ((Below.refl _ _).alloc (Nat.le_refl _) _) (Nat.le_refl _)) (lit_rl2 w a b 3)
theorem Same_lit3 (v : Value) (l : List Int) (P : Nat → Prop) (w : World) (h : RP w P v l) (a b c : Int) :
    Calls Tryz.prog 20 #[v, .slice (some ⟨w.heap.size, 0, none⟩) 3 3] (w.alloc (.cells #[.int .i64 a, .int .i64 b, .int .i64 c] 3)) (Quiet (w.alloc (.cells #[.int .i64 a, .int .i64 b, .int .i64 c] 3)) (.bool (l == [a, b, c]))) :=
  Same_any _ _ l [a, b, c] _ _ _ (h.rl.below ((Below.refl _ _).alloc (Nat.le_refl _) _) (Nat.le_refl _)) (lit_rl3 w a b c 3)
theorem bl_step {w W W' : World} (h : Below w.heap.size w W) (g : Below W.heap.size W W') : Below w.heap.size w W' := h.trans (g.mono h.size)
theorem Quiet.below {w w' : World} {v : Value} {e : Ending} (h : Quiet w v e w') : e = .returned v ∧ Below w.heap.size w w' := by
  obtain ⟨he, q, rfl⟩ := h
  exact ⟨he, ⟨rfl, rfl, rfl, Nat.le_refl _, fun _ _ => rfl⟩⟩
/-- A taint in the box X, its lists where P lets, and not in X. -/
structure TB (W : World) (X : Nat) (P : Nat → Prop) (cs : List Value) (T : List (List Int)) : Prop where
  rt : W.rangeAt X 0 cs
  tt : W.there X 0 33
  ts : TS W P cs T
  lt : X < W.heap.size
  np : ¬ P X
theorem TB.keep {W W' : World} {X : Nat} {P : Nat → Prop} {cs : List Value} {T : List (List Int)} (h : TB W X P cs T) (hb : Below W.heap.size W W') : TB W' X P cs T :=
  ⟨tn_range h.rt h.lt hb, tn_there h.tt h.lt hb, h.ts.below hb, Nat.lt_of_lt_of_le h.lt hb.size, h.np⟩
theorem TB.reg {W : World} {X : Nat} {P : Nat → Prop} {cs : List Value} {T : List (List Int)} (h : TB W X P cs T) (k : Nat) (hk : k < 33) : ∃ v, W.cell? ⟨X, k, none⟩ = some v ∧ RP W P v (T.getD k []) := by
  obtain ⟨v, l, e1, e2, e3, e4⟩ := h.ts.get k hk
  have := h.rt k v e1
  rw [Nat.zero_add] at this
  exact ⟨v, this, by rw [e3]; exact e4⟩
theorem TB.thaw {W : World} {X : Nat} {P : Nat → Prop} {cs : List Value} {T : List (List Int)} (h : TB W X P cs T) (k : Nat) (hk : k < 33) : W.frozen? ⟨X, k, none⟩ = false := by
  have := (h.tt k hk).2; rwa [Nat.zero_add] at this
theorem TB.put {W : World} {X : Nat} {P : Nat → Prop} {cs : List Value} {T : List (List Int)} (h : TB W X P cs T) (k : Nat) (hk : k < 33) {v : Value} {l : List Int} (hv : RP W P v l) : TB (W.setCell ⟨X, k, none⟩ v) X P (cs.set k v) (T.set k l) :=
  ⟨tn_set h.rt (by rw [h.ts.lc]; exact hk) v, World.there_setCells h.tt _ k [v], (h.ts.set k v l hv).setCell _ v h.np, by simpa using h.lt, h.np⟩
theorem TB.fill {W : World} {X : Nat} {P : Nat → Prop} {cs cs' : List Value} {T T' : List (List Int)} (h : TB W X P cs T) (hT : TS W P cs' T') : TB (W.setCells X 0 cs') X P cs' T' :=
  ⟨World.rangeAt_setCells_same _ _ _ _ (by rw [hT.lc]; exact h.tt), World.there_setCells h.tt _ _ _, hT.cells _ _ _ h.np, by rw [tn_size]; exact h.lt, h.np⟩
theorem TB.far {W : World} {X Y : Nat} {P : Nat → Prop} {cs : List Value} {T : List (List Int)} (h : TB W X P cs T) (hne : X ≠ Y) (hP : ¬ P Y) (o : Nat) (vs : List Value) : TB (W.setCells Y o vs) X P cs T :=
  ⟨World.rangeAt_setCells_apart h.rt _ _ _ (.inl hne), World.there_setCells h.tt _ _ _, h.ts.cells _ _ _ hP, by rw [tn_size]; exact h.lt, h.np⟩
theorem TB.mono {W : World} {X : Nat} {P Q : Nat → Prop} {cs : List Value} {T : List (List Int)} (h : TB W X P cs T) (hq : ∀ b, P b → Q b) (hX : ¬ Q X) : TB W X Q cs T := ⟨h.rt, h.tt, h.ts.mono hq, h.lt, hX⟩
/-- A new box filled. -/
theorem TB.new {w : World} {P : Nat → Prop} {cs : List Value} {T : List (List Int)} (hT : TS w P cs T) (Z : Array Value) (t : TypeId) (hZ : Z.size = 33) :
    (w.alloc (.cells Z t)).there w.heap.size 0 33 ∧ TB ((w.alloc (.cells Z t)).setCells w.heap.size 0 cs) w.heap.size (fun b => b ≠ w.heap.size) cs T ∧ Below w.heap.size w ((w.alloc (.cells Z t)).setCells w.heap.size 0 cs) := by
  obtain ⟨a1, a2, a3, a4⟩ := new_block w Z t
  rw [hZ] at a2
  have hT' : TS (w.alloc (.cells Z t)) (fun b => b ≠ w.heap.size) cs T := ((hT.old).below a3).mono fun b hb => by omega
  exact ⟨a2, ⟨World.rangeAt_setCells_same _ _ _ _ (by rw [hT.lc]; exact a2), World.there_setCells a2 _ _ _, hT'.cells _ _ _ (by simp), by rw [tn_size, a4]; exact Nat.lt_succ_self _, by simp⟩, tn_below (Nat.le_refl _) _ _ _ a3⟩
/-- What Step hands back, an error's number with it. -/
def StepE (w : World) (T : List (List Int)) (da dd dw : List Int) (E : Int) (e : Ending) (w' : World) : Prop := ∃ cs' va vd vw, e = .returned (.tuple #[.agg cs'.toArray, .agg #[va, vd, vw], .int .i64 E]) ∧
  TS w' (fun b => w.heap.size ≤ b) cs' T ∧ RP w' (fun b => w.heap.size ≤ b) va da ∧ RP w' (fun b => w.heap.size ≤ b) vd dd ∧ RP w' (fun b => w.heap.size ≤ b) vw dw ∧ Below w.heap.size w w'
theorem StepE.of_bad {w w' : World} {e : Ending} (h : StepBad w e w') : StepE w zeroT [] [] [] 2 e w' := by
  obtain ⟨rfl, hb⟩ := h
  exact ⟨zeroTL, _, _, _, rfl, zeroTS _ _, RP.nil _ _, RP.nil _ _, RP.nil _ _, hb⟩
/-- May the step be made? -/
def mayT (T : List (List Int)) (i : InsnV) (ev : Int) : Bool := decide (taintE T = 0) && decide (checkE i = 0) && decide (-1 ≤ ev)
def resT (T : List (List Int)) (i : InsnV) (ev : Int) : List (List Int) := if mayT T i ev then stepT T i ev else zeroT
def resA (T : List (List Int)) (i : InsnV) (ev : Int) : List Int := if mayT T i ev then addrT T i else []
def resD (T : List (List Int)) (i : InsnV) (ev : Int) : List Int := if mayT T i ev then dataT T i else []
def resW (T : List (List Int)) (i : InsnV) (ev : Int) : List Int := if mayT T i ev then T.getD 32 [] else []
def resE (T : List (List Int)) (i : InsnV) (ev : Int) : Int := if mayT T i ev then 0 else 2
theorem taintE_ne {T : List (List Int)} (h : taintE T ≠ 0) : taintE T = 2 := by
  unfold taintE at h ⊢
  cases hk : (T.getD 0 []).isEmpty && risingB (T.getD 32 []) && !((T.take 32).any fun l => !risingB l)
  · rfl
  · rw [hk] at h; exact absurd rfl h
/-- taint.Step, whatever comes. -/
theorem Step_any (cs : List Value) (T : List (List Int)) (P : Nat → Prop) (i : InsnV) (ev : Int) (w : World) (h : TS w P cs T) (hlen : ∀ l ∈ T, l.length ≤ 100000) (hop : i.op ≤ 9223372036854775807) (ht : Tabs w) :
    Calls Tryz.prog 9 #[.agg cs.toArray, .agg i.cells, .int .i64 ev] w (StepE w (resT T i ev) (resA T i ev) (resD T i ev) (resW T i ev) (resE T i ev)) := by
  have bad : mayT T i ev = false → Calls Tryz.prog 9 #[.agg cs.toArray, .agg i.cells, .int .i64 ev] w (StepBad w) → Calls Tryz.prog 9 #[.agg cs.toArray, .agg i.cells, .int .i64 ev] w (StepE w (resT T i ev) (resA T i ev) (resD T i ev) (resW T i ev) (resE T i ev)) := fun hm hc => by
    unfold resT resA resD resW resE
    simp only [hm]
    exact hc.mono fun e w' => StepE.of_bad
  by_cases h1 : taintE T = 0
  · by_cases h2 : checkE i = 0
    · by_cases h3 : -1 ≤ ev
      · have hm : mayT T i ev = true := by unfold mayT; simp [h1, h2, h3]
        unfold resT resA resD resW resE
        simp only [hm]
        exact (Step_ok cs T P i ev w h hlen h1 h2 h3 hop ht).mono fun e w' hp => hp
      · exact bad (by unfold mayT; simp [h3]) (Step_bad3 cs T P i ev w h h1 h2 (by omega) hop ht)
    · exact bad (by unfold mayT; simp [h2]) (Step_bad2 cs T P i ev w h h1 (checkE_ne h2) hop ht)
  · exact bad (by unfold mayT; simp [h1]) (Step_bad1 cs T P i ev w h (taintE_ne h1) hop ht)
/-- Dependencies, and none. -/
theorem Deps_lit0 (va vd vw : Value) (w : World) {P Q R : Nat → Prop} (ha : RP w P va []) (hd : RP w Q vd []) (hw : RP w R vw []) :
    Calls Tryz.prog 12 #[.agg #[va, vd, vw], .agg #[.slice none 0 0, .slice none 0 0, .slice none 0 0]] w fun e w' => e = .returned (.bool true) ∧ Below w.heap.size w w' :=
  Deps_any _ _ _ _ _ _ [] [] [] [] [] [] w ha.rl hd.rl hw.rl (RL.nil _ _) (RL.nil _ _) (RL.nil _ _)
/-- Dependencies, and one event each for address and data. -/
theorem Deps_lit2 (va vd vw : Value) (w : World) {P Q R : Nat → Prop} {a b : Int} (ha : RP w P va [a]) (hd : RP w Q vd [b]) (hw : RP w R vw []) :
    Calls Tryz.prog 12 #[.agg #[va, vd, vw], .agg #[.slice (some ⟨w.heap.size, 0, none⟩) 1 1, .slice (some ⟨w.heap.size + 1, 0, none⟩) 1 1, .slice none 0 0]] ((w.alloc (.cells #[.int .i64 a] 3)).alloc (.cells #[.int .i64 b] 3))
      fun e w' => e = .returned (.bool true) ∧ Below ((w.alloc (.cells #[.int .i64 a] 3)).alloc (.cells #[.int .i64 b] 3)).heap.size ((w.alloc (.cells #[.int .i64 a] 3)).alloc (.cells #[.int .i64 b] 3)) w' := by
  have h1 := RL.lit w a 3
  have s1 : (w.alloc (.cells #[.int .i64 a] 3)).heap.size = w.heap.size + 1 := by simp
  have b1 : Below w.heap.size w (w.alloc (.cells #[.int .i64 a] 3)) := (Below.refl _ _).alloc (Nat.le_refl _) _
  generalize w.alloc (.cells #[.int .i64 a] 3) = W1 at *
  have h2 := RL.lit W1 b 3
  have b2 : Below W1.heap.size W1 (W1.alloc (.cells #[.int .i64 b] 3)) := (Below.refl _ _).alloc (Nat.le_refl _) _
  have hb := bl_step b1 b2
  rw [s1] at h2
  generalize W1.alloc (.cells #[.int .i64 b] 3) = W2 at *
  have key := Deps_any va vd vw (.slice (some ⟨w.heap.size, 0, none⟩) 1 1) (.slice (some ⟨w.heap.size + 1, 0, none⟩) 1 1) (.slice none 0 0) [a] [b] [] [a] [b] [] W2 (ha.rl.below hb (Nat.le_refl _) |>.more hb.size) (hd.rl.below hb (Nat.le_refl _) |>.more hb.size) (hw.rl.below hb (Nat.le_refl _) |>.more hb.size) (h1.below b2 (Nat.le_refl _) |>.more b2.size) h2 (RL.nil _ _)
  rw [show (([a] : List Int) == [a] && ([b] : List Int) == [b] && ([] : List Int) == []) = true by simp] at key
  exact key
end Go.Proofs.YtebeajnaamglkaaGreatDoor
