/- The walk of package code's word at form 9. The walk of package code's word at form 10. The walk of package code's word at form 11. The walk of package code's word at form 12. The walks of package code's Word: whatever the instruction. Copies of instructions in the world's blocks, for the laws of words. Conditions: as each theorem says. -/
import Derived.Test.YtcgflnkgekkidaaGreatDoorInsnDf
import Derived.Test.YtcgflnkgekkidaaGreatDoorCodeB
import Derived.Test.YtcgflnkgekkidaaGreatDoorCodeWA
import Derived.Test.YtcgflnkgekkidaaGreatDoorCodeWB
import Derived.Test.YtcgflnkgekkidaaGreatDoorCodeA
import Derived.Deep.MidRow
import Derived.Deep.RegionHeld
import Derived.Test.YtcgflnkgekkidaaGreatDoorRefFC
set_option linter.unusedSimpArgs false
set_option linter.unusedVariables false
namespace Go.Proofs.YtcgflnkgekkidaaGreatDoor
open Go.RowKit
attribute [local go_sem] wrap_u64_bv bv_un bv_sn wrap_u32_un bits_u64_or bits_i64_or mul_bvpow shl_min bv_0 bv_1 wrap_i64_un
section
attribute [local irreducible] un sn un32 checkE Put Part
set_option maxRecDepth 100000 in
set_option maxHeartbeats 8000000 in
theorem TWord_9 (b n : Nat) (T : Int → PartV) (pc p3 p7 : Int) (op rd r1 r2 imm : Int) (aq rl : Bool) (pred succ : Int) (w : World) (hT : TM w b n T) (hp : T op = ⟨pc, p3, p7⟩) (hf : (opOf op).form = 9) (hck : checkE ⟨op, rd, r1, r2, imm, aq, rl, pred, succ⟩ = 0) (hlo : -9223372036854775808 ≤ op) (hop : op ≤ 9223372036854775807) (ht : Tabs w) (hfl : Flds w) :
    Calls Tryz.prog 76 #[.map (some b), .agg #[.int .i64 op, .int .i64 rd, .int .i64 r1, .int .i64 r2, .int .i64 imm, .bool aq, .bool rl, .int .i64 pred, .int .i64 succ]] w fun e w' => e = .returned (.tuple #[.int .u32 (un32 ((wordG 9 ⟨pc, p3, p7⟩ ⟨op, rd, r1, r2, imm, aq, rl, pred, succ⟩).setWidth 32)), .int .i64 0]) ∧ Below w.heap.size w w' := by
  have hC := Lib.hid (fun W hT => Check_any ⟨op, rd, r1, r2, imm, aq, rl, pred, succ⟩ hop W hT)
  rw [hck] at hC
  have hF := Lib.hid (fun W hT => Form_any op hop W hT)
  rw [hf] at hF
  have hL := Lib.hid (fun W => Layout_any 9 W)
  have hwf : (Lit.int .i64 op).wf = true := WalkArith.wf_i64 ⟨hlo, hop⟩
  replace hp := Lib.hid hp
  replace hwf := Lib.hid hwf
  clear hck hf hlo hop
  have hbw : Below w.heap.size w (w.alloc (.cells #[.int .i64 op, .int .i64 rd, .int .i64 r1, .int .i64 r2, .int .i64 imm, .bool aq, .bool rl, .int .i64 pred, .int .i64 succ] 26)) := (Below.refl _ _).alloc (Nat.le_refl _) _
  go_enter Tryz.func76, Tryz.ntmps76
  go_upto_region 6 with (first | (go_at_call 90; refine (hC.out _ (ht.later hbw (Nat.le_refl _))).mono ?_; rintro e w1 ⟨rfl, hb1⟩; obtain ⟨i0, i1, i2, i3, i4, i5, i6, i7, i8⟩ := box9 hb1; have hT1 := (hT.alloc _).keep hb1; have hb01 := hbw.trans (hb1.mono hbw.size); have ht1 := ht.later hb01 (Nat.le_refl _); have hs1 : w.heap.size < w1.heap.size := Nat.lt_of_lt_of_le (by simp) hb1.size; have hne1 : w.heap.size ≠ w1.heap.size := Nat.ne_of_lt hs1) | (at_lookup; refine wpList_tm_get rfl _ _ rfl Tryz.underlying112 b n T rfl hT1 op rfl hwf.out ?_; rw [hp.out]; simp only [PartV.cells]) | (go_at_call 89; refine (hF.out _ (ht1.later ((Below.refl _ _).alloc (Nat.le_refl _) _) (Nat.le_refl _))).mono ?_; rintro e w2 ⟨rfl, hb2⟩; obtain ⟨p0, p1, p2⟩ := box3 hb2))
  have hW := CF.start (p := ⟨pc, p3, p7⟩) (f := 9) (t3 := 3) hfl hb1 hb2
  clear p0 p1 p2 hb2 i0 i1 i2 i3 i4 i5 i6 i7 i8 hT1 hT hb01 ht1 hs1 hne1 hb1 hbw hC hF hp hwf ht hfl
  generalize w2.alloc _ = W3 at hW ⊢
  generalize w2.heap.size = F at hW ⊢
  generalize w1.heap.size = P at hW ⊢
  clear w1 w2
  have p0 := hW.p0
  have f0 := hW.f0
  obtain ⟨L, hLd⟩ : ∃ L, L = pieces 9 := ⟨_, rfl⟩
  have hLb := pieces_bd 9
  have hLn : (pieces 9).length ≤ 4 := by decide
  have hLm : Hid (immPut (bv imm) (pieces 9) (bv pc) (pieces 9).length = immPut (bv imm) L (bv pc) L.length) := Lib.hid (by rw [hLd])
  rw [← hLd] at hLb hLn
  replace hLd := Lib.hid hLd
  replace hLb := Lib.hid hLb
  go_upto_region 8 with (go_at_call 100; refine (hL.out _).mono ?_; rintro e w3 ⟨⟨v, rfl, hown⟩, hb3⟩; rw [← hLd.out] at hown; have hW := hW.keep hb3; obtain ⟨ao, cap, rfl⟩ := own_slice3 hown)
  clear hL hLd p0 f0
  go_wp2_with fail
  have hI0 : Hid (immPut (bv imm) L (bv pc) 0 = bv pc) := Lib.hid rfl
  have hIs : Hid (∀ k : Nat, immPut (bv imm) L (bv pc) (k + 1) = Put (immPut (bv imm) L (bv pc) k) (L.getD k (0, 0, 0)).2.2 (L.getD k (0, 0, 0)).2.1 (Part (bv imm) (L.getD k (0, 0, 0)).1 (L.getD k (0, 0, 0)).2.1)) := Lib.hid fun _ => rfl
  generalize immPut (bv imm) L (bv pc) = R at hLm hI0 hIs
  go_loopw [9, 37] (fun s i wr => ∃ k : Nat, k ≤ L.length ∧ i = .int .i64 k ∧ s = .int .u64 (un (R k)) ∧ Below w3.heap.size w3 wr) (fun _ i _ => L.length - (intOf i).toNat)
  case atStart => exact ⟨0, Nat.zero_le _, rfl, by rw [hI0.out], Below.refl _ _⟩
  case round =>
    obtain ⟨k, hk, rfl, rfl, hb⟩ := hrel
    have hWr := hW.keep hb
    by_cases hlt : k < L.length
    · obtain ⟨g, rfl, c0, c1, c2⟩ := own_row3 (ownsRow_keep hown hb) rfl k hlt
      have hnx := Lib.hid (hIs.out k)
      have i4 := (hWr.keep ((Below.refl wr.heap.size wr).alloc (Nat.le_refl _) (.cells #[.int .i64 (L.getD k (0, 0, 0)).1, .int .i64 (L.getD k (0, 0, 0)).2.1, .int .i64 (L.getD k (0, 0, 0)).2.2] 145))).i4
      generalize (L.getD k (0, 0, 0)).1 = e0 at c0 hnx i4
      generalize (L.getD k (0, 0, 0)).2.1 = e1 at c1 hnx i4
      generalize (L.getD k (0, 0, 0)).2.2 = e2 at c2 hnx i4
      have hbn : Below wr.heap.size wr (wr.alloc (.cells #[.int .i64 e0, .int .i64 e1, .int .i64 e2] 145)) := (Below.refl wr.heap.size wr).alloc (Nat.le_refl _) _
      go_wp2_with fail
      go_quiet ((first | (go_at_call 102; exact quiet_same (Part_any _ _ _ _)) | (go_at_call 101; exact quiet_same (Put_any _ _ _ _ _))))
      go_wp2_with fail
      rw [← hnx.out]
      go_roundw
      case rel => exact ⟨k + 1, by omega, by go_num, rfl, (hb.trans (hbn.mono hb.size)).trans ⟨rfl, rfl, rfl, Nat.le_refl _, fun _ _ => rfl⟩⟩
      case measure => simp [intOf]; omega
    · obtain rfl : k = L.length := by omega
      clear hk hlt hown hLb hIs hI0 hLn hb3 hW hb
      have hW := hWr
      clear hWr
      have hmf : ∀ (fn : Fn) (first cap : Array Value) (w : World), (Instr.makeFunc fn first cap).run Tryz.prog w = .ok (.func fn first cap) w := fun _ _ _ _ => rfl
      have hG : Hid (un32 ((wordG 9 ⟨pc, p3, p7⟩ ⟨op, rd, r1, r2, imm, aq, rl, pred, succ⟩).setWidth 32) = un32 ((Put (Put (Put (R L.length) 12 3 (bv p3)) 20 4 (bv succ)) 24 4 (bv pred)).setWidth 32)) := Lib.hid (by rw [← hLm.out]; rfl)
      clear hLm
      go_wp2_with (first | (go_at_call 103; (with_reducible refine (Has1 false (by decide) hW).mono ?_); rintro e wh ⟨rfl, hW2⟩; clear hW; have hW := hW2; clear hW2; have x0 := hW.fl.aF3; have x1 := hW.fl.nF3; have x2 := hW.p1) | (go_at_call 103; (with_reducible refine (Has2 false (by decide) hW).mono ?_); rintro e wh ⟨rfl, hW2⟩; clear hW; have hW := hW2; clear hW2; have y0 := hW.fl.aRd; have y1 := hW.fl.nRd; have y2 := hW.i1) | (go_at_call 103; (with_reducible refine (Has3 false (by decide) hW).mono ?_); rintro e wh ⟨rfl, hW2⟩; clear hW; have hW := hW2; clear hW2; have f0 := hW.f0; have v0 := hW.fl.aRs1; have v1 := hW.fl.nRs1; have v2 := hW.i2; have z0 := hW.fl.aRs2; have z1 := hW.fl.nRs2; have z2 := hW.i3) | (go_at_call 104; (with_reducible refine (Fput_any _ _ _ _ _).mono ?_); rintro e wp ⟨rfl, hb2⟩; have hW2 := hW.keep hb2; clear hb2 hW; have hW := hW2; clear hW2; have f0 := hW.f0; have z0 := hW.fl.aRs2; have z1 := hW.fl.nRs2; have z2 := hW.i3))
      refine wp_region_held_drew (S := fun W => CF w w.heap.size P F op rd r1 r2 imm aq rl pred succ ⟨pc, p3, p7⟩ 9 W) (by kernel_rfl) hW.drew (fun hHeld => ?_)
      refine wpAnyH_take (i := 0) (v := .agg #[.int .i64 24, .int .i64 4]) rfl (by kernel_rfl) (by kernel_rfl) (by kernel_rfl) (fun _ _ _ h => h) (Or.inl ⟨by rfl, fun W hS => by (have k0 : W.cell? ⟨6, 0, none⟩ = some (.int .i64 24) := hS.fl.aPred; have k1 : W.cell? ⟨6, 1, none⟩ = some (.int .i64 4) := hS.fl.nPred; go_simp)⟩) hHeld ?_
      try simp only [Act.put, List.getElem_toArray, List.getElem_cons_zero, List.setIfInBounds_toArray, List.set_cons_zero, List.set_cons_succ]
      refine wpAnyH_take (i := 1) (v := .agg #[.int .i64 20, .int .i64 4]) rfl (by kernel_rfl) (by kernel_rfl) (by kernel_rfl) (fun _ _ _ h => h) (Or.inl ⟨by rfl, fun W hS => by (have k0 : W.cell? ⟨7, 0, none⟩ = some (.int .i64 20) := hS.fl.aSucc; have k1 : W.cell? ⟨7, 1, none⟩ = some (.int .i64 4) := hS.fl.nSucc; go_simp)⟩) hHeld ?_
      try simp only [Act.put, List.getElem_toArray, List.getElem_cons_succ, List.getElem_cons_zero, List.setIfInBounds_toArray, List.set_cons_zero, List.set_cons_succ]
      refine tkS 2 (.int .u64 (un (Put (R L.length) 12 3 (bv p3)))) hHeld ?_
      try simp only [Act.put, List.getElem_toArray, List.getElem_cons_succ, List.getElem_cons_zero, List.setIfInBounds_toArray, List.set_cons_zero, List.set_cons_succ]
      refine tkS 3 (.pointer (some ⟨w.heap.size, 8, none⟩)) hHeld ?_
      try simp only [Act.put, List.getElem_toArray, List.getElem_cons_succ, List.getElem_cons_zero, List.setIfInBounds_toArray, List.set_cons_zero, List.set_cons_succ]
      refine wpAnyH_take (i := 4) (v := .int .i64 succ) rfl (by kernel_rfl) (by kernel_rfl) (by kernel_rfl) (fun _ _ _ h => h) (Or.inl ⟨by rfl, fun W hS => by (have k : W.cell? ⟨w.heap.size, 8, none⟩ = some (.int .i64 succ) := hS.i8); go_simp⟩) hHeld ?_
      try simp only [Act.put, List.getElem_toArray, List.getElem_cons_succ, List.getElem_cons_zero, List.setIfInBounds_toArray, List.set_cons_zero, List.set_cons_succ]
      refine tkS 6 (.pointer (some ⟨w.heap.size, 7, none⟩)) hHeld ?_
      try simp only [Act.put, List.getElem_toArray, List.getElem_cons_succ, List.getElem_cons_zero, List.setIfInBounds_toArray, List.set_cons_zero, List.set_cons_succ]
      refine wpAnyH_take (i := 7) (v := .int .i64 pred) rfl (by kernel_rfl) (by kernel_rfl) (by kernel_rfl) (fun _ _ _ h => h) (Or.inl ⟨by rfl, fun W hS => by (have k : W.cell? ⟨w.heap.size, 7, none⟩ = some (.int .i64 pred) := hS.i7); go_simp⟩) hHeld ?_
      try simp only [Act.put, List.getElem_toArray, List.getElem_cons_succ, List.getElem_cons_zero, List.setIfInBounds_toArray, List.set_cons_zero, List.set_cons_succ]
      refine wpAnyH_ready (rs := [5]) (by kernel_rfl) (by simp) (AllReadyH.cons rfl (fun K hK2 => ?_) AllReadyH.nil)
      rw [if_pos (by rfl)]
      simp only [List.getElem_toArray, List.getElem_cons_succ, List.getElem_cons_zero]
      go_wp2_with (go_at_call 104; refine (Fput_any _ _ _ _ _).mono ?_; rintro e wb ⟨rfl, hbb⟩)
      refine hK2.out _ _ (hHeld.keep hbb) (fun hHeld2 => ?_)
      clear hK2 K hHeld
      have hHeld := hHeld2
      clear hHeld2
      try simp only [Act.put, List.getElem_toArray, List.getElem_cons_succ, List.getElem_cons_zero, List.setIfInBounds_toArray, List.set_cons_zero, List.set_cons_succ]
      clear hbb
      refine wpAnyH_ready (rs := [8]) (by kernel_rfl) (by simp) (AllReadyH.cons rfl (fun K hK2 => ?_) AllReadyH.nil)
      rw [if_pos (by rfl)]
      simp only [List.getElem_toArray, List.getElem_cons_succ, List.getElem_cons_zero]
      go_wp2_with (go_at_call 104; refine (Fput_any _ _ _ _ _).mono ?_; rintro e wb ⟨rfl, hbb⟩)
      refine hK2.out _ _ (hHeld.keep hbb) (fun hHeld2 => ?_)
      clear hK2 K hHeld
      have hHeld := hHeld2
      clear hHeld2
      try simp only [Act.put, List.getElem_toArray, List.getElem_cons_succ, List.getElem_cons_zero, List.setIfInBounds_toArray, List.set_cons_zero, List.set_cons_succ]
      clear hbb
      refine tkS 9 (.int .u64 (un (Put (Put (Put (R L.length) 12 3 (bv p3)) 20 4 (bv succ)) 24 4 (bv pred)))) hHeld ?_
      try simp only [Act.put, List.getElem_toArray, List.getElem_cons_succ, List.getElem_cons_zero, List.setIfInBounds_toArray, List.set_cons_zero, List.set_cons_succ]
      refine wpAnyH_done (by kernel_rfl) ?_ _
      have hW := hHeld
      clear hHeld
      go_wp2_with fail
      go_ret2
      rw [hG.out]
      exact ⟨rfl, hW.bl⟩
end
end Go.Proofs.YtcgflnkgekkidaaGreatDoor
namespace Go.Proofs.YtcgflnkgekkidaaGreatDoor
open Go.RowKit
attribute [local go_sem] wrap_u64_bv bv_un bv_sn wrap_u32_un bits_u64_or bits_i64_or mul_bvpow shl_min bv_0 bv_1 wrap_i64_un
section
attribute [local irreducible] un sn un32 checkE Put Part
set_option maxRecDepth 100000 in
set_option maxHeartbeats 8000000 in
theorem TWord_10 (b n : Nat) (T : Int → PartV) (pc p3 p7 : Int) (op rd r1 r2 imm : Int) (aq rl : Bool) (pred succ : Int) (w : World) (hT : TM w b n T) (hp : T op = ⟨pc, p3, p7⟩) (hf : (opOf op).form = 10) (hck : checkE ⟨op, rd, r1, r2, imm, aq, rl, pred, succ⟩ = 0) (hlo : -9223372036854775808 ≤ op) (hop : op ≤ 9223372036854775807) (ht : Tabs w) (hfl : Flds w) :
    Calls Tryz.prog 76 #[.map (some b), .agg #[.int .i64 op, .int .i64 rd, .int .i64 r1, .int .i64 r2, .int .i64 imm, .bool aq, .bool rl, .int .i64 pred, .int .i64 succ]] w fun e w' => e = .returned (.tuple #[.int .u32 (un32 ((wordG 10 ⟨pc, p3, p7⟩ ⟨op, rd, r1, r2, imm, aq, rl, pred, succ⟩).setWidth 32)), .int .i64 0]) ∧ Below w.heap.size w w' := by
  have hC := Lib.hid (fun W hT => Check_any ⟨op, rd, r1, r2, imm, aq, rl, pred, succ⟩ hop W hT)
  rw [hck] at hC
  have hF := Lib.hid (fun W hT => Form_any op hop W hT)
  rw [hf] at hF
  have hL := Lib.hid (fun W => Layout_any 10 W)
  have hwf : (Lit.int .i64 op).wf = true := WalkArith.wf_i64 ⟨hlo, hop⟩
  replace hp := Lib.hid hp
  replace hwf := Lib.hid hwf
  clear hck hf hlo hop
  have hbw : Below w.heap.size w (w.alloc (.cells #[.int .i64 op, .int .i64 rd, .int .i64 r1, .int .i64 r2, .int .i64 imm, .bool aq, .bool rl, .int .i64 pred, .int .i64 succ] 26)) := (Below.refl _ _).alloc (Nat.le_refl _) _
  go_enter Tryz.func76, Tryz.ntmps76
  go_upto_region 6 with (first | (go_at_call 90; refine (hC.out _ (ht.later hbw (Nat.le_refl _))).mono ?_; rintro e w1 ⟨rfl, hb1⟩; obtain ⟨i0, i1, i2, i3, i4, i5, i6, i7, i8⟩ := box9 hb1; have hT1 := (hT.alloc _).keep hb1; have hb01 := hbw.trans (hb1.mono hbw.size); have ht1 := ht.later hb01 (Nat.le_refl _); have hs1 : w.heap.size < w1.heap.size := Nat.lt_of_lt_of_le (by simp) hb1.size; have hne1 : w.heap.size ≠ w1.heap.size := Nat.ne_of_lt hs1) | (at_lookup; refine wpList_tm_get rfl _ _ rfl Tryz.underlying112 b n T rfl hT1 op rfl hwf.out ?_; rw [hp.out]; simp only [PartV.cells]) | (go_at_call 89; refine (hF.out _ (ht1.later ((Below.refl _ _).alloc (Nat.le_refl _) _) (Nat.le_refl _))).mono ?_; rintro e w2 ⟨rfl, hb2⟩; obtain ⟨p0, p1, p2⟩ := box3 hb2))
  have hW := CF.start (p := ⟨pc, p3, p7⟩) (f := 10) (t3 := 3) hfl hb1 hb2
  clear p0 p1 p2 hb2 i0 i1 i2 i3 i4 i5 i6 i7 i8 hT1 hT hb01 ht1 hs1 hne1 hb1 hbw hC hF hp hwf ht hfl
  generalize w2.alloc _ = W3 at hW ⊢
  generalize w2.heap.size = F at hW ⊢
  generalize w1.heap.size = P at hW ⊢
  clear w1 w2
  have p0 := hW.p0
  have f0 := hW.f0
  obtain ⟨L, hLd⟩ : ∃ L, L = pieces 10 := ⟨_, rfl⟩
  have hLb := pieces_bd 10
  have hLn : (pieces 10).length ≤ 4 := by decide
  have hLm : Hid (immPut (bv imm) (pieces 10) (bv pc) (pieces 10).length = immPut (bv imm) L (bv pc) L.length) := Lib.hid (by rw [hLd])
  rw [← hLd] at hLb hLn
  replace hLd := Lib.hid hLd
  replace hLb := Lib.hid hLb
  go_upto_region 8 with (go_at_call 100; refine (hL.out _).mono ?_; rintro e w3 ⟨⟨v, rfl, hown⟩, hb3⟩; rw [← hLd.out] at hown; have hW := hW.keep hb3; obtain ⟨ao, cap, rfl⟩ := own_slice3 hown)
  clear hL hLd p0 f0
  go_wp2_with fail
  have hI0 : Hid (immPut (bv imm) L (bv pc) 0 = bv pc) := Lib.hid rfl
  have hIs : Hid (∀ k : Nat, immPut (bv imm) L (bv pc) (k + 1) = Put (immPut (bv imm) L (bv pc) k) (L.getD k (0, 0, 0)).2.2 (L.getD k (0, 0, 0)).2.1 (Part (bv imm) (L.getD k (0, 0, 0)).1 (L.getD k (0, 0, 0)).2.1)) := Lib.hid fun _ => rfl
  generalize immPut (bv imm) L (bv pc) = R at hLm hI0 hIs
  go_loopw [9, 37] (fun s i wr => ∃ k : Nat, k ≤ L.length ∧ i = .int .i64 k ∧ s = .int .u64 (un (R k)) ∧ Below w3.heap.size w3 wr) (fun _ i _ => L.length - (intOf i).toNat)
  case atStart => exact ⟨0, Nat.zero_le _, rfl, by rw [hI0.out], Below.refl _ _⟩
  case round =>
    obtain ⟨k, hk, rfl, rfl, hb⟩ := hrel
    have hWr := hW.keep hb
    by_cases hlt : k < L.length
    · obtain ⟨g, rfl, c0, c1, c2⟩ := own_row3 (ownsRow_keep hown hb) rfl k hlt
      have hnx := Lib.hid (hIs.out k)
      have i4 := (hWr.keep ((Below.refl wr.heap.size wr).alloc (Nat.le_refl _) (.cells #[.int .i64 (L.getD k (0, 0, 0)).1, .int .i64 (L.getD k (0, 0, 0)).2.1, .int .i64 (L.getD k (0, 0, 0)).2.2] 145))).i4
      generalize (L.getD k (0, 0, 0)).1 = e0 at c0 hnx i4
      generalize (L.getD k (0, 0, 0)).2.1 = e1 at c1 hnx i4
      generalize (L.getD k (0, 0, 0)).2.2 = e2 at c2 hnx i4
      have hbn : Below wr.heap.size wr (wr.alloc (.cells #[.int .i64 e0, .int .i64 e1, .int .i64 e2] 145)) := (Below.refl wr.heap.size wr).alloc (Nat.le_refl _) _
      go_wp2_with fail
      go_quiet ((first | (go_at_call 102; exact quiet_same (Part_any _ _ _ _)) | (go_at_call 101; exact quiet_same (Put_any _ _ _ _ _))))
      go_wp2_with fail
      rw [← hnx.out]
      go_roundw
      case rel => exact ⟨k + 1, by omega, by go_num, rfl, (hb.trans (hbn.mono hb.size)).trans ⟨rfl, rfl, rfl, Nat.le_refl _, fun _ _ => rfl⟩⟩
      case measure => simp [intOf]; omega
    · obtain rfl : k = L.length := by omega
      clear hk hlt hown hLb hIs hI0 hLn hb3 hW hb
      have hW := hWr
      clear hWr
      have hmf : ∀ (fn : Fn) (first cap : Array Value) (w : World), (Instr.makeFunc fn first cap).run Tryz.prog w = .ok (.func fn first cap) w := fun _ _ _ _ => rfl
      have hG : Hid (un32 ((wordG 10 ⟨pc, p3, p7⟩ ⟨op, rd, r1, r2, imm, aq, rl, pred, succ⟩).setWidth 32) = un32 (BitVec.setWidth 32 (Put (R L.length) 12 3 (bv p3)) ||| BitVec.setWidth 32 (bv (un (mk64 (op == 65)) * 1048576)))) := Lib.hid (by rw [← hLm.out, shl20, ← BitVec.setWidth_or]; rfl)
      clear hLm
      go_wp2_with (first | (go_at_call 103; (with_reducible refine (Has1 false (by decide) hW).mono ?_); rintro e wh ⟨rfl, hW2⟩; clear hW; have hW := hW2; clear hW2; have x0 := hW.fl.aF3; have x1 := hW.fl.nF3; have x2 := hW.p1) | (go_at_call 103; (with_reducible refine (Has2 false (by decide) hW).mono ?_); rintro e wh ⟨rfl, hW2⟩; clear hW; have hW := hW2; clear hW2; have y0 := hW.fl.aRd; have y1 := hW.fl.nRd; have y2 := hW.i1) | (go_at_call 103; (with_reducible refine (Has3 false (by decide) hW).mono ?_); rintro e wh ⟨rfl, hW2⟩; clear hW; have hW := hW2; clear hW2; have f0 := hW.f0; have v0 := hW.fl.aRs1; have v1 := hW.fl.nRs1; have v2 := hW.i2; have z0 := hW.fl.aRs2; have z1 := hW.fl.nRs2; have z2 := hW.i3) | (go_at_call 104; (with_reducible refine (Fput_any _ _ _ _ _).mono ?_); rintro e wp ⟨rfl, hb2⟩; have hW2 := hW.keep hb2; clear hb2 hW; have hW := hW2; clear hW2; have f0 := hW.f0; have z0 := hW.fl.aRs2; have z1 := hW.fl.nRs2; have z2 := hW.i3))
      have i0 := hW.i0
      have g3 := hW.fl.aRs2
      go_quiet ((go_at_call 105; exact quiet_same (MarkS_any _ _)))
      go_wp2_with fail
      go_ret2
      rw [hG.out]
      exact ⟨rfl, hW.bl.trans ⟨rfl, rfl, rfl, Nat.le_refl _, fun _ _ => rfl⟩⟩
end
end Go.Proofs.YtcgflnkgekkidaaGreatDoor
namespace Go.Proofs.YtcgflnkgekkidaaGreatDoor
open Go.RowKit
attribute [local go_sem] wrap_u64_bv bv_un bv_sn wrap_u32_un bits_u64_or bits_i64_or mul_bvpow shl_min bv_0 bv_1 wrap_i64_un
section
attribute [local irreducible] un sn un32 checkE Put Part
set_option maxRecDepth 100000 in
set_option maxHeartbeats 8000000 in
theorem TWord_11 (b n : Nat) (T : Int → PartV) (pc p3 p7 : Int) (op rd r1 r2 imm : Int) (aq rl : Bool) (pred succ : Int) (w : World) (hT : TM w b n T) (hp : T op = ⟨pc, p3, p7⟩) (hf : (opOf op).form = 11) (hck : checkE ⟨op, rd, r1, r2, imm, aq, rl, pred, succ⟩ = 0) (hlo : -9223372036854775808 ≤ op) (hop : op ≤ 9223372036854775807) (ht : Tabs w) (hfl : Flds w) :
    Calls Tryz.prog 76 #[.map (some b), .agg #[.int .i64 op, .int .i64 rd, .int .i64 r1, .int .i64 r2, .int .i64 imm, .bool aq, .bool rl, .int .i64 pred, .int .i64 succ]] w fun e w' => e = .returned (.tuple #[.int .u32 (un32 ((wordG 11 ⟨pc, p3, p7⟩ ⟨op, rd, r1, r2, imm, aq, rl, pred, succ⟩).setWidth 32)), .int .i64 0]) ∧ Below w.heap.size w w' := by
  have hC := Lib.hid (fun W hT => Check_any ⟨op, rd, r1, r2, imm, aq, rl, pred, succ⟩ hop W hT)
  rw [hck] at hC
  have hF := Lib.hid (fun W hT => Form_any op hop W hT)
  rw [hf] at hF
  have hL := Lib.hid (fun W => Layout_any 11 W)
  have hwf : (Lit.int .i64 op).wf = true := WalkArith.wf_i64 ⟨hlo, hop⟩
  replace hp := Lib.hid hp
  replace hwf := Lib.hid hwf
  clear hck hf hlo hop
  have hbw : Below w.heap.size w (w.alloc (.cells #[.int .i64 op, .int .i64 rd, .int .i64 r1, .int .i64 r2, .int .i64 imm, .bool aq, .bool rl, .int .i64 pred, .int .i64 succ] 26)) := (Below.refl _ _).alloc (Nat.le_refl _) _
  go_enter Tryz.func76, Tryz.ntmps76
  go_upto_region 6 with (first | (go_at_call 90; refine (hC.out _ (ht.later hbw (Nat.le_refl _))).mono ?_; rintro e w1 ⟨rfl, hb1⟩; obtain ⟨i0, i1, i2, i3, i4, i5, i6, i7, i8⟩ := box9 hb1; have hT1 := (hT.alloc _).keep hb1; have hb01 := hbw.trans (hb1.mono hbw.size); have ht1 := ht.later hb01 (Nat.le_refl _); have hs1 : w.heap.size < w1.heap.size := Nat.lt_of_lt_of_le (by simp) hb1.size; have hne1 : w.heap.size ≠ w1.heap.size := Nat.ne_of_lt hs1) | (at_lookup; refine wpList_tm_get rfl _ _ rfl Tryz.underlying112 b n T rfl hT1 op rfl hwf.out ?_; rw [hp.out]; simp only [PartV.cells]) | (go_at_call 89; refine (hF.out _ (ht1.later ((Below.refl _ _).alloc (Nat.le_refl _) _) (Nat.le_refl _))).mono ?_; rintro e w2 ⟨rfl, hb2⟩; obtain ⟨p0, p1, p2⟩ := box3 hb2))
  have hW := CF.start (p := ⟨pc, p3, p7⟩) (f := 11) (t3 := 3) hfl hb1 hb2
  clear p0 p1 p2 hb2 i0 i1 i2 i3 i4 i5 i6 i7 i8 hT1 hT hb01 ht1 hs1 hne1 hb1 hbw hC hF hp hwf ht hfl
  generalize w2.alloc _ = W3 at hW ⊢
  generalize w2.heap.size = F at hW ⊢
  generalize w1.heap.size = P at hW ⊢
  clear w1 w2
  have p0 := hW.p0
  have f0 := hW.f0
  obtain ⟨L, hLd⟩ : ∃ L, L = pieces 11 := ⟨_, rfl⟩
  have hLb := pieces_bd 11
  have hLn : (pieces 11).length ≤ 4 := by decide
  have hLm : Hid (immPut (bv imm) (pieces 11) (bv pc) (pieces 11).length = immPut (bv imm) L (bv pc) L.length) := Lib.hid (by rw [hLd])
  rw [← hLd] at hLb hLn
  replace hLd := Lib.hid hLd
  replace hLb := Lib.hid hLb
  go_upto_region 8 with (go_at_call 100; refine (hL.out _).mono ?_; rintro e w3 ⟨⟨v, rfl, hown⟩, hb3⟩; rw [← hLd.out] at hown; have hW := hW.keep hb3; obtain ⟨ao, cap, rfl⟩ := own_slice3 hown)
  clear hL hLd p0 f0
  go_wp2_with fail
  have hI0 : Hid (immPut (bv imm) L (bv pc) 0 = bv pc) := Lib.hid rfl
  have hIs : Hid (∀ k : Nat, immPut (bv imm) L (bv pc) (k + 1) = Put (immPut (bv imm) L (bv pc) k) (L.getD k (0, 0, 0)).2.2 (L.getD k (0, 0, 0)).2.1 (Part (bv imm) (L.getD k (0, 0, 0)).1 (L.getD k (0, 0, 0)).2.1)) := Lib.hid fun _ => rfl
  generalize immPut (bv imm) L (bv pc) = R at hLm hI0 hIs
  go_loopw [9, 37] (fun s i wr => ∃ k : Nat, k ≤ L.length ∧ i = .int .i64 k ∧ s = .int .u64 (un (R k)) ∧ Below w3.heap.size w3 wr) (fun _ i _ => L.length - (intOf i).toNat)
  case atStart => exact ⟨0, Nat.zero_le _, rfl, by rw [hI0.out], Below.refl _ _⟩
  case round =>
    obtain ⟨k, hk, rfl, rfl, hb⟩ := hrel
    have hWr := hW.keep hb
    by_cases hlt : k < L.length
    · obtain ⟨g, rfl, c0, c1, c2⟩ := own_row3 (ownsRow_keep hown hb) rfl k hlt
      have hnx := Lib.hid (hIs.out k)
      have i4 := (hWr.keep ((Below.refl wr.heap.size wr).alloc (Nat.le_refl _) (.cells #[.int .i64 (L.getD k (0, 0, 0)).1, .int .i64 (L.getD k (0, 0, 0)).2.1, .int .i64 (L.getD k (0, 0, 0)).2.2] 145))).i4
      generalize (L.getD k (0, 0, 0)).1 = e0 at c0 hnx i4
      generalize (L.getD k (0, 0, 0)).2.1 = e1 at c1 hnx i4
      generalize (L.getD k (0, 0, 0)).2.2 = e2 at c2 hnx i4
      have hbn : Below wr.heap.size wr (wr.alloc (.cells #[.int .i64 e0, .int .i64 e1, .int .i64 e2] 145)) := (Below.refl wr.heap.size wr).alloc (Nat.le_refl _) _
      go_wp2_with fail
      go_quiet ((first | (go_at_call 102; exact quiet_same (Part_any _ _ _ _)) | (go_at_call 101; exact quiet_same (Put_any _ _ _ _ _))))
      go_wp2_with fail
      rw [← hnx.out]
      go_roundw
      case rel => exact ⟨k + 1, by omega, by go_num, rfl, (hb.trans (hbn.mono hb.size)).trans ⟨rfl, rfl, rfl, Nat.le_refl _, fun _ _ => rfl⟩⟩
      case measure => simp [intOf]; omega
    · obtain rfl : k = L.length := by omega
      clear hk hlt hown hLb hIs hI0 hLn hb3 hW hb
      have hW := hWr
      clear hWr
      have hmf : ∀ (fn : Fn) (first cap : Array Value) (w : World), (Instr.makeFunc fn first cap).run Tryz.prog w = .ok (.func fn first cap) w := fun _ _ _ _ => rfl
      have hG : Hid (un32 ((wordG 11 ⟨pc, p3, p7⟩ ⟨op, rd, r1, r2, imm, aq, rl, pred, succ⟩).setWidth 32) = un32 ((Put (Put (Put (Put (Put (R L.length) 12 3 (bv p3)) 7 5 (bv rd)) 15 5 (bv r1)) 20 5 (bv r2)) 25 7 (bv p7 ||| mk64 aq <<< 1 ||| mk64 rl)).setWidth 32)) := Lib.hid (by rw [← hLm.out]; rfl)
      clear hLm
      go_wp2_with (first | (go_at_call 103; (with_reducible refine (Has1 false (by decide) hW).mono ?_); rintro e wh ⟨rfl, hW2⟩; clear hW; have hW := hW2; clear hW2; have x0 := hW.fl.aF3; have x1 := hW.fl.nF3; have x2 := hW.p1) | (go_at_call 103; (with_reducible refine (Has2 true (by decide) hW).mono ?_); rintro e wh ⟨rfl, hW2⟩; clear hW; have hW := hW2; clear hW2; have y0 := hW.fl.aRd; have y1 := hW.fl.nRd; have y2 := hW.i1) | (go_at_call 103; (with_reducible refine (Has3 true (by decide) hW).mono ?_); rintro e wh ⟨rfl, hW2⟩; clear hW; have hW := hW2; clear hW2; have f0 := hW.f0; have v0 := hW.fl.aRs1; have v1 := hW.fl.nRs1; have v2 := hW.i2; have z0 := hW.fl.aRs2; have z1 := hW.fl.nRs2; have z2 := hW.i3) | (go_at_call 104; (with_reducible refine (Fput_any _ _ _ _ _).mono ?_); rintro e wp ⟨rfl, hb2⟩; have hW2 := hW.keep hb2; clear hb2 hW; have hW := hW2; clear hW2; have f0 := hW.f0; have z0 := hW.fl.aRs2; have z1 := hW.fl.nRs2; have z2 := hW.i3))
      refine wp_region_held_drew (S := fun W => CF w w.heap.size P F op rd r1 r2 imm aq rl pred succ ⟨pc, p3, p7⟩ 11 W) (by kernel_rfl) hW.drew (fun hHeld => ?_)
      refine wpAnyH_take (i := 0) (v := .agg #[.int .i64 25, .int .i64 7]) rfl (by kernel_rfl) (by kernel_rfl) (by kernel_rfl) (fun _ _ _ h => h) (Or.inl ⟨by rfl, fun W hS => by (have k0 : W.cell? ⟨4, 0, none⟩ = some (.int .i64 25) := hS.fl.aF7; have k1 : W.cell? ⟨4, 1, none⟩ = some (.int .i64 7) := hS.fl.nF7; go_simp)⟩) hHeld ?_
      try simp only [Act.put, List.getElem_toArray, List.getElem_cons_zero, List.setIfInBounds_toArray, List.set_cons_zero, List.set_cons_succ]
      refine wpAnyH_take (i := 1) (v := .agg #[.int .i64 20, .int .i64 5]) rfl (by kernel_rfl) (by kernel_rfl) (by kernel_rfl) (fun _ _ _ h => h) (Or.inl ⟨by rfl, fun W hS => by (have k0 : W.cell? ⟨3, 0, none⟩ = some (.int .i64 20) := hS.fl.aRs2; have k1 : W.cell? ⟨3, 1, none⟩ = some (.int .i64 5) := hS.fl.nRs2; go_simp)⟩) hHeld ?_
      try simp only [Act.put, List.getElem_toArray, List.getElem_cons_succ, List.getElem_cons_zero, List.setIfInBounds_toArray, List.set_cons_zero, List.set_cons_succ]
      refine tkS 2 (.int .u64 (un (Put (Put (Put (R L.length) 12 3 (bv p3)) 7 5 (bv rd)) 15 5 (bv r1)))) hHeld ?_
      try simp only [Act.put, List.getElem_toArray, List.getElem_cons_succ, List.getElem_cons_zero, List.setIfInBounds_toArray, List.set_cons_zero, List.set_cons_succ]
      refine tkS 3 (.pointer (some ⟨w.heap.size, 3, none⟩)) hHeld ?_
      try simp only [Act.put, List.getElem_toArray, List.getElem_cons_succ, List.getElem_cons_zero, List.setIfInBounds_toArray, List.set_cons_zero, List.set_cons_succ]
      refine wpAnyH_take (i := 4) (v := .int .i64 r2) rfl (by kernel_rfl) (by kernel_rfl) (by kernel_rfl) (fun _ _ _ h => h) (Or.inl ⟨by rfl, fun W hS => by (have k : W.cell? ⟨w.heap.size, 3, none⟩ = some (.int .i64 r2) := hS.i3); go_simp⟩) hHeld ?_
      try simp only [Act.put, List.getElem_toArray, List.getElem_cons_succ, List.getElem_cons_zero, List.setIfInBounds_toArray, List.set_cons_zero, List.set_cons_succ]
      refine tkS 6 (.pointer (some ⟨P, 2, none⟩)) hHeld ?_
      try simp only [Act.put, List.getElem_toArray, List.getElem_cons_succ, List.getElem_cons_zero, List.setIfInBounds_toArray, List.set_cons_zero, List.set_cons_succ]
      refine wpAnyH_take (i := 7) (v := .int .i64 p7) rfl (by kernel_rfl) (by kernel_rfl) (by kernel_rfl) (fun _ _ _ h => h) (Or.inl ⟨by rfl, fun W hS => by (have k : W.cell? ⟨P, 2, none⟩ = some (.int .i64 p7) := hS.p2); go_simp⟩) hHeld ?_
      try simp only [Act.put, List.getElem_toArray, List.getElem_cons_succ, List.getElem_cons_zero, List.setIfInBounds_toArray, List.set_cons_zero, List.set_cons_succ]
      refine tkS 8 (.pointer (some ⟨w.heap.size, 5, none⟩)) hHeld ?_
      try simp only [Act.put, List.getElem_toArray, List.getElem_cons_succ, List.getElem_cons_zero, List.setIfInBounds_toArray, List.set_cons_zero, List.set_cons_succ]
      refine wpAnyH_take (i := 9) (v := .bool aq) rfl (by kernel_rfl) (by kernel_rfl) (by kernel_rfl) (fun _ _ _ h => h) (Or.inl ⟨by rfl, fun W hS => by (have k : W.cell? ⟨w.heap.size, 5, none⟩ = some (.bool aq) := hS.i5); go_simp⟩) hHeld ?_
      try simp only [Act.put, List.getElem_toArray, List.getElem_cons_succ, List.getElem_cons_zero, List.setIfInBounds_toArray, List.set_cons_zero, List.set_cons_succ]
      refine tkS 13 (.pointer (some ⟨w.heap.size, 6, none⟩)) hHeld ?_
      try simp only [Act.put, List.getElem_toArray, List.getElem_cons_succ, List.getElem_cons_zero, List.setIfInBounds_toArray, List.set_cons_zero, List.set_cons_succ]
      refine wpAnyH_take (i := 14) (v := .bool rl) rfl (by kernel_rfl) (by kernel_rfl) (by kernel_rfl) (fun _ _ _ h => h) (Or.inl ⟨by rfl, fun W hS => by (have k : W.cell? ⟨w.heap.size, 6, none⟩ = some (.bool rl) := hS.i6); go_simp⟩) hHeld ?_
      try simp only [Act.put, List.getElem_toArray, List.getElem_cons_succ, List.getElem_cons_zero, List.setIfInBounds_toArray, List.set_cons_zero, List.set_cons_succ]
      refine wpAnyH_ready (rs := [5]) (by kernel_rfl) (by simp) (AllReadyH.cons rfl (fun K hK2 => ?_) AllReadyH.nil)
      rw [if_pos (by rfl)]
      simp only [List.getElem_toArray, List.getElem_cons_succ, List.getElem_cons_zero]
      go_wp2_with (go_at_call 104; refine (Fput_any _ _ _ _ _).mono ?_; rintro e wb ⟨rfl, hbb⟩)
      refine hK2.out _ _ (hHeld.keep hbb) (fun hHeld2 => ?_)
      clear hK2 K hHeld
      have hHeld := hHeld2
      clear hHeld2
      try simp only [Act.put, List.getElem_toArray, List.getElem_cons_succ, List.getElem_cons_zero, List.setIfInBounds_toArray, List.set_cons_zero, List.set_cons_succ]
      clear hbb
      refine wpAnyH_ready (rs := [10]) (by kernel_rfl) (by simp) (AllReadyH.cons rfl (fun K hK2 => ?_) AllReadyH.nil)
      rw [if_pos (by rfl)]
      simp only [List.getElem_toArray, List.getElem_cons_succ, List.getElem_cons_zero]
      go_wp2_with (go_at_call 105; refine (MarkS_any aq _).mono ?_; rintro e wb ⟨rfl, rfl⟩)
      refine hK2.out _ _ (hHeld) (fun hHeld2 => ?_)
      clear hK2 K hHeld
      have hHeld := hHeld2
      clear hHeld2
      try simp only [Act.put, List.getElem_toArray, List.getElem_cons_succ, List.getElem_cons_zero, List.setIfInBounds_toArray, List.set_cons_zero, List.set_cons_succ]
      refine wpAnyH_take (i := 11) (v := .int .i64 (sn (mk64 aq <<< 1))) rfl (by kernel_rfl) (by kernel_rfl) (by kernel_rfl) (fun _ _ _ h => h) (Or.inl ⟨by rfl, fun W _ => by (have k := shl_mk aq; go_simp)⟩) hHeld ?_
      try simp only [Act.put, List.getElem_toArray, List.getElem_cons_succ, List.getElem_cons_zero, List.setIfInBounds_toArray, List.set_cons_zero, List.set_cons_succ]
      refine tkG 12 (.int .i64 (sn (bv p7 ||| mk64 aq <<< 1))) hHeld ?_
      try simp only [Act.put, List.getElem_toArray, List.getElem_cons_succ, List.getElem_cons_zero, List.setIfInBounds_toArray, List.set_cons_zero, List.set_cons_succ]
      refine wpAnyH_ready (rs := [15]) (by kernel_rfl) (by simp) (AllReadyH.cons rfl (fun K hK2 => ?_) AllReadyH.nil)
      rw [if_pos (by rfl)]
      simp only [List.getElem_toArray, List.getElem_cons_succ, List.getElem_cons_zero]
      go_wp2_with (go_at_call 105; refine (MarkS_any rl _).mono ?_; rintro e wb ⟨rfl, rfl⟩)
      refine hK2.out _ _ (hHeld) (fun hHeld2 => ?_)
      clear hK2 K hHeld
      have hHeld := hHeld2
      clear hHeld2
      try simp only [Act.put, List.getElem_toArray, List.getElem_cons_succ, List.getElem_cons_zero, List.setIfInBounds_toArray, List.set_cons_zero, List.set_cons_succ]
      refine tkG 16 (.int .i64 (sn (bv p7 ||| mk64 aq <<< 1 ||| mk64 rl))) hHeld ?_
      try simp only [Act.put, List.getElem_toArray, List.getElem_cons_succ, List.getElem_cons_zero, List.setIfInBounds_toArray, List.set_cons_zero, List.set_cons_succ]
      refine wpAnyH_ready (rs := [17]) (by kernel_rfl) (by simp) (AllReadyH.cons rfl (fun K hK2 => ?_) AllReadyH.nil)
      rw [if_pos (by rfl)]
      simp only [List.getElem_toArray, List.getElem_cons_succ, List.getElem_cons_zero]
      go_wp2_with (go_at_call 104; refine (Fput_any _ _ _ _ _).mono ?_; rintro e wb ⟨rfl, hbb⟩)
      refine hK2.out _ _ (hHeld.keep hbb) (fun hHeld2 => ?_)
      clear hK2 K hHeld
      have hHeld := hHeld2
      clear hHeld2
      try simp only [Act.put, List.getElem_toArray, List.getElem_cons_succ, List.getElem_cons_zero, List.setIfInBounds_toArray, List.set_cons_zero, List.set_cons_succ]
      clear hbb
      refine tkS 18 (.int .u64 (un (Put (Put (Put (Put (Put (R L.length) 12 3 (bv p3)) 7 5 (bv rd)) 15 5 (bv r1)) 20 5 (bv r2)) 25 7 (bv p7 ||| mk64 aq <<< 1 ||| mk64 rl)))) hHeld ?_
      try simp only [Act.put, List.getElem_toArray, List.getElem_cons_succ, List.getElem_cons_zero, List.setIfInBounds_toArray, List.set_cons_zero, List.set_cons_succ]
      refine wpAnyH_done (by kernel_rfl) ?_ _
      have hW := hHeld
      clear hHeld
      go_wp2_with fail
      go_ret2
      rw [hG.out]
      exact ⟨rfl, hW.bl⟩
end
end Go.Proofs.YtcgflnkgekkidaaGreatDoor
namespace Go.Proofs.YtcgflnkgekkidaaGreatDoor
open Go.RowKit
attribute [local go_sem] wrap_u64_bv bv_un bv_sn wrap_u32_un bits_u64_or bits_i64_or mul_bvpow shl_min bv_0 bv_1 wrap_i64_un
section
attribute [local irreducible] un sn un32 checkE Put Part
set_option maxRecDepth 100000 in
set_option maxHeartbeats 8000000 in
theorem TWord_12 (b n : Nat) (T : Int → PartV) (pc p3 p7 : Int) (op rd r1 r2 imm : Int) (aq rl : Bool) (pred succ : Int) (w : World) (hT : TM w b n T) (hp : T op = ⟨pc, p3, p7⟩) (hf : (opOf op).form = 12) (hck : checkE ⟨op, rd, r1, r2, imm, aq, rl, pred, succ⟩ = 0) (hlo : -9223372036854775808 ≤ op) (hop : op ≤ 9223372036854775807) (ht : Tabs w) (hfl : Flds w) :
    Calls Tryz.prog 76 #[.map (some b), .agg #[.int .i64 op, .int .i64 rd, .int .i64 r1, .int .i64 r2, .int .i64 imm, .bool aq, .bool rl, .int .i64 pred, .int .i64 succ]] w fun e w' => e = .returned (.tuple #[.int .u32 (un32 ((wordG 12 ⟨pc, p3, p7⟩ ⟨op, rd, r1, r2, imm, aq, rl, pred, succ⟩).setWidth 32)), .int .i64 0]) ∧ Below w.heap.size w w' := by
  have hC := Lib.hid (fun W hT => Check_any ⟨op, rd, r1, r2, imm, aq, rl, pred, succ⟩ hop W hT)
  rw [hck] at hC
  have hF := Lib.hid (fun W hT => Form_any op hop W hT)
  rw [hf] at hF
  have hL := Lib.hid (fun W => Layout_any 12 W)
  have hwf : (Lit.int .i64 op).wf = true := WalkArith.wf_i64 ⟨hlo, hop⟩
  replace hp := Lib.hid hp
  replace hwf := Lib.hid hwf
  clear hck hf hlo hop
  have hbw : Below w.heap.size w (w.alloc (.cells #[.int .i64 op, .int .i64 rd, .int .i64 r1, .int .i64 r2, .int .i64 imm, .bool aq, .bool rl, .int .i64 pred, .int .i64 succ] 26)) := (Below.refl _ _).alloc (Nat.le_refl _) _
  go_enter Tryz.func76, Tryz.ntmps76
  go_upto_region 6 with (first | (go_at_call 90; refine (hC.out _ (ht.later hbw (Nat.le_refl _))).mono ?_; rintro e w1 ⟨rfl, hb1⟩; obtain ⟨i0, i1, i2, i3, i4, i5, i6, i7, i8⟩ := box9 hb1; have hT1 := (hT.alloc _).keep hb1; have hb01 := hbw.trans (hb1.mono hbw.size); have ht1 := ht.later hb01 (Nat.le_refl _); have hs1 : w.heap.size < w1.heap.size := Nat.lt_of_lt_of_le (by simp) hb1.size; have hne1 : w.heap.size ≠ w1.heap.size := Nat.ne_of_lt hs1) | (at_lookup; refine wpList_tm_get rfl _ _ rfl Tryz.underlying112 b n T rfl hT1 op rfl hwf.out ?_; rw [hp.out]; simp only [PartV.cells]) | (go_at_call 89; refine (hF.out _ (ht1.later ((Below.refl _ _).alloc (Nat.le_refl _) _) (Nat.le_refl _))).mono ?_; rintro e w2 ⟨rfl, hb2⟩; obtain ⟨p0, p1, p2⟩ := box3 hb2))
  have hW := CF.start (p := ⟨pc, p3, p7⟩) (f := 12) (t3 := 3) hfl hb1 hb2
  clear p0 p1 p2 hb2 i0 i1 i2 i3 i4 i5 i6 i7 i8 hT1 hT hb01 ht1 hs1 hne1 hb1 hbw hC hF hp hwf ht hfl
  generalize w2.alloc _ = W3 at hW ⊢
  generalize w2.heap.size = F at hW ⊢
  generalize w1.heap.size = P at hW ⊢
  clear w1 w2
  have p0 := hW.p0
  have f0 := hW.f0
  obtain ⟨L, hLd⟩ : ∃ L, L = pieces 12 := ⟨_, rfl⟩
  have hLb := pieces_bd 12
  have hLn : (pieces 12).length ≤ 4 := by decide
  have hLm : Hid (immPut (bv imm) (pieces 12) (bv pc) (pieces 12).length = immPut (bv imm) L (bv pc) L.length) := Lib.hid (by rw [hLd])
  rw [← hLd] at hLb hLn
  replace hLd := Lib.hid hLd
  replace hLb := Lib.hid hLb
  go_upto_region 8 with (go_at_call 100; refine (hL.out _).mono ?_; rintro e w3 ⟨⟨v, rfl, hown⟩, hb3⟩; rw [← hLd.out] at hown; have hW := hW.keep hb3; obtain ⟨ao, cap, rfl⟩ := own_slice3 hown)
  clear hL hLd p0 f0
  go_wp2_with fail
  have hI0 : Hid (immPut (bv imm) L (bv pc) 0 = bv pc) := Lib.hid rfl
  have hIs : Hid (∀ k : Nat, immPut (bv imm) L (bv pc) (k + 1) = Put (immPut (bv imm) L (bv pc) k) (L.getD k (0, 0, 0)).2.2 (L.getD k (0, 0, 0)).2.1 (Part (bv imm) (L.getD k (0, 0, 0)).1 (L.getD k (0, 0, 0)).2.1)) := Lib.hid fun _ => rfl
  generalize immPut (bv imm) L (bv pc) = R at hLm hI0 hIs
  go_loopw [9, 37] (fun s i wr => ∃ k : Nat, k ≤ L.length ∧ i = .int .i64 k ∧ s = .int .u64 (un (R k)) ∧ Below w3.heap.size w3 wr) (fun _ i _ => L.length - (intOf i).toNat)
  case atStart => exact ⟨0, Nat.zero_le _, rfl, by rw [hI0.out], Below.refl _ _⟩
  case round =>
    obtain ⟨k, hk, rfl, rfl, hb⟩ := hrel
    have hWr := hW.keep hb
    by_cases hlt : k < L.length
    · obtain ⟨g, rfl, c0, c1, c2⟩ := own_row3 (ownsRow_keep hown hb) rfl k hlt
      have hnx := Lib.hid (hIs.out k)
      have i4 := (hWr.keep ((Below.refl wr.heap.size wr).alloc (Nat.le_refl _) (.cells #[.int .i64 (L.getD k (0, 0, 0)).1, .int .i64 (L.getD k (0, 0, 0)).2.1, .int .i64 (L.getD k (0, 0, 0)).2.2] 145))).i4
      generalize (L.getD k (0, 0, 0)).1 = e0 at c0 hnx i4
      generalize (L.getD k (0, 0, 0)).2.1 = e1 at c1 hnx i4
      generalize (L.getD k (0, 0, 0)).2.2 = e2 at c2 hnx i4
      have hbn : Below wr.heap.size wr (wr.alloc (.cells #[.int .i64 e0, .int .i64 e1, .int .i64 e2] 145)) := (Below.refl wr.heap.size wr).alloc (Nat.le_refl _) _
      go_wp2_with fail
      go_quiet ((first | (go_at_call 102; exact quiet_same (Part_any _ _ _ _)) | (go_at_call 101; exact quiet_same (Put_any _ _ _ _ _))))
      go_wp2_with fail
      rw [← hnx.out]
      go_roundw
      case rel => exact ⟨k + 1, by omega, by go_num, rfl, (hb.trans (hbn.mono hb.size)).trans ⟨rfl, rfl, rfl, Nat.le_refl _, fun _ _ => rfl⟩⟩
      case measure => simp [intOf]; omega
    · obtain rfl : k = L.length := by omega
      clear hk hlt hown hLb hIs hI0 hLn hb3 hW hb
      have hW := hWr
      clear hWr
      have hmf : ∀ (fn : Fn) (first cap : Array Value) (w : World), (Instr.makeFunc fn first cap).run Tryz.prog w = .ok (.func fn first cap) w := fun _ _ _ _ => rfl
      have hG : Hid (un32 ((wordG 12 ⟨pc, p3, p7⟩ ⟨op, rd, r1, r2, imm, aq, rl, pred, succ⟩).setWidth 32) = un32 ((Put (Put (Put (Put (Put (R L.length) 12 3 (bv p3)) 7 5 (bv rd)) 15 5 (bv r1)) 20 5 (bv r2)) 25 7 (bv p7 ||| mk64 aq <<< 1 ||| mk64 rl)).setWidth 32)) := Lib.hid (by rw [← hLm.out]; rfl)
      clear hLm
      go_wp2_with (first | (go_at_call 103; (with_reducible refine (Has1 false (by decide) hW).mono ?_); rintro e wh ⟨rfl, hW2⟩; clear hW; have hW := hW2; clear hW2; have x0 := hW.fl.aF3; have x1 := hW.fl.nF3; have x2 := hW.p1) | (go_at_call 103; (with_reducible refine (Has2 true (by decide) hW).mono ?_); rintro e wh ⟨rfl, hW2⟩; clear hW; have hW := hW2; clear hW2; have y0 := hW.fl.aRd; have y1 := hW.fl.nRd; have y2 := hW.i1) | (go_at_call 103; (with_reducible refine (Has3 true (by decide) hW).mono ?_); rintro e wh ⟨rfl, hW2⟩; clear hW; have hW := hW2; clear hW2; have f0 := hW.f0; have v0 := hW.fl.aRs1; have v1 := hW.fl.nRs1; have v2 := hW.i2; have z0 := hW.fl.aRs2; have z1 := hW.fl.nRs2; have z2 := hW.i3) | (go_at_call 104; (with_reducible refine (Fput_any _ _ _ _ _).mono ?_); rintro e wp ⟨rfl, hb2⟩; have hW2 := hW.keep hb2; clear hb2 hW; have hW := hW2; clear hW2; have f0 := hW.f0; have z0 := hW.fl.aRs2; have z1 := hW.fl.nRs2; have z2 := hW.i3))
      refine wp_region_held_drew (S := fun W => CF w w.heap.size P F op rd r1 r2 imm aq rl pred succ ⟨pc, p3, p7⟩ 12 W) (by kernel_rfl) hW.drew (fun hHeld => ?_)
      refine wpAnyH_take (i := 0) (v := .agg #[.int .i64 25, .int .i64 7]) rfl (by kernel_rfl) (by kernel_rfl) (by kernel_rfl) (fun _ _ _ h => h) (Or.inl ⟨by rfl, fun W hS => by (have k0 : W.cell? ⟨4, 0, none⟩ = some (.int .i64 25) := hS.fl.aF7; have k1 : W.cell? ⟨4, 1, none⟩ = some (.int .i64 7) := hS.fl.nF7; go_simp)⟩) hHeld ?_
      try simp only [Act.put, List.getElem_toArray, List.getElem_cons_zero, List.setIfInBounds_toArray, List.set_cons_zero, List.set_cons_succ]
      refine wpAnyH_take (i := 1) (v := .agg #[.int .i64 20, .int .i64 5]) rfl (by kernel_rfl) (by kernel_rfl) (by kernel_rfl) (fun _ _ _ h => h) (Or.inl ⟨by rfl, fun W hS => by (have k0 : W.cell? ⟨3, 0, none⟩ = some (.int .i64 20) := hS.fl.aRs2; have k1 : W.cell? ⟨3, 1, none⟩ = some (.int .i64 5) := hS.fl.nRs2; go_simp)⟩) hHeld ?_
      try simp only [Act.put, List.getElem_toArray, List.getElem_cons_succ, List.getElem_cons_zero, List.setIfInBounds_toArray, List.set_cons_zero, List.set_cons_succ]
      refine tkS 2 (.int .u64 (un (Put (Put (Put (R L.length) 12 3 (bv p3)) 7 5 (bv rd)) 15 5 (bv r1)))) hHeld ?_
      try simp only [Act.put, List.getElem_toArray, List.getElem_cons_succ, List.getElem_cons_zero, List.setIfInBounds_toArray, List.set_cons_zero, List.set_cons_succ]
      refine tkS 3 (.pointer (some ⟨w.heap.size, 3, none⟩)) hHeld ?_
      try simp only [Act.put, List.getElem_toArray, List.getElem_cons_succ, List.getElem_cons_zero, List.setIfInBounds_toArray, List.set_cons_zero, List.set_cons_succ]
      refine wpAnyH_take (i := 4) (v := .int .i64 r2) rfl (by kernel_rfl) (by kernel_rfl) (by kernel_rfl) (fun _ _ _ h => h) (Or.inl ⟨by rfl, fun W hS => by (have k : W.cell? ⟨w.heap.size, 3, none⟩ = some (.int .i64 r2) := hS.i3); go_simp⟩) hHeld ?_
      try simp only [Act.put, List.getElem_toArray, List.getElem_cons_succ, List.getElem_cons_zero, List.setIfInBounds_toArray, List.set_cons_zero, List.set_cons_succ]
      refine tkS 6 (.pointer (some ⟨P, 2, none⟩)) hHeld ?_
      try simp only [Act.put, List.getElem_toArray, List.getElem_cons_succ, List.getElem_cons_zero, List.setIfInBounds_toArray, List.set_cons_zero, List.set_cons_succ]
      refine wpAnyH_take (i := 7) (v := .int .i64 p7) rfl (by kernel_rfl) (by kernel_rfl) (by kernel_rfl) (fun _ _ _ h => h) (Or.inl ⟨by rfl, fun W hS => by (have k : W.cell? ⟨P, 2, none⟩ = some (.int .i64 p7) := hS.p2); go_simp⟩) hHeld ?_
      try simp only [Act.put, List.getElem_toArray, List.getElem_cons_succ, List.getElem_cons_zero, List.setIfInBounds_toArray, List.set_cons_zero, List.set_cons_succ]
      refine tkS 8 (.pointer (some ⟨w.heap.size, 5, none⟩)) hHeld ?_
      try simp only [Act.put, List.getElem_toArray, List.getElem_cons_succ, List.getElem_cons_zero, List.setIfInBounds_toArray, List.set_cons_zero, List.set_cons_succ]
      refine wpAnyH_take (i := 9) (v := .bool aq) rfl (by kernel_rfl) (by kernel_rfl) (by kernel_rfl) (fun _ _ _ h => h) (Or.inl ⟨by rfl, fun W hS => by (have k : W.cell? ⟨w.heap.size, 5, none⟩ = some (.bool aq) := hS.i5); go_simp⟩) hHeld ?_
      try simp only [Act.put, List.getElem_toArray, List.getElem_cons_succ, List.getElem_cons_zero, List.setIfInBounds_toArray, List.set_cons_zero, List.set_cons_succ]
      refine tkS 13 (.pointer (some ⟨w.heap.size, 6, none⟩)) hHeld ?_
      try simp only [Act.put, List.getElem_toArray, List.getElem_cons_succ, List.getElem_cons_zero, List.setIfInBounds_toArray, List.set_cons_zero, List.set_cons_succ]
      refine wpAnyH_take (i := 14) (v := .bool rl) rfl (by kernel_rfl) (by kernel_rfl) (by kernel_rfl) (fun _ _ _ h => h) (Or.inl ⟨by rfl, fun W hS => by (have k : W.cell? ⟨w.heap.size, 6, none⟩ = some (.bool rl) := hS.i6); go_simp⟩) hHeld ?_
      try simp only [Act.put, List.getElem_toArray, List.getElem_cons_succ, List.getElem_cons_zero, List.setIfInBounds_toArray, List.set_cons_zero, List.set_cons_succ]
      refine wpAnyH_ready (rs := [5]) (by kernel_rfl) (by simp) (AllReadyH.cons rfl (fun K hK2 => ?_) AllReadyH.nil)
      rw [if_pos (by rfl)]
      simp only [List.getElem_toArray, List.getElem_cons_succ, List.getElem_cons_zero]
      go_wp2_with (go_at_call 104; refine (Fput_any _ _ _ _ _).mono ?_; rintro e wb ⟨rfl, hbb⟩)
      refine hK2.out _ _ (hHeld.keep hbb) (fun hHeld2 => ?_)
      clear hK2 K hHeld
      have hHeld := hHeld2
      clear hHeld2
      try simp only [Act.put, List.getElem_toArray, List.getElem_cons_succ, List.getElem_cons_zero, List.setIfInBounds_toArray, List.set_cons_zero, List.set_cons_succ]
      clear hbb
      refine wpAnyH_ready (rs := [10]) (by kernel_rfl) (by simp) (AllReadyH.cons rfl (fun K hK2 => ?_) AllReadyH.nil)
      rw [if_pos (by rfl)]
      simp only [List.getElem_toArray, List.getElem_cons_succ, List.getElem_cons_zero]
      go_wp2_with (go_at_call 105; refine (MarkS_any aq _).mono ?_; rintro e wb ⟨rfl, rfl⟩)
      refine hK2.out _ _ (hHeld) (fun hHeld2 => ?_)
      clear hK2 K hHeld
      have hHeld := hHeld2
      clear hHeld2
      try simp only [Act.put, List.getElem_toArray, List.getElem_cons_succ, List.getElem_cons_zero, List.setIfInBounds_toArray, List.set_cons_zero, List.set_cons_succ]
      refine wpAnyH_take (i := 11) (v := .int .i64 (sn (mk64 aq <<< 1))) rfl (by kernel_rfl) (by kernel_rfl) (by kernel_rfl) (fun _ _ _ h => h) (Or.inl ⟨by rfl, fun W _ => by (have k := shl_mk aq; go_simp)⟩) hHeld ?_
      try simp only [Act.put, List.getElem_toArray, List.getElem_cons_succ, List.getElem_cons_zero, List.setIfInBounds_toArray, List.set_cons_zero, List.set_cons_succ]
      refine tkG 12 (.int .i64 (sn (bv p7 ||| mk64 aq <<< 1))) hHeld ?_
      try simp only [Act.put, List.getElem_toArray, List.getElem_cons_succ, List.getElem_cons_zero, List.setIfInBounds_toArray, List.set_cons_zero, List.set_cons_succ]
      refine wpAnyH_ready (rs := [15]) (by kernel_rfl) (by simp) (AllReadyH.cons rfl (fun K hK2 => ?_) AllReadyH.nil)
      rw [if_pos (by rfl)]
      simp only [List.getElem_toArray, List.getElem_cons_succ, List.getElem_cons_zero]
      go_wp2_with (go_at_call 105; refine (MarkS_any rl _).mono ?_; rintro e wb ⟨rfl, rfl⟩)
      refine hK2.out _ _ (hHeld) (fun hHeld2 => ?_)
      clear hK2 K hHeld
      have hHeld := hHeld2
      clear hHeld2
      try simp only [Act.put, List.getElem_toArray, List.getElem_cons_succ, List.getElem_cons_zero, List.setIfInBounds_toArray, List.set_cons_zero, List.set_cons_succ]
      refine tkG 16 (.int .i64 (sn (bv p7 ||| mk64 aq <<< 1 ||| mk64 rl))) hHeld ?_
      try simp only [Act.put, List.getElem_toArray, List.getElem_cons_succ, List.getElem_cons_zero, List.setIfInBounds_toArray, List.set_cons_zero, List.set_cons_succ]
      refine wpAnyH_ready (rs := [17]) (by kernel_rfl) (by simp) (AllReadyH.cons rfl (fun K hK2 => ?_) AllReadyH.nil)
      rw [if_pos (by rfl)]
      simp only [List.getElem_toArray, List.getElem_cons_succ, List.getElem_cons_zero]
      go_wp2_with (go_at_call 104; refine (Fput_any _ _ _ _ _).mono ?_; rintro e wb ⟨rfl, hbb⟩)
      refine hK2.out _ _ (hHeld.keep hbb) (fun hHeld2 => ?_)
      clear hK2 K hHeld
      have hHeld := hHeld2
      clear hHeld2
      try simp only [Act.put, List.getElem_toArray, List.getElem_cons_succ, List.getElem_cons_zero, List.setIfInBounds_toArray, List.set_cons_zero, List.set_cons_succ]
      clear hbb
      refine tkS 18 (.int .u64 (un (Put (Put (Put (Put (Put (R L.length) 12 3 (bv p3)) 7 5 (bv rd)) 15 5 (bv r1)) 20 5 (bv r2)) 25 7 (bv p7 ||| mk64 aq <<< 1 ||| mk64 rl)))) hHeld ?_
      try simp only [Act.put, List.getElem_toArray, List.getElem_cons_succ, List.getElem_cons_zero, List.setIfInBounds_toArray, List.set_cons_zero, List.set_cons_succ]
      refine wpAnyH_done (by kernel_rfl) ?_ _
      have hW := hHeld
      clear hHeld
      go_wp2_with fail
      go_ret2
      rw [hG.out]
      exact ⟨rfl, hW.bl⟩
end
end Go.Proofs.YtcgflnkgekkidaaGreatDoor
namespace Go.Proofs.YtcgflnkgekkidaaGreatDoor
open Go.RowKit
theorem cellR (w : World) (cs : Array Value) (t : TypeId) : (w.alloc (.cells cs t)).rangeAt w.heap.size 0 cs.toList := fun j v hv => by
  rw [World.cell?_alloc_new, Nat.zero_add]; simpa using hv
set_option maxRecDepth 100000 in
set_option maxHeartbeats 4000000 in
theorem TWord_no (b : Nat) (op rd r1 r2 imm : Int) (aq rl : Bool) (pred succ : Int) (w : World) (hck : checkE ⟨op, rd, r1, r2, imm, aq, rl, pred, succ⟩ = 2) (hop : op ≤ 9223372036854775807) (ht : Tabs w) :
    Calls Tryz.prog 76 #[.map (some b), .agg #[.int .i64 op, .int .i64 rd, .int .i64 r1, .int .i64 r2, .int .i64 imm, .bool aq, .bool rl, .int .i64 pred, .int .i64 succ]] w fun e w' => e = .returned (.tuple #[.int .u32 0, .int .i64 2]) ∧ Below w.heap.size w w' := by
  have hC := Lib.hid (fun W hT => Check_any ⟨op, rd, r1, r2, imm, aq, rl, pred, succ⟩ hop W hT)
  rw [hck] at hC
  have hbw : Below w.heap.size w (w.alloc (.cells #[.int .i64 op, .int .i64 rd, .int .i64 r1, .int .i64 r2, .int .i64 imm, .bool aq, .bool rl, .int .i64 pred, .int .i64 succ] 26)) := (Below.refl _ _).alloc (Nat.le_refl _) _
  clear hck hop
  go_enter Tryz.func76, Tryz.ntmps76
  go_wp2_with (go_at_call 90; refine (hC.out _ (ht.later hbw (Nat.le_refl _))).mono ?_; rintro e w1 ⟨rfl, hb1⟩)
  go_ret2
  exact ⟨rfl, hbw.trans (hb1.mono hbw.size)⟩
theorem TWord_any (b n : Nat) (T : Int → PartV) (i : InsnV) (w : World) (hT : TM w b n T) (hlo : -9223372036854775808 ≤ i.op) (hop : i.op ≤ 9223372036854775807) (ht : Tabs w) (hfl : Flds w) :
    Calls Tryz.prog 76 #[.map (some b), .agg i.cells] w fun e w' => e = .returned (.tuple #[.int .u32 (un32 (wordT T i)), .int .i64 (checkE i)]) ∧ Below w.heap.size w w' := by
  by_cases hc : checkE i = 0
  · have hw : wordT T i = (wordG (opOf i.op).form (T i.op) i).setWidth 32 := if_pos hc
    rw [hw, hc]
    obtain ⟨-, -, -, -, -, -, h1, h2⟩ := ok_facts i hc
    obtain ⟨op, rd, r1, r2, imm, aq, rl, pred, succ⟩ := i
    simp only at h1 h2 hlo hop
    rcases (show (opOf op).form = 1 ∨ (opOf op).form = 2 ∨ (opOf op).form = 3 ∨ (opOf op).form = 4 ∨ (opOf op).form = 5 ∨ (opOf op).form = 6 ∨ (opOf op).form = 7 ∨ (opOf op).form = 8 ∨ (opOf op).form = 9 ∨ (opOf op).form = 10 ∨ (opOf op).form = 11 ∨ (opOf op).form = 12 by omega) with hf | hf | hf | hf | hf | hf | hf | hf | hf | hf | hf | hf
    · rw [hf]; exact TWord_1 b n T _ _ _ op rd r1 r2 imm aq rl pred succ w hT rfl hf hc hlo hop ht hfl
    · rw [hf]; exact TWord_2 b n T _ _ _ op rd r1 r2 imm aq rl pred succ w hT rfl hf hc hlo hop ht hfl
    · rw [hf]; exact TWord_3 b n T _ _ _ op rd r1 r2 imm aq rl pred succ w hT rfl hf hc hlo hop ht hfl
    · rw [hf]; exact TWord_4 b n T _ _ _ op rd r1 r2 imm aq rl pred succ w hT rfl hf hc hlo hop ht hfl
    · rw [hf]; exact TWord_5 b n T _ _ _ op rd r1 r2 imm aq rl pred succ w hT rfl hf hc hlo hop ht hfl
    · rw [hf]; exact TWord_6 b n T _ _ _ op rd r1 r2 imm aq rl pred succ w hT rfl hf hc hlo hop ht hfl
    · rw [hf]; exact TWord_7 b n T _ _ _ op rd r1 r2 imm aq rl pred succ w hT rfl hf hc hlo hop ht hfl
    · rw [hf]; exact TWord_8 b n T _ _ _ op rd r1 r2 imm aq rl pred succ w hT rfl hf hc hlo hop ht hfl
    · rw [hf]; exact TWord_9 b n T _ _ _ op rd r1 r2 imm aq rl pred succ w hT rfl hf hc hlo hop ht hfl
    · rw [hf]; exact TWord_10 b n T _ _ _ op rd r1 r2 imm aq rl pred succ w hT rfl hf hc hlo hop ht hfl
    · rw [hf]; exact TWord_11 b n T _ _ _ op rd r1 r2 imm aq rl pred succ w hT rfl hf hc hlo hop ht hfl
    · rw [hf]; exact TWord_12 b n T _ _ _ op rd r1 r2 imm aq rl pred succ w hT rfl hf hc hlo hop ht hfl
  · have hw : wordT T i = 0#32 := if_neg hc
    have h2 : checkE i = 2 := by unfold checkE at hc ⊢; cases hk : checkOk i <;> simp_all
    rw [hw, h2]
    obtain ⟨op, rd, r1, r2, imm, aq, rl, pred, succ⟩ := i
    exact TWord_no b op rd r1 r2 imm aq rl pred succ w h2 hop ht
set_option maxRecDepth 100000 in
set_option maxHeartbeats 4000000 in
theorem CodeWord_any (i : InsnV) (w : World) (hlo : -9223372036854775808 ≤ i.op) (hop : i.op ≤ 9223372036854775807) (ht : Tabs w) (hfl : Flds w) :
    Calls Tryz.prog 42 #[.agg i.cells] w fun e w' => e = .returned (.tuple #[.int .u32 (un32 (wordV i)), .int .i64 (checkE i)]) ∧ Below w.heap.size w w' := by
  have hu := Tryz.underlying26
  have hi : Hid ((Tryz.prog.info? 26).map (·.size) = some i.cells.toList.length) := Lib.hid (by rw [show i.cells.toList.length = 9 from rfl]; kernel_rfl)
  obtain ⟨x, hx⟩ : ∃ x, un32 (wordV i) = x := ⟨_, rfl⟩
  obtain ⟨ce, hce⟩ : ∃ c, checkE i = c := ⟨_, rfl⟩
  have hWd : Hid (∀ (W : World) (b : Nat), TM W b 200 madeT → Tabs W → Flds W → Calls Tryz.prog 76 #[.map (some b), .agg i.cells.toList.toArray] W fun e w' => e = .returned (.tuple #[.int .u32 x, .int .i64 ce]) ∧ Below W.heap.size W w') := Lib.hid fun W b hT h1 h2 => by
    rw [Array.toArray_toList, ← hx, ← hce]; exact TWord_any b 200 madeT i W hT hlo hop h1 h2
  rw [hx, hce]
  have hR0 : (w.alloc (.cells i.cells 26)).rangeAt w.heap.size 0 i.cells.toList ∧ Below w.heap.size w (w.alloc (.cells i.cells 26)) ∧ w.heap.size < (w.alloc (.cells i.cells 26)).heap.size := ⟨cellR w i.cells 26, (Below.refl _ _).alloc (Nat.le_refl _) _, by simp⟩
  clear hx hce hlo hop
  obtain ⟨IL, hIL⟩ : ∃ l, i.cells.toList = l := ⟨_, rfl⟩
  rw [hIL] at hi hWd hR0
  clear hIL
  go_enter Tryz.func42, Tryz.ntmps42
  go_upto_region 1 with fail
  refine wp_region_held_drew (S := fun W => W.rangeAt w.heap.size 0 IL ∧ Below w.heap.size w W ∧ w.heap.size < W.heap.size) (by kernel_rfl) ⟨fun j v hv => hR0.1 j v hv, hR0.2.1.drew, hR0.2.2⟩ (fun hHeld => ?_)
  refine wpAnyH_take (i := 1) rfl (by kernel_rfl) (by kernel_rfl) (by kernel_rfl) (fun _ _ _ h => h) (yieldsIf_load_mid (by rfl) _ _ rfl w.heap.size 0 rfl IL _ (fun W hS => hS.1) hu rfl hi.out) hHeld ?_
  try simp only [Act.put, List.getElem_toArray, List.getElem_cons_succ, List.getElem_cons_zero, List.setIfInBounds_toArray, List.set_cons_zero, List.set_cons_succ]
  generalize World.drew _ = W0 at hHeld ⊢
  refine wpAnyH_ready (rs := [0]) (by kernel_rfl) (by simp) (AllReadyH.cons rfl (fun K hK2 => ?_) AllReadyH.nil)
  rw [if_pos (by rfl)]
  simp only [List.getElem_toArray, List.getElem_cons_succ, List.getElem_cons_zero]
  go_wp2_with (go_at_call 75; refine (Made_any _).mono ?_; rintro e w1 ⟨rfl, hTm, hb1⟩)
  refine hK2.out _ _ (⟨fun j v hv => by rw [hb1.cell (p := ⟨w.heap.size, 0 + j, none⟩) hHeld.2.2]; exact hHeld.1 j v hv, hHeld.2.1.trans (hb1.mono hHeld.2.1.size), Nat.lt_of_lt_of_le hHeld.2.2 hb1.size⟩) (fun hHeld2 => ?_)
  clear hK2 K hHeld
  have hHeld := hHeld2
  clear hHeld2
  try simp only [Act.put, List.getElem_toArray, List.getElem_cons_succ, List.getElem_cons_zero, List.setIfInBounds_toArray, List.set_cons_zero, List.set_cons_succ]
  refine wpAnyH_ready (rs := [2]) (by kernel_rfl) (by simp) (AllReadyH.cons rfl (fun K hK2 => ?_) AllReadyH.nil)
  rw [if_pos (by rfl)]
  simp only [List.getElem_toArray, List.getElem_cons_succ, List.getElem_cons_zero]
  go_wp2_with (go_at_call 76; refine (hWd.out _ _ hTm (ht.later hHeld.2.1 (Nat.le_refl _)) (hfl.later hHeld.2.1)).mono ?_; rintro e w2 ⟨rfl, hb2⟩)
  refine hK2.out _ _ (⟨fun j v hv => by rw [hb2.cell (p := ⟨w.heap.size, 0 + j, none⟩) hHeld.2.2]; exact hHeld.1 j v hv, hHeld.2.1.trans (hb2.mono hHeld.2.1.size), Nat.lt_of_lt_of_le hHeld.2.2 hb2.size⟩) (fun hHeld2 => ?_)
  clear hK2 K hHeld
  have hHeld := hHeld2
  clear hHeld2
  try simp only [Act.put, List.getElem_toArray, List.getElem_cons_succ, List.getElem_cons_zero, List.setIfInBounds_toArray, List.set_cons_zero, List.set_cons_succ]
  refine tkS 3 (.int .u32 x) hHeld ?_
  try simp only [Act.put, List.getElem_toArray, List.getElem_cons_succ, List.getElem_cons_zero, List.setIfInBounds_toArray, List.set_cons_zero, List.set_cons_succ]
  refine tkS 4 (.int .i64 ce) hHeld ?_
  try simp only [Act.put, List.getElem_toArray, List.getElem_cons_succ, List.getElem_cons_zero, List.setIfInBounds_toArray, List.set_cons_zero, List.set_cons_succ]
  refine tkS 5 (.int .u32 x) hHeld ?_
  try simp only [Act.put, List.getElem_toArray, List.getElem_cons_succ, List.getElem_cons_zero, List.setIfInBounds_toArray, List.set_cons_zero, List.set_cons_succ]
  refine tkS 6 (.int .i64 ce) hHeld ?_
  try simp only [Act.put, List.getElem_toArray, List.getElem_cons_succ, List.getElem_cons_zero, List.setIfInBounds_toArray, List.set_cons_zero, List.set_cons_succ]
  refine wpAnyH_done (by kernel_rfl) ?_ _
  go_wp2_with fail
  go_ret2
  exact ⟨rfl, hHeld.2.1⟩
end Go.Proofs.YtcgflnkgekkidaaGreatDoor
namespace Go.Proofs.YtcgflnkgekkidaaGreatDoor
open Go.RowKit
theorem checkE_02 (i : InsnV) : checkE i = 0 ∨ checkE i = 2 := by unfold checkE; split <;> simp
theorem cells_fresh (w : World) (cs : Array Value) (t : TypeId) (n : Nat) (hn : n ≤ cs.size) : (w.alloc (.cells cs t)).there w.heap.size 0 n := fun j hj => by
  refine ⟨?_, fresh_thawR w cs t _⟩
  rw [World.cell?_alloc_new, Nat.zero_add, Array.getElem?_eq_getElem (by omega)]; rfl
theorem stored_insn (s : World) (cs : List Value) (hl : cs.length = 9) (Z : Array Value) (hZ : Z.size = 9) (t : TypeId) : Below s.heap.size s (World.setCells (s.alloc (.cells Z t)) s.heap.size 0 cs) ∧ (World.setCells (s.alloc (.cells Z t)) s.heap.size 0 cs).rangeAt s.heap.size 0 cs ∧ s.heap.size < (World.setCells (s.alloc (.cells Z t)) s.heap.size 0 cs).heap.size := by
  have hal : Below s.heap.size s (s.alloc (.cells Z t)) := (Below.refl _ _).alloc (Nat.le_refl _) _
  exact ⟨below_cells (Nat.le_refl s.heap.size) cs 0 _ hal, World.rangeAt_setCells_same _ s.heap.size 0 cs (by rw [hl]; exact cells_fresh s Z t 9 (by omega)), Nat.lt_of_lt_of_le (show s.heap.size < (s.alloc (.cells Z t)).heap.size by simp) (below_cells (Nat.zero_le _) cs 0 _ (Below.refl 0 _)).size⟩
theorem range_on {w w' : World} {b B : Nat} {cs : List Value} (hr : w.rangeAt b 0 cs) (hB : b < B) (hb : Below B w w') : w'.rangeAt b 0 cs := fun j v hv => by
  rw [hb.cell (p := ⟨b, 0 + j, none⟩) hB]; exact hr j v hv
/-- A copy of an instruction, just laid. -/
theorem copied {s : World} {cs : List Value} (hl : cs.length = 9) (Z : Array Value) (hZ : Z.size = 9) (t : TypeId) : Below s.heap.size s (World.setCells (s.alloc (.cells Z t)) s.heap.size 0 cs) ∧ (World.setCells (s.alloc (.cells Z t)) s.heap.size 0 cs).rangeAt s.heap.size 0 cs ∧ s.heap.size < (World.setCells (s.alloc (.cells Z t)) s.heap.size 0 cs).heap.size ∧ (World.setCells (s.alloc (.cells Z t)) s.heap.size 0 cs).there s.heap.size 0 9 := by
  obtain ⟨a, b, c⟩ := stored_insn s cs hl Z hZ t
  exact ⟨a, b, c, World.there_setCells (cells_fresh s Z t 9 (by omega)) _ _ _⟩
theorem there_thaw {w : World} {b n : Nat} (h : w.there b 0 n) (j : Nat) (hj : j < n) : w.frozen? ⟨b, j, none⟩ = false := by have := (h j hj).2; rwa [Nat.zero_add] at this
theorem InsnV.list_len (i : InsnV) : i.cells.toList.length = 9 := rfl
theorem size_insn (i : InsnV) : (Tryz.prog.info? 26).map (·.size) = some i.cells.toList.length := by rw [i.list_len]; kernel_rfl
theorem InsnV.list_one (i : InsnV) : i.cells.toList.toArray.all (·.oneCell') = true := by rw [Array.toArray_toList]; exact i.one
/-- Word at a list of cells. -/
theorem word_list (i : InsnV) (hlo : -9223372036854775808 ≤ i.op) (hop : i.op ≤ 9223372036854775807) (W : World) (ht : Tabs W) (hfl : Flds W) : Calls Tryz.prog 42 #[.agg i.cells.toList.toArray] W fun e w' => e = .returned (.tuple #[.int .u32 (un32 (wordV i)), .int .i64 (checkE i)]) ∧ Below W.heap.size W w' := by
  rw [Array.toArray_toList]; exact CodeWord_any i W hlo hop ht hfl
end Go.Proofs.YtcgflnkgekkidaaGreatDoor
