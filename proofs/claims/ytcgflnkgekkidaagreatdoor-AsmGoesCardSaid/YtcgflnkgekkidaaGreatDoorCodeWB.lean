/- The walk of package code's word at form 5. The walk of package code's word at form 6. The walk of package code's word at form 7. The walk of package code's word at form 8. Conditions: as each theorem says. -/
import Derived.Test.YtcgflnkgekkidaaGreatDoorCodeB
import Derived.Test.YtcgflnkgekkidaaGreatDoorInsnDf
namespace Go.Proofs.YtcgflnkgekkidaaGreatDoor
open Go.RowKit
attribute [local go_sem] wrap_u64_bv bv_un bv_sn wrap_u32_un bits_u64_or bits_i64_or mul_bvpow shl_min bv_0 bv_1 wrap_i64_un
section
attribute [local irreducible] un sn un32 checkE Put Part
set_option maxRecDepth 100000 in
set_option maxHeartbeats 8000000 in
theorem TWord_5 (b n : Nat) (T : Int → PartV) (pc p3 p7 : Int) (op rd r1 r2 imm : Int) (aq rl : Bool) (pred succ : Int) (w : World) (hT : TM w b n T) (hp : T op = ⟨pc, p3, p7⟩) (hf : (opOf op).form = 5) (hck : checkE ⟨op, rd, r1, r2, imm, aq, rl, pred, succ⟩ = 0) (hlo : -9223372036854775808 ≤ op) (hop : op ≤ 9223372036854775807) (ht : Tabs w) (hfl : Flds w) :
    Calls Tryz.prog 76 #[.map (some b), .agg #[.int .i64 op, .int .i64 rd, .int .i64 r1, .int .i64 r2, .int .i64 imm, .bool aq, .bool rl, .int .i64 pred, .int .i64 succ]] w fun e w' => e = .returned (.tuple #[.int .u32 (un32 ((wordG 5 ⟨pc, p3, p7⟩ ⟨op, rd, r1, r2, imm, aq, rl, pred, succ⟩).setWidth 32)), .int .i64 0]) ∧ Below w.heap.size w w' := by
  have hC := Lib.hid (fun W hT => Check_any ⟨op, rd, r1, r2, imm, aq, rl, pred, succ⟩ hop W hT)
  rw [hck] at hC
  have hF := Lib.hid (fun W hT => Form_any op hop W hT)
  rw [hf] at hF
  have hL := Lib.hid (fun W => Layout_any 5 W)
  have hwf : (Lit.int .i64 op).wf = true := WalkArith.wf_i64 ⟨hlo, hop⟩
  replace hp := Lib.hid hp
  replace hwf := Lib.hid hwf
  clear hck hf hlo hop
  have hbw : Below w.heap.size w (w.alloc (.cells #[.int .i64 op, .int .i64 rd, .int .i64 r1, .int .i64 r2, .int .i64 imm, .bool aq, .bool rl, .int .i64 pred, .int .i64 succ] 26)) := (Below.refl _ _).alloc (Nat.le_refl _) _
  go_enter Tryz.func76, Tryz.ntmps76
  go_upto_region 6 with (first | (go_at_call 90; refine (hC.out _ (ht.later hbw (Nat.le_refl _))).mono ?_; rintro e w1 ⟨rfl, hb1⟩; obtain ⟨i0, i1, i2, i3, i4, i5, i6, i7, i8⟩ := box9 hb1; have hT1 := (hT.alloc _).keep hb1; have hb01 := hbw.trans (hb1.mono hbw.size); have ht1 := ht.later hb01 (Nat.le_refl _); have hs1 : w.heap.size < w1.heap.size := Nat.lt_of_lt_of_le (by simp) hb1.size; have hne1 : w.heap.size ≠ w1.heap.size := Nat.ne_of_lt hs1) | (at_lookup; refine wpList_tm_get rfl _ _ rfl Tryz.underlying112 b n T rfl hT1 op rfl hwf.out ?_; rw [hp.out]; simp only [PartV.cells]) | (go_at_call 89; refine (hF.out _ (ht1.later ((Below.refl _ _).alloc (Nat.le_refl _) _) (Nat.le_refl _))).mono ?_; rintro e w2 ⟨rfl, hb2⟩; obtain ⟨p0, p1, p2⟩ := box3 hb2))
  have hW := CF.start (p := ⟨pc, p3, p7⟩) (f := 5) (t3 := 3) hfl hb1 hb2
  clear p0 p1 p2 hb2 i0 i1 i2 i3 i4 i5 i6 i7 i8 hT1 hT hb01 ht1 hs1 hne1 hb1 hbw hC hF hp hwf ht hfl
  generalize w2.alloc _ = W3 at hW ⊢
  generalize w2.heap.size = F at hW ⊢
  generalize w1.heap.size = P at hW ⊢
  clear w1 w2
  have p0 := hW.p0
  have f0 := hW.f0
  obtain ⟨L, hLd⟩ : ∃ L, L = pieces 5 := ⟨_, rfl⟩
  have hLb := pieces_bd 5
  have hLn : (pieces 5).length ≤ 4 := by decide
  have hLm : Hid (immPut (bv imm) (pieces 5) (bv pc) (pieces 5).length = immPut (bv imm) L (bv pc) L.length) := Lib.hid (by rw [hLd])
  rw [← hLd] at hLb hLn
  replace hLd := Lib.hid hLd
  replace hLb := Lib.hid hLb
  go_upto_region 8 with (go_at_call 100; refine (hL.out _).mono ?_; rintro e w3 ⟨⟨v, rfl, hown⟩, hb3⟩; rw [← hLd.out] at hown; have hW := hW.keep hb3; obtain ⟨ao, cap, rfl⟩ := own_slice3 hown)
  clear hL hLd p0 f0
  go_wp2_with fail
  have hI0 : Hid (immPut (bv imm) L (bv pc) 0 = bv pc) := Lib.hid rfl
  have hIs : Hid (∀ k : Nat, immPut (bv imm) L (bv pc) (k + 1) = Put (immPut (bv imm) L (bv pc) k) (L.getD k (0, 0, 0)).2.2 (L.getD k (0, 0, 0)).2.1 (Part (bv imm) (L.getD k (0, 0, 0)).1 (L.getD k (0, 0, 0)).2.1)) := Lib.hid fun _ => rfl
  generalize immPut (bv imm) L (bv pc) = R at hLm hI0 hIs
  go_loopw [9, 37] (fun s i wr => ∃ k : Nat, k ≤ L.length ∧ i = .int .i64 k ∧ s = .int .u64 (un (R k)) ∧ Below w3.heap.size w3 wr) (fun _ i _ => L.length - (intOf i).toNat)
  case atStart => exact ⟨0, Nat.zero_le _, rfl, by rw [hI0.out], Below.refl _ _⟩
  case round =>
    obtain ⟨k, hk, rfl, rfl, hb⟩ := hrel
    have hWr := hW.keep hb
    by_cases hlt : k < L.length
    · obtain ⟨g, rfl, c0, c1, c2⟩ := own_row3 (ownsRow_keep hown hb) rfl k hlt
      have hnx := Lib.hid (hIs.out k)
      have i4 := (hWr.keep ((Below.refl wr.heap.size wr).alloc (Nat.le_refl _) (.cells #[.int .i64 (L.getD k (0, 0, 0)).1, .int .i64 (L.getD k (0, 0, 0)).2.1, .int .i64 (L.getD k (0, 0, 0)).2.2] 145))).i4
      generalize (L.getD k (0, 0, 0)).1 = e0 at c0 hnx i4
      generalize (L.getD k (0, 0, 0)).2.1 = e1 at c1 hnx i4
      generalize (L.getD k (0, 0, 0)).2.2 = e2 at c2 hnx i4
      have hbn : Below wr.heap.size wr (wr.alloc (.cells #[.int .i64 e0, .int .i64 e1, .int .i64 e2] 145)) := (Below.refl wr.heap.size wr).alloc (Nat.le_refl _) _
      go_wp2_with fail
      go_quiet ((first | (go_at_call 102; exact quiet_same (Part_any _ _ _ _)) | (go_at_call 101; exact quiet_same (Put_any _ _ _ _ _))))
      go_wp2_with fail
      rw [← hnx.out]
      go_roundw
      case rel => exact ⟨k + 1, by omega, by go_num, rfl, (hb.trans (hbn.mono hb.size)).trans ⟨rfl, rfl, rfl, Nat.le_refl _, fun _ _ => rfl⟩⟩
      case measure => simp [intOf]; omega
    · obtain rfl : k = L.length := by omega
      clear hk hlt hown hLb hIs hI0 hLn hb3 hW hb
      have hW := hWr
      clear hWr
      have hmf : ∀ (fn : Fn) (first cap : Array Value) (w : World), (Instr.makeFunc fn first cap).run Tryz.prog w = .ok (.func fn first cap) w := fun _ _ _ _ => rfl
      have hG : Hid (un32 ((wordG 5 ⟨pc, p3, p7⟩ ⟨op, rd, r1, r2, imm, aq, rl, pred, succ⟩).setWidth 32) = un32 ((Put (Put (Put (R L.length) 12 3 (bv p3)) 15 5 (bv r1)) 20 5 (bv r2)).setWidth 32)) := Lib.hid (by rw [← hLm.out]; rfl)
      clear hLm
      go_wp2_with (first | (go_at_call 103; (with_reducible refine (Has1 false (by decide) hW).mono ?_); rintro e wh ⟨rfl, hW2⟩; clear hW; have hW := hW2; clear hW2; have x0 := hW.fl.aF3; have x1 := hW.fl.nF3; have x2 := hW.p1) | (go_at_call 103; (with_reducible refine (Has2 false (by decide) hW).mono ?_); rintro e wh ⟨rfl, hW2⟩; clear hW; have hW := hW2; clear hW2; have y0 := hW.fl.aRd; have y1 := hW.fl.nRd; have y2 := hW.i1) | (go_at_call 103; (with_reducible refine (Has3 true (by decide) hW).mono ?_); rintro e wh ⟨rfl, hW2⟩; clear hW; have hW := hW2; clear hW2; have f0 := hW.f0; have v0 := hW.fl.aRs1; have v1 := hW.fl.nRs1; have v2 := hW.i2; have z0 := hW.fl.aRs2; have z1 := hW.fl.nRs2; have z2 := hW.i3) | (go_at_call 104; (with_reducible refine (Fput_any _ _ _ _ _).mono ?_); rintro e wp ⟨rfl, hb2⟩; have hW2 := hW.keep hb2; clear hb2 hW; have hW := hW2; clear hW2; have f0 := hW.f0; have z0 := hW.fl.aRs2; have z1 := hW.fl.nRs2; have z2 := hW.i3))
      go_ret2
      rw [hG.out]
      exact ⟨rfl, hW.bl⟩
end
end Go.Proofs.YtcgflnkgekkidaaGreatDoor
namespace Go.Proofs.YtcgflnkgekkidaaGreatDoor
open Go.RowKit
attribute [local go_sem] wrap_u64_bv bv_un bv_sn wrap_u32_un bits_u64_or bits_i64_or mul_bvpow shl_min bv_0 bv_1 wrap_i64_un
section
attribute [local irreducible] un sn un32 checkE Put Part
set_option maxRecDepth 100000 in
set_option maxHeartbeats 8000000 in
theorem TWord_6 (b n : Nat) (T : Int → PartV) (pc p3 p7 : Int) (op rd r1 r2 imm : Int) (aq rl : Bool) (pred succ : Int) (w : World) (hT : TM w b n T) (hp : T op = ⟨pc, p3, p7⟩) (hf : (opOf op).form = 6) (hck : checkE ⟨op, rd, r1, r2, imm, aq, rl, pred, succ⟩ = 0) (hlo : -9223372036854775808 ≤ op) (hop : op ≤ 9223372036854775807) (ht : Tabs w) (hfl : Flds w) :
    Calls Tryz.prog 76 #[.map (some b), .agg #[.int .i64 op, .int .i64 rd, .int .i64 r1, .int .i64 r2, .int .i64 imm, .bool aq, .bool rl, .int .i64 pred, .int .i64 succ]] w fun e w' => e = .returned (.tuple #[.int .u32 (un32 ((wordG 6 ⟨pc, p3, p7⟩ ⟨op, rd, r1, r2, imm, aq, rl, pred, succ⟩).setWidth 32)), .int .i64 0]) ∧ Below w.heap.size w w' := by
  have hC := Lib.hid (fun W hT => Check_any ⟨op, rd, r1, r2, imm, aq, rl, pred, succ⟩ hop W hT)
  rw [hck] at hC
  have hF := Lib.hid (fun W hT => Form_any op hop W hT)
  rw [hf] at hF
  have hL := Lib.hid (fun W => Layout_any 6 W)
  have hwf : (Lit.int .i64 op).wf = true := WalkArith.wf_i64 ⟨hlo, hop⟩
  replace hp := Lib.hid hp
  replace hwf := Lib.hid hwf
  clear hck hf hlo hop
  have hbw : Below w.heap.size w (w.alloc (.cells #[.int .i64 op, .int .i64 rd, .int .i64 r1, .int .i64 r2, .int .i64 imm, .bool aq, .bool rl, .int .i64 pred, .int .i64 succ] 26)) := (Below.refl _ _).alloc (Nat.le_refl _) _
  go_enter Tryz.func76, Tryz.ntmps76
  go_upto_region 6 with (first | (go_at_call 90; refine (hC.out _ (ht.later hbw (Nat.le_refl _))).mono ?_; rintro e w1 ⟨rfl, hb1⟩; obtain ⟨i0, i1, i2, i3, i4, i5, i6, i7, i8⟩ := box9 hb1; have hT1 := (hT.alloc _).keep hb1; have hb01 := hbw.trans (hb1.mono hbw.size); have ht1 := ht.later hb01 (Nat.le_refl _); have hs1 : w.heap.size < w1.heap.size := Nat.lt_of_lt_of_le (by simp) hb1.size; have hne1 : w.heap.size ≠ w1.heap.size := Nat.ne_of_lt hs1) | (at_lookup; refine wpList_tm_get rfl _ _ rfl Tryz.underlying112 b n T rfl hT1 op rfl hwf.out ?_; rw [hp.out]; simp only [PartV.cells]) | (go_at_call 89; refine (hF.out _ (ht1.later ((Below.refl _ _).alloc (Nat.le_refl _) _) (Nat.le_refl _))).mono ?_; rintro e w2 ⟨rfl, hb2⟩; obtain ⟨p0, p1, p2⟩ := box3 hb2))
  have hW := CF.start (p := ⟨pc, p3, p7⟩) (f := 6) (t3 := 3) hfl hb1 hb2
  clear p0 p1 p2 hb2 i0 i1 i2 i3 i4 i5 i6 i7 i8 hT1 hT hb01 ht1 hs1 hne1 hb1 hbw hC hF hp hwf ht hfl
  generalize w2.alloc _ = W3 at hW ⊢
  generalize w2.heap.size = F at hW ⊢
  generalize w1.heap.size = P at hW ⊢
  clear w1 w2
  have p0 := hW.p0
  have f0 := hW.f0
  obtain ⟨L, hLd⟩ : ∃ L, L = pieces 6 := ⟨_, rfl⟩
  have hLb := pieces_bd 6
  have hLn : (pieces 6).length ≤ 4 := by decide
  have hLm : Hid (immPut (bv imm) (pieces 6) (bv pc) (pieces 6).length = immPut (bv imm) L (bv pc) L.length) := Lib.hid (by rw [hLd])
  rw [← hLd] at hLb hLn
  replace hLd := Lib.hid hLd
  replace hLb := Lib.hid hLb
  go_upto_region 8 with (go_at_call 100; refine (hL.out _).mono ?_; rintro e w3 ⟨⟨v, rfl, hown⟩, hb3⟩; rw [← hLd.out] at hown; have hW := hW.keep hb3; obtain ⟨ao, cap, rfl⟩ := own_slice3 hown)
  clear hL hLd p0 f0
  go_wp2_with fail
  have hI0 : Hid (immPut (bv imm) L (bv pc) 0 = bv pc) := Lib.hid rfl
  have hIs : Hid (∀ k : Nat, immPut (bv imm) L (bv pc) (k + 1) = Put (immPut (bv imm) L (bv pc) k) (L.getD k (0, 0, 0)).2.2 (L.getD k (0, 0, 0)).2.1 (Part (bv imm) (L.getD k (0, 0, 0)).1 (L.getD k (0, 0, 0)).2.1)) := Lib.hid fun _ => rfl
  generalize immPut (bv imm) L (bv pc) = R at hLm hI0 hIs
  go_loopw [9, 37] (fun s i wr => ∃ k : Nat, k ≤ L.length ∧ i = .int .i64 k ∧ s = .int .u64 (un (R k)) ∧ Below w3.heap.size w3 wr) (fun _ i _ => L.length - (intOf i).toNat)
  case atStart => exact ⟨0, Nat.zero_le _, rfl, by rw [hI0.out], Below.refl _ _⟩
  case round =>
    obtain ⟨k, hk, rfl, rfl, hb⟩ := hrel
    have hWr := hW.keep hb
    by_cases hlt : k < L.length
    · obtain ⟨g, rfl, c0, c1, c2⟩ := own_row3 (ownsRow_keep hown hb) rfl k hlt
      have hnx := Lib.hid (hIs.out k)
      have i4 := (hWr.keep ((Below.refl wr.heap.size wr).alloc (Nat.le_refl _) (.cells #[.int .i64 (L.getD k (0, 0, 0)).1, .int .i64 (L.getD k (0, 0, 0)).2.1, .int .i64 (L.getD k (0, 0, 0)).2.2] 145))).i4
      generalize (L.getD k (0, 0, 0)).1 = e0 at c0 hnx i4
      generalize (L.getD k (0, 0, 0)).2.1 = e1 at c1 hnx i4
      generalize (L.getD k (0, 0, 0)).2.2 = e2 at c2 hnx i4
      have hbn : Below wr.heap.size wr (wr.alloc (.cells #[.int .i64 e0, .int .i64 e1, .int .i64 e2] 145)) := (Below.refl wr.heap.size wr).alloc (Nat.le_refl _) _
      go_wp2_with fail
      go_quiet ((first | (go_at_call 102; exact quiet_same (Part_any _ _ _ _)) | (go_at_call 101; exact quiet_same (Put_any _ _ _ _ _))))
      go_wp2_with fail
      rw [← hnx.out]
      go_roundw
      case rel => exact ⟨k + 1, by omega, by go_num, rfl, (hb.trans (hbn.mono hb.size)).trans ⟨rfl, rfl, rfl, Nat.le_refl _, fun _ _ => rfl⟩⟩
      case measure => simp [intOf]; omega
    · obtain rfl : k = L.length := by omega
      clear hk hlt hown hLb hIs hI0 hLn hb3 hW hb
      have hW := hWr
      clear hWr
      have hmf : ∀ (fn : Fn) (first cap : Array Value) (w : World), (Instr.makeFunc fn first cap).run Tryz.prog w = .ok (.func fn first cap) w := fun _ _ _ _ => rfl
      have hG : Hid (un32 ((wordG 6 ⟨pc, p3, p7⟩ ⟨op, rd, r1, r2, imm, aq, rl, pred, succ⟩).setWidth 32) = un32 ((Put (Put (Put (R L.length) 12 3 (bv p3)) 15 5 (bv r1)) 20 5 (bv r2)).setWidth 32)) := Lib.hid (by rw [← hLm.out]; rfl)
      clear hLm
      go_wp2_with (first | (go_at_call 103; (with_reducible refine (Has1 false (by decide) hW).mono ?_); rintro e wh ⟨rfl, hW2⟩; clear hW; have hW := hW2; clear hW2; have x0 := hW.fl.aF3; have x1 := hW.fl.nF3; have x2 := hW.p1) | (go_at_call 103; (with_reducible refine (Has2 false (by decide) hW).mono ?_); rintro e wh ⟨rfl, hW2⟩; clear hW; have hW := hW2; clear hW2; have y0 := hW.fl.aRd; have y1 := hW.fl.nRd; have y2 := hW.i1) | (go_at_call 103; (with_reducible refine (Has3 true (by decide) hW).mono ?_); rintro e wh ⟨rfl, hW2⟩; clear hW; have hW := hW2; clear hW2; have f0 := hW.f0; have v0 := hW.fl.aRs1; have v1 := hW.fl.nRs1; have v2 := hW.i2; have z0 := hW.fl.aRs2; have z1 := hW.fl.nRs2; have z2 := hW.i3) | (go_at_call 104; (with_reducible refine (Fput_any _ _ _ _ _).mono ?_); rintro e wp ⟨rfl, hb2⟩; have hW2 := hW.keep hb2; clear hb2 hW; have hW := hW2; clear hW2; have f0 := hW.f0; have z0 := hW.fl.aRs2; have z1 := hW.fl.nRs2; have z2 := hW.i3))
      go_ret2
      rw [hG.out]
      exact ⟨rfl, hW.bl⟩
end
end Go.Proofs.YtcgflnkgekkidaaGreatDoor
namespace Go.Proofs.YtcgflnkgekkidaaGreatDoor
open Go.RowKit
attribute [local go_sem] wrap_u64_bv bv_un bv_sn wrap_u32_un bits_u64_or bits_i64_or mul_bvpow shl_min bv_0 bv_1 wrap_i64_un
section
attribute [local irreducible] un sn un32 checkE Put Part
set_option maxRecDepth 100000 in
set_option maxHeartbeats 8000000 in
theorem TWord_7 (b n : Nat) (T : Int → PartV) (pc p3 p7 : Int) (op rd r1 r2 imm : Int) (aq rl : Bool) (pred succ : Int) (w : World) (hT : TM w b n T) (hp : T op = ⟨pc, p3, p7⟩) (hf : (opOf op).form = 7) (hck : checkE ⟨op, rd, r1, r2, imm, aq, rl, pred, succ⟩ = 0) (hlo : -9223372036854775808 ≤ op) (hop : op ≤ 9223372036854775807) (ht : Tabs w) (hfl : Flds w) :
    Calls Tryz.prog 76 #[.map (some b), .agg #[.int .i64 op, .int .i64 rd, .int .i64 r1, .int .i64 r2, .int .i64 imm, .bool aq, .bool rl, .int .i64 pred, .int .i64 succ]] w fun e w' => e = .returned (.tuple #[.int .u32 (un32 ((wordG 7 ⟨pc, p3, p7⟩ ⟨op, rd, r1, r2, imm, aq, rl, pred, succ⟩).setWidth 32)), .int .i64 0]) ∧ Below w.heap.size w w' := by
  have hC := Lib.hid (fun W hT => Check_any ⟨op, rd, r1, r2, imm, aq, rl, pred, succ⟩ hop W hT)
  rw [hck] at hC
  have hF := Lib.hid (fun W hT => Form_any op hop W hT)
  rw [hf] at hF
  have hL := Lib.hid (fun W => Layout_any 7 W)
  have hwf : (Lit.int .i64 op).wf = true := WalkArith.wf_i64 ⟨hlo, hop⟩
  replace hp := Lib.hid hp
  replace hwf := Lib.hid hwf
  clear hck hf hlo hop
  have hbw : Below w.heap.size w (w.alloc (.cells #[.int .i64 op, .int .i64 rd, .int .i64 r1, .int .i64 r2, .int .i64 imm, .bool aq, .bool rl, .int .i64 pred, .int .i64 succ] 26)) := (Below.refl _ _).alloc (Nat.le_refl _) _
  go_enter Tryz.func76, Tryz.ntmps76
  go_upto_region 6 with (first | (go_at_call 90; refine (hC.out _ (ht.later hbw (Nat.le_refl _))).mono ?_; rintro e w1 ⟨rfl, hb1⟩; obtain ⟨i0, i1, i2, i3, i4, i5, i6, i7, i8⟩ := box9 hb1; have hT1 := (hT.alloc _).keep hb1; have hb01 := hbw.trans (hb1.mono hbw.size); have ht1 := ht.later hb01 (Nat.le_refl _); have hs1 : w.heap.size < w1.heap.size := Nat.lt_of_lt_of_le (by simp) hb1.size; have hne1 : w.heap.size ≠ w1.heap.size := Nat.ne_of_lt hs1) | (at_lookup; refine wpList_tm_get rfl _ _ rfl Tryz.underlying112 b n T rfl hT1 op rfl hwf.out ?_; rw [hp.out]; simp only [PartV.cells]) | (go_at_call 89; refine (hF.out _ (ht1.later ((Below.refl _ _).alloc (Nat.le_refl _) _) (Nat.le_refl _))).mono ?_; rintro e w2 ⟨rfl, hb2⟩; obtain ⟨p0, p1, p2⟩ := box3 hb2))
  have hW := CF.start (p := ⟨pc, p3, p7⟩) (f := 7) (t3 := 3) hfl hb1 hb2
  clear p0 p1 p2 hb2 i0 i1 i2 i3 i4 i5 i6 i7 i8 hT1 hT hb01 ht1 hs1 hne1 hb1 hbw hC hF hp hwf ht hfl
  generalize w2.alloc _ = W3 at hW ⊢
  generalize w2.heap.size = F at hW ⊢
  generalize w1.heap.size = P at hW ⊢
  clear w1 w2
  have p0 := hW.p0
  have f0 := hW.f0
  obtain ⟨L, hLd⟩ : ∃ L, L = pieces 7 := ⟨_, rfl⟩
  have hLb := pieces_bd 7
  have hLn : (pieces 7).length ≤ 4 := by decide
  have hLm : Hid (immPut (bv imm) (pieces 7) (bv pc) (pieces 7).length = immPut (bv imm) L (bv pc) L.length) := Lib.hid (by rw [hLd])
  rw [← hLd] at hLb hLn
  replace hLd := Lib.hid hLd
  replace hLb := Lib.hid hLb
  go_upto_region 8 with (go_at_call 100; refine (hL.out _).mono ?_; rintro e w3 ⟨⟨v, rfl, hown⟩, hb3⟩; rw [← hLd.out] at hown; have hW := hW.keep hb3; obtain ⟨ao, cap, rfl⟩ := own_slice3 hown)
  clear hL hLd p0 f0
  go_wp2_with fail
  have hI0 : Hid (immPut (bv imm) L (bv pc) 0 = bv pc) := Lib.hid rfl
  have hIs : Hid (∀ k : Nat, immPut (bv imm) L (bv pc) (k + 1) = Put (immPut (bv imm) L (bv pc) k) (L.getD k (0, 0, 0)).2.2 (L.getD k (0, 0, 0)).2.1 (Part (bv imm) (L.getD k (0, 0, 0)).1 (L.getD k (0, 0, 0)).2.1)) := Lib.hid fun _ => rfl
  generalize immPut (bv imm) L (bv pc) = R at hLm hI0 hIs
  go_loopw [9, 37] (fun s i wr => ∃ k : Nat, k ≤ L.length ∧ i = .int .i64 k ∧ s = .int .u64 (un (R k)) ∧ Below w3.heap.size w3 wr) (fun _ i _ => L.length - (intOf i).toNat)
  case atStart => exact ⟨0, Nat.zero_le _, rfl, by rw [hI0.out], Below.refl _ _⟩
  case round =>
    obtain ⟨k, hk, rfl, rfl, hb⟩ := hrel
    have hWr := hW.keep hb
    by_cases hlt : k < L.length
    · obtain ⟨g, rfl, c0, c1, c2⟩ := own_row3 (ownsRow_keep hown hb) rfl k hlt
      have hnx := Lib.hid (hIs.out k)
      have i4 := (hWr.keep ((Below.refl wr.heap.size wr).alloc (Nat.le_refl _) (.cells #[.int .i64 (L.getD k (0, 0, 0)).1, .int .i64 (L.getD k (0, 0, 0)).2.1, .int .i64 (L.getD k (0, 0, 0)).2.2] 145))).i4
      generalize (L.getD k (0, 0, 0)).1 = e0 at c0 hnx i4
      generalize (L.getD k (0, 0, 0)).2.1 = e1 at c1 hnx i4
      generalize (L.getD k (0, 0, 0)).2.2 = e2 at c2 hnx i4
      have hbn : Below wr.heap.size wr (wr.alloc (.cells #[.int .i64 e0, .int .i64 e1, .int .i64 e2] 145)) := (Below.refl wr.heap.size wr).alloc (Nat.le_refl _) _
      go_wp2_with fail
      go_quiet ((first | (go_at_call 102; exact quiet_same (Part_any _ _ _ _)) | (go_at_call 101; exact quiet_same (Put_any _ _ _ _ _))))
      go_wp2_with fail
      rw [← hnx.out]
      go_roundw
      case rel => exact ⟨k + 1, by omega, by go_num, rfl, (hb.trans (hbn.mono hb.size)).trans ⟨rfl, rfl, rfl, Nat.le_refl _, fun _ _ => rfl⟩⟩
      case measure => simp [intOf]; omega
    · obtain rfl : k = L.length := by omega
      clear hk hlt hown hLb hIs hI0 hLn hb3 hW hb
      have hW := hWr
      clear hWr
      have hmf : ∀ (fn : Fn) (first cap : Array Value) (w : World), (Instr.makeFunc fn first cap).run Tryz.prog w = .ok (.func fn first cap) w := fun _ _ _ _ => rfl
      have hG : Hid (un32 ((wordG 7 ⟨pc, p3, p7⟩ ⟨op, rd, r1, r2, imm, aq, rl, pred, succ⟩).setWidth 32) = un32 (BitVec.setWidth 32 (Put (Put (Put (R L.length) 12 3 (bv p3)) 7 5 (bv rd)) 15 5 (bv r1)) ||| (BitVec.setWidth 32 (bv (un (bv p7) * 33554432)) ||| BitVec.setWidth 32 (bv (un (bv imm) * 1048576))))) := Lib.hid (by rw [← hLm.out, shl25, shl20, ← BitVec.setWidth_or, ← BitVec.setWidth_or]; rfl)
      clear hLm
      go_wp2_with (first | (go_at_call 103; (with_reducible refine (Has1 false (by decide) hW).mono ?_); rintro e wh ⟨rfl, hW2⟩; clear hW; have hW := hW2; clear hW2; have x0 := hW.fl.aF3; have x1 := hW.fl.nF3; have x2 := hW.p1) | (go_at_call 103; (with_reducible refine (Has2 true (by decide) hW).mono ?_); rintro e wh ⟨rfl, hW2⟩; clear hW; have hW := hW2; clear hW2; have y0 := hW.fl.aRd; have y1 := hW.fl.nRd; have y2 := hW.i1) | (go_at_call 103; (with_reducible refine (Has3 true (by decide) hW).mono ?_); rintro e wh ⟨rfl, hW2⟩; clear hW; have hW := hW2; clear hW2; have f0 := hW.f0; have v0 := hW.fl.aRs1; have v1 := hW.fl.nRs1; have v2 := hW.i2; have z0 := hW.fl.aRs2; have z1 := hW.fl.nRs2; have z2 := hW.i3) | (go_at_call 104; (with_reducible refine (Fput_any _ _ _ _ _).mono ?_); rintro e wp ⟨rfl, hb2⟩; have hW2 := hW.keep hb2; clear hb2 hW; have hW := hW2; clear hW2; have f0 := hW.f0; have z0 := hW.fl.aRs2; have z1 := hW.fl.nRs2; have z2 := hW.i3))
      have i4 := hW.i4
      have p2 := hW.p2
      have g7 := hW.fl.aF7
      have g6 := hW.fl.aSix
      go_quiet (fail)
      go_wp2_with fail
      go_ret2
      rw [hG.out]
      exact ⟨rfl, hW.bl.trans ⟨rfl, rfl, rfl, Nat.le_refl _, fun _ _ => rfl⟩⟩
end
end Go.Proofs.YtcgflnkgekkidaaGreatDoor
namespace Go.Proofs.YtcgflnkgekkidaaGreatDoor
open Go.RowKit
attribute [local go_sem] wrap_u64_bv bv_un bv_sn wrap_u32_un bits_u64_or bits_i64_or mul_bvpow shl_min bv_0 bv_1 wrap_i64_un
section
attribute [local irreducible] un sn un32 checkE Put Part
set_option maxRecDepth 100000 in
set_option maxHeartbeats 8000000 in
theorem TWord_8 (b n : Nat) (T : Int → PartV) (pc p3 p7 : Int) (op rd r1 r2 imm : Int) (aq rl : Bool) (pred succ : Int) (w : World) (hT : TM w b n T) (hp : T op = ⟨pc, p3, p7⟩) (hf : (opOf op).form = 8) (hck : checkE ⟨op, rd, r1, r2, imm, aq, rl, pred, succ⟩ = 0) (hlo : -9223372036854775808 ≤ op) (hop : op ≤ 9223372036854775807) (ht : Tabs w) (hfl : Flds w) :
    Calls Tryz.prog 76 #[.map (some b), .agg #[.int .i64 op, .int .i64 rd, .int .i64 r1, .int .i64 r2, .int .i64 imm, .bool aq, .bool rl, .int .i64 pred, .int .i64 succ]] w fun e w' => e = .returned (.tuple #[.int .u32 (un32 ((wordG 8 ⟨pc, p3, p7⟩ ⟨op, rd, r1, r2, imm, aq, rl, pred, succ⟩).setWidth 32)), .int .i64 0]) ∧ Below w.heap.size w w' := by
  have hC := Lib.hid (fun W hT => Check_any ⟨op, rd, r1, r2, imm, aq, rl, pred, succ⟩ hop W hT)
  rw [hck] at hC
  have hF := Lib.hid (fun W hT => Form_any op hop W hT)
  rw [hf] at hF
  have hL := Lib.hid (fun W => Layout_any 8 W)
  have hwf : (Lit.int .i64 op).wf = true := WalkArith.wf_i64 ⟨hlo, hop⟩
  replace hp := Lib.hid hp
  replace hwf := Lib.hid hwf
  clear hck hf hlo hop
  have hbw : Below w.heap.size w (w.alloc (.cells #[.int .i64 op, .int .i64 rd, .int .i64 r1, .int .i64 r2, .int .i64 imm, .bool aq, .bool rl, .int .i64 pred, .int .i64 succ] 26)) := (Below.refl _ _).alloc (Nat.le_refl _) _
  go_enter Tryz.func76, Tryz.ntmps76
  go_upto_region 6 with (first | (go_at_call 90; refine (hC.out _ (ht.later hbw (Nat.le_refl _))).mono ?_; rintro e w1 ⟨rfl, hb1⟩; obtain ⟨i0, i1, i2, i3, i4, i5, i6, i7, i8⟩ := box9 hb1; have hT1 := (hT.alloc _).keep hb1; have hb01 := hbw.trans (hb1.mono hbw.size); have ht1 := ht.later hb01 (Nat.le_refl _); have hs1 : w.heap.size < w1.heap.size := Nat.lt_of_lt_of_le (by simp) hb1.size; have hne1 : w.heap.size ≠ w1.heap.size := Nat.ne_of_lt hs1) | (at_lookup; refine wpList_tm_get rfl _ _ rfl Tryz.underlying112 b n T rfl hT1 op rfl hwf.out ?_; rw [hp.out]; simp only [PartV.cells]) | (go_at_call 89; refine (hF.out _ (ht1.later ((Below.refl _ _).alloc (Nat.le_refl _) _) (Nat.le_refl _))).mono ?_; rintro e w2 ⟨rfl, hb2⟩; obtain ⟨p0, p1, p2⟩ := box3 hb2))
  have hW := CF.start (p := ⟨pc, p3, p7⟩) (f := 8) (t3 := 3) hfl hb1 hb2
  clear p0 p1 p2 hb2 i0 i1 i2 i3 i4 i5 i6 i7 i8 hT1 hT hb01 ht1 hs1 hne1 hb1 hbw hC hF hp hwf ht hfl
  generalize w2.alloc _ = W3 at hW ⊢
  generalize w2.heap.size = F at hW ⊢
  generalize w1.heap.size = P at hW ⊢
  clear w1 w2
  have p0 := hW.p0
  have f0 := hW.f0
  obtain ⟨L, hLd⟩ : ∃ L, L = pieces 8 := ⟨_, rfl⟩
  have hLb := pieces_bd 8
  have hLn : (pieces 8).length ≤ 4 := by decide
  have hLm : Hid (immPut (bv imm) (pieces 8) (bv pc) (pieces 8).length = immPut (bv imm) L (bv pc) L.length) := Lib.hid (by rw [hLd])
  rw [← hLd] at hLb hLn
  replace hLd := Lib.hid hLd
  replace hLb := Lib.hid hLb
  go_upto_region 8 with (go_at_call 100; refine (hL.out _).mono ?_; rintro e w3 ⟨⟨v, rfl, hown⟩, hb3⟩; rw [← hLd.out] at hown; have hW := hW.keep hb3; obtain ⟨ao, cap, rfl⟩ := own_slice3 hown)
  clear hL hLd p0 f0
  go_wp2_with fail
  have hI0 : Hid (immPut (bv imm) L (bv pc) 0 = bv pc) := Lib.hid rfl
  have hIs : Hid (∀ k : Nat, immPut (bv imm) L (bv pc) (k + 1) = Put (immPut (bv imm) L (bv pc) k) (L.getD k (0, 0, 0)).2.2 (L.getD k (0, 0, 0)).2.1 (Part (bv imm) (L.getD k (0, 0, 0)).1 (L.getD k (0, 0, 0)).2.1)) := Lib.hid fun _ => rfl
  generalize immPut (bv imm) L (bv pc) = R at hLm hI0 hIs
  go_loopw [9, 37] (fun s i wr => ∃ k : Nat, k ≤ L.length ∧ i = .int .i64 k ∧ s = .int .u64 (un (R k)) ∧ Below w3.heap.size w3 wr) (fun _ i _ => L.length - (intOf i).toNat)
  case atStart => exact ⟨0, Nat.zero_le _, rfl, by rw [hI0.out], Below.refl _ _⟩
  case round =>
    obtain ⟨k, hk, rfl, rfl, hb⟩ := hrel
    have hWr := hW.keep hb
    by_cases hlt : k < L.length
    · obtain ⟨g, rfl, c0, c1, c2⟩ := own_row3 (ownsRow_keep hown hb) rfl k hlt
      have hnx := Lib.hid (hIs.out k)
      have i4 := (hWr.keep ((Below.refl wr.heap.size wr).alloc (Nat.le_refl _) (.cells #[.int .i64 (L.getD k (0, 0, 0)).1, .int .i64 (L.getD k (0, 0, 0)).2.1, .int .i64 (L.getD k (0, 0, 0)).2.2] 145))).i4
      generalize (L.getD k (0, 0, 0)).1 = e0 at c0 hnx i4
      generalize (L.getD k (0, 0, 0)).2.1 = e1 at c1 hnx i4
      generalize (L.getD k (0, 0, 0)).2.2 = e2 at c2 hnx i4
      have hbn : Below wr.heap.size wr (wr.alloc (.cells #[.int .i64 e0, .int .i64 e1, .int .i64 e2] 145)) := (Below.refl wr.heap.size wr).alloc (Nat.le_refl _) _
      go_wp2_with fail
      go_quiet ((first | (go_at_call 102; exact quiet_same (Part_any _ _ _ _)) | (go_at_call 101; exact quiet_same (Put_any _ _ _ _ _))))
      go_wp2_with fail
      rw [← hnx.out]
      go_roundw
      case rel => exact ⟨k + 1, by omega, by go_num, rfl, (hb.trans (hbn.mono hb.size)).trans ⟨rfl, rfl, rfl, Nat.le_refl _, fun _ _ => rfl⟩⟩
      case measure => simp [intOf]; omega
    · obtain rfl : k = L.length := by omega
      clear hk hlt hown hLb hIs hI0 hLn hb3 hW hb
      have hW := hWr
      clear hWr
      have hmf : ∀ (fn : Fn) (first cap : Array Value) (w : World), (Instr.makeFunc fn first cap).run Tryz.prog w = .ok (.func fn first cap) w := fun _ _ _ _ => rfl
      have hG : Hid (un32 ((wordG 8 ⟨pc, p3, p7⟩ ⟨op, rd, r1, r2, imm, aq, rl, pred, succ⟩).setWidth 32) = un32 ((Put (Put (Put (Put (Put (R L.length) 12 3 (bv p3)) 7 5 (bv rd)) 15 5 (bv r1)) 20 5 (bv r2)) 25 7 (bv p7)).setWidth 32)) := Lib.hid (by rw [← hLm.out]; rfl)
      clear hLm
      go_wp2_with (first | (go_at_call 103; (with_reducible refine (Has1 false (by decide) hW).mono ?_); rintro e wh ⟨rfl, hW2⟩; clear hW; have hW := hW2; clear hW2; have x0 := hW.fl.aF3; have x1 := hW.fl.nF3; have x2 := hW.p1) | (go_at_call 103; (with_reducible refine (Has2 true (by decide) hW).mono ?_); rintro e wh ⟨rfl, hW2⟩; clear hW; have hW := hW2; clear hW2; have y0 := hW.fl.aRd; have y1 := hW.fl.nRd; have y2 := hW.i1) | (go_at_call 103; (with_reducible refine (Has3 true (by decide) hW).mono ?_); rintro e wh ⟨rfl, hW2⟩; clear hW; have hW := hW2; clear hW2; have f0 := hW.f0; have v0 := hW.fl.aRs1; have v1 := hW.fl.nRs1; have v2 := hW.i2; have z0 := hW.fl.aRs2; have z1 := hW.fl.nRs2; have z2 := hW.i3) | (go_at_call 104; (with_reducible refine (Fput_any _ _ _ _ _).mono ?_); rintro e wp ⟨rfl, hb2⟩; have hW2 := hW.keep hb2; clear hb2 hW; have hW := hW2; clear hW2; have f0 := hW.f0; have z0 := hW.fl.aRs2; have z1 := hW.fl.nRs2; have z2 := hW.i3))
      refine wp_region_held_drew (S := fun W => CF w w.heap.size P F op rd r1 r2 imm aq rl pred succ ⟨pc, p3, p7⟩ 8 W) (by kernel_rfl) hW.drew (fun hHeld => ?_)
      refine wpAnyH_take (i := 0) (v := .agg #[.int .i64 25, .int .i64 7]) rfl (by kernel_rfl) (by kernel_rfl) (by kernel_rfl) (fun _ _ _ h => h) (Or.inl ⟨by rfl, fun W hS => by (have k0 : W.cell? ⟨4, 0, none⟩ = some (.int .i64 25) := hS.fl.aF7; have k1 : W.cell? ⟨4, 1, none⟩ = some (.int .i64 7) := hS.fl.nF7; go_simp)⟩) hHeld ?_
      try simp only [Act.put, List.getElem_toArray, List.getElem_cons_zero, List.setIfInBounds_toArray, List.set_cons_zero, List.set_cons_succ]
      refine wpAnyH_take (i := 1) (v := .agg #[.int .i64 20, .int .i64 5]) rfl (by kernel_rfl) (by kernel_rfl) (by kernel_rfl) (fun _ _ _ h => h) (Or.inl ⟨by rfl, fun W hS => by (have k0 : W.cell? ⟨3, 0, none⟩ = some (.int .i64 20) := hS.fl.aRs2; have k1 : W.cell? ⟨3, 1, none⟩ = some (.int .i64 5) := hS.fl.nRs2; go_simp)⟩) hHeld ?_
      try simp only [Act.put, List.getElem_toArray, List.getElem_cons_succ, List.getElem_cons_zero, List.setIfInBounds_toArray, List.set_cons_zero, List.set_cons_succ]
      refine tkS 2 (.int .u64 (un (Put (Put (Put (R L.length) 12 3 (bv p3)) 7 5 (bv rd)) 15 5 (bv r1)))) hHeld ?_
      try simp only [Act.put, List.getElem_toArray, List.getElem_cons_succ, List.getElem_cons_zero, List.setIfInBounds_toArray, List.set_cons_zero, List.set_cons_succ]
      refine tkS 3 (.pointer (some ⟨w.heap.size, 3, none⟩)) hHeld ?_
      try simp only [Act.put, List.getElem_toArray, List.getElem_cons_succ, List.getElem_cons_zero, List.setIfInBounds_toArray, List.set_cons_zero, List.set_cons_succ]
      refine wpAnyH_take (i := 4) (v := .int .i64 r2) rfl (by kernel_rfl) (by kernel_rfl) (by kernel_rfl) (fun _ _ _ h => h) (Or.inl ⟨by rfl, fun W hS => by (have k : W.cell? ⟨w.heap.size, 3, none⟩ = some (.int .i64 r2) := hS.i3); go_simp⟩) hHeld ?_
      try simp only [Act.put, List.getElem_toArray, List.getElem_cons_succ, List.getElem_cons_zero, List.setIfInBounds_toArray, List.set_cons_zero, List.set_cons_succ]
      refine tkS 6 (.pointer (some ⟨P, 2, none⟩)) hHeld ?_
      try simp only [Act.put, List.getElem_toArray, List.getElem_cons_succ, List.getElem_cons_zero, List.setIfInBounds_toArray, List.set_cons_zero, List.set_cons_succ]
      refine wpAnyH_take (i := 7) (v := .int .i64 p7) rfl (by kernel_rfl) (by kernel_rfl) (by kernel_rfl) (fun _ _ _ h => h) (Or.inl ⟨by rfl, fun W hS => by (have k : W.cell? ⟨P, 2, none⟩ = some (.int .i64 p7) := hS.p2); go_simp⟩) hHeld ?_
      try simp only [Act.put, List.getElem_toArray, List.getElem_cons_succ, List.getElem_cons_zero, List.setIfInBounds_toArray, List.set_cons_zero, List.set_cons_succ]
      refine wpAnyH_ready (rs := [5]) (by kernel_rfl) (by simp) (AllReadyH.cons rfl (fun K hK2 => ?_) AllReadyH.nil)
      rw [if_pos (by rfl)]
      simp only [List.getElem_toArray, List.getElem_cons_succ, List.getElem_cons_zero]
      go_wp2_with (go_at_call 104; refine (Fput_any _ _ _ _ _).mono ?_; rintro e wb ⟨rfl, hbb⟩)
      refine hK2.out _ _ (hHeld.keep hbb) (fun hHeld2 => ?_)
      clear hK2 K hHeld
      have hHeld := hHeld2
      clear hHeld2
      try simp only [Act.put, List.getElem_toArray, List.getElem_cons_succ, List.getElem_cons_zero, List.setIfInBounds_toArray, List.set_cons_zero, List.set_cons_succ]
      clear hbb
      refine wpAnyH_ready (rs := [8]) (by kernel_rfl) (by simp) (AllReadyH.cons rfl (fun K hK2 => ?_) AllReadyH.nil)
      rw [if_pos (by rfl)]
      simp only [List.getElem_toArray, List.getElem_cons_succ, List.getElem_cons_zero]
      go_wp2_with (go_at_call 104; refine (Fput_any _ _ _ _ _).mono ?_; rintro e wb ⟨rfl, hbb⟩)
      refine hK2.out _ _ (hHeld.keep hbb) (fun hHeld2 => ?_)
      clear hK2 K hHeld
      have hHeld := hHeld2
      clear hHeld2
      try simp only [Act.put, List.getElem_toArray, List.getElem_cons_succ, List.getElem_cons_zero, List.setIfInBounds_toArray, List.set_cons_zero, List.set_cons_succ]
      clear hbb
      refine tkS 9 (.int .u64 (un (Put (Put (Put (Put (Put (R L.length) 12 3 (bv p3)) 7 5 (bv rd)) 15 5 (bv r1)) 20 5 (bv r2)) 25 7 (bv p7)))) hHeld ?_
      try simp only [Act.put, List.getElem_toArray, List.getElem_cons_succ, List.getElem_cons_zero, List.setIfInBounds_toArray, List.set_cons_zero, List.set_cons_succ]
      refine wpAnyH_done (by kernel_rfl) ?_ _
      have hW := hHeld
      clear hHeld
      go_wp2_with fail
      go_ret2
      rw [hG.out]
      exact ⟨rfl, hW.bl⟩
end
end Go.Proofs.YtcgflnkgekkidaaGreatDoor
