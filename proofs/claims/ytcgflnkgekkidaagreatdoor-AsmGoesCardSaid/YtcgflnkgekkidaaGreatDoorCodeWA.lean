/- The walk of package code's word at form 1. The walk of package code's word at form 2. The walk of package code's word at form 3. The walk of package code's word at form 4. Conditions: as each theorem says. -/
import Derived.Test.YtcgflnkgekkidaaGreatDoorCodeB
namespace Go.Proofs.YtcgflnkgekkidaaGreatDoor
open Go.RowKit
attribute [local go_sem] wrap_u64_bv bv_un bv_sn wrap_u32_un bits_u64_or bits_i64_or mul_bvpow shl_min bv_0 bv_1 wrap_i64_un
section
attribute [local irreducible] un sn un32 checkE Put Part
set_option maxRecDepth 100000 in
set_option maxHeartbeats 8000000 in
theorem TWord_1 (b n : Nat) (T : Int → PartV) (pc p3 p7 : Int) (op rd r1 r2 imm : Int) (aq rl : Bool) (pred succ : Int) (w : World) (hT : TM w b n T) (hp : T op = ⟨pc, p3, p7⟩) (hf : (opOf op).form = 1) (hck : checkE ⟨op, rd, r1, r2, imm, aq, rl, pred, succ⟩ = 0) (hlo : -9223372036854775808 ≤ op) (hop : op ≤ 9223372036854775807) (ht : Tabs w) (hfl : Flds w) :
    Calls Tryz.prog 76 #[.map (some b), .agg #[.int .i64 op, .int .i64 rd, .int .i64 r1, .int .i64 r2, .int .i64 imm, .bool aq, .bool rl, .int .i64 pred, .int .i64 succ]] w fun e w' => e = .returned (.tuple #[.int .u32 (un32 ((wordG 1 ⟨pc, p3, p7⟩ ⟨op, rd, r1, r2, imm, aq, rl, pred, succ⟩).setWidth 32)), .int .i64 0]) ∧ Below w.heap.size w w' := by
  have hC := Lib.hid (fun W hT => Check_any ⟨op, rd, r1, r2, imm, aq, rl, pred, succ⟩ hop W hT)
  rw [hck] at hC
  have hF := Lib.hid (fun W hT => Form_any op hop W hT)
  rw [hf] at hF
  have hL := Lib.hid (fun W => Layout_any 1 W)
  have hwf : (Lit.int .i64 op).wf = true := WalkArith.wf_i64 ⟨hlo, hop⟩
  replace hp := Lib.hid hp
  replace hwf := Lib.hid hwf
  clear hck hf hlo hop
  have hbw : Below w.heap.size w (w.alloc (.cells #[.int .i64 op, .int .i64 rd, .int .i64 r1, .int .i64 r2, .int .i64 imm, .bool aq, .bool rl, .int .i64 pred, .int .i64 succ] 26)) := (Below.refl _ _).alloc (Nat.le_refl _) _
  go_enter Tryz.func76, Tryz.ntmps76
  go_upto_region 6 with (first | (go_at_call 90; refine (hC.out _ (ht.later hbw (Nat.le_refl _))).mono ?_; rintro e w1 ⟨rfl, hb1⟩; obtain ⟨i0, i1, i2, i3, i4, i5, i6, i7, i8⟩ := box9 hb1; have hT1 := (hT.alloc _).keep hb1; have hb01 := hbw.trans (hb1.mono hbw.size); have ht1 := ht.later hb01 (Nat.le_refl _); have hs1 : w.heap.size < w1.heap.size := Nat.lt_of_lt_of_le (by simp) hb1.size; have hne1 : w.heap.size ≠ w1.heap.size := Nat.ne_of_lt hs1) | (at_lookup; refine wpList_tm_get rfl _ _ rfl Tryz.underlying112 b n T rfl hT1 op rfl hwf.out ?_; rw [hp.out]; simp only [PartV.cells]) | (go_at_call 89; refine (hF.out _ (ht1.later ((Below.refl _ _).alloc (Nat.le_refl _) _) (Nat.le_refl _))).mono ?_; rintro e w2 ⟨rfl, hb2⟩; obtain ⟨p0, p1, p2⟩ := box3 hb2))
  have hW := CF.start (p := ⟨pc, p3, p7⟩) (f := 1) (t3 := 3) hfl hb1 hb2
  clear p0 p1 p2 hb2 i0 i1 i2 i3 i4 i5 i6 i7 i8 hT1 hT hb01 ht1 hs1 hne1 hb1 hbw hC hF hp hwf ht hfl
  generalize w2.alloc _ = W3 at hW ⊢
  generalize w2.heap.size = F at hW ⊢
  generalize w1.heap.size = P at hW ⊢
  clear w1 w2
  have p0 := hW.p0
  have f0 := hW.f0
  obtain ⟨L, hLd⟩ : ∃ L, L = pieces 1 := ⟨_, rfl⟩
  have hLb := pieces_bd 1
  have hLn : (pieces 1).length ≤ 4 := by decide
  have hLm : Hid (immPut (bv imm) (pieces 1) (bv pc) (pieces 1).length = immPut (bv imm) L (bv pc) L.length) := Lib.hid (by rw [hLd])
  rw [← hLd] at hLb hLn
  replace hLd := Lib.hid hLd
  replace hLb := Lib.hid hLb
  go_upto_region 8 with (go_at_call 100; refine (hL.out _).mono ?_; rintro e w3 ⟨⟨v, rfl, hown⟩, hb3⟩; rw [← hLd.out] at hown; have hW := hW.keep hb3; obtain ⟨ao, cap, rfl⟩ := own_slice3 hown)
  clear hL hLd p0 f0
  go_wp2_with fail
  have hI0 : Hid (immPut (bv imm) L (bv pc) 0 = bv pc) := Lib.hid rfl
  have hIs : Hid (∀ k : Nat, immPut (bv imm) L (bv pc) (k + 1) = Put (immPut (bv imm) L (bv pc) k) (L.getD k (0, 0, 0)).2.2 (L.getD k (0, 0, 0)).2.1 (Part (bv imm) (L.getD k (0, 0, 0)).1 (L.getD k (0, 0, 0)).2.1)) := Lib.hid fun _ => rfl
  generalize immPut (bv imm) L (bv pc) = R at hLm hI0 hIs
  go_loopw [9, 37] (fun s i wr => ∃ k : Nat, k ≤ L.length ∧ i = .int .i64 k ∧ s = .int .u64 (un (R k)) ∧ Below w3.heap.size w3 wr) (fun _ i _ => L.length - (intOf i).toNat)
  case atStart => exact ⟨0, Nat.zero_le _, rfl, by rw [hI0.out], Below.refl _ _⟩
  case round =>
    obtain ⟨k, hk, rfl, rfl, hb⟩ := hrel
    have hWr := hW.keep hb
    by_cases hlt : k < L.length
    · obtain ⟨g, rfl, c0, c1, c2⟩ := own_row3 (ownsRow_keep hown hb) rfl k hlt
      have hnx := Lib.hid (hIs.out k)
      have i4 := (hWr.keep ((Below.refl wr.heap.size wr).alloc (Nat.le_refl _) (.cells #[.int .i64 (L.getD k (0, 0, 0)).1, .int .i64 (L.getD k (0, 0, 0)).2.1, .int .i64 (L.getD k (0, 0, 0)).2.2] 145))).i4
      generalize (L.getD k (0, 0, 0)).1 = e0 at c0 hnx i4
      generalize (L.getD k (0, 0, 0)).2.1 = e1 at c1 hnx i4
      generalize (L.getD k (0, 0, 0)).2.2 = e2 at c2 hnx i4
      have hbn : Below wr.heap.size wr (wr.alloc (.cells #[.int .i64 e0, .int .i64 e1, .int .i64 e2] 145)) := (Below.refl wr.heap.size wr).alloc (Nat.le_refl _) _
      go_wp2_with fail
      go_quiet ((first | (go_at_call 102; exact quiet_same (Part_any _ _ _ _)) | (go_at_call 101; exact quiet_same (Put_any _ _ _ _ _))))
      go_wp2_with fail
      rw [← hnx.out]
      go_roundw
      case rel => exact ⟨k + 1, by omega, by go_num, rfl, (hb.trans (hbn.mono hb.size)).trans ⟨rfl, rfl, rfl, Nat.le_refl _, fun _ _ => rfl⟩⟩
      case measure => simp [intOf]; omega
    · obtain rfl : k = L.length := by omega
      clear hk hlt hown hLb hIs hI0 hLn hb3 hW hb
      have hW := hWr
      clear hWr
      have hmf : ∀ (fn : Fn) (first cap : Array Value) (w : World), (Instr.makeFunc fn first cap).run Tryz.prog w = .ok (.func fn first cap) w := fun _ _ _ _ => rfl
      have hG : Hid (un32 ((wordG 1 ⟨pc, p3, p7⟩ ⟨op, rd, r1, r2, imm, aq, rl, pred, succ⟩).setWidth 32) = un32 ((Put (R L.length) 7 5 (bv rd)).setWidth 32)) := Lib.hid (by rw [← hLm.out]; rfl)
      clear hLm
      go_wp2_with (first | (go_at_call 103; (with_reducible refine (Has1 true (by decide) hW).mono ?_); rintro e wh ⟨rfl, hW2⟩; clear hW; have hW := hW2; clear hW2; have x0 := hW.fl.aF3; have x1 := hW.fl.nF3; have x2 := hW.p1) | (go_at_call 103; (with_reducible refine (Has2 true (by decide) hW).mono ?_); rintro e wh ⟨rfl, hW2⟩; clear hW; have hW := hW2; clear hW2; have y0 := hW.fl.aRd; have y1 := hW.fl.nRd; have y2 := hW.i1) | (go_at_call 103; (with_reducible refine (Has3 false (by decide) hW).mono ?_); rintro e wh ⟨rfl, hW2⟩; clear hW; have hW := hW2; clear hW2; have f0 := hW.f0; have v0 := hW.fl.aRs1; have v1 := hW.fl.nRs1; have v2 := hW.i2; have z0 := hW.fl.aRs2; have z1 := hW.fl.nRs2; have z2 := hW.i3) | (go_at_call 104; (with_reducible refine (Fput_any _ _ _ _ _).mono ?_); rintro e wp ⟨rfl, hb2⟩; have hW2 := hW.keep hb2; clear hb2 hW; have hW := hW2; clear hW2; have f0 := hW.f0; have z0 := hW.fl.aRs2; have z1 := hW.fl.nRs2; have z2 := hW.i3))
      go_ret2
      rw [hG.out]
      exact ⟨rfl, hW.bl⟩
end
end Go.Proofs.YtcgflnkgekkidaaGreatDoor
namespace Go.Proofs.YtcgflnkgekkidaaGreatDoor
open Go.RowKit
attribute [local go_sem] wrap_u64_bv bv_un bv_sn wrap_u32_un bits_u64_or bits_i64_or mul_bvpow shl_min bv_0 bv_1 wrap_i64_un
section
attribute [local irreducible] un sn un32 checkE Put Part
set_option maxRecDepth 100000 in
set_option maxHeartbeats 8000000 in
theorem TWord_2 (b n : Nat) (T : Int → PartV) (pc p3 p7 : Int) (op rd r1 r2 imm : Int) (aq rl : Bool) (pred succ : Int) (w : World) (hT : TM w b n T) (hp : T op = ⟨pc, p3, p7⟩) (hf : (opOf op).form = 2) (hck : checkE ⟨op, rd, r1, r2, imm, aq, rl, pred, succ⟩ = 0) (hlo : -9223372036854775808 ≤ op) (hop : op ≤ 9223372036854775807) (ht : Tabs w) (hfl : Flds w) :
    Calls Tryz.prog 76 #[.map (some b), .agg #[.int .i64 op, .int .i64 rd, .int .i64 r1, .int .i64 r2, .int .i64 imm, .bool aq, .bool rl, .int .i64 pred, .int .i64 succ]] w fun e w' => e = .returned (.tuple #[.int .u32 (un32 ((wordG 2 ⟨pc, p3, p7⟩ ⟨op, rd, r1, r2, imm, aq, rl, pred, succ⟩).setWidth 32)), .int .i64 0]) ∧ Below w.heap.size w w' := by
  have hC := Lib.hid (fun W hT => Check_any ⟨op, rd, r1, r2, imm, aq, rl, pred, succ⟩ hop W hT)
  rw [hck] at hC
  have hF := Lib.hid (fun W hT => Form_any op hop W hT)
  rw [hf] at hF
  have hL := Lib.hid (fun W => Layout_any 2 W)
  have hwf : (Lit.int .i64 op).wf = true := WalkArith.wf_i64 ⟨hlo, hop⟩
  replace hp := Lib.hid hp
  replace hwf := Lib.hid hwf
  clear hck hf hlo hop
  have hbw : Below w.heap.size w (w.alloc (.cells #[.int .i64 op, .int .i64 rd, .int .i64 r1, .int .i64 r2, .int .i64 imm, .bool aq, .bool rl, .int .i64 pred, .int .i64 succ] 26)) := (Below.refl _ _).alloc (Nat.le_refl _) _
  go_enter Tryz.func76, Tryz.ntmps76
  go_upto_region 6 with (first | (go_at_call 90; refine (hC.out _ (ht.later hbw (Nat.le_refl _))).mono ?_; rintro e w1 ⟨rfl, hb1⟩; obtain ⟨i0, i1, i2, i3, i4, i5, i6, i7, i8⟩ := box9 hb1; have hT1 := (hT.alloc _).keep hb1; have hb01 := hbw.trans (hb1.mono hbw.size); have ht1 := ht.later hb01 (Nat.le_refl _); have hs1 : w.heap.size < w1.heap.size := Nat.lt_of_lt_of_le (by simp) hb1.size; have hne1 : w.heap.size ≠ w1.heap.size := Nat.ne_of_lt hs1) | (at_lookup; refine wpList_tm_get rfl _ _ rfl Tryz.underlying112 b n T rfl hT1 op rfl hwf.out ?_; rw [hp.out]; simp only [PartV.cells]) | (go_at_call 89; refine (hF.out _ (ht1.later ((Below.refl _ _).alloc (Nat.le_refl _) _) (Nat.le_refl _))).mono ?_; rintro e w2 ⟨rfl, hb2⟩; obtain ⟨p0, p1, p2⟩ := box3 hb2))
  have hW := CF.start (p := ⟨pc, p3, p7⟩) (f := 2) (t3 := 3) hfl hb1 hb2
  clear p0 p1 p2 hb2 i0 i1 i2 i3 i4 i5 i6 i7 i8 hT1 hT hb01 ht1 hs1 hne1 hb1 hbw hC hF hp hwf ht hfl
  generalize w2.alloc _ = W3 at hW ⊢
  generalize w2.heap.size = F at hW ⊢
  generalize w1.heap.size = P at hW ⊢
  clear w1 w2
  have p0 := hW.p0
  have f0 := hW.f0
  obtain ⟨L, hLd⟩ : ∃ L, L = pieces 2 := ⟨_, rfl⟩
  have hLb := pieces_bd 2
  have hLn : (pieces 2).length ≤ 4 := by decide
  have hLm : Hid (immPut (bv imm) (pieces 2) (bv pc) (pieces 2).length = immPut (bv imm) L (bv pc) L.length) := Lib.hid (by rw [hLd])
  rw [← hLd] at hLb hLn
  replace hLd := Lib.hid hLd
  replace hLb := Lib.hid hLb
  go_upto_region 8 with (go_at_call 100; refine (hL.out _).mono ?_; rintro e w3 ⟨⟨v, rfl, hown⟩, hb3⟩; rw [← hLd.out] at hown; have hW := hW.keep hb3; obtain ⟨ao, cap, rfl⟩ := own_slice3 hown)
  clear hL hLd p0 f0
  go_wp2_with fail
  have hI0 : Hid (immPut (bv imm) L (bv pc) 0 = bv pc) := Lib.hid rfl
  have hIs : Hid (∀ k : Nat, immPut (bv imm) L (bv pc) (k + 1) = Put (immPut (bv imm) L (bv pc) k) (L.getD k (0, 0, 0)).2.2 (L.getD k (0, 0, 0)).2.1 (Part (bv imm) (L.getD k (0, 0, 0)).1 (L.getD k (0, 0, 0)).2.1)) := Lib.hid fun _ => rfl
  generalize immPut (bv imm) L (bv pc) = R at hLm hI0 hIs
  go_loopw [9, 37] (fun s i wr => ∃ k : Nat, k ≤ L.length ∧ i = .int .i64 k ∧ s = .int .u64 (un (R k)) ∧ Below w3.heap.size w3 wr) (fun _ i _ => L.length - (intOf i).toNat)
  case atStart => exact ⟨0, Nat.zero_le _, rfl, by rw [hI0.out], Below.refl _ _⟩
  case round =>
    obtain ⟨k, hk, rfl, rfl, hb⟩ := hrel
    have hWr := hW.keep hb
    by_cases hlt : k < L.length
    · obtain ⟨g, rfl, c0, c1, c2⟩ := own_row3 (ownsRow_keep hown hb) rfl k hlt
      have hnx := Lib.hid (hIs.out k)
      have i4 := (hWr.keep ((Below.refl wr.heap.size wr).alloc (Nat.le_refl _) (.cells #[.int .i64 (L.getD k (0, 0, 0)).1, .int .i64 (L.getD k (0, 0, 0)).2.1, .int .i64 (L.getD k (0, 0, 0)).2.2] 145))).i4
      generalize (L.getD k (0, 0, 0)).1 = e0 at c0 hnx i4
      generalize (L.getD k (0, 0, 0)).2.1 = e1 at c1 hnx i4
      generalize (L.getD k (0, 0, 0)).2.2 = e2 at c2 hnx i4
      have hbn : Below wr.heap.size wr (wr.alloc (.cells #[.int .i64 e0, .int .i64 e1, .int .i64 e2] 145)) := (Below.refl wr.heap.size wr).alloc (Nat.le_refl _) _
      go_wp2_with fail
      go_quiet ((first | (go_at_call 102; exact quiet_same (Part_any _ _ _ _)) | (go_at_call 101; exact quiet_same (Put_any _ _ _ _ _))))
      go_wp2_with fail
      rw [← hnx.out]
      go_roundw
      case rel => exact ⟨k + 1, by omega, by go_num, rfl, (hb.trans (hbn.mono hb.size)).trans ⟨rfl, rfl, rfl, Nat.le_refl _, fun _ _ => rfl⟩⟩
      case measure => simp [intOf]; omega
    · obtain rfl : k = L.length := by omega
      clear hk hlt hown hLb hIs hI0 hLn hb3 hW hb
      have hW := hWr
      clear hWr
      have hmf : ∀ (fn : Fn) (first cap : Array Value) (w : World), (Instr.makeFunc fn first cap).run Tryz.prog w = .ok (.func fn first cap) w := fun _ _ _ _ => rfl
      have hG : Hid (un32 ((wordG 2 ⟨pc, p3, p7⟩ ⟨op, rd, r1, r2, imm, aq, rl, pred, succ⟩).setWidth 32) = un32 ((Put (R L.length) 7 5 (bv rd)).setWidth 32)) := Lib.hid (by rw [← hLm.out]; rfl)
      clear hLm
      go_wp2_with (first | (go_at_call 103; (with_reducible refine (Has1 true (by decide) hW).mono ?_); rintro e wh ⟨rfl, hW2⟩; clear hW; have hW := hW2; clear hW2; have x0 := hW.fl.aF3; have x1 := hW.fl.nF3; have x2 := hW.p1) | (go_at_call 103; (with_reducible refine (Has2 true (by decide) hW).mono ?_); rintro e wh ⟨rfl, hW2⟩; clear hW; have hW := hW2; clear hW2; have y0 := hW.fl.aRd; have y1 := hW.fl.nRd; have y2 := hW.i1) | (go_at_call 103; (with_reducible refine (Has3 false (by decide) hW).mono ?_); rintro e wh ⟨rfl, hW2⟩; clear hW; have hW := hW2; clear hW2; have f0 := hW.f0; have v0 := hW.fl.aRs1; have v1 := hW.fl.nRs1; have v2 := hW.i2; have z0 := hW.fl.aRs2; have z1 := hW.fl.nRs2; have z2 := hW.i3) | (go_at_call 104; (with_reducible refine (Fput_any _ _ _ _ _).mono ?_); rintro e wp ⟨rfl, hb2⟩; have hW2 := hW.keep hb2; clear hb2 hW; have hW := hW2; clear hW2; have f0 := hW.f0; have z0 := hW.fl.aRs2; have z1 := hW.fl.nRs2; have z2 := hW.i3))
      go_ret2
      rw [hG.out]
      exact ⟨rfl, hW.bl⟩
end
end Go.Proofs.YtcgflnkgekkidaaGreatDoor
namespace Go.Proofs.YtcgflnkgekkidaaGreatDoor
open Go.RowKit
attribute [local go_sem] wrap_u64_bv bv_un bv_sn wrap_u32_un bits_u64_or bits_i64_or mul_bvpow shl_min bv_0 bv_1 wrap_i64_un
section
attribute [local irreducible] un sn un32 checkE Put Part
set_option maxRecDepth 100000 in
set_option maxHeartbeats 8000000 in
theorem TWord_3 (b n : Nat) (T : Int → PartV) (pc p3 p7 : Int) (op rd r1 r2 imm : Int) (aq rl : Bool) (pred succ : Int) (w : World) (hT : TM w b n T) (hp : T op = ⟨pc, p3, p7⟩) (hf : (opOf op).form = 3) (hck : checkE ⟨op, rd, r1, r2, imm, aq, rl, pred, succ⟩ = 0) (hlo : -9223372036854775808 ≤ op) (hop : op ≤ 9223372036854775807) (ht : Tabs w) (hfl : Flds w) :
    Calls Tryz.prog 76 #[.map (some b), .agg #[.int .i64 op, .int .i64 rd, .int .i64 r1, .int .i64 r2, .int .i64 imm, .bool aq, .bool rl, .int .i64 pred, .int .i64 succ]] w fun e w' => e = .returned (.tuple #[.int .u32 (un32 ((wordG 3 ⟨pc, p3, p7⟩ ⟨op, rd, r1, r2, imm, aq, rl, pred, succ⟩).setWidth 32)), .int .i64 0]) ∧ Below w.heap.size w w' := by
  have hC := Lib.hid (fun W hT => Check_any ⟨op, rd, r1, r2, imm, aq, rl, pred, succ⟩ hop W hT)
  rw [hck] at hC
  have hF := Lib.hid (fun W hT => Form_any op hop W hT)
  rw [hf] at hF
  have hL := Lib.hid (fun W => Layout_any 3 W)
  have hwf : (Lit.int .i64 op).wf = true := WalkArith.wf_i64 ⟨hlo, hop⟩
  replace hp := Lib.hid hp
  replace hwf := Lib.hid hwf
  clear hck hf hlo hop
  have hbw : Below w.heap.size w (w.alloc (.cells #[.int .i64 op, .int .i64 rd, .int .i64 r1, .int .i64 r2, .int .i64 imm, .bool aq, .bool rl, .int .i64 pred, .int .i64 succ] 26)) := (Below.refl _ _).alloc (Nat.le_refl _) _
  go_enter Tryz.func76, Tryz.ntmps76
  go_upto_region 6 with (first | (go_at_call 90; refine (hC.out _ (ht.later hbw (Nat.le_refl _))).mono ?_; rintro e w1 ⟨rfl, hb1⟩; obtain ⟨i0, i1, i2, i3, i4, i5, i6, i7, i8⟩ := box9 hb1; have hT1 := (hT.alloc _).keep hb1; have hb01 := hbw.trans (hb1.mono hbw.size); have ht1 := ht.later hb01 (Nat.le_refl _); have hs1 : w.heap.size < w1.heap.size := Nat.lt_of_lt_of_le (by simp) hb1.size; have hne1 : w.heap.size ≠ w1.heap.size := Nat.ne_of_lt hs1) | (at_lookup; refine wpList_tm_get rfl _ _ rfl Tryz.underlying112 b n T rfl hT1 op rfl hwf.out ?_; rw [hp.out]; simp only [PartV.cells]) | (go_at_call 89; refine (hF.out _ (ht1.later ((Below.refl _ _).alloc (Nat.le_refl _) _) (Nat.le_refl _))).mono ?_; rintro e w2 ⟨rfl, hb2⟩; obtain ⟨p0, p1, p2⟩ := box3 hb2))
  have hW := CF.start (p := ⟨pc, p3, p7⟩) (f := 3) (t3 := 3) hfl hb1 hb2
  clear p0 p1 p2 hb2 i0 i1 i2 i3 i4 i5 i6 i7 i8 hT1 hT hb01 ht1 hs1 hne1 hb1 hbw hC hF hp hwf ht hfl
  generalize w2.alloc _ = W3 at hW ⊢
  generalize w2.heap.size = F at hW ⊢
  generalize w1.heap.size = P at hW ⊢
  clear w1 w2
  have p0 := hW.p0
  have f0 := hW.f0
  obtain ⟨L, hLd⟩ : ∃ L, L = pieces 3 := ⟨_, rfl⟩
  have hLb := pieces_bd 3
  have hLn : (pieces 3).length ≤ 4 := by decide
  have hLm : Hid (immPut (bv imm) (pieces 3) (bv pc) (pieces 3).length = immPut (bv imm) L (bv pc) L.length) := Lib.hid (by rw [hLd])
  rw [← hLd] at hLb hLn
  replace hLd := Lib.hid hLd
  replace hLb := Lib.hid hLb
  go_upto_region 8 with (go_at_call 100; refine (hL.out _).mono ?_; rintro e w3 ⟨⟨v, rfl, hown⟩, hb3⟩; rw [← hLd.out] at hown; have hW := hW.keep hb3; obtain ⟨ao, cap, rfl⟩ := own_slice3 hown)
  clear hL hLd p0 f0
  go_wp2_with fail
  have hI0 : Hid (immPut (bv imm) L (bv pc) 0 = bv pc) := Lib.hid rfl
  have hIs : Hid (∀ k : Nat, immPut (bv imm) L (bv pc) (k + 1) = Put (immPut (bv imm) L (bv pc) k) (L.getD k (0, 0, 0)).2.2 (L.getD k (0, 0, 0)).2.1 (Part (bv imm) (L.getD k (0, 0, 0)).1 (L.getD k (0, 0, 0)).2.1)) := Lib.hid fun _ => rfl
  generalize immPut (bv imm) L (bv pc) = R at hLm hI0 hIs
  go_loopw [9, 37] (fun s i wr => ∃ k : Nat, k ≤ L.length ∧ i = .int .i64 k ∧ s = .int .u64 (un (R k)) ∧ Below w3.heap.size w3 wr) (fun _ i _ => L.length - (intOf i).toNat)
  case atStart => exact ⟨0, Nat.zero_le _, rfl, by rw [hI0.out], Below.refl _ _⟩
  case round =>
    obtain ⟨k, hk, rfl, rfl, hb⟩ := hrel
    have hWr := hW.keep hb
    by_cases hlt : k < L.length
    · obtain ⟨g, rfl, c0, c1, c2⟩ := own_row3 (ownsRow_keep hown hb) rfl k hlt
      have hnx := Lib.hid (hIs.out k)
      have i4 := (hWr.keep ((Below.refl wr.heap.size wr).alloc (Nat.le_refl _) (.cells #[.int .i64 (L.getD k (0, 0, 0)).1, .int .i64 (L.getD k (0, 0, 0)).2.1, .int .i64 (L.getD k (0, 0, 0)).2.2] 145))).i4
      generalize (L.getD k (0, 0, 0)).1 = e0 at c0 hnx i4
      generalize (L.getD k (0, 0, 0)).2.1 = e1 at c1 hnx i4
      generalize (L.getD k (0, 0, 0)).2.2 = e2 at c2 hnx i4
      have hbn : Below wr.heap.size wr (wr.alloc (.cells #[.int .i64 e0, .int .i64 e1, .int .i64 e2] 145)) := (Below.refl wr.heap.size wr).alloc (Nat.le_refl _) _
      go_wp2_with fail
      go_quiet ((first | (go_at_call 102; exact quiet_same (Part_any _ _ _ _)) | (go_at_call 101; exact quiet_same (Put_any _ _ _ _ _))))
      go_wp2_with fail
      rw [← hnx.out]
      go_roundw
      case rel => exact ⟨k + 1, by omega, by go_num, rfl, (hb.trans (hbn.mono hb.size)).trans ⟨rfl, rfl, rfl, Nat.le_refl _, fun _ _ => rfl⟩⟩
      case measure => simp [intOf]; omega
    · obtain rfl : k = L.length := by omega
      clear hk hlt hown hLb hIs hI0 hLn hb3 hW hb
      have hW := hWr
      clear hWr
      have hmf : ∀ (fn : Fn) (first cap : Array Value) (w : World), (Instr.makeFunc fn first cap).run Tryz.prog w = .ok (.func fn first cap) w := fun _ _ _ _ => rfl
      have hG : Hid (un32 ((wordG 3 ⟨pc, p3, p7⟩ ⟨op, rd, r1, r2, imm, aq, rl, pred, succ⟩).setWidth 32) = un32 ((Put (Put (Put (R L.length) 12 3 (bv p3)) 7 5 (bv rd)) 15 5 (bv r1)).setWidth 32)) := Lib.hid (by rw [← hLm.out]; rfl)
      clear hLm
      go_wp2_with (first | (go_at_call 103; (with_reducible refine (Has1 false (by decide) hW).mono ?_); rintro e wh ⟨rfl, hW2⟩; clear hW; have hW := hW2; clear hW2; have x0 := hW.fl.aF3; have x1 := hW.fl.nF3; have x2 := hW.p1) | (go_at_call 103; (with_reducible refine (Has2 true (by decide) hW).mono ?_); rintro e wh ⟨rfl, hW2⟩; clear hW; have hW := hW2; clear hW2; have y0 := hW.fl.aRd; have y1 := hW.fl.nRd; have y2 := hW.i1) | (go_at_call 103; (with_reducible refine (Has3 true (by decide) hW).mono ?_); rintro e wh ⟨rfl, hW2⟩; clear hW; have hW := hW2; clear hW2; have f0 := hW.f0; have v0 := hW.fl.aRs1; have v1 := hW.fl.nRs1; have v2 := hW.i2; have z0 := hW.fl.aRs2; have z1 := hW.fl.nRs2; have z2 := hW.i3) | (go_at_call 104; (with_reducible refine (Fput_any _ _ _ _ _).mono ?_); rintro e wp ⟨rfl, hb2⟩; have hW2 := hW.keep hb2; clear hb2 hW; have hW := hW2; clear hW2; have f0 := hW.f0; have z0 := hW.fl.aRs2; have z1 := hW.fl.nRs2; have z2 := hW.i3))
      go_ret2
      rw [hG.out]
      exact ⟨rfl, hW.bl⟩
end
end Go.Proofs.YtcgflnkgekkidaaGreatDoor
namespace Go.Proofs.YtcgflnkgekkidaaGreatDoor
open Go.RowKit
attribute [local go_sem] wrap_u64_bv bv_un bv_sn wrap_u32_un bits_u64_or bits_i64_or mul_bvpow shl_min bv_0 bv_1 wrap_i64_un
section
attribute [local irreducible] un sn un32 checkE Put Part
set_option maxRecDepth 100000 in
set_option maxHeartbeats 8000000 in
theorem TWord_4 (b n : Nat) (T : Int → PartV) (pc p3 p7 : Int) (op rd r1 r2 imm : Int) (aq rl : Bool) (pred succ : Int) (w : World) (hT : TM w b n T) (hp : T op = ⟨pc, p3, p7⟩) (hf : (opOf op).form = 4) (hck : checkE ⟨op, rd, r1, r2, imm, aq, rl, pred, succ⟩ = 0) (hlo : -9223372036854775808 ≤ op) (hop : op ≤ 9223372036854775807) (ht : Tabs w) (hfl : Flds w) :
    Calls Tryz.prog 76 #[.map (some b), .agg #[.int .i64 op, .int .i64 rd, .int .i64 r1, .int .i64 r2, .int .i64 imm, .bool aq, .bool rl, .int .i64 pred, .int .i64 succ]] w fun e w' => e = .returned (.tuple #[.int .u32 (un32 ((wordG 4 ⟨pc, p3, p7⟩ ⟨op, rd, r1, r2, imm, aq, rl, pred, succ⟩).setWidth 32)), .int .i64 0]) ∧ Below w.heap.size w w' := by
  have hC := Lib.hid (fun W hT => Check_any ⟨op, rd, r1, r2, imm, aq, rl, pred, succ⟩ hop W hT)
  rw [hck] at hC
  have hF := Lib.hid (fun W hT => Form_any op hop W hT)
  rw [hf] at hF
  have hL := Lib.hid (fun W => Layout_any 4 W)
  have hwf : (Lit.int .i64 op).wf = true := WalkArith.wf_i64 ⟨hlo, hop⟩
  replace hp := Lib.hid hp
  replace hwf := Lib.hid hwf
  clear hck hf hlo hop
  have hbw : Below w.heap.size w (w.alloc (.cells #[.int .i64 op, .int .i64 rd, .int .i64 r1, .int .i64 r2, .int .i64 imm, .bool aq, .bool rl, .int .i64 pred, .int .i64 succ] 26)) := (Below.refl _ _).alloc (Nat.le_refl _) _
  go_enter Tryz.func76, Tryz.ntmps76
  go_upto_region 6 with (first | (go_at_call 90; refine (hC.out _ (ht.later hbw (Nat.le_refl _))).mono ?_; rintro e w1 ⟨rfl, hb1⟩; obtain ⟨i0, i1, i2, i3, i4, i5, i6, i7, i8⟩ := box9 hb1; have hT1 := (hT.alloc _).keep hb1; have hb01 := hbw.trans (hb1.mono hbw.size); have ht1 := ht.later hb01 (Nat.le_refl _); have hs1 : w.heap.size < w1.heap.size := Nat.lt_of_lt_of_le (by simp) hb1.size; have hne1 : w.heap.size ≠ w1.heap.size := Nat.ne_of_lt hs1) | (at_lookup; refine wpList_tm_get rfl _ _ rfl Tryz.underlying112 b n T rfl hT1 op rfl hwf.out ?_; rw [hp.out]; simp only [PartV.cells]) | (go_at_call 89; refine (hF.out _ (ht1.later ((Below.refl _ _).alloc (Nat.le_refl _) _) (Nat.le_refl _))).mono ?_; rintro e w2 ⟨rfl, hb2⟩; obtain ⟨p0, p1, p2⟩ := box3 hb2))
  have hW := CF.start (p := ⟨pc, p3, p7⟩) (f := 4) (t3 := 3) hfl hb1 hb2
  clear p0 p1 p2 hb2 i0 i1 i2 i3 i4 i5 i6 i7 i8 hT1 hT hb01 ht1 hs1 hne1 hb1 hbw hC hF hp hwf ht hfl
  generalize w2.alloc _ = W3 at hW ⊢
  generalize w2.heap.size = F at hW ⊢
  generalize w1.heap.size = P at hW ⊢
  clear w1 w2
  have p0 := hW.p0
  have f0 := hW.f0
  obtain ⟨L, hLd⟩ : ∃ L, L = pieces 4 := ⟨_, rfl⟩
  have hLb := pieces_bd 4
  have hLn : (pieces 4).length ≤ 4 := by decide
  have hLm : Hid (immPut (bv imm) (pieces 4) (bv pc) (pieces 4).length = immPut (bv imm) L (bv pc) L.length) := Lib.hid (by rw [hLd])
  rw [← hLd] at hLb hLn
  replace hLd := Lib.hid hLd
  replace hLb := Lib.hid hLb
  go_upto_region 8 with (go_at_call 100; refine (hL.out _).mono ?_; rintro e w3 ⟨⟨v, rfl, hown⟩, hb3⟩; rw [← hLd.out] at hown; have hW := hW.keep hb3; obtain ⟨ao, cap, rfl⟩ := own_slice3 hown)
  clear hL hLd p0 f0
  go_wp2_with fail
  have hI0 : Hid (immPut (bv imm) L (bv pc) 0 = bv pc) := Lib.hid rfl
  have hIs : Hid (∀ k : Nat, immPut (bv imm) L (bv pc) (k + 1) = Put (immPut (bv imm) L (bv pc) k) (L.getD k (0, 0, 0)).2.2 (L.getD k (0, 0, 0)).2.1 (Part (bv imm) (L.getD k (0, 0, 0)).1 (L.getD k (0, 0, 0)).2.1)) := Lib.hid fun _ => rfl
  generalize immPut (bv imm) L (bv pc) = R at hLm hI0 hIs
  go_loopw [9, 37] (fun s i wr => ∃ k : Nat, k ≤ L.length ∧ i = .int .i64 k ∧ s = .int .u64 (un (R k)) ∧ Below w3.heap.size w3 wr) (fun _ i _ => L.length - (intOf i).toNat)
  case atStart => exact ⟨0, Nat.zero_le _, rfl, by rw [hI0.out], Below.refl _ _⟩
  case round =>
    obtain ⟨k, hk, rfl, rfl, hb⟩ := hrel
    have hWr := hW.keep hb
    by_cases hlt : k < L.length
    · obtain ⟨g, rfl, c0, c1, c2⟩ := own_row3 (ownsRow_keep hown hb) rfl k hlt
      have hnx := Lib.hid (hIs.out k)
      have i4 := (hWr.keep ((Below.refl wr.heap.size wr).alloc (Nat.le_refl _) (.cells #[.int .i64 (L.getD k (0, 0, 0)).1, .int .i64 (L.getD k (0, 0, 0)).2.1, .int .i64 (L.getD k (0, 0, 0)).2.2] 145))).i4
      generalize (L.getD k (0, 0, 0)).1 = e0 at c0 hnx i4
      generalize (L.getD k (0, 0, 0)).2.1 = e1 at c1 hnx i4
      generalize (L.getD k (0, 0, 0)).2.2 = e2 at c2 hnx i4
      have hbn : Below wr.heap.size wr (wr.alloc (.cells #[.int .i64 e0, .int .i64 e1, .int .i64 e2] 145)) := (Below.refl wr.heap.size wr).alloc (Nat.le_refl _) _
      go_wp2_with fail
      go_quiet ((first | (go_at_call 102; exact quiet_same (Part_any _ _ _ _)) | (go_at_call 101; exact quiet_same (Put_any _ _ _ _ _))))
      go_wp2_with fail
      rw [← hnx.out]
      go_roundw
      case rel => exact ⟨k + 1, by omega, by go_num, rfl, (hb.trans (hbn.mono hb.size)).trans ⟨rfl, rfl, rfl, Nat.le_refl _, fun _ _ => rfl⟩⟩
      case measure => simp [intOf]; omega
    · obtain rfl : k = L.length := by omega
      clear hk hlt hown hLb hIs hI0 hLn hb3 hW hb
      have hW := hWr
      clear hWr
      have hmf : ∀ (fn : Fn) (first cap : Array Value) (w : World), (Instr.makeFunc fn first cap).run Tryz.prog w = .ok (.func fn first cap) w := fun _ _ _ _ => rfl
      have hG : Hid (un32 ((wordG 4 ⟨pc, p3, p7⟩ ⟨op, rd, r1, r2, imm, aq, rl, pred, succ⟩).setWidth 32) = un32 ((Put (Put (Put (R L.length) 12 3 (bv p3)) 7 5 (bv rd)) 15 5 (bv r1)).setWidth 32)) := Lib.hid (by rw [← hLm.out]; rfl)
      clear hLm
      go_wp2_with (first | (go_at_call 103; (with_reducible refine (Has1 false (by decide) hW).mono ?_); rintro e wh ⟨rfl, hW2⟩; clear hW; have hW := hW2; clear hW2; have x0 := hW.fl.aF3; have x1 := hW.fl.nF3; have x2 := hW.p1) | (go_at_call 103; (with_reducible refine (Has2 true (by decide) hW).mono ?_); rintro e wh ⟨rfl, hW2⟩; clear hW; have hW := hW2; clear hW2; have y0 := hW.fl.aRd; have y1 := hW.fl.nRd; have y2 := hW.i1) | (go_at_call 103; (with_reducible refine (Has3 true (by decide) hW).mono ?_); rintro e wh ⟨rfl, hW2⟩; clear hW; have hW := hW2; clear hW2; have f0 := hW.f0; have v0 := hW.fl.aRs1; have v1 := hW.fl.nRs1; have v2 := hW.i2; have z0 := hW.fl.aRs2; have z1 := hW.fl.nRs2; have z2 := hW.i3) | (go_at_call 104; (with_reducible refine (Fput_any _ _ _ _ _).mono ?_); rintro e wp ⟨rfl, hb2⟩; have hW2 := hW.keep hb2; clear hb2 hW; have hW := hW2; clear hW2; have f0 := hW.f0; have z0 := hW.fl.aRs2; have z1 := hW.fl.nRs2; have z2 := hW.i3))
      go_ret2
      rw [hG.out]
      exact ⟨rfl, hW.bl⟩
end
end Go.Proofs.YtcgflnkgekkidaaGreatDoor
