/- The walks of the document's hart: Check, may, address, target. The walk of the document's target of an instruction. The walk of the document's end of a hart. The frame of the document's Step; what is refused, what ends. Conditions: as each theorem says. -/
import Derived.Test.YtbglinhglnbfmaaGreatDoorHartMF
import Derived.Test.YtbglinhglnbfmaaGreatDoorRefNM
import Derived.Deep.RegionHeld3
import Derived.Deep.QuietTactic
set_option linter.unusedVariables false
namespace Go.Proofs.YtbglinhglnbfmaaGreatDoor
open Go.RowKit
section
attribute [local irreducible] un sn
set_option maxRecDepth 100000 in
theorem RHCheck_0 (h : HartV) (w : World) (h0 : un (h.x 0) ≠ 0) :
    Calls Tryz.prog 42 #[.agg (hartArr h)] w fun e w' => e = .returned (.int .i64 2) ∧ Below w.heap.size w w' := by
  have hund : ∀ b : Bool, (some undef = some (Value.bool b)) = False := fun b => by simp [undef]
  have a1 : (hartArr h)[1]? = some (.int .u64 (un (h.x 0))) := hartArr_at h 1 (by decide)
  have a33 : (hartArr h)[33]? = some (.int .i64 h.fin) := hartArr_at h 33 (by decide)
  have a34 : (hartArr h)[34]? = some (.int .u64 (un h.code)) := hartArr_at h 34 (by decide)
  have t0 : (un (h.x 0) != 0) = true := by simpa using h0
  generalize hartArr h = A at a1 a33 a34 ⊢
  go_enter Tryz.func42, Tryz.ntmps42
  go_wp2
  go_ret
  exact ⟨rfl, (Below.refl _ _).alloc (Nat.le_refl _) _⟩
set_option maxRecDepth 100000 in
theorem RHCheck_1 (h : HartV) (w : World) (h0 : un (h.x 0) = 0) (h1 : h.fin < 0) :
    Calls Tryz.prog 42 #[.agg (hartArr h)] w fun e w' => e = .returned (.int .i64 2) ∧ Below w.heap.size w w' := by
  have hund : ∀ b : Bool, (some undef = some (Value.bool b)) = False := fun b => by simp [undef]
  have a1 : (hartArr h)[1]? = some (.int .u64 (un (h.x 0))) := hartArr_at h 1 (by decide)
  have a33 : (hartArr h)[33]? = some (.int .i64 h.fin) := hartArr_at h 33 (by decide)
  have a34 : (hartArr h)[34]? = some (.int .u64 (un h.code)) := hartArr_at h 34 (by decide)
  have t0 : (un (h.x 0) != 0) = false := by rw [h0]; rfl
  have t1 : decide (h.fin < 0) = true := by rw [decide_eq_true_iff]; exact h1
  generalize hartArr h = A at a1 a33 a34 ⊢
  go_enter Tryz.func42, Tryz.ntmps42
  go_wp2
  go_ret
  exact ⟨rfl, (Below.refl _ _).alloc (Nat.le_refl _) _⟩
set_option maxRecDepth 100000 in
theorem RHCheck_2 (h : HartV) (w : World) (h0 : un (h.x 0) = 0) (h1 : 0 ≤ h.fin) (h2 : 6 < h.fin) :
    Calls Tryz.prog 42 #[.agg (hartArr h)] w fun e w' => e = .returned (.int .i64 2) ∧ Below w.heap.size w w' := by
  have hund : ∀ b : Bool, (some undef = some (Value.bool b)) = False := fun b => by simp [undef]
  have a1 : (hartArr h)[1]? = some (.int .u64 (un (h.x 0))) := hartArr_at h 1 (by decide)
  have a33 : (hartArr h)[33]? = some (.int .i64 h.fin) := hartArr_at h 33 (by decide)
  have a34 : (hartArr h)[34]? = some (.int .u64 (un h.code)) := hartArr_at h 34 (by decide)
  have t0 : (un (h.x 0) != 0) = false := by rw [h0]; rfl
  have t1 : decide (h.fin < 0) = false := by rw [decide_eq_false_iff_not]; omega
  have t2 : decide (6 < h.fin) = true := by rw [decide_eq_true_iff]; exact h2
  generalize hartArr h = A at a1 a33 a34 ⊢
  go_enter Tryz.func42, Tryz.ntmps42
  go_wp2
  go_ret
  exact ⟨rfl, (Below.refl _ _).alloc (Nat.le_refl _) _⟩
set_option maxRecDepth 100000 in
theorem RHCheck_3 (h : HartV) (w : World) (h0 : un (h.x 0) = 0) (h1 : 0 ≤ h.fin) (h2 : h.fin ≤ 6) (h3 : h.fin = 1) :
    Calls Tryz.prog 42 #[.agg (hartArr h)] w fun e w' => e = .returned (.int .i64 0) ∧ Below w.heap.size w w' := by
  have hund : ∀ b : Bool, (some undef = some (Value.bool b)) = False := fun b => by simp [undef]
  have a1 : (hartArr h)[1]? = some (.int .u64 (un (h.x 0))) := hartArr_at h 1 (by decide)
  have a33 : (hartArr h)[33]? = some (.int .i64 h.fin) := hartArr_at h 33 (by decide)
  have a34 : (hartArr h)[34]? = some (.int .u64 (un h.code)) := hartArr_at h 34 (by decide)
  have t0 : (un (h.x 0) != 0) = false := by rw [h0]; rfl
  have t1 : decide (h.fin < 0) = false := by rw [decide_eq_false_iff_not]; omega
  have t2 : decide (6 < h.fin) = false := by rw [decide_eq_false_iff_not]; omega
  have t3 : (h.fin != 1) = false := by rw [h3]; rfl
  generalize hartArr h = A at a1 a33 a34 ⊢
  go_enter Tryz.func42, Tryz.ntmps42
  go_wp2
  go_ret
  exact ⟨rfl, (Below.refl _ _).alloc (Nat.le_refl _) _⟩
set_option maxRecDepth 100000 in
theorem RHCheck_4 (h : HartV) (w : World) (h0 : un (h.x 0) = 0) (h1 : 0 ≤ h.fin) (h2 : h.fin ≤ 6) (h3 : h.fin ≠ 1) (h4 : un h.code ≠ 0) :
    Calls Tryz.prog 42 #[.agg (hartArr h)] w fun e w' => e = .returned (.int .i64 2) ∧ Below w.heap.size w w' := by
  have hund : ∀ b : Bool, (some undef = some (Value.bool b)) = False := fun b => by simp [undef]
  have a1 : (hartArr h)[1]? = some (.int .u64 (un (h.x 0))) := hartArr_at h 1 (by decide)
  have a33 : (hartArr h)[33]? = some (.int .i64 h.fin) := hartArr_at h 33 (by decide)
  have a34 : (hartArr h)[34]? = some (.int .u64 (un h.code)) := hartArr_at h 34 (by decide)
  have t0 : (un (h.x 0) != 0) = false := by rw [h0]; rfl
  have t1 : decide (h.fin < 0) = false := by rw [decide_eq_false_iff_not]; omega
  have t2 : decide (6 < h.fin) = false := by rw [decide_eq_false_iff_not]; omega
  have t3 : (h.fin != 1) = true := by simpa using h3
  have t4 : (un h.code != 0) = true := by simpa using h4
  generalize hartArr h = A at a1 a33 a34 ⊢
  go_enter Tryz.func42, Tryz.ntmps42
  go_wp2
  go_ret
  exact ⟨rfl, (Below.refl _ _).alloc (Nat.le_refl _) _⟩
set_option maxRecDepth 100000 in
theorem RHCheck_5 (h : HartV) (w : World) (h0 : un (h.x 0) = 0) (h1 : 0 ≤ h.fin) (h2 : h.fin ≤ 6) (h3 : h.fin ≠ 1) (h4 : un h.code = 0) :
    Calls Tryz.prog 42 #[.agg (hartArr h)] w fun e w' => e = .returned (.int .i64 0) ∧ Below w.heap.size w w' := by
  have hund : ∀ b : Bool, (some undef = some (Value.bool b)) = False := fun b => by simp [undef]
  have a1 : (hartArr h)[1]? = some (.int .u64 (un (h.x 0))) := hartArr_at h 1 (by decide)
  have a33 : (hartArr h)[33]? = some (.int .i64 h.fin) := hartArr_at h 33 (by decide)
  have a34 : (hartArr h)[34]? = some (.int .u64 (un h.code)) := hartArr_at h 34 (by decide)
  have t0 : (un (h.x 0) != 0) = false := by rw [h0]; rfl
  have t1 : decide (h.fin < 0) = false := by rw [decide_eq_false_iff_not]; omega
  have t2 : decide (6 < h.fin) = false := by rw [decide_eq_false_iff_not]; omega
  have t3 : (h.fin != 1) = true := by simpa using h3
  have t4 : (un h.code != 0) = false := by rw [h4]; rfl
  generalize hartArr h = A at a1 a33 a34 ⊢
  go_enter Tryz.func42, Tryz.ntmps42
  go_wp2
  go_ret
  exact ⟨rfl, (Below.refl _ _).alloc (Nat.le_refl _) _⟩
end
theorem RHCheck_any (h : HartV) (w : World) :
    Calls Tryz.prog 42 #[.agg (hartArr h)] w fun e w' => e = .returned (.int .i64 (hartE h)) ∧ Below w.heap.size w w' := by
  by_cases h0 : un (h.x 0) = 0
  · by_cases h1 : 0 ≤ h.fin
    · by_cases h2 : h.fin ≤ 6
      · by_cases h3 : h.fin = 1
        · rw [show hartE h = 0 by unfold hartE; rw [if_pos ⟨h0, h1, h2, .inl h3⟩]]; exact RHCheck_3 h w h0 h1 h2 h3
        · by_cases h4 : un h.code = 0
          · rw [show hartE h = 0 by unfold hartE; rw [if_pos ⟨h0, h1, h2, .inr h4⟩]]; exact RHCheck_5 h w h0 h1 h2 h3 h4
          · rw [show hartE h = 2 by unfold hartE; rw [if_neg (fun hh => hh.2.2.2.elim h3 h4)]]; exact RHCheck_4 h w h0 h1 h2 h3 h4
      · rw [show hartE h = 2 by unfold hartE; rw [if_neg (fun hh => h2 hh.2.2.1)]]; exact RHCheck_2 h w h0 h1 (by omega)
    · rw [show hartE h = 2 by unfold hartE; rw [if_neg (fun hh => h1 hh.2.1)]]; exact RHCheck_1 h w h0 (by omega)
  · rw [show hartE h = 2 by unfold hartE; rw [if_neg (fun hh => h0 hh.1)]]; exact RHCheck_0 h w h0
/-- fencepostref05.may -/
def mayE (h : HartV) (i : InsnV) : Int := if hartE h ≠ 0 then 2 else if h.fin ≠ 0 then 10 else checkE i
/-- fencepostref05.target -/
def tgtV (h : HartV) (i : InsnV) : BitVec 64 × Bool :=
  if i.op = 3 ∨ (takesE i.op = 0 ∧ takesF i.op (h.x i.rs1.toNat) (h.x i.rs2.toNat) = true) then (h.pc + bv i.imm, true)
  else if i.op = 4 then (bv ((un (h.x i.rs1.toNat + bv i.imm)).tdiv 2) * 2#64, true) else (h.pc + 4#64, false)
theorem hartE_or (h : HartV) : hartE h = 0 ∨ hartE h = 2 := by unfold hartE; split; exact .inl rfl; exact .inr rfl
attribute [local go_sem] wrap_u64_bv bv_un bv_sn bv_add bv_mul bv_neg bv_sub mul_bvpow shr_min shl_min sshr_min bv_lit bv_0 bv_1 un_shr sn_shr wrap_i64_un bits_u64_and bits_u64_or bits_u64_xor bits_u64_andNot bv_max u64_unsigned
section
attribute [local irreducible] un sn hartL
set_option maxRecDepth 100000 in
set_option maxHeartbeats 4000000 in
theorem RMay_bad (h : HartV) (op rd r1 r2 imm : Int) (aq rl : Bool) (pred succ : Int) (w : World) (hb : hartE h = 2) :
    Calls Tryz.prog 28 #[.agg (hartArr h), .agg #[.int .i64 op, .int .i64 rd, .int .i64 r1, .int .i64 r2, .int .i64 imm, .bool aq, .bool rl, .int .i64 pred, .int .i64 succ]] w fun e w' => e = .returned (.int .i64 2) ∧ Below w.heap.size w w' := by
  have hB0 := BK.start w h ⟨op, rd, r1, r2, imm, aq, rl, pred, succ⟩ 25 27
  have hu := Tryz.underlying25
  have hE := Lib.hid (fun W => RHCheck_any h W)
  have hR := Lib.hid (fun W => R2Check_any ⟨op, rd, r1, r2, imm, aq, rl, pred, succ⟩ W)
  rw [hb] at hE
  clear hb
  obtain ⟨rh, ri, x33, c0, c1, c2, c3, c4, c5, c6, c7, c8⟩ := hB0.facts
  go_enter Tryz.func28, Tryz.ntmps28
  go_wp2_with (first | (refine wpList_load_mid rfl 25 _ rfl w.heap.size 0 rfl (hartL h) _ rh hu rfl (size_hart _) ?_) | (go_at_call 42; refine (hE.out _).mono ?_; rintro e w2 ⟨rfl, hb2⟩; have hB := hB0.keep hb2; clear hb2 rh ri x33 c0 c1 c2 c3 c4 c5 c6 c7 c8; obtain ⟨rh, ri, x33, c0, c1, c2, c3, c4, c5, c6, c7, c8⟩ := hB.facts) | (go_at_call 8; refine (hR.out _).mono ?_; rintro e w3 ⟨rfl, hb3⟩; replace hB := hB.keep hb3))
  go_ret
  exact ⟨rfl, hB.bl⟩
set_option maxRecDepth 100000 in
set_option maxHeartbeats 4000000 in
theorem RMay_ended (h : HartV) (op rd r1 r2 imm : Int) (aq rl : Bool) (pred succ : Int) (w : World) (hb : hartE h = 0) (hf : h.fin ≠ 0) :
    Calls Tryz.prog 28 #[.agg (hartArr h), .agg #[.int .i64 op, .int .i64 rd, .int .i64 r1, .int .i64 r2, .int .i64 imm, .bool aq, .bool rl, .int .i64 pred, .int .i64 succ]] w fun e w' => e = .returned (.int .i64 10) ∧ Below w.heap.size w w' := by
  have hB0 := BK.start w h ⟨op, rd, r1, r2, imm, aq, rl, pred, succ⟩ 25 27
  have hu := Tryz.underlying25
  have hE := Lib.hid (fun W => RHCheck_any h W)
  have hR := Lib.hid (fun W => R2Check_any ⟨op, rd, r1, r2, imm, aq, rl, pred, succ⟩ W)
  rw [hb] at hE
  have tf : (h.fin != 0) = true := by simpa using hf
  clear hb hf
  obtain ⟨rh, ri, x33, c0, c1, c2, c3, c4, c5, c6, c7, c8⟩ := hB0.facts
  go_enter Tryz.func28, Tryz.ntmps28
  go_wp2_with (first | (refine wpList_load_mid rfl 25 _ rfl w.heap.size 0 rfl (hartL h) _ rh hu rfl (size_hart _) ?_) | (go_at_call 42; refine (hE.out _).mono ?_; rintro e w2 ⟨rfl, hb2⟩; have hB := hB0.keep hb2; clear hb2 rh ri x33 c0 c1 c2 c3 c4 c5 c6 c7 c8; obtain ⟨rh, ri, x33, c0, c1, c2, c3, c4, c5, c6, c7, c8⟩ := hB.facts) | (go_at_call 8; refine (hR.out _).mono ?_; rintro e w3 ⟨rfl, hb3⟩; replace hB := hB.keep hb3))
  go_ret
  exact ⟨rfl, hB.bl⟩
set_option maxRecDepth 100000 in
set_option maxHeartbeats 4000000 in
theorem RMay_on (h : HartV) (op rd r1 r2 imm : Int) (aq rl : Bool) (pred succ : Int) (w : World) (hb : hartE h = 0) (hf : h.fin = 0) :
    Calls Tryz.prog 28 #[.agg (hartArr h), .agg #[.int .i64 op, .int .i64 rd, .int .i64 r1, .int .i64 r2, .int .i64 imm, .bool aq, .bool rl, .int .i64 pred, .int .i64 succ]] w fun e w' => e = .returned (.int .i64 (checkE ⟨op, rd, r1, r2, imm, aq, rl, pred, succ⟩)) ∧ Below w.heap.size w w' := by
  have hB0 := BK.start w h ⟨op, rd, r1, r2, imm, aq, rl, pred, succ⟩ 25 27
  have hu := Tryz.underlying25
  have hE := Lib.hid (fun W => RHCheck_any h W)
  have hR := Lib.hid (fun W => R2Check_any ⟨op, rd, r1, r2, imm, aq, rl, pred, succ⟩ W)
  rw [hb] at hE
  have tf : (h.fin != 0) = false := by rw [hf]; rfl
  clear hb hf
  obtain ⟨rh, ri, x33, c0, c1, c2, c3, c4, c5, c6, c7, c8⟩ := hB0.facts
  go_enter Tryz.func28, Tryz.ntmps28
  go_wp2_with (first | (refine wpList_load_mid rfl 25 _ rfl w.heap.size 0 rfl (hartL h) _ rh hu rfl (size_hart _) ?_) | (go_at_call 42; refine (hE.out _).mono ?_; rintro e w2 ⟨rfl, hb2⟩; have hB := hB0.keep hb2; clear hb2 rh ri x33 c0 c1 c2 c3 c4 c5 c6 c7 c8; obtain ⟨rh, ri, x33, c0, c1, c2, c3, c4, c5, c6, c7, c8⟩ := hB.facts) | (go_at_call 8; refine (hR.out _).mono ?_; rintro e w3 ⟨rfl, hb3⟩; replace hB := hB.keep hb3))
  go_ret
  exact ⟨rfl, hB.bl⟩
theorem RMay_any (h : HartV) (i : InsnV) (w : World) : Calls Tryz.prog 28 #[.agg (hartArr h), .agg i.cells] w fun e w' => e = .returned (.int .i64 (mayE h i)) ∧ Below w.heap.size w w' := by
  obtain ⟨op, rd, r1, r2, imm, aq, rl, pred, succ⟩ := i
  unfold mayE
  rcases hartE_or h with hb | hb
  · rw [if_neg (by rw [hb]; simp)]
    by_cases hf : h.fin = 0
    · rw [if_neg (by rw [hf]; simp)]; exact RMay_on h op rd r1 r2 imm aq rl pred succ w hb hf
    · rw [if_pos hf]; exact RMay_ended h op rd r1 r2 imm aq rl pred succ w hb hf
  · rw [if_pos (by rw [hb]; decide)]; exact RMay_bad h op rd r1 r2 imm aq rl pred succ w hb
set_option maxRecDepth 100000 in
set_option maxHeartbeats 4000000 in
theorem RAddr_any (h : HartV) (op : Int) (d r1 r2 : Nat) (imm : Int) (aq rl : Bool) (pred succ : Int) (w : World) (hr1 : r1 < 32) :
    Calls Tryz.prog 43 #[.agg (hartArr h), .agg #[.int .i64 op, .int .i64 d, .int .i64 r1, .int .i64 r2, .int .i64 imm, .bool aq, .bool rl, .int .i64 pred, .int .i64 succ]] w fun e w' => e = .returned (.tuple #[.int .u64 (un (h.x r1 + bv imm)), .int .i64 (opOf op).size]) ∧ Below w.heap.size w w' := by
  have hB0 := BK.start w h ⟨op, d, r1, r2, imm, aq, rl, pred, succ⟩ 25 27
  have hM := Lib.hid (fun W => R2Mem_any op W)
  unfold memV at hM
  generalize (opOf op).loads = b1 at hM
  generalize (opOf op).stores = b2 at hM
  generalize (opOf op).size = z at hM ⊢
  obtain ⟨_, _, _, c0, c1, c2, c3, c4, c5, c6, c7, c8⟩ := hB0.facts
  go_enter Tryz.func43, Tryz.ntmps43
  go_upto_region 2 with (go_at_call 31; refine (hM.out _).mono ?_; rintro e w1 ⟨rfl, hb1⟩; have hB := hB0.keep hb1; clear hb1 hB0 c0 c1 c2 c3 c4 c5 c6 c7 c8; obtain ⟨_, _, _, c0, c1, c2, c3, c4, c5, c6, c7, c8⟩ := hB.facts)
  have x1 : w1.cell? ⟨w.heap.size, 1 + r1, none⟩ = some (.int .u64 (un (h.x r1))) := (hB.h (1 + r1) (by omega)).trans (congrArg some (hartCell_x h r1 hr1))
  have hlr : 0 ≤ (r1 : Int) ∧ (r1 : Int) < 32 := by omega
  go_quiet (fail)
  go_wp2
  go_ret2
  exact ⟨rfl, hB.bl.trans ⟨rfl, rfl, rfl, Nat.le_refl _, fun _ _ => rfl⟩⟩
end
end Go.Proofs.YtbglinhglnbfmaaGreatDoor
namespace Go.Proofs.YtbglinhglnbfmaaGreatDoor
open Go.RowKit
attribute [local go_sem] wrap_u64_bv bv_un bv_sn bv_add bv_mul bv_neg bv_sub mul_bvpow shr_min shl_min sshr_min bv_lit bv_0 bv_1 un_shr sn_shr wrap_i64_un bits_u64_and bits_u64_or bits_u64_xor bits_u64_andNot bv_max u64_unsigned
section
attribute [local irreducible] un sn hartL
set_option maxRecDepth 100000 in
set_option maxHeartbeats 4000000 in
theorem RTgt_jal (h : HartV) (op : Int) (d r1 r2 : Nat) (imm : Int) (aq rl : Bool) (pred succ : Int) (w : World) (hr1 : r1 < 32) (hr2 : r2 < 32) (ho : op = 3) :
    Calls Tryz.prog 32 #[.agg (hartArr h), .agg #[.int .i64 op, .int .i64 d, .int .i64 r1, .int .i64 r2, .int .i64 imm, .bool aq, .bool rl, .int .i64 pred, .int .i64 succ]] w fun e w' => e = .returned (.tuple #[.int .u64 (un (h.pc + bv imm)), .bool true]) ∧ Below w.heap.size w w' := by
  have hB0 := BK.start w h ⟨op, d, r1, r2, imm, aq, rl, pred, succ⟩ 25 27
  have hT := Lib.hid (fun W => RTakes_any op (h.x r1) (h.x r2) W)
  have hl1 : 0 ≤ (r1 : Int) ∧ (r1 : Int) < 32 := by omega
  have hl2 : 0 ≤ (r2 : Int) ∧ (r2 : Int) < 32 := by omega
  have t3 : (op == 3) = true := by rw [ho]; rfl
  clear ho
  generalize takesF op (h.x r1) (h.x r2) = tb at hT
  generalize takesE op = te at hT
  have hund : ∀ b : Bool, (some undef = some (Value.bool b)) = False := fun b => by simp [undef]
  go_enter Tryz.func32, Tryz.ntmps32
  go_upto_region 1 with fail
  refine wp_region_held_drew (S := fun W => BK w h ⟨op, d, r1, r2, imm, aq, rl, pred, succ⟩ W) (by kernel_rfl) hB0.drew (fun hHeld => ?_)
  refine wpAnyH_take (i := 0) (v := .pointer (some ⟨(w.heap.size + 1), 0, none⟩)) rfl (by kernel_rfl) (by kernel_rfl) (by kernel_rfl) (fun _ _ _ h => h) (Or.inl ⟨by rfl, fun W _ => by kernel_rfl⟩) hHeld ?_
  try simp only [Act.put, List.getElem_toArray, List.getElem_cons_zero, List.setIfInBounds_toArray, List.set_cons_zero, List.set_cons_succ]
  refine wpAnyH_take (i := 1) (v := .int .i64 op) rfl (by kernel_rfl) (by kernel_rfl) (by kernel_rfl) (fun _ _ _ h => h) (Or.inl ⟨by rfl, fun W hS => by (have k : W.cell? ⟨(w.heap.size + 1), 0, none⟩ = some (.int .i64 op) := hS.c 0 (by decide)); go_simp⟩) hHeld ?_
  try simp only [Act.put, List.getElem_toArray, List.getElem_cons_succ, List.getElem_cons_zero, List.setIfInBounds_toArray, List.set_cons_zero, List.set_cons_succ]
  refine wpAnyH_take (i := 2) (v := .pointer (some ⟨(w.heap.size + 1), 2, none⟩)) rfl (by kernel_rfl) (by kernel_rfl) (by kernel_rfl) (fun _ _ _ h => h) (Or.inl ⟨by rfl, fun W _ => by kernel_rfl⟩) hHeld ?_
  try simp only [Act.put, List.getElem_toArray, List.getElem_cons_succ, List.getElem_cons_zero, List.setIfInBounds_toArray, List.set_cons_zero, List.set_cons_succ]
  refine wpAnyH_take (i := 3) (v := .int .i64 r1) rfl (by kernel_rfl) (by kernel_rfl) (by kernel_rfl) (fun _ _ _ h => h) (Or.inl ⟨by rfl, fun W hS => by (have k : W.cell? ⟨(w.heap.size + 1), 2, none⟩ = some (.int .i64 r1) := hS.c 2 (by decide)); go_simp⟩) hHeld ?_
  try simp only [Act.put, List.getElem_toArray, List.getElem_cons_succ, List.getElem_cons_zero, List.setIfInBounds_toArray, List.set_cons_zero, List.set_cons_succ]
  refine wpAnyH_take (i := 4) (v := .pointer (some ⟨w.heap.size, 1, none⟩)) rfl (by kernel_rfl) (by kernel_rfl) (by kernel_rfl) (fun _ _ _ h => h) (Or.inl ⟨by rfl, fun W _ => by kernel_rfl⟩) hHeld ?_
  try simp only [Act.put, List.getElem_toArray, List.getElem_cons_succ, List.getElem_cons_zero, List.setIfInBounds_toArray, List.set_cons_zero, List.set_cons_succ]
  refine wpAnyH_take (i := 5) (v := .pointer (some ⟨w.heap.size, 1 + r1, none⟩)) rfl (by kernel_rfl) (by kernel_rfl) (by kernel_rfl) (fun _ _ _ h => h) (Or.inl ⟨by rfl, fun W _ => by go_simp⟩) hHeld ?_
  try simp only [Act.put, List.getElem_toArray, List.getElem_cons_succ, List.getElem_cons_zero, List.setIfInBounds_toArray, List.set_cons_zero, List.set_cons_succ]
  refine wpAnyH_take (i := 6) (v := .int .u64 (un (h.x r1))) rfl (by kernel_rfl) (by kernel_rfl) (by kernel_rfl) (fun _ _ _ h => h) (Or.inl ⟨by rfl, fun W hS => by (have k : W.cell? ⟨w.heap.size, 1 + r1, none⟩ = some (.int .u64 (un (h.x r1))) := (hS.h (1 + r1) (by omega)).trans (congrArg some (hartCell_x h r1 hr1))); go_simp⟩) hHeld ?_
  try simp only [Act.put, List.getElem_toArray, List.getElem_cons_succ, List.getElem_cons_zero, List.setIfInBounds_toArray, List.set_cons_zero, List.set_cons_succ]
  refine wpAnyH_take (i := 7) (v := .pointer (some ⟨(w.heap.size + 1), 3, none⟩)) rfl (by kernel_rfl) (by kernel_rfl) (by kernel_rfl) (fun _ _ _ h => h) (Or.inl ⟨by rfl, fun W _ => by kernel_rfl⟩) hHeld ?_
  try simp only [Act.put, List.getElem_toArray, List.getElem_cons_succ, List.getElem_cons_zero, List.setIfInBounds_toArray, List.set_cons_zero, List.set_cons_succ]
  refine wpAnyH_take (i := 8) (v := .int .i64 r2) rfl (by kernel_rfl) (by kernel_rfl) (by kernel_rfl) (fun _ _ _ h => h) (Or.inl ⟨by rfl, fun W hS => by (have k : W.cell? ⟨(w.heap.size + 1), 3, none⟩ = some (.int .i64 r2) := hS.c 3 (by decide)); go_simp⟩) hHeld ?_
  try simp only [Act.put, List.getElem_toArray, List.getElem_cons_succ, List.getElem_cons_zero, List.setIfInBounds_toArray, List.set_cons_zero, List.set_cons_succ]
  refine wpAnyH_take (i := 9) (v := .pointer (some ⟨w.heap.size, 1, none⟩)) rfl (by kernel_rfl) (by kernel_rfl) (by kernel_rfl) (fun _ _ _ h => h) (Or.inl ⟨by rfl, fun W _ => by kernel_rfl⟩) hHeld ?_
  try simp only [Act.put, List.getElem_toArray, List.getElem_cons_succ, List.getElem_cons_zero, List.setIfInBounds_toArray, List.set_cons_zero, List.set_cons_succ]
  refine wpAnyH_take (i := 10) (v := .pointer (some ⟨w.heap.size, 1 + r2, none⟩)) rfl (by kernel_rfl) (by kernel_rfl) (by kernel_rfl) (fun _ _ _ h => h) (Or.inl ⟨by rfl, fun W _ => by go_simp⟩) hHeld ?_
  try simp only [Act.put, List.getElem_toArray, List.getElem_cons_succ, List.getElem_cons_zero, List.setIfInBounds_toArray, List.set_cons_zero, List.set_cons_succ]
  refine wpAnyH_take (i := 11) (v := .int .u64 (un (h.x r2))) rfl (by kernel_rfl) (by kernel_rfl) (by kernel_rfl) (fun _ _ _ h => h) (Or.inl ⟨by rfl, fun W hS => by (have k : W.cell? ⟨w.heap.size, 1 + r2, none⟩ = some (.int .u64 (un (h.x r2))) := (hS.h (1 + r2) (by omega)).trans (congrArg some (hartCell_x h r2 hr2))); go_simp⟩) hHeld ?_
  try simp only [Act.put, List.getElem_toArray, List.getElem_cons_succ, List.getElem_cons_zero, List.setIfInBounds_toArray, List.set_cons_zero, List.set_cons_succ]
  refine wpAnyH_ready (rs := [12]) (by kernel_rfl) (by simp) (AllReadyH.cons rfl (fun K hK2 => ?_) AllReadyH.nil)
  rw [if_pos (by rfl)]
  simp only [List.getElem_toArray, List.getElem_cons_succ, List.getElem_cons_zero]
  go_wp2_with (go_at_call 10; refine (hT.out _).mono ?_; rintro e wb ⟨rfl, rfl⟩)
  refine hK2.out _ _ (hHeld) (fun hHeld2 => ?_)
  clear hK2 K hHeld
  have hHeld := hHeld2
  clear hHeld2
  try simp only [Act.put, List.getElem_toArray, List.getElem_cons_succ, List.getElem_cons_zero, List.setIfInBounds_toArray, List.set_cons_zero, List.set_cons_succ]
  refine wpAnyH_take (i := 13) (v := .tuple #[.bool tb, .int .i64 te]) rfl (by kernel_rfl) (by kernel_rfl) (by kernel_rfl) (fun _ _ _ h => h) (Or.inl ⟨by rfl, fun W _ => by kernel_rfl⟩) hHeld ?_
  try simp only [Act.put, List.getElem_toArray, List.getElem_cons_succ, List.getElem_cons_zero, List.setIfInBounds_toArray, List.set_cons_zero, List.set_cons_succ]
  refine wpAnyH_take (i := 14) (v := .bool tb) rfl (by kernel_rfl) (by kernel_rfl) (by kernel_rfl) (fun _ _ _ h => h) (Or.inl ⟨by rfl, fun W _ => by kernel_rfl⟩) hHeld ?_
  try simp only [Act.put, List.getElem_toArray, List.getElem_cons_succ, List.getElem_cons_zero, List.setIfInBounds_toArray, List.set_cons_zero, List.set_cons_succ]
  refine wpAnyH_take (i := 15) (v := .int .i64 te) rfl (by kernel_rfl) (by kernel_rfl) (by kernel_rfl) (fun _ _ _ h => h) (Or.inl ⟨by rfl, fun W _ => by kernel_rfl⟩) hHeld ?_
  try simp only [Act.put, List.getElem_toArray, List.getElem_cons_succ, List.getElem_cons_zero, List.setIfInBounds_toArray, List.set_cons_zero, List.set_cons_succ]
  refine wpAnyH_take (i := 16) (v := .bool tb) rfl (by kernel_rfl) (by kernel_rfl) (by kernel_rfl) (fun _ _ _ h => h) (Or.inl ⟨by rfl, fun W _ => by kernel_rfl⟩) hHeld ?_
  try simp only [Act.put, List.getElem_toArray, List.getElem_cons_succ, List.getElem_cons_zero, List.setIfInBounds_toArray, List.set_cons_zero, List.set_cons_succ]
  refine wpAnyH_take (i := 17) (v := .int .i64 te) rfl (by kernel_rfl) (by kernel_rfl) (by kernel_rfl) (fun _ _ _ h => h) (Or.inl ⟨by rfl, fun W _ => by kernel_rfl⟩) hHeld ?_
  try simp only [Act.put, List.getElem_toArray, List.getElem_cons_succ, List.getElem_cons_zero, List.setIfInBounds_toArray, List.set_cons_zero, List.set_cons_succ]
  refine wpAnyH_done (by kernel_rfl) ?_ _
  have hB := hHeld
  clear hHeld hB0
  obtain ⟨-, -, -, c0, c1, c2, c3, c4, c5, c6, c7, c8⟩ := hB.facts
  generalize World.drew _ = W0 at hB c0 c1 c2 c3 c4 c5 c6 c7 c8 ⊢
  have pc0 : W0.cell? ⟨w.heap.size, 0, none⟩ = some (.int .u64 (un h.pc)) := hB.h 0 (by decide)
  go_wp2_with fail
  go_ret2
  exact ⟨rfl, by first | exact hB.bl | exact hB.bl.trans ⟨rfl, rfl, rfl, Nat.le_refl _, fun _ _ => rfl⟩⟩
set_option maxRecDepth 100000 in
set_option maxHeartbeats 4000000 in
theorem RTgt_br (h : HartV) (op : Int) (d r1 r2 : Nat) (imm : Int) (aq rl : Bool) (pred succ : Int) (w : World) (hr1 : r1 < 32) (hr2 : r2 < 32) (ho : op ≠ 3) (h1 : takesE op = 0) (h2 : takesF op (h.x r1) (h.x r2) = true) :
    Calls Tryz.prog 32 #[.agg (hartArr h), .agg #[.int .i64 op, .int .i64 d, .int .i64 r1, .int .i64 r2, .int .i64 imm, .bool aq, .bool rl, .int .i64 pred, .int .i64 succ]] w fun e w' => e = .returned (.tuple #[.int .u64 (un (h.pc + bv imm)), .bool true]) ∧ Below w.heap.size w w' := by
  have hB0 := BK.start w h ⟨op, d, r1, r2, imm, aq, rl, pred, succ⟩ 25 27
  have hT := Lib.hid (fun W => RTakes_any op (h.x r1) (h.x r2) W)
  have hl1 : 0 ≤ (r1 : Int) ∧ (r1 : Int) < 32 := by omega
  have hl2 : 0 ≤ (r2 : Int) ∧ (r2 : Int) < 32 := by omega
  have t3 : (op == 3) = false := by rw [beq_eq_false_iff_ne]; exact ho
  clear ho
  have t0 : (takesE op == 0) = true := by rw [h1]; rfl
  clear h1
  generalize takesF op (h.x r1) (h.x r2) = tb at hT h2
  generalize takesE op = te at hT t0
  subst h2
  have hund : ∀ b : Bool, (some undef = some (Value.bool b)) = False := fun b => by simp [undef]
  go_enter Tryz.func32, Tryz.ntmps32
  go_upto_region 1 with fail
  refine wp_region_held_drew (S := fun W => BK w h ⟨op, d, r1, r2, imm, aq, rl, pred, succ⟩ W) (by kernel_rfl) hB0.drew (fun hHeld => ?_)
  refine wpAnyH_take (i := 0) (v := .pointer (some ⟨(w.heap.size + 1), 0, none⟩)) rfl (by kernel_rfl) (by kernel_rfl) (by kernel_rfl) (fun _ _ _ h => h) (Or.inl ⟨by rfl, fun W _ => by kernel_rfl⟩) hHeld ?_
  try simp only [Act.put, List.getElem_toArray, List.getElem_cons_zero, List.setIfInBounds_toArray, List.set_cons_zero, List.set_cons_succ]
  refine wpAnyH_take (i := 1) (v := .int .i64 op) rfl (by kernel_rfl) (by kernel_rfl) (by kernel_rfl) (fun _ _ _ h => h) (Or.inl ⟨by rfl, fun W hS => by (have k : W.cell? ⟨(w.heap.size + 1), 0, none⟩ = some (.int .i64 op) := hS.c 0 (by decide)); go_simp⟩) hHeld ?_
  try simp only [Act.put, List.getElem_toArray, List.getElem_cons_succ, List.getElem_cons_zero, List.setIfInBounds_toArray, List.set_cons_zero, List.set_cons_succ]
  refine wpAnyH_take (i := 2) (v := .pointer (some ⟨(w.heap.size + 1), 2, none⟩)) rfl (by kernel_rfl) (by kernel_rfl) (by kernel_rfl) (fun _ _ _ h => h) (Or.inl ⟨by rfl, fun W _ => by kernel_rfl⟩) hHeld ?_
  try simp only [Act.put, List.getElem_toArray, List.getElem_cons_succ, List.getElem_cons_zero, List.setIfInBounds_toArray, List.set_cons_zero, List.set_cons_succ]
  refine wpAnyH_take (i := 3) (v := .int .i64 r1) rfl (by kernel_rfl) (by kernel_rfl) (by kernel_rfl) (fun _ _ _ h => h) (Or.inl ⟨by rfl, fun W hS => by (have k : W.cell? ⟨(w.heap.size + 1), 2, none⟩ = some (.int .i64 r1) := hS.c 2 (by decide)); go_simp⟩) hHeld ?_
  try simp only [Act.put, List.getElem_toArray, List.getElem_cons_succ, List.getElem_cons_zero, List.setIfInBounds_toArray, List.set_cons_zero, List.set_cons_succ]
  refine wpAnyH_take (i := 4) (v := .pointer (some ⟨w.heap.size, 1, none⟩)) rfl (by kernel_rfl) (by kernel_rfl) (by kernel_rfl) (fun _ _ _ h => h) (Or.inl ⟨by rfl, fun W _ => by kernel_rfl⟩) hHeld ?_
  try simp only [Act.put, List.getElem_toArray, List.getElem_cons_succ, List.getElem_cons_zero, List.setIfInBounds_toArray, List.set_cons_zero, List.set_cons_succ]
  refine wpAnyH_take (i := 5) (v := .pointer (some ⟨w.heap.size, 1 + r1, none⟩)) rfl (by kernel_rfl) (by kernel_rfl) (by kernel_rfl) (fun _ _ _ h => h) (Or.inl ⟨by rfl, fun W _ => by go_simp⟩) hHeld ?_
  try simp only [Act.put, List.getElem_toArray, List.getElem_cons_succ, List.getElem_cons_zero, List.setIfInBounds_toArray, List.set_cons_zero, List.set_cons_succ]
  refine wpAnyH_take (i := 6) (v := .int .u64 (un (h.x r1))) rfl (by kernel_rfl) (by kernel_rfl) (by kernel_rfl) (fun _ _ _ h => h) (Or.inl ⟨by rfl, fun W hS => by (have k : W.cell? ⟨w.heap.size, 1 + r1, none⟩ = some (.int .u64 (un (h.x r1))) := (hS.h (1 + r1) (by omega)).trans (congrArg some (hartCell_x h r1 hr1))); go_simp⟩) hHeld ?_
  try simp only [Act.put, List.getElem_toArray, List.getElem_cons_succ, List.getElem_cons_zero, List.setIfInBounds_toArray, List.set_cons_zero, List.set_cons_succ]
  refine wpAnyH_take (i := 7) (v := .pointer (some ⟨(w.heap.size + 1), 3, none⟩)) rfl (by kernel_rfl) (by kernel_rfl) (by kernel_rfl) (fun _ _ _ h => h) (Or.inl ⟨by rfl, fun W _ => by kernel_rfl⟩) hHeld ?_
  try simp only [Act.put, List.getElem_toArray, List.getElem_cons_succ, List.getElem_cons_zero, List.setIfInBounds_toArray, List.set_cons_zero, List.set_cons_succ]
  refine wpAnyH_take (i := 8) (v := .int .i64 r2) rfl (by kernel_rfl) (by kernel_rfl) (by kernel_rfl) (fun _ _ _ h => h) (Or.inl ⟨by rfl, fun W hS => by (have k : W.cell? ⟨(w.heap.size + 1), 3, none⟩ = some (.int .i64 r2) := hS.c 3 (by decide)); go_simp⟩) hHeld ?_
  try simp only [Act.put, List.getElem_toArray, List.getElem_cons_succ, List.getElem_cons_zero, List.setIfInBounds_toArray, List.set_cons_zero, List.set_cons_succ]
  refine wpAnyH_take (i := 9) (v := .pointer (some ⟨w.heap.size, 1, none⟩)) rfl (by kernel_rfl) (by kernel_rfl) (by kernel_rfl) (fun _ _ _ h => h) (Or.inl ⟨by rfl, fun W _ => by kernel_rfl⟩) hHeld ?_
  try simp only [Act.put, List.getElem_toArray, List.getElem_cons_succ, List.getElem_cons_zero, List.setIfInBounds_toArray, List.set_cons_zero, List.set_cons_succ]
  refine wpAnyH_take (i := 10) (v := .pointer (some ⟨w.heap.size, 1 + r2, none⟩)) rfl (by kernel_rfl) (by kernel_rfl) (by kernel_rfl) (fun _ _ _ h => h) (Or.inl ⟨by rfl, fun W _ => by go_simp⟩) hHeld ?_
  try simp only [Act.put, List.getElem_toArray, List.getElem_cons_succ, List.getElem_cons_zero, List.setIfInBounds_toArray, List.set_cons_zero, List.set_cons_succ]
  refine wpAnyH_take (i := 11) (v := .int .u64 (un (h.x r2))) rfl (by kernel_rfl) (by kernel_rfl) (by kernel_rfl) (fun _ _ _ h => h) (Or.inl ⟨by rfl, fun W hS => by (have k : W.cell? ⟨w.heap.size, 1 + r2, none⟩ = some (.int .u64 (un (h.x r2))) := (hS.h (1 + r2) (by omega)).trans (congrArg some (hartCell_x h r2 hr2))); go_simp⟩) hHeld ?_
  try simp only [Act.put, List.getElem_toArray, List.getElem_cons_succ, List.getElem_cons_zero, List.setIfInBounds_toArray, List.set_cons_zero, List.set_cons_succ]
  refine wpAnyH_ready (rs := [12]) (by kernel_rfl) (by simp) (AllReadyH.cons rfl (fun K hK2 => ?_) AllReadyH.nil)
  rw [if_pos (by rfl)]
  simp only [List.getElem_toArray, List.getElem_cons_succ, List.getElem_cons_zero]
  go_wp2_with (go_at_call 10; refine (hT.out _).mono ?_; rintro e wb ⟨rfl, rfl⟩)
  refine hK2.out _ _ (hHeld) (fun hHeld2 => ?_)
  clear hK2 K hHeld
  have hHeld := hHeld2
  clear hHeld2
  try simp only [Act.put, List.getElem_toArray, List.getElem_cons_succ, List.getElem_cons_zero, List.setIfInBounds_toArray, List.set_cons_zero, List.set_cons_succ]
  refine wpAnyH_take (i := 13) (v := .tuple #[.bool true, .int .i64 te]) rfl (by kernel_rfl) (by kernel_rfl) (by kernel_rfl) (fun _ _ _ h => h) (Or.inl ⟨by rfl, fun W _ => by kernel_rfl⟩) hHeld ?_
  try simp only [Act.put, List.getElem_toArray, List.getElem_cons_succ, List.getElem_cons_zero, List.setIfInBounds_toArray, List.set_cons_zero, List.set_cons_succ]
  refine wpAnyH_take (i := 14) (v := .bool true) rfl (by kernel_rfl) (by kernel_rfl) (by kernel_rfl) (fun _ _ _ h => h) (Or.inl ⟨by rfl, fun W _ => by kernel_rfl⟩) hHeld ?_
  try simp only [Act.put, List.getElem_toArray, List.getElem_cons_succ, List.getElem_cons_zero, List.setIfInBounds_toArray, List.set_cons_zero, List.set_cons_succ]
  refine wpAnyH_take (i := 15) (v := .int .i64 te) rfl (by kernel_rfl) (by kernel_rfl) (by kernel_rfl) (fun _ _ _ h => h) (Or.inl ⟨by rfl, fun W _ => by kernel_rfl⟩) hHeld ?_
  try simp only [Act.put, List.getElem_toArray, List.getElem_cons_succ, List.getElem_cons_zero, List.setIfInBounds_toArray, List.set_cons_zero, List.set_cons_succ]
  refine wpAnyH_take (i := 16) (v := .bool true) rfl (by kernel_rfl) (by kernel_rfl) (by kernel_rfl) (fun _ _ _ h => h) (Or.inl ⟨by rfl, fun W _ => by kernel_rfl⟩) hHeld ?_
  try simp only [Act.put, List.getElem_toArray, List.getElem_cons_succ, List.getElem_cons_zero, List.setIfInBounds_toArray, List.set_cons_zero, List.set_cons_succ]
  refine wpAnyH_take (i := 17) (v := .int .i64 te) rfl (by kernel_rfl) (by kernel_rfl) (by kernel_rfl) (fun _ _ _ h => h) (Or.inl ⟨by rfl, fun W _ => by kernel_rfl⟩) hHeld ?_
  try simp only [Act.put, List.getElem_toArray, List.getElem_cons_succ, List.getElem_cons_zero, List.setIfInBounds_toArray, List.set_cons_zero, List.set_cons_succ]
  refine wpAnyH_done (by kernel_rfl) ?_ _
  have hB := hHeld
  clear hHeld hB0
  obtain ⟨-, -, -, c0, c1, c2, c3, c4, c5, c6, c7, c8⟩ := hB.facts
  generalize World.drew _ = W0 at hB c0 c1 c2 c3 c4 c5 c6 c7 c8 ⊢
  have pc0 : W0.cell? ⟨w.heap.size, 0, none⟩ = some (.int .u64 (un h.pc)) := hB.h 0 (by decide)
  go_wp2_with fail
  go_ret2
  exact ⟨rfl, by first | exact hB.bl | exact hB.bl.trans ⟨rfl, rfl, rfl, Nat.le_refl _, fun _ _ => rfl⟩⟩
set_option maxRecDepth 100000 in
set_option maxHeartbeats 4000000 in
theorem RTgt_jalr0 (h : HartV) (op : Int) (d r1 r2 : Nat) (imm : Int) (aq rl : Bool) (pred succ : Int) (w : World) (hr1 : r1 < 32) (hr2 : r2 < 32) (t3 : (op == 3) = false) (h4 : op = 4) (t0 : (takesE op == 0) = false) :
    Calls Tryz.prog 32 #[.agg (hartArr h), .agg #[.int .i64 op, .int .i64 d, .int .i64 r1, .int .i64 r2, .int .i64 imm, .bool aq, .bool rl, .int .i64 pred, .int .i64 succ]] w fun e w' => e = .returned (.tuple #[.int .u64 (un (bv ((un (h.x r1 + bv imm)).tdiv 2) * 2#64)), .bool true]) ∧ Below w.heap.size w w' := by
  have hB0 := BK.start w h ⟨op, d, r1, r2, imm, aq, rl, pred, succ⟩ 25 27
  have hT := Lib.hid (fun W => RTakes_any op (h.x r1) (h.x r2) W)
  have hl1 : 0 ≤ (r1 : Int) ∧ (r1 : Int) < 32 := by omega
  have hl2 : 0 ≤ (r2 : Int) ∧ (r2 : Int) < 32 := by omega
  have t4 : (op == 4) = true := by rw [h4]; rfl
  clear h4
  generalize takesF op (h.x r1) (h.x r2) = tb at hT
  generalize takesE op = te at hT t0
  have hund : ∀ b : Bool, (some undef = some (Value.bool b)) = False := fun b => by simp [undef]
  go_enter Tryz.func32, Tryz.ntmps32
  go_upto_region 1 with fail
  refine wp_region_held_drew (S := fun W => BK w h ⟨op, d, r1, r2, imm, aq, rl, pred, succ⟩ W) (by kernel_rfl) hB0.drew (fun hHeld => ?_)
  refine wpAnyH_take (i := 0) (v := .pointer (some ⟨(w.heap.size + 1), 0, none⟩)) rfl (by kernel_rfl) (by kernel_rfl) (by kernel_rfl) (fun _ _ _ h => h) (Or.inl ⟨by rfl, fun W _ => by kernel_rfl⟩) hHeld ?_
  try simp only [Act.put, List.getElem_toArray, List.getElem_cons_zero, List.setIfInBounds_toArray, List.set_cons_zero, List.set_cons_succ]
  refine wpAnyH_take (i := 1) (v := .int .i64 op) rfl (by kernel_rfl) (by kernel_rfl) (by kernel_rfl) (fun _ _ _ h => h) (Or.inl ⟨by rfl, fun W hS => by (have k : W.cell? ⟨(w.heap.size + 1), 0, none⟩ = some (.int .i64 op) := hS.c 0 (by decide)); go_simp⟩) hHeld ?_
  try simp only [Act.put, List.getElem_toArray, List.getElem_cons_succ, List.getElem_cons_zero, List.setIfInBounds_toArray, List.set_cons_zero, List.set_cons_succ]
  refine wpAnyH_take (i := 2) (v := .pointer (some ⟨(w.heap.size + 1), 2, none⟩)) rfl (by kernel_rfl) (by kernel_rfl) (by kernel_rfl) (fun _ _ _ h => h) (Or.inl ⟨by rfl, fun W _ => by kernel_rfl⟩) hHeld ?_
  try simp only [Act.put, List.getElem_toArray, List.getElem_cons_succ, List.getElem_cons_zero, List.setIfInBounds_toArray, List.set_cons_zero, List.set_cons_succ]
  refine wpAnyH_take (i := 3) (v := .int .i64 r1) rfl (by kernel_rfl) (by kernel_rfl) (by kernel_rfl) (fun _ _ _ h => h) (Or.inl ⟨by rfl, fun W hS => by (have k : W.cell? ⟨(w.heap.size + 1), 2, none⟩ = some (.int .i64 r1) := hS.c 2 (by decide)); go_simp⟩) hHeld ?_
  try simp only [Act.put, List.getElem_toArray, List.getElem_cons_succ, List.getElem_cons_zero, List.setIfInBounds_toArray, List.set_cons_zero, List.set_cons_succ]
  refine wpAnyH_take (i := 4) (v := .pointer (some ⟨w.heap.size, 1, none⟩)) rfl (by kernel_rfl) (by kernel_rfl) (by kernel_rfl) (fun _ _ _ h => h) (Or.inl ⟨by rfl, fun W _ => by kernel_rfl⟩) hHeld ?_
  try simp only [Act.put, List.getElem_toArray, List.getElem_cons_succ, List.getElem_cons_zero, List.setIfInBounds_toArray, List.set_cons_zero, List.set_cons_succ]
  refine wpAnyH_take (i := 5) (v := .pointer (some ⟨w.heap.size, 1 + r1, none⟩)) rfl (by kernel_rfl) (by kernel_rfl) (by kernel_rfl) (fun _ _ _ h => h) (Or.inl ⟨by rfl, fun W _ => by go_simp⟩) hHeld ?_
  try simp only [Act.put, List.getElem_toArray, List.getElem_cons_succ, List.getElem_cons_zero, List.setIfInBounds_toArray, List.set_cons_zero, List.set_cons_succ]
  refine wpAnyH_take (i := 6) (v := .int .u64 (un (h.x r1))) rfl (by kernel_rfl) (by kernel_rfl) (by kernel_rfl) (fun _ _ _ h => h) (Or.inl ⟨by rfl, fun W hS => by (have k : W.cell? ⟨w.heap.size, 1 + r1, none⟩ = some (.int .u64 (un (h.x r1))) := (hS.h (1 + r1) (by omega)).trans (congrArg some (hartCell_x h r1 hr1))); go_simp⟩) hHeld ?_
  try simp only [Act.put, List.getElem_toArray, List.getElem_cons_succ, List.getElem_cons_zero, List.setIfInBounds_toArray, List.set_cons_zero, List.set_cons_succ]
  refine wpAnyH_take (i := 7) (v := .pointer (some ⟨(w.heap.size + 1), 3, none⟩)) rfl (by kernel_rfl) (by kernel_rfl) (by kernel_rfl) (fun _ _ _ h => h) (Or.inl ⟨by rfl, fun W _ => by kernel_rfl⟩) hHeld ?_
  try simp only [Act.put, List.getElem_toArray, List.getElem_cons_succ, List.getElem_cons_zero, List.setIfInBounds_toArray, List.set_cons_zero, List.set_cons_succ]
  refine wpAnyH_take (i := 8) (v := .int .i64 r2) rfl (by kernel_rfl) (by kernel_rfl) (by kernel_rfl) (fun _ _ _ h => h) (Or.inl ⟨by rfl, fun W hS => by (have k : W.cell? ⟨(w.heap.size + 1), 3, none⟩ = some (.int .i64 r2) := hS.c 3 (by decide)); go_simp⟩) hHeld ?_
  try simp only [Act.put, List.getElem_toArray, List.getElem_cons_succ, List.getElem_cons_zero, List.setIfInBounds_toArray, List.set_cons_zero, List.set_cons_succ]
  refine wpAnyH_take (i := 9) (v := .pointer (some ⟨w.heap.size, 1, none⟩)) rfl (by kernel_rfl) (by kernel_rfl) (by kernel_rfl) (fun _ _ _ h => h) (Or.inl ⟨by rfl, fun W _ => by kernel_rfl⟩) hHeld ?_
  try simp only [Act.put, List.getElem_toArray, List.getElem_cons_succ, List.getElem_cons_zero, List.setIfInBounds_toArray, List.set_cons_zero, List.set_cons_succ]
  refine wpAnyH_take (i := 10) (v := .pointer (some ⟨w.heap.size, 1 + r2, none⟩)) rfl (by kernel_rfl) (by kernel_rfl) (by kernel_rfl) (fun _ _ _ h => h) (Or.inl ⟨by rfl, fun W _ => by go_simp⟩) hHeld ?_
  try simp only [Act.put, List.getElem_toArray, List.getElem_cons_succ, List.getElem_cons_zero, List.setIfInBounds_toArray, List.set_cons_zero, List.set_cons_succ]
  refine wpAnyH_take (i := 11) (v := .int .u64 (un (h.x r2))) rfl (by kernel_rfl) (by kernel_rfl) (by kernel_rfl) (fun _ _ _ h => h) (Or.inl ⟨by rfl, fun W hS => by (have k : W.cell? ⟨w.heap.size, 1 + r2, none⟩ = some (.int .u64 (un (h.x r2))) := (hS.h (1 + r2) (by omega)).trans (congrArg some (hartCell_x h r2 hr2))); go_simp⟩) hHeld ?_
  try simp only [Act.put, List.getElem_toArray, List.getElem_cons_succ, List.getElem_cons_zero, List.setIfInBounds_toArray, List.set_cons_zero, List.set_cons_succ]
  refine wpAnyH_ready (rs := [12]) (by kernel_rfl) (by simp) (AllReadyH.cons rfl (fun K hK2 => ?_) AllReadyH.nil)
  rw [if_pos (by rfl)]
  simp only [List.getElem_toArray, List.getElem_cons_succ, List.getElem_cons_zero]
  go_wp2_with (go_at_call 10; refine (hT.out _).mono ?_; rintro e wb ⟨rfl, rfl⟩)
  refine hK2.out _ _ (hHeld) (fun hHeld2 => ?_)
  clear hK2 K hHeld
  have hHeld := hHeld2
  clear hHeld2
  try simp only [Act.put, List.getElem_toArray, List.getElem_cons_succ, List.getElem_cons_zero, List.setIfInBounds_toArray, List.set_cons_zero, List.set_cons_succ]
  refine wpAnyH_take (i := 13) (v := .tuple #[.bool tb, .int .i64 te]) rfl (by kernel_rfl) (by kernel_rfl) (by kernel_rfl) (fun _ _ _ h => h) (Or.inl ⟨by rfl, fun W _ => by kernel_rfl⟩) hHeld ?_
  try simp only [Act.put, List.getElem_toArray, List.getElem_cons_succ, List.getElem_cons_zero, List.setIfInBounds_toArray, List.set_cons_zero, List.set_cons_succ]
  refine wpAnyH_take (i := 14) (v := .bool tb) rfl (by kernel_rfl) (by kernel_rfl) (by kernel_rfl) (fun _ _ _ h => h) (Or.inl ⟨by rfl, fun W _ => by kernel_rfl⟩) hHeld ?_
  try simp only [Act.put, List.getElem_toArray, List.getElem_cons_succ, List.getElem_cons_zero, List.setIfInBounds_toArray, List.set_cons_zero, List.set_cons_succ]
  refine wpAnyH_take (i := 15) (v := .int .i64 te) rfl (by kernel_rfl) (by kernel_rfl) (by kernel_rfl) (fun _ _ _ h => h) (Or.inl ⟨by rfl, fun W _ => by kernel_rfl⟩) hHeld ?_
  try simp only [Act.put, List.getElem_toArray, List.getElem_cons_succ, List.getElem_cons_zero, List.setIfInBounds_toArray, List.set_cons_zero, List.set_cons_succ]
  refine wpAnyH_take (i := 16) (v := .bool tb) rfl (by kernel_rfl) (by kernel_rfl) (by kernel_rfl) (fun _ _ _ h => h) (Or.inl ⟨by rfl, fun W _ => by kernel_rfl⟩) hHeld ?_
  try simp only [Act.put, List.getElem_toArray, List.getElem_cons_succ, List.getElem_cons_zero, List.setIfInBounds_toArray, List.set_cons_zero, List.set_cons_succ]
  refine wpAnyH_take (i := 17) (v := .int .i64 te) rfl (by kernel_rfl) (by kernel_rfl) (by kernel_rfl) (fun _ _ _ h => h) (Or.inl ⟨by rfl, fun W _ => by kernel_rfl⟩) hHeld ?_
  try simp only [Act.put, List.getElem_toArray, List.getElem_cons_succ, List.getElem_cons_zero, List.setIfInBounds_toArray, List.set_cons_zero, List.set_cons_succ]
  refine wpAnyH_done (by kernel_rfl) ?_ _
  have hB := hHeld
  clear hHeld hB0
  obtain ⟨-, -, -, c0, c1, c2, c3, c4, c5, c6, c7, c8⟩ := hB.facts
  generalize World.drew _ = W0 at hB c0 c1 c2 c3 c4 c5 c6 c7 c8 ⊢
  have pc0 : W0.cell? ⟨w.heap.size, 0, none⟩ = some (.int .u64 (un h.pc)) := hB.h 0 (by decide)
  have x1 : W0.cell? ⟨w.heap.size, 1 + r1, none⟩ = some (.int .u64 (un (h.x r1))) := (hB.h (1 + r1) (by omega)).trans (congrArg some (hartCell_x h r1 hr1))
  go_upto_region 5 with fail
  go_quiet (fail)
  go_wp2
  go_ret2
  exact ⟨rfl, by first | exact hB.bl | exact hB.bl.trans ⟨rfl, rfl, rfl, Nat.le_refl _, fun _ _ => rfl⟩⟩
set_option maxRecDepth 100000 in
set_option maxHeartbeats 4000000 in
theorem RTgt_jalr1 (h : HartV) (op : Int) (d r1 r2 : Nat) (imm : Int) (aq rl : Bool) (pred succ : Int) (w : World) (hr1 : r1 < 32) (hr2 : r2 < 32) (t3 : (op == 3) = false) (h4 : op = 4) (t0 : (takesE op == 0) = true) (h2 : takesF op (h.x r1) (h.x r2) = false) :
    Calls Tryz.prog 32 #[.agg (hartArr h), .agg #[.int .i64 op, .int .i64 d, .int .i64 r1, .int .i64 r2, .int .i64 imm, .bool aq, .bool rl, .int .i64 pred, .int .i64 succ]] w fun e w' => e = .returned (.tuple #[.int .u64 (un (bv ((un (h.x r1 + bv imm)).tdiv 2) * 2#64)), .bool true]) ∧ Below w.heap.size w w' := by
  have hB0 := BK.start w h ⟨op, d, r1, r2, imm, aq, rl, pred, succ⟩ 25 27
  have hT := Lib.hid (fun W => RTakes_any op (h.x r1) (h.x r2) W)
  have hl1 : 0 ≤ (r1 : Int) ∧ (r1 : Int) < 32 := by omega
  have hl2 : 0 ≤ (r2 : Int) ∧ (r2 : Int) < 32 := by omega
  have t4 : (op == 4) = true := by rw [h4]; rfl
  clear h4
  generalize takesF op (h.x r1) (h.x r2) = tb at hT h2
  generalize takesE op = te at hT t0
  subst h2
  have hund : ∀ b : Bool, (some undef = some (Value.bool b)) = False := fun b => by simp [undef]
  go_enter Tryz.func32, Tryz.ntmps32
  go_upto_region 1 with fail
  refine wp_region_held_drew (S := fun W => BK w h ⟨op, d, r1, r2, imm, aq, rl, pred, succ⟩ W) (by kernel_rfl) hB0.drew (fun hHeld => ?_)
  refine wpAnyH_take (i := 0) (v := .pointer (some ⟨(w.heap.size + 1), 0, none⟩)) rfl (by kernel_rfl) (by kernel_rfl) (by kernel_rfl) (fun _ _ _ h => h) (Or.inl ⟨by rfl, fun W _ => by kernel_rfl⟩) hHeld ?_
  try simp only [Act.put, List.getElem_toArray, List.getElem_cons_zero, List.setIfInBounds_toArray, List.set_cons_zero, List.set_cons_succ]
  refine wpAnyH_take (i := 1) (v := .int .i64 op) rfl (by kernel_rfl) (by kernel_rfl) (by kernel_rfl) (fun _ _ _ h => h) (Or.inl ⟨by rfl, fun W hS => by (have k : W.cell? ⟨(w.heap.size + 1), 0, none⟩ = some (.int .i64 op) := hS.c 0 (by decide)); go_simp⟩) hHeld ?_
  try simp only [Act.put, List.getElem_toArray, List.getElem_cons_succ, List.getElem_cons_zero, List.setIfInBounds_toArray, List.set_cons_zero, List.set_cons_succ]
  refine wpAnyH_take (i := 2) (v := .pointer (some ⟨(w.heap.size + 1), 2, none⟩)) rfl (by kernel_rfl) (by kernel_rfl) (by kernel_rfl) (fun _ _ _ h => h) (Or.inl ⟨by rfl, fun W _ => by kernel_rfl⟩) hHeld ?_
  try simp only [Act.put, List.getElem_toArray, List.getElem_cons_succ, List.getElem_cons_zero, List.setIfInBounds_toArray, List.set_cons_zero, List.set_cons_succ]
  refine wpAnyH_take (i := 3) (v := .int .i64 r1) rfl (by kernel_rfl) (by kernel_rfl) (by kernel_rfl) (fun _ _ _ h => h) (Or.inl ⟨by rfl, fun W hS => by (have k : W.cell? ⟨(w.heap.size + 1), 2, none⟩ = some (.int .i64 r1) := hS.c 2 (by decide)); go_simp⟩) hHeld ?_
  try simp only [Act.put, List.getElem_toArray, List.getElem_cons_succ, List.getElem_cons_zero, List.setIfInBounds_toArray, List.set_cons_zero, List.set_cons_succ]
  refine wpAnyH_take (i := 4) (v := .pointer (some ⟨w.heap.size, 1, none⟩)) rfl (by kernel_rfl) (by kernel_rfl) (by kernel_rfl) (fun _ _ _ h => h) (Or.inl ⟨by rfl, fun W _ => by kernel_rfl⟩) hHeld ?_
  try simp only [Act.put, List.getElem_toArray, List.getElem_cons_succ, List.getElem_cons_zero, List.setIfInBounds_toArray, List.set_cons_zero, List.set_cons_succ]
  refine wpAnyH_take (i := 5) (v := .pointer (some ⟨w.heap.size, 1 + r1, none⟩)) rfl (by kernel_rfl) (by kernel_rfl) (by kernel_rfl) (fun _ _ _ h => h) (Or.inl ⟨by rfl, fun W _ => by go_simp⟩) hHeld ?_
  try simp only [Act.put, List.getElem_toArray, List.getElem_cons_succ, List.getElem_cons_zero, List.setIfInBounds_toArray, List.set_cons_zero, List.set_cons_succ]
  refine wpAnyH_take (i := 6) (v := .int .u64 (un (h.x r1))) rfl (by kernel_rfl) (by kernel_rfl) (by kernel_rfl) (fun _ _ _ h => h) (Or.inl ⟨by rfl, fun W hS => by (have k : W.cell? ⟨w.heap.size, 1 + r1, none⟩ = some (.int .u64 (un (h.x r1))) := (hS.h (1 + r1) (by omega)).trans (congrArg some (hartCell_x h r1 hr1))); go_simp⟩) hHeld ?_
  try simp only [Act.put, List.getElem_toArray, List.getElem_cons_succ, List.getElem_cons_zero, List.setIfInBounds_toArray, List.set_cons_zero, List.set_cons_succ]
  refine wpAnyH_take (i := 7) (v := .pointer (some ⟨(w.heap.size + 1), 3, none⟩)) rfl (by kernel_rfl) (by kernel_rfl) (by kernel_rfl) (fun _ _ _ h => h) (Or.inl ⟨by rfl, fun W _ => by kernel_rfl⟩) hHeld ?_
  try simp only [Act.put, List.getElem_toArray, List.getElem_cons_succ, List.getElem_cons_zero, List.setIfInBounds_toArray, List.set_cons_zero, List.set_cons_succ]
  refine wpAnyH_take (i := 8) (v := .int .i64 r2) rfl (by kernel_rfl) (by kernel_rfl) (by kernel_rfl) (fun _ _ _ h => h) (Or.inl ⟨by rfl, fun W hS => by (have k : W.cell? ⟨(w.heap.size + 1), 3, none⟩ = some (.int .i64 r2) := hS.c 3 (by decide)); go_simp⟩) hHeld ?_
  try simp only [Act.put, List.getElem_toArray, List.getElem_cons_succ, List.getElem_cons_zero, List.setIfInBounds_toArray, List.set_cons_zero, List.set_cons_succ]
  refine wpAnyH_take (i := 9) (v := .pointer (some ⟨w.heap.size, 1, none⟩)) rfl (by kernel_rfl) (by kernel_rfl) (by kernel_rfl) (fun _ _ _ h => h) (Or.inl ⟨by rfl, fun W _ => by kernel_rfl⟩) hHeld ?_
  try simp only [Act.put, List.getElem_toArray, List.getElem_cons_succ, List.getElem_cons_zero, List.setIfInBounds_toArray, List.set_cons_zero, List.set_cons_succ]
  refine wpAnyH_take (i := 10) (v := .pointer (some ⟨w.heap.size, 1 + r2, none⟩)) rfl (by kernel_rfl) (by kernel_rfl) (by kernel_rfl) (fun _ _ _ h => h) (Or.inl ⟨by rfl, fun W _ => by go_simp⟩) hHeld ?_
  try simp only [Act.put, List.getElem_toArray, List.getElem_cons_succ, List.getElem_cons_zero, List.setIfInBounds_toArray, List.set_cons_zero, List.set_cons_succ]
  refine wpAnyH_take (i := 11) (v := .int .u64 (un (h.x r2))) rfl (by kernel_rfl) (by kernel_rfl) (by kernel_rfl) (fun _ _ _ h => h) (Or.inl ⟨by rfl, fun W hS => by (have k : W.cell? ⟨w.heap.size, 1 + r2, none⟩ = some (.int .u64 (un (h.x r2))) := (hS.h (1 + r2) (by omega)).trans (congrArg some (hartCell_x h r2 hr2))); go_simp⟩) hHeld ?_
  try simp only [Act.put, List.getElem_toArray, List.getElem_cons_succ, List.getElem_cons_zero, List.setIfInBounds_toArray, List.set_cons_zero, List.set_cons_succ]
  refine wpAnyH_ready (rs := [12]) (by kernel_rfl) (by simp) (AllReadyH.cons rfl (fun K hK2 => ?_) AllReadyH.nil)
  rw [if_pos (by rfl)]
  simp only [List.getElem_toArray, List.getElem_cons_succ, List.getElem_cons_zero]
  go_wp2_with (go_at_call 10; refine (hT.out _).mono ?_; rintro e wb ⟨rfl, rfl⟩)
  refine hK2.out _ _ (hHeld) (fun hHeld2 => ?_)
  clear hK2 K hHeld
  have hHeld := hHeld2
  clear hHeld2
  try simp only [Act.put, List.getElem_toArray, List.getElem_cons_succ, List.getElem_cons_zero, List.setIfInBounds_toArray, List.set_cons_zero, List.set_cons_succ]
  refine wpAnyH_take (i := 13) (v := .tuple #[.bool false, .int .i64 te]) rfl (by kernel_rfl) (by kernel_rfl) (by kernel_rfl) (fun _ _ _ h => h) (Or.inl ⟨by rfl, fun W _ => by kernel_rfl⟩) hHeld ?_
  try simp only [Act.put, List.getElem_toArray, List.getElem_cons_succ, List.getElem_cons_zero, List.setIfInBounds_toArray, List.set_cons_zero, List.set_cons_succ]
  refine wpAnyH_take (i := 14) (v := .bool false) rfl (by kernel_rfl) (by kernel_rfl) (by kernel_rfl) (fun _ _ _ h => h) (Or.inl ⟨by rfl, fun W _ => by kernel_rfl⟩) hHeld ?_
  try simp only [Act.put, List.getElem_toArray, List.getElem_cons_succ, List.getElem_cons_zero, List.setIfInBounds_toArray, List.set_cons_zero, List.set_cons_succ]
  refine wpAnyH_take (i := 15) (v := .int .i64 te) rfl (by kernel_rfl) (by kernel_rfl) (by kernel_rfl) (fun _ _ _ h => h) (Or.inl ⟨by rfl, fun W _ => by kernel_rfl⟩) hHeld ?_
  try simp only [Act.put, List.getElem_toArray, List.getElem_cons_succ, List.getElem_cons_zero, List.setIfInBounds_toArray, List.set_cons_zero, List.set_cons_succ]
  refine wpAnyH_take (i := 16) (v := .bool false) rfl (by kernel_rfl) (by kernel_rfl) (by kernel_rfl) (fun _ _ _ h => h) (Or.inl ⟨by rfl, fun W _ => by kernel_rfl⟩) hHeld ?_
  try simp only [Act.put, List.getElem_toArray, List.getElem_cons_succ, List.getElem_cons_zero, List.setIfInBounds_toArray, List.set_cons_zero, List.set_cons_succ]
  refine wpAnyH_take (i := 17) (v := .int .i64 te) rfl (by kernel_rfl) (by kernel_rfl) (by kernel_rfl) (fun _ _ _ h => h) (Or.inl ⟨by rfl, fun W _ => by kernel_rfl⟩) hHeld ?_
  try simp only [Act.put, List.getElem_toArray, List.getElem_cons_succ, List.getElem_cons_zero, List.setIfInBounds_toArray, List.set_cons_zero, List.set_cons_succ]
  refine wpAnyH_done (by kernel_rfl) ?_ _
  have hB := hHeld
  clear hHeld hB0
  obtain ⟨-, -, -, c0, c1, c2, c3, c4, c5, c6, c7, c8⟩ := hB.facts
  generalize World.drew _ = W0 at hB c0 c1 c2 c3 c4 c5 c6 c7 c8 ⊢
  have pc0 : W0.cell? ⟨w.heap.size, 0, none⟩ = some (.int .u64 (un h.pc)) := hB.h 0 (by decide)
  have x1 : W0.cell? ⟨w.heap.size, 1 + r1, none⟩ = some (.int .u64 (un (h.x r1))) := (hB.h (1 + r1) (by omega)).trans (congrArg some (hartCell_x h r1 hr1))
  go_upto_region 5 with fail
  go_quiet (fail)
  go_wp2
  go_ret2
  exact ⟨rfl, by first | exact hB.bl | exact hB.bl.trans ⟨rfl, rfl, rfl, Nat.le_refl _, fun _ _ => rfl⟩⟩
set_option maxRecDepth 100000 in
set_option maxHeartbeats 4000000 in
theorem RTgt_next0 (h : HartV) (op : Int) (d r1 r2 : Nat) (imm : Int) (aq rl : Bool) (pred succ : Int) (w : World) (hr1 : r1 < 32) (hr2 : r2 < 32) (t3 : (op == 3) = false) (h4 : op ≠ 4) (t0 : (takesE op == 0) = false) :
    Calls Tryz.prog 32 #[.agg (hartArr h), .agg #[.int .i64 op, .int .i64 d, .int .i64 r1, .int .i64 r2, .int .i64 imm, .bool aq, .bool rl, .int .i64 pred, .int .i64 succ]] w fun e w' => e = .returned (.tuple #[.int .u64 (un (h.pc + 4#64)), .bool false]) ∧ Below w.heap.size w w' := by
  have hB0 := BK.start w h ⟨op, d, r1, r2, imm, aq, rl, pred, succ⟩ 25 27
  have hT := Lib.hid (fun W => RTakes_any op (h.x r1) (h.x r2) W)
  have hl1 : 0 ≤ (r1 : Int) ∧ (r1 : Int) < 32 := by omega
  have hl2 : 0 ≤ (r2 : Int) ∧ (r2 : Int) < 32 := by omega
  have t4 : (op == 4) = false := by rw [beq_eq_false_iff_ne]; exact h4
  clear h4
  generalize takesF op (h.x r1) (h.x r2) = tb at hT
  generalize takesE op = te at hT t0
  have hund : ∀ b : Bool, (some undef = some (Value.bool b)) = False := fun b => by simp [undef]
  go_enter Tryz.func32, Tryz.ntmps32
  go_upto_region 1 with fail
  refine wp_region_held_drew (S := fun W => BK w h ⟨op, d, r1, r2, imm, aq, rl, pred, succ⟩ W) (by kernel_rfl) hB0.drew (fun hHeld => ?_)
  refine wpAnyH_take (i := 0) (v := .pointer (some ⟨(w.heap.size + 1), 0, none⟩)) rfl (by kernel_rfl) (by kernel_rfl) (by kernel_rfl) (fun _ _ _ h => h) (Or.inl ⟨by rfl, fun W _ => by kernel_rfl⟩) hHeld ?_
  try simp only [Act.put, List.getElem_toArray, List.getElem_cons_zero, List.setIfInBounds_toArray, List.set_cons_zero, List.set_cons_succ]
  refine wpAnyH_take (i := 1) (v := .int .i64 op) rfl (by kernel_rfl) (by kernel_rfl) (by kernel_rfl) (fun _ _ _ h => h) (Or.inl ⟨by rfl, fun W hS => by (have k : W.cell? ⟨(w.heap.size + 1), 0, none⟩ = some (.int .i64 op) := hS.c 0 (by decide)); go_simp⟩) hHeld ?_
  try simp only [Act.put, List.getElem_toArray, List.getElem_cons_succ, List.getElem_cons_zero, List.setIfInBounds_toArray, List.set_cons_zero, List.set_cons_succ]
  refine wpAnyH_take (i := 2) (v := .pointer (some ⟨(w.heap.size + 1), 2, none⟩)) rfl (by kernel_rfl) (by kernel_rfl) (by kernel_rfl) (fun _ _ _ h => h) (Or.inl ⟨by rfl, fun W _ => by kernel_rfl⟩) hHeld ?_
  try simp only [Act.put, List.getElem_toArray, List.getElem_cons_succ, List.getElem_cons_zero, List.setIfInBounds_toArray, List.set_cons_zero, List.set_cons_succ]
  refine wpAnyH_take (i := 3) (v := .int .i64 r1) rfl (by kernel_rfl) (by kernel_rfl) (by kernel_rfl) (fun _ _ _ h => h) (Or.inl ⟨by rfl, fun W hS => by (have k : W.cell? ⟨(w.heap.size + 1), 2, none⟩ = some (.int .i64 r1) := hS.c 2 (by decide)); go_simp⟩) hHeld ?_
  try simp only [Act.put, List.getElem_toArray, List.getElem_cons_succ, List.getElem_cons_zero, List.setIfInBounds_toArray, List.set_cons_zero, List.set_cons_succ]
  refine wpAnyH_take (i := 4) (v := .pointer (some ⟨w.heap.size, 1, none⟩)) rfl (by kernel_rfl) (by kernel_rfl) (by kernel_rfl) (fun _ _ _ h => h) (Or.inl ⟨by rfl, fun W _ => by kernel_rfl⟩) hHeld ?_
  try simp only [Act.put, List.getElem_toArray, List.getElem_cons_succ, List.getElem_cons_zero, List.setIfInBounds_toArray, List.set_cons_zero, List.set_cons_succ]
  refine wpAnyH_take (i := 5) (v := .pointer (some ⟨w.heap.size, 1 + r1, none⟩)) rfl (by kernel_rfl) (by kernel_rfl) (by kernel_rfl) (fun _ _ _ h => h) (Or.inl ⟨by rfl, fun W _ => by go_simp⟩) hHeld ?_
  try simp only [Act.put, List.getElem_toArray, List.getElem_cons_succ, List.getElem_cons_zero, List.setIfInBounds_toArray, List.set_cons_zero, List.set_cons_succ]
  refine wpAnyH_take (i := 6) (v := .int .u64 (un (h.x r1))) rfl (by kernel_rfl) (by kernel_rfl) (by kernel_rfl) (fun _ _ _ h => h) (Or.inl ⟨by rfl, fun W hS => by (have k : W.cell? ⟨w.heap.size, 1 + r1, none⟩ = some (.int .u64 (un (h.x r1))) := (hS.h (1 + r1) (by omega)).trans (congrArg some (hartCell_x h r1 hr1))); go_simp⟩) hHeld ?_
  try simp only [Act.put, List.getElem_toArray, List.getElem_cons_succ, List.getElem_cons_zero, List.setIfInBounds_toArray, List.set_cons_zero, List.set_cons_succ]
  refine wpAnyH_take (i := 7) (v := .pointer (some ⟨(w.heap.size + 1), 3, none⟩)) rfl (by kernel_rfl) (by kernel_rfl) (by kernel_rfl) (fun _ _ _ h => h) (Or.inl ⟨by rfl, fun W _ => by kernel_rfl⟩) hHeld ?_
  try simp only [Act.put, List.getElem_toArray, List.getElem_cons_succ, List.getElem_cons_zero, List.setIfInBounds_toArray, List.set_cons_zero, List.set_cons_succ]
  refine wpAnyH_take (i := 8) (v := .int .i64 r2) rfl (by kernel_rfl) (by kernel_rfl) (by kernel_rfl) (fun _ _ _ h => h) (Or.inl ⟨by rfl, fun W hS => by (have k : W.cell? ⟨(w.heap.size + 1), 3, none⟩ = some (.int .i64 r2) := hS.c 3 (by decide)); go_simp⟩) hHeld ?_
  try simp only [Act.put, List.getElem_toArray, List.getElem_cons_succ, List.getElem_cons_zero, List.setIfInBounds_toArray, List.set_cons_zero, List.set_cons_succ]
  refine wpAnyH_take (i := 9) (v := .pointer (some ⟨w.heap.size, 1, none⟩)) rfl (by kernel_rfl) (by kernel_rfl) (by kernel_rfl) (fun _ _ _ h => h) (Or.inl ⟨by rfl, fun W _ => by kernel_rfl⟩) hHeld ?_
  try simp only [Act.put, List.getElem_toArray, List.getElem_cons_succ, List.getElem_cons_zero, List.setIfInBounds_toArray, List.set_cons_zero, List.set_cons_succ]
  refine wpAnyH_take (i := 10) (v := .pointer (some ⟨w.heap.size, 1 + r2, none⟩)) rfl (by kernel_rfl) (by kernel_rfl) (by kernel_rfl) (fun _ _ _ h => h) (Or.inl ⟨by rfl, fun W _ => by go_simp⟩) hHeld ?_
  try simp only [Act.put, List.getElem_toArray, List.getElem_cons_succ, List.getElem_cons_zero, List.setIfInBounds_toArray, List.set_cons_zero, List.set_cons_succ]
  refine wpAnyH_take (i := 11) (v := .int .u64 (un (h.x r2))) rfl (by kernel_rfl) (by kernel_rfl) (by kernel_rfl) (fun _ _ _ h => h) (Or.inl ⟨by rfl, fun W hS => by (have k : W.cell? ⟨w.heap.size, 1 + r2, none⟩ = some (.int .u64 (un (h.x r2))) := (hS.h (1 + r2) (by omega)).trans (congrArg some (hartCell_x h r2 hr2))); go_simp⟩) hHeld ?_
  try simp only [Act.put, List.getElem_toArray, List.getElem_cons_succ, List.getElem_cons_zero, List.setIfInBounds_toArray, List.set_cons_zero, List.set_cons_succ]
  refine wpAnyH_ready (rs := [12]) (by kernel_rfl) (by simp) (AllReadyH.cons rfl (fun K hK2 => ?_) AllReadyH.nil)
  rw [if_pos (by rfl)]
  simp only [List.getElem_toArray, List.getElem_cons_succ, List.getElem_cons_zero]
  go_wp2_with (go_at_call 10; refine (hT.out _).mono ?_; rintro e wb ⟨rfl, rfl⟩)
  refine hK2.out _ _ (hHeld) (fun hHeld2 => ?_)
  clear hK2 K hHeld
  have hHeld := hHeld2
  clear hHeld2
  try simp only [Act.put, List.getElem_toArray, List.getElem_cons_succ, List.getElem_cons_zero, List.setIfInBounds_toArray, List.set_cons_zero, List.set_cons_succ]
  refine wpAnyH_take (i := 13) (v := .tuple #[.bool tb, .int .i64 te]) rfl (by kernel_rfl) (by kernel_rfl) (by kernel_rfl) (fun _ _ _ h => h) (Or.inl ⟨by rfl, fun W _ => by kernel_rfl⟩) hHeld ?_
  try simp only [Act.put, List.getElem_toArray, List.getElem_cons_succ, List.getElem_cons_zero, List.setIfInBounds_toArray, List.set_cons_zero, List.set_cons_succ]
  refine wpAnyH_take (i := 14) (v := .bool tb) rfl (by kernel_rfl) (by kernel_rfl) (by kernel_rfl) (fun _ _ _ h => h) (Or.inl ⟨by rfl, fun W _ => by kernel_rfl⟩) hHeld ?_
  try simp only [Act.put, List.getElem_toArray, List.getElem_cons_succ, List.getElem_cons_zero, List.setIfInBounds_toArray, List.set_cons_zero, List.set_cons_succ]
  refine wpAnyH_take (i := 15) (v := .int .i64 te) rfl (by kernel_rfl) (by kernel_rfl) (by kernel_rfl) (fun _ _ _ h => h) (Or.inl ⟨by rfl, fun W _ => by kernel_rfl⟩) hHeld ?_
  try simp only [Act.put, List.getElem_toArray, List.getElem_cons_succ, List.getElem_cons_zero, List.setIfInBounds_toArray, List.set_cons_zero, List.set_cons_succ]
  refine wpAnyH_take (i := 16) (v := .bool tb) rfl (by kernel_rfl) (by kernel_rfl) (by kernel_rfl) (fun _ _ _ h => h) (Or.inl ⟨by rfl, fun W _ => by kernel_rfl⟩) hHeld ?_
  try simp only [Act.put, List.getElem_toArray, List.getElem_cons_succ, List.getElem_cons_zero, List.setIfInBounds_toArray, List.set_cons_zero, List.set_cons_succ]
  refine wpAnyH_take (i := 17) (v := .int .i64 te) rfl (by kernel_rfl) (by kernel_rfl) (by kernel_rfl) (fun _ _ _ h => h) (Or.inl ⟨by rfl, fun W _ => by kernel_rfl⟩) hHeld ?_
  try simp only [Act.put, List.getElem_toArray, List.getElem_cons_succ, List.getElem_cons_zero, List.setIfInBounds_toArray, List.set_cons_zero, List.set_cons_succ]
  refine wpAnyH_done (by kernel_rfl) ?_ _
  have hB := hHeld
  clear hHeld hB0
  obtain ⟨-, -, -, c0, c1, c2, c3, c4, c5, c6, c7, c8⟩ := hB.facts
  generalize World.drew _ = W0 at hB c0 c1 c2 c3 c4 c5 c6 c7 c8 ⊢
  have pc0 : W0.cell? ⟨w.heap.size, 0, none⟩ = some (.int .u64 (un h.pc)) := hB.h 0 (by decide)
  go_wp2_with fail
  go_ret2
  exact ⟨rfl, by first | exact hB.bl | exact hB.bl.trans ⟨rfl, rfl, rfl, Nat.le_refl _, fun _ _ => rfl⟩⟩
set_option maxRecDepth 100000 in
set_option maxHeartbeats 4000000 in
theorem RTgt_next1 (h : HartV) (op : Int) (d r1 r2 : Nat) (imm : Int) (aq rl : Bool) (pred succ : Int) (w : World) (hr1 : r1 < 32) (hr2 : r2 < 32) (t3 : (op == 3) = false) (h4 : op ≠ 4) (t0 : (takesE op == 0) = true) (h2 : takesF op (h.x r1) (h.x r2) = false) :
    Calls Tryz.prog 32 #[.agg (hartArr h), .agg #[.int .i64 op, .int .i64 d, .int .i64 r1, .int .i64 r2, .int .i64 imm, .bool aq, .bool rl, .int .i64 pred, .int .i64 succ]] w fun e w' => e = .returned (.tuple #[.int .u64 (un (h.pc + 4#64)), .bool false]) ∧ Below w.heap.size w w' := by
  have hB0 := BK.start w h ⟨op, d, r1, r2, imm, aq, rl, pred, succ⟩ 25 27
  have hT := Lib.hid (fun W => RTakes_any op (h.x r1) (h.x r2) W)
  have hl1 : 0 ≤ (r1 : Int) ∧ (r1 : Int) < 32 := by omega
  have hl2 : 0 ≤ (r2 : Int) ∧ (r2 : Int) < 32 := by omega
  have t4 : (op == 4) = false := by rw [beq_eq_false_iff_ne]; exact h4
  clear h4
  generalize takesF op (h.x r1) (h.x r2) = tb at hT h2
  generalize takesE op = te at hT t0
  subst h2
  have hund : ∀ b : Bool, (some undef = some (Value.bool b)) = False := fun b => by simp [undef]
  go_enter Tryz.func32, Tryz.ntmps32
  go_upto_region 1 with fail
  refine wp_region_held_drew (S := fun W => BK w h ⟨op, d, r1, r2, imm, aq, rl, pred, succ⟩ W) (by kernel_rfl) hB0.drew (fun hHeld => ?_)
  refine wpAnyH_take (i := 0) (v := .pointer (some ⟨(w.heap.size + 1), 0, none⟩)) rfl (by kernel_rfl) (by kernel_rfl) (by kernel_rfl) (fun _ _ _ h => h) (Or.inl ⟨by rfl, fun W _ => by kernel_rfl⟩) hHeld ?_
  try simp only [Act.put, List.getElem_toArray, List.getElem_cons_zero, List.setIfInBounds_toArray, List.set_cons_zero, List.set_cons_succ]
  refine wpAnyH_take (i := 1) (v := .int .i64 op) rfl (by kernel_rfl) (by kernel_rfl) (by kernel_rfl) (fun _ _ _ h => h) (Or.inl ⟨by rfl, fun W hS => by (have k : W.cell? ⟨(w.heap.size + 1), 0, none⟩ = some (.int .i64 op) := hS.c 0 (by decide)); go_simp⟩) hHeld ?_
  try simp only [Act.put, List.getElem_toArray, List.getElem_cons_succ, List.getElem_cons_zero, List.setIfInBounds_toArray, List.set_cons_zero, List.set_cons_succ]
  refine wpAnyH_take (i := 2) (v := .pointer (some ⟨(w.heap.size + 1), 2, none⟩)) rfl (by kernel_rfl) (by kernel_rfl) (by kernel_rfl) (fun _ _ _ h => h) (Or.inl ⟨by rfl, fun W _ => by kernel_rfl⟩) hHeld ?_
  try simp only [Act.put, List.getElem_toArray, List.getElem_cons_succ, List.getElem_cons_zero, List.setIfInBounds_toArray, List.set_cons_zero, List.set_cons_succ]
  refine wpAnyH_take (i := 3) (v := .int .i64 r1) rfl (by kernel_rfl) (by kernel_rfl) (by kernel_rfl) (fun _ _ _ h => h) (Or.inl ⟨by rfl, fun W hS => by (have k : W.cell? ⟨(w.heap.size + 1), 2, none⟩ = some (.int .i64 r1) := hS.c 2 (by decide)); go_simp⟩) hHeld ?_
  try simp only [Act.put, List.getElem_toArray, List.getElem_cons_succ, List.getElem_cons_zero, List.setIfInBounds_toArray, List.set_cons_zero, List.set_cons_succ]
  refine wpAnyH_take (i := 4) (v := .pointer (some ⟨w.heap.size, 1, none⟩)) rfl (by kernel_rfl) (by kernel_rfl) (by kernel_rfl) (fun _ _ _ h => h) (Or.inl ⟨by rfl, fun W _ => by kernel_rfl⟩) hHeld ?_
  try simp only [Act.put, List.getElem_toArray, List.getElem_cons_succ, List.getElem_cons_zero, List.setIfInBounds_toArray, List.set_cons_zero, List.set_cons_succ]
  refine wpAnyH_take (i := 5) (v := .pointer (some ⟨w.heap.size, 1 + r1, none⟩)) rfl (by kernel_rfl) (by kernel_rfl) (by kernel_rfl) (fun _ _ _ h => h) (Or.inl ⟨by rfl, fun W _ => by go_simp⟩) hHeld ?_
  try simp only [Act.put, List.getElem_toArray, List.getElem_cons_succ, List.getElem_cons_zero, List.setIfInBounds_toArray, List.set_cons_zero, List.set_cons_succ]
  refine wpAnyH_take (i := 6) (v := .int .u64 (un (h.x r1))) rfl (by kernel_rfl) (by kernel_rfl) (by kernel_rfl) (fun _ _ _ h => h) (Or.inl ⟨by rfl, fun W hS => by (have k : W.cell? ⟨w.heap.size, 1 + r1, none⟩ = some (.int .u64 (un (h.x r1))) := (hS.h (1 + r1) (by omega)).trans (congrArg some (hartCell_x h r1 hr1))); go_simp⟩) hHeld ?_
  try simp only [Act.put, List.getElem_toArray, List.getElem_cons_succ, List.getElem_cons_zero, List.setIfInBounds_toArray, List.set_cons_zero, List.set_cons_succ]
  refine wpAnyH_take (i := 7) (v := .pointer (some ⟨(w.heap.size + 1), 3, none⟩)) rfl (by kernel_rfl) (by kernel_rfl) (by kernel_rfl) (fun _ _ _ h => h) (Or.inl ⟨by rfl, fun W _ => by kernel_rfl⟩) hHeld ?_
  try simp only [Act.put, List.getElem_toArray, List.getElem_cons_succ, List.getElem_cons_zero, List.setIfInBounds_toArray, List.set_cons_zero, List.set_cons_succ]
  refine wpAnyH_take (i := 8) (v := .int .i64 r2) rfl (by kernel_rfl) (by kernel_rfl) (by kernel_rfl) (fun _ _ _ h => h) (Or.inl ⟨by rfl, fun W hS => by (have k : W.cell? ⟨(w.heap.size + 1), 3, none⟩ = some (.int .i64 r2) := hS.c 3 (by decide)); go_simp⟩) hHeld ?_
  try simp only [Act.put, List.getElem_toArray, List.getElem_cons_succ, List.getElem_cons_zero, List.setIfInBounds_toArray, List.set_cons_zero, List.set_cons_succ]
  refine wpAnyH_take (i := 9) (v := .pointer (some ⟨w.heap.size, 1, none⟩)) rfl (by kernel_rfl) (by kernel_rfl) (by kernel_rfl) (fun _ _ _ h => h) (Or.inl ⟨by rfl, fun W _ => by kernel_rfl⟩) hHeld ?_
  try simp only [Act.put, List.getElem_toArray, List.getElem_cons_succ, List.getElem_cons_zero, List.setIfInBounds_toArray, List.set_cons_zero, List.set_cons_succ]
  refine wpAnyH_take (i := 10) (v := .pointer (some ⟨w.heap.size, 1 + r2, none⟩)) rfl (by kernel_rfl) (by kernel_rfl) (by kernel_rfl) (fun _ _ _ h => h) (Or.inl ⟨by rfl, fun W _ => by go_simp⟩) hHeld ?_
  try simp only [Act.put, List.getElem_toArray, List.getElem_cons_succ, List.getElem_cons_zero, List.setIfInBounds_toArray, List.set_cons_zero, List.set_cons_succ]
  refine wpAnyH_take (i := 11) (v := .int .u64 (un (h.x r2))) rfl (by kernel_rfl) (by kernel_rfl) (by kernel_rfl) (fun _ _ _ h => h) (Or.inl ⟨by rfl, fun W hS => by (have k : W.cell? ⟨w.heap.size, 1 + r2, none⟩ = some (.int .u64 (un (h.x r2))) := (hS.h (1 + r2) (by omega)).trans (congrArg some (hartCell_x h r2 hr2))); go_simp⟩) hHeld ?_
  try simp only [Act.put, List.getElem_toArray, List.getElem_cons_succ, List.getElem_cons_zero, List.setIfInBounds_toArray, List.set_cons_zero, List.set_cons_succ]
  refine wpAnyH_ready (rs := [12]) (by kernel_rfl) (by simp) (AllReadyH.cons rfl (fun K hK2 => ?_) AllReadyH.nil)
  rw [if_pos (by rfl)]
  simp only [List.getElem_toArray, List.getElem_cons_succ, List.getElem_cons_zero]
  go_wp2_with (go_at_call 10; refine (hT.out _).mono ?_; rintro e wb ⟨rfl, rfl⟩)
  refine hK2.out _ _ (hHeld) (fun hHeld2 => ?_)
  clear hK2 K hHeld
  have hHeld := hHeld2
  clear hHeld2
  try simp only [Act.put, List.getElem_toArray, List.getElem_cons_succ, List.getElem_cons_zero, List.setIfInBounds_toArray, List.set_cons_zero, List.set_cons_succ]
  refine wpAnyH_take (i := 13) (v := .tuple #[.bool false, .int .i64 te]) rfl (by kernel_rfl) (by kernel_rfl) (by kernel_rfl) (fun _ _ _ h => h) (Or.inl ⟨by rfl, fun W _ => by kernel_rfl⟩) hHeld ?_
  try simp only [Act.put, List.getElem_toArray, List.getElem_cons_succ, List.getElem_cons_zero, List.setIfInBounds_toArray, List.set_cons_zero, List.set_cons_succ]
  refine wpAnyH_take (i := 14) (v := .bool false) rfl (by kernel_rfl) (by kernel_rfl) (by kernel_rfl) (fun _ _ _ h => h) (Or.inl ⟨by rfl, fun W _ => by kernel_rfl⟩) hHeld ?_
  try simp only [Act.put, List.getElem_toArray, List.getElem_cons_succ, List.getElem_cons_zero, List.setIfInBounds_toArray, List.set_cons_zero, List.set_cons_succ]
  refine wpAnyH_take (i := 15) (v := .int .i64 te) rfl (by kernel_rfl) (by kernel_rfl) (by kernel_rfl) (fun _ _ _ h => h) (Or.inl ⟨by rfl, fun W _ => by kernel_rfl⟩) hHeld ?_
  try simp only [Act.put, List.getElem_toArray, List.getElem_cons_succ, List.getElem_cons_zero, List.setIfInBounds_toArray, List.set_cons_zero, List.set_cons_succ]
  refine wpAnyH_take (i := 16) (v := .bool false) rfl (by kernel_rfl) (by kernel_rfl) (by kernel_rfl) (fun _ _ _ h => h) (Or.inl ⟨by rfl, fun W _ => by kernel_rfl⟩) hHeld ?_
  try simp only [Act.put, List.getElem_toArray, List.getElem_cons_succ, List.getElem_cons_zero, List.setIfInBounds_toArray, List.set_cons_zero, List.set_cons_succ]
  refine wpAnyH_take (i := 17) (v := .int .i64 te) rfl (by kernel_rfl) (by kernel_rfl) (by kernel_rfl) (fun _ _ _ h => h) (Or.inl ⟨by rfl, fun W _ => by kernel_rfl⟩) hHeld ?_
  try simp only [Act.put, List.getElem_toArray, List.getElem_cons_succ, List.getElem_cons_zero, List.setIfInBounds_toArray, List.set_cons_zero, List.set_cons_succ]
  refine wpAnyH_done (by kernel_rfl) ?_ _
  have hB := hHeld
  clear hHeld hB0
  obtain ⟨-, -, -, c0, c1, c2, c3, c4, c5, c6, c7, c8⟩ := hB.facts
  generalize World.drew _ = W0 at hB c0 c1 c2 c3 c4 c5 c6 c7 c8 ⊢
  have pc0 : W0.cell? ⟨w.heap.size, 0, none⟩ = some (.int .u64 (un h.pc)) := hB.h 0 (by decide)
  go_wp2_with fail
  go_ret2
  exact ⟨rfl, by first | exact hB.bl | exact hB.bl.trans ⟨rfl, rfl, rfl, Nat.le_refl _, fun _ _ => rfl⟩⟩
theorem RTgt_any (h : HartV) (op : Int) (d r1 r2 : Nat) (imm : Int) (aq rl : Bool) (pred succ : Int) (w : World) (hr1 : r1 < 32) (hr2 : r2 < 32) :
    Calls Tryz.prog 32 #[.agg (hartArr h), .agg #[.int .i64 op, .int .i64 d, .int .i64 r1, .int .i64 r2, .int .i64 imm, .bool aq, .bool rl, .int .i64 pred, .int .i64 succ]] w fun e w' => e = .returned (.tuple #[.int .u64 (un (tgtV h ⟨op, d, r1, r2, imm, aq, rl, pred, succ⟩).1), .bool (tgtV h ⟨op, d, r1, r2, imm, aq, rl, pred, succ⟩).2]) ∧ Below w.heap.size w w' := by
  by_cases ho : op = 3
  · rw [show tgtV h ⟨op, d, r1, r2, imm, aq, rl, pred, succ⟩ = (h.pc + bv imm, true) by unfold tgtV; exact if_pos (.inl ho)]
    exact RTgt_jal h op d r1 r2 imm aq rl pred succ w hr1 hr2 ho
  · by_cases hc : takesE op = 0 ∧ takesF op (h.x r1) (h.x r2) = true
    · rw [show tgtV h ⟨op, d, r1, r2, imm, aq, rl, pred, succ⟩ = (h.pc + bv imm, true) by unfold tgtV; exact if_pos (.inr hc)]
      exact RTgt_br h op d r1 r2 imm aq rl pred succ w hr1 hr2 ho hc.1 hc.2
    · have t3 : (op == 3) = false := by rw [beq_eq_false_iff_ne]; exact ho
      have hno : ¬ (op = 3 ∨ (takesE op = 0 ∧ takesF op (h.x r1) (h.x r2) = true)) := fun hh => hh.elim ho hc
      have t0 : (takesE op == 0) = false ∨ ((takesE op == 0) = true ∧ takesF op (h.x r1) (h.x r2) = false) := by
        by_cases e : takesE op = 0
        · right; refine ⟨by rw [e]; rfl, ?_⟩
          cases hb : takesF op (h.x r1) (h.x r2)
          · rfl
          · exact absurd ⟨e, hb⟩ hc
        · left; rw [beq_eq_false_iff_ne]; exact e
      by_cases h4 : op = 4
      · rw [show tgtV h ⟨op, d, r1, r2, imm, aq, rl, pred, succ⟩ = (bv ((un (h.x r1 + bv imm)).tdiv 2) * 2#64, true) by unfold tgtV; exact (if_neg hno).trans (if_pos h4)]
        rcases t0 with t0 | ⟨t0, h2⟩
        · exact RTgt_jalr0 h op d r1 r2 imm aq rl pred succ w hr1 hr2 t3 h4 t0
        · exact RTgt_jalr1 h op d r1 r2 imm aq rl pred succ w hr1 hr2 t3 h4 t0 h2
      · rw [show tgtV h ⟨op, d, r1, r2, imm, aq, rl, pred, succ⟩ = (h.pc + 4#64, false) by unfold tgtV; exact (if_neg hno).trans (if_neg h4)]
        rcases t0 with t0 | ⟨t0, h2⟩
        · exact RTgt_next0 h op d r1 r2 imm aq rl pred succ w hr1 hr2 t3 h4 t0
        · exact RTgt_next1 h op d r1 r2 imm aq rl pred succ w hr1 hr2 t3 h4 t0 h2
end
end Go.Proofs.YtbglinhglnbfmaaGreatDoor
namespace Go.Proofs.YtbglinhglnbfmaaGreatDoor
open Go.RowKit
/-- fencepostref05.end -/
def rendB (op : Int) (x17 : BitVec 64) (z : Int) (ad : BitVec 64) (jb : Bool) (tw : BitVec 64) : Int :=
  if (op == 65) = true then 2 else if (op == 64) = true ∧ (un x17 == 0) = true then 1 else if (op == 64) = true ∧ (un x17 != 1) = true then 3
  else if decide (0 < z) = true ∧ decide (z < 8) = true then 5 else if decide (0 < z) = true ∧ ((un ad).tmod 8 != 0) = true then 4 else if jb = true ∧ ((un tw).tmod 4 != 0) = true then 6 else 0
def rendV (h : HartV) (i : InsnV) : Int := rendB i.op (h.x 17) (opOf i.op).size (h.x i.rs1.toNat + bv i.imm) (tgtV h i).2 (tgtV h i).1
attribute [local go_sem] wrap_u64_bv bv_un bv_sn bv_add bv_mul bv_neg bv_sub mul_bvpow shr_min shl_min sshr_min bv_lit bv_0 bv_1 un_shr sn_shr wrap_i64_un bits_u64_and bits_u64_or bits_u64_xor bits_u64_andNot bv_max u64_unsigned
section
attribute [local irreducible] un sn hartL
set_option maxRecDepth 100000 in
set_option maxHeartbeats 4000000 in
theorem REnd_0 (h : HartV) (op : Int) (d r1 r2 : Nat) (imm : Int) (aq rl : Bool) (pred succ : Int) (w : World) (x17 ad tw : BitVec 64) (z : Int) (jb : Bool) (h17 : Hid (h.x 17 = x17)) (hA : Hid (∀ W, Calls Tryz.prog 43 #[.agg (hartArr h), .agg #[.int .i64 op, .int .i64 d, .int .i64 r1, .int .i64 r2, .int .i64 imm, .bool aq, .bool rl, .int .i64 pred, .int .i64 succ]] W fun e w' => e = .returned (.tuple #[.int .u64 (un ad), .int .i64 z]) ∧ Below W.heap.size W w')) (hT : Hid (∀ W, Calls Tryz.prog 32 #[.agg (hartArr h), .agg #[.int .i64 op, .int .i64 d, .int .i64 r1, .int .i64 r2, .int .i64 imm, .bool aq, .bool rl, .int .i64 pred, .int .i64 succ]] W fun e w' => e = .returned (.tuple #[.int .u64 (un tw), .bool jb]) ∧ Below W.heap.size W w')) (t65 : (op == 65) = true) :
    Calls Tryz.prog 29 #[.agg (hartArr h), .agg #[.int .i64 op, .int .i64 d, .int .i64 r1, .int .i64 r2, .int .i64 imm, .bool aq, .bool rl, .int .i64 pred, .int .i64 succ]] w fun e w' => e = .returned (.int .i64 2) ∧ Below w.heap.size w w' := by
  have hB0 := BK.start w h ⟨op, d, r1, r2, imm, aq, rl, pred, succ⟩ 25 27
  have hu := Tryz.underlying25
  have hund : ∀ b : Bool, (some undef = some (Value.bool b)) = False := fun b => by simp [undef]
  obtain ⟨rh, ri, x33, c0, c1, c2, c3, c4, c5, c6, c7, c8⟩ := hB0.facts
  go_enter Tryz.func29, Tryz.ntmps29
  go_wp2_with (first | (refine wpList_load_mid rfl 25 _ rfl w.heap.size 0 rfl (hartL h) _ rh hu rfl (size_hart _) ?_) | (go_at_call 43; refine (hA.out _).mono ?_; rintro e wa ⟨rfl, hba⟩; replace hB0 := hB0.keep hba; clear hba rh ri x33 c0 c1 c2 c3 c4 c5 c6 c7 c8; obtain ⟨rh, ri, x33, c0, c1, c2, c3, c4, c5, c6, c7, c8⟩ := hB0.facts) | (go_at_call 32; refine (hT.out _).mono ?_; rintro e wt ⟨rfl, hbt⟩; have hB := hB0.keep hbt; clear hbt rh ri x33 c0 c1 c2 c3 c4 c5 c6 c7 c8; obtain ⟨rh, ri, x33, c0, c1, c2, c3, c4, c5, c6, c7, c8⟩ := hB.facts; have k17 : wt.cell? ⟨w.heap.size, 18, none⟩ = some (.int .u64 (un x17)) := by rw [← h17.out]; exact hB.h 18 (by decide)))
  go_ret
  exact ⟨rfl, hB.bl⟩
set_option maxRecDepth 100000 in
set_option maxHeartbeats 4000000 in
theorem REnd_1 (h : HartV) (op : Int) (d r1 r2 : Nat) (imm : Int) (aq rl : Bool) (pred succ : Int) (w : World) (x17 ad tw : BitVec 64) (z : Int) (jb : Bool) (h17 : Hid (h.x 17 = x17)) (hA : Hid (∀ W, Calls Tryz.prog 43 #[.agg (hartArr h), .agg #[.int .i64 op, .int .i64 d, .int .i64 r1, .int .i64 r2, .int .i64 imm, .bool aq, .bool rl, .int .i64 pred, .int .i64 succ]] W fun e w' => e = .returned (.tuple #[.int .u64 (un ad), .int .i64 z]) ∧ Below W.heap.size W w')) (hT : Hid (∀ W, Calls Tryz.prog 32 #[.agg (hartArr h), .agg #[.int .i64 op, .int .i64 d, .int .i64 r1, .int .i64 r2, .int .i64 imm, .bool aq, .bool rl, .int .i64 pred, .int .i64 succ]] W fun e w' => e = .returned (.tuple #[.int .u64 (un tw), .bool jb]) ∧ Below W.heap.size W w')) (t65 : (op == 65) = false) (t64 : (op == 64) = true) (u0 : (un x17 == 0) = true) :
    Calls Tryz.prog 29 #[.agg (hartArr h), .agg #[.int .i64 op, .int .i64 d, .int .i64 r1, .int .i64 r2, .int .i64 imm, .bool aq, .bool rl, .int .i64 pred, .int .i64 succ]] w fun e w' => e = .returned (.int .i64 1) ∧ Below w.heap.size w w' := by
  have hB0 := BK.start w h ⟨op, d, r1, r2, imm, aq, rl, pred, succ⟩ 25 27
  have hu := Tryz.underlying25
  have hund : ∀ b : Bool, (some undef = some (Value.bool b)) = False := fun b => by simp [undef]
  obtain ⟨rh, ri, x33, c0, c1, c2, c3, c4, c5, c6, c7, c8⟩ := hB0.facts
  go_enter Tryz.func29, Tryz.ntmps29
  go_wp2_with (first | (refine wpList_load_mid rfl 25 _ rfl w.heap.size 0 rfl (hartL h) _ rh hu rfl (size_hart _) ?_) | (go_at_call 43; refine (hA.out _).mono ?_; rintro e wa ⟨rfl, hba⟩; replace hB0 := hB0.keep hba; clear hba rh ri x33 c0 c1 c2 c3 c4 c5 c6 c7 c8; obtain ⟨rh, ri, x33, c0, c1, c2, c3, c4, c5, c6, c7, c8⟩ := hB0.facts) | (go_at_call 32; refine (hT.out _).mono ?_; rintro e wt ⟨rfl, hbt⟩; have hB := hB0.keep hbt; clear hbt rh ri x33 c0 c1 c2 c3 c4 c5 c6 c7 c8; obtain ⟨rh, ri, x33, c0, c1, c2, c3, c4, c5, c6, c7, c8⟩ := hB.facts; have k17 : wt.cell? ⟨w.heap.size, 18, none⟩ = some (.int .u64 (un x17)) := by rw [← h17.out]; exact hB.h 18 (by decide)))
  go_ret
  exact ⟨rfl, hB.bl⟩
set_option maxRecDepth 100000 in
set_option maxHeartbeats 4000000 in
theorem REnd_2 (h : HartV) (op : Int) (d r1 r2 : Nat) (imm : Int) (aq rl : Bool) (pred succ : Int) (w : World) (x17 ad tw : BitVec 64) (z : Int) (jb : Bool) (h17 : Hid (h.x 17 = x17)) (hA : Hid (∀ W, Calls Tryz.prog 43 #[.agg (hartArr h), .agg #[.int .i64 op, .int .i64 d, .int .i64 r1, .int .i64 r2, .int .i64 imm, .bool aq, .bool rl, .int .i64 pred, .int .i64 succ]] W fun e w' => e = .returned (.tuple #[.int .u64 (un ad), .int .i64 z]) ∧ Below W.heap.size W w')) (hT : Hid (∀ W, Calls Tryz.prog 32 #[.agg (hartArr h), .agg #[.int .i64 op, .int .i64 d, .int .i64 r1, .int .i64 r2, .int .i64 imm, .bool aq, .bool rl, .int .i64 pred, .int .i64 succ]] W fun e w' => e = .returned (.tuple #[.int .u64 (un tw), .bool jb]) ∧ Below W.heap.size W w')) (t65 : (op == 65) = false) (t64 : (op == 64) = true) (u0 : (un x17 == 0) = false) (u1 : (un x17 != 1) = true) :
    Calls Tryz.prog 29 #[.agg (hartArr h), .agg #[.int .i64 op, .int .i64 d, .int .i64 r1, .int .i64 r2, .int .i64 imm, .bool aq, .bool rl, .int .i64 pred, .int .i64 succ]] w fun e w' => e = .returned (.int .i64 3) ∧ Below w.heap.size w w' := by
  have hB0 := BK.start w h ⟨op, d, r1, r2, imm, aq, rl, pred, succ⟩ 25 27
  have hu := Tryz.underlying25
  have hund : ∀ b : Bool, (some undef = some (Value.bool b)) = False := fun b => by simp [undef]
  obtain ⟨rh, ri, x33, c0, c1, c2, c3, c4, c5, c6, c7, c8⟩ := hB0.facts
  go_enter Tryz.func29, Tryz.ntmps29
  go_wp2_with (first | (refine wpList_load_mid rfl 25 _ rfl w.heap.size 0 rfl (hartL h) _ rh hu rfl (size_hart _) ?_) | (go_at_call 43; refine (hA.out _).mono ?_; rintro e wa ⟨rfl, hba⟩; replace hB0 := hB0.keep hba; clear hba rh ri x33 c0 c1 c2 c3 c4 c5 c6 c7 c8; obtain ⟨rh, ri, x33, c0, c1, c2, c3, c4, c5, c6, c7, c8⟩ := hB0.facts) | (go_at_call 32; refine (hT.out _).mono ?_; rintro e wt ⟨rfl, hbt⟩; have hB := hB0.keep hbt; clear hbt rh ri x33 c0 c1 c2 c3 c4 c5 c6 c7 c8; obtain ⟨rh, ri, x33, c0, c1, c2, c3, c4, c5, c6, c7, c8⟩ := hB.facts; have k17 : wt.cell? ⟨w.heap.size, 18, none⟩ = some (.int .u64 (un x17)) := by rw [← h17.out]; exact hB.h 18 (by decide)))
  go_ret
  exact ⟨rfl, hB.bl⟩
set_option maxRecDepth 100000 in
set_option maxHeartbeats 4000000 in
theorem REnd_3 (h : HartV) (op : Int) (d r1 r2 : Nat) (imm : Int) (aq rl : Bool) (pred succ : Int) (w : World) (x17 ad tw : BitVec 64) (z : Int) (jb : Bool) (h17 : Hid (h.x 17 = x17)) (hA : Hid (∀ W, Calls Tryz.prog 43 #[.agg (hartArr h), .agg #[.int .i64 op, .int .i64 d, .int .i64 r1, .int .i64 r2, .int .i64 imm, .bool aq, .bool rl, .int .i64 pred, .int .i64 succ]] W fun e w' => e = .returned (.tuple #[.int .u64 (un ad), .int .i64 z]) ∧ Below W.heap.size W w')) (hT : Hid (∀ W, Calls Tryz.prog 32 #[.agg (hartArr h), .agg #[.int .i64 op, .int .i64 d, .int .i64 r1, .int .i64 r2, .int .i64 imm, .bool aq, .bool rl, .int .i64 pred, .int .i64 succ]] W fun e w' => e = .returned (.tuple #[.int .u64 (un tw), .bool jb]) ∧ Below W.heap.size W w')) (t65 : (op == 65) = false) (t64 : (op == 64) = true) (u0 : (un x17 == 0) = false) (u1 : (un x17 != 1) = false) (s0 : decide (0 < z) = true) (s8 : decide (z < 8) = true) :
    Calls Tryz.prog 29 #[.agg (hartArr h), .agg #[.int .i64 op, .int .i64 d, .int .i64 r1, .int .i64 r2, .int .i64 imm, .bool aq, .bool rl, .int .i64 pred, .int .i64 succ]] w fun e w' => e = .returned (.int .i64 5) ∧ Below w.heap.size w w' := by
  have hB0 := BK.start w h ⟨op, d, r1, r2, imm, aq, rl, pred, succ⟩ 25 27
  have hu := Tryz.underlying25
  have hund : ∀ b : Bool, (some undef = some (Value.bool b)) = False := fun b => by simp [undef]
  obtain ⟨rh, ri, x33, c0, c1, c2, c3, c4, c5, c6, c7, c8⟩ := hB0.facts
  go_enter Tryz.func29, Tryz.ntmps29
  go_wp2_with (first | (refine wpList_load_mid rfl 25 _ rfl w.heap.size 0 rfl (hartL h) _ rh hu rfl (size_hart _) ?_) | (go_at_call 43; refine (hA.out _).mono ?_; rintro e wa ⟨rfl, hba⟩; replace hB0 := hB0.keep hba; clear hba rh ri x33 c0 c1 c2 c3 c4 c5 c6 c7 c8; obtain ⟨rh, ri, x33, c0, c1, c2, c3, c4, c5, c6, c7, c8⟩ := hB0.facts) | (go_at_call 32; refine (hT.out _).mono ?_; rintro e wt ⟨rfl, hbt⟩; have hB := hB0.keep hbt; clear hbt rh ri x33 c0 c1 c2 c3 c4 c5 c6 c7 c8; obtain ⟨rh, ri, x33, c0, c1, c2, c3, c4, c5, c6, c7, c8⟩ := hB.facts; have k17 : wt.cell? ⟨w.heap.size, 18, none⟩ = some (.int .u64 (un x17)) := by rw [← h17.out]; exact hB.h 18 (by decide)))
  go_ret
  exact ⟨rfl, hB.bl⟩
set_option maxRecDepth 100000 in
set_option maxHeartbeats 4000000 in
theorem REnd_4 (h : HartV) (op : Int) (d r1 r2 : Nat) (imm : Int) (aq rl : Bool) (pred succ : Int) (w : World) (x17 ad tw : BitVec 64) (z : Int) (jb : Bool) (h17 : Hid (h.x 17 = x17)) (hA : Hid (∀ W, Calls Tryz.prog 43 #[.agg (hartArr h), .agg #[.int .i64 op, .int .i64 d, .int .i64 r1, .int .i64 r2, .int .i64 imm, .bool aq, .bool rl, .int .i64 pred, .int .i64 succ]] W fun e w' => e = .returned (.tuple #[.int .u64 (un ad), .int .i64 z]) ∧ Below W.heap.size W w')) (hT : Hid (∀ W, Calls Tryz.prog 32 #[.agg (hartArr h), .agg #[.int .i64 op, .int .i64 d, .int .i64 r1, .int .i64 r2, .int .i64 imm, .bool aq, .bool rl, .int .i64 pred, .int .i64 succ]] W fun e w' => e = .returned (.tuple #[.int .u64 (un tw), .bool jb]) ∧ Below W.heap.size W w')) (t65 : (op == 65) = false) (t64 : (op == 64) = true) (u0 : (un x17 == 0) = false) (u1 : (un x17 != 1) = false) (s0 : decide (0 < z) = true) (s8 : decide (z < 8) = false) (a8 : ((un ad).tmod 8 != 0) = true) :
    Calls Tryz.prog 29 #[.agg (hartArr h), .agg #[.int .i64 op, .int .i64 d, .int .i64 r1, .int .i64 r2, .int .i64 imm, .bool aq, .bool rl, .int .i64 pred, .int .i64 succ]] w fun e w' => e = .returned (.int .i64 4) ∧ Below w.heap.size w w' := by
  have hB0 := BK.start w h ⟨op, d, r1, r2, imm, aq, rl, pred, succ⟩ 25 27
  have hu := Tryz.underlying25
  have hund : ∀ b : Bool, (some undef = some (Value.bool b)) = False := fun b => by simp [undef]
  obtain ⟨rh, ri, x33, c0, c1, c2, c3, c4, c5, c6, c7, c8⟩ := hB0.facts
  go_enter Tryz.func29, Tryz.ntmps29
  go_wp2_with (first | (refine wpList_load_mid rfl 25 _ rfl w.heap.size 0 rfl (hartL h) _ rh hu rfl (size_hart _) ?_) | (go_at_call 43; refine (hA.out _).mono ?_; rintro e wa ⟨rfl, hba⟩; replace hB0 := hB0.keep hba; clear hba rh ri x33 c0 c1 c2 c3 c4 c5 c6 c7 c8; obtain ⟨rh, ri, x33, c0, c1, c2, c3, c4, c5, c6, c7, c8⟩ := hB0.facts) | (go_at_call 32; refine (hT.out _).mono ?_; rintro e wt ⟨rfl, hbt⟩; have hB := hB0.keep hbt; clear hbt rh ri x33 c0 c1 c2 c3 c4 c5 c6 c7 c8; obtain ⟨rh, ri, x33, c0, c1, c2, c3, c4, c5, c6, c7, c8⟩ := hB.facts; have k17 : wt.cell? ⟨w.heap.size, 18, none⟩ = some (.int .u64 (un x17)) := by rw [← h17.out]; exact hB.h 18 (by decide)))
  go_ret
  exact ⟨rfl, hB.bl⟩
set_option maxRecDepth 100000 in
set_option maxHeartbeats 4000000 in
theorem REnd_5 (h : HartV) (op : Int) (d r1 r2 : Nat) (imm : Int) (aq rl : Bool) (pred succ : Int) (w : World) (x17 ad tw : BitVec 64) (z : Int) (h17 : Hid (h.x 17 = x17)) (hA : Hid (∀ W, Calls Tryz.prog 43 #[.agg (hartArr h), .agg #[.int .i64 op, .int .i64 d, .int .i64 r1, .int .i64 r2, .int .i64 imm, .bool aq, .bool rl, .int .i64 pred, .int .i64 succ]] W fun e w' => e = .returned (.tuple #[.int .u64 (un ad), .int .i64 z]) ∧ Below W.heap.size W w')) (hT : Hid (∀ W, Calls Tryz.prog 32 #[.agg (hartArr h), .agg #[.int .i64 op, .int .i64 d, .int .i64 r1, .int .i64 r2, .int .i64 imm, .bool aq, .bool rl, .int .i64 pred, .int .i64 succ]] W fun e w' => e = .returned (.tuple #[.int .u64 (un tw), .bool true]) ∧ Below W.heap.size W w')) (t65 : (op == 65) = false) (t64 : (op == 64) = true) (u0 : (un x17 == 0) = false) (u1 : (un x17 != 1) = false) (s0 : decide (0 < z) = true) (s8 : decide (z < 8) = false) (a8 : ((un ad).tmod 8 != 0) = false) (j4 : ((un tw).tmod 4 != 0) = true) :
    Calls Tryz.prog 29 #[.agg (hartArr h), .agg #[.int .i64 op, .int .i64 d, .int .i64 r1, .int .i64 r2, .int .i64 imm, .bool aq, .bool rl, .int .i64 pred, .int .i64 succ]] w fun e w' => e = .returned (.int .i64 6) ∧ Below w.heap.size w w' := by
  have hB0 := BK.start w h ⟨op, d, r1, r2, imm, aq, rl, pred, succ⟩ 25 27
  have hu := Tryz.underlying25
  have hund : ∀ b : Bool, (some undef = some (Value.bool b)) = False := fun b => by simp [undef]
  obtain ⟨rh, ri, x33, c0, c1, c2, c3, c4, c5, c6, c7, c8⟩ := hB0.facts
  go_enter Tryz.func29, Tryz.ntmps29
  go_wp2_with (first | (refine wpList_load_mid rfl 25 _ rfl w.heap.size 0 rfl (hartL h) _ rh hu rfl (size_hart _) ?_) | (go_at_call 43; refine (hA.out _).mono ?_; rintro e wa ⟨rfl, hba⟩; replace hB0 := hB0.keep hba; clear hba rh ri x33 c0 c1 c2 c3 c4 c5 c6 c7 c8; obtain ⟨rh, ri, x33, c0, c1, c2, c3, c4, c5, c6, c7, c8⟩ := hB0.facts) | (go_at_call 32; refine (hT.out _).mono ?_; rintro e wt ⟨rfl, hbt⟩; have hB := hB0.keep hbt; clear hbt rh ri x33 c0 c1 c2 c3 c4 c5 c6 c7 c8; obtain ⟨rh, ri, x33, c0, c1, c2, c3, c4, c5, c6, c7, c8⟩ := hB.facts; have k17 : wt.cell? ⟨w.heap.size, 18, none⟩ = some (.int .u64 (un x17)) := by rw [← h17.out]; exact hB.h 18 (by decide)))
  go_ret
  exact ⟨rfl, hB.bl⟩
set_option maxRecDepth 100000 in
set_option maxHeartbeats 4000000 in
theorem REnd_6 (h : HartV) (op : Int) (d r1 r2 : Nat) (imm : Int) (aq rl : Bool) (pred succ : Int) (w : World) (x17 ad tw : BitVec 64) (z : Int) (h17 : Hid (h.x 17 = x17)) (hA : Hid (∀ W, Calls Tryz.prog 43 #[.agg (hartArr h), .agg #[.int .i64 op, .int .i64 d, .int .i64 r1, .int .i64 r2, .int .i64 imm, .bool aq, .bool rl, .int .i64 pred, .int .i64 succ]] W fun e w' => e = .returned (.tuple #[.int .u64 (un ad), .int .i64 z]) ∧ Below W.heap.size W w')) (hT : Hid (∀ W, Calls Tryz.prog 32 #[.agg (hartArr h), .agg #[.int .i64 op, .int .i64 d, .int .i64 r1, .int .i64 r2, .int .i64 imm, .bool aq, .bool rl, .int .i64 pred, .int .i64 succ]] W fun e w' => e = .returned (.tuple #[.int .u64 (un tw), .bool true]) ∧ Below W.heap.size W w')) (t65 : (op == 65) = false) (t64 : (op == 64) = true) (u0 : (un x17 == 0) = false) (u1 : (un x17 != 1) = false) (s0 : decide (0 < z) = true) (s8 : decide (z < 8) = false) (a8 : ((un ad).tmod 8 != 0) = false) (j4 : ((un tw).tmod 4 != 0) = false) :
    Calls Tryz.prog 29 #[.agg (hartArr h), .agg #[.int .i64 op, .int .i64 d, .int .i64 r1, .int .i64 r2, .int .i64 imm, .bool aq, .bool rl, .int .i64 pred, .int .i64 succ]] w fun e w' => e = .returned (.int .i64 0) ∧ Below w.heap.size w w' := by
  have hB0 := BK.start w h ⟨op, d, r1, r2, imm, aq, rl, pred, succ⟩ 25 27
  have hu := Tryz.underlying25
  have hund : ∀ b : Bool, (some undef = some (Value.bool b)) = False := fun b => by simp [undef]
  obtain ⟨rh, ri, x33, c0, c1, c2, c3, c4, c5, c6, c7, c8⟩ := hB0.facts
  go_enter Tryz.func29, Tryz.ntmps29
  go_wp2_with (first | (refine wpList_load_mid rfl 25 _ rfl w.heap.size 0 rfl (hartL h) _ rh hu rfl (size_hart _) ?_) | (go_at_call 43; refine (hA.out _).mono ?_; rintro e wa ⟨rfl, hba⟩; replace hB0 := hB0.keep hba; clear hba rh ri x33 c0 c1 c2 c3 c4 c5 c6 c7 c8; obtain ⟨rh, ri, x33, c0, c1, c2, c3, c4, c5, c6, c7, c8⟩ := hB0.facts) | (go_at_call 32; refine (hT.out _).mono ?_; rintro e wt ⟨rfl, hbt⟩; have hB := hB0.keep hbt; clear hbt rh ri x33 c0 c1 c2 c3 c4 c5 c6 c7 c8; obtain ⟨rh, ri, x33, c0, c1, c2, c3, c4, c5, c6, c7, c8⟩ := hB.facts; have k17 : wt.cell? ⟨w.heap.size, 18, none⟩ = some (.int .u64 (un x17)) := by rw [← h17.out]; exact hB.h 18 (by decide)))
  go_ret
  exact ⟨rfl, hB.bl⟩
set_option maxRecDepth 100000 in
set_option maxHeartbeats 4000000 in
theorem REnd_7 (h : HartV) (op : Int) (d r1 r2 : Nat) (imm : Int) (aq rl : Bool) (pred succ : Int) (w : World) (x17 ad tw : BitVec 64) (z : Int) (h17 : Hid (h.x 17 = x17)) (hA : Hid (∀ W, Calls Tryz.prog 43 #[.agg (hartArr h), .agg #[.int .i64 op, .int .i64 d, .int .i64 r1, .int .i64 r2, .int .i64 imm, .bool aq, .bool rl, .int .i64 pred, .int .i64 succ]] W fun e w' => e = .returned (.tuple #[.int .u64 (un ad), .int .i64 z]) ∧ Below W.heap.size W w')) (hT : Hid (∀ W, Calls Tryz.prog 32 #[.agg (hartArr h), .agg #[.int .i64 op, .int .i64 d, .int .i64 r1, .int .i64 r2, .int .i64 imm, .bool aq, .bool rl, .int .i64 pred, .int .i64 succ]] W fun e w' => e = .returned (.tuple #[.int .u64 (un tw), .bool false]) ∧ Below W.heap.size W w')) (t65 : (op == 65) = false) (t64 : (op == 64) = true) (u0 : (un x17 == 0) = false) (u1 : (un x17 != 1) = false) (s0 : decide (0 < z) = true) (s8 : decide (z < 8) = false) (a8 : ((un ad).tmod 8 != 0) = false) :
    Calls Tryz.prog 29 #[.agg (hartArr h), .agg #[.int .i64 op, .int .i64 d, .int .i64 r1, .int .i64 r2, .int .i64 imm, .bool aq, .bool rl, .int .i64 pred, .int .i64 succ]] w fun e w' => e = .returned (.int .i64 0) ∧ Below w.heap.size w w' := by
  have hB0 := BK.start w h ⟨op, d, r1, r2, imm, aq, rl, pred, succ⟩ 25 27
  have hu := Tryz.underlying25
  have hund : ∀ b : Bool, (some undef = some (Value.bool b)) = False := fun b => by simp [undef]
  obtain ⟨rh, ri, x33, c0, c1, c2, c3, c4, c5, c6, c7, c8⟩ := hB0.facts
  go_enter Tryz.func29, Tryz.ntmps29
  go_wp2_with (first | (refine wpList_load_mid rfl 25 _ rfl w.heap.size 0 rfl (hartL h) _ rh hu rfl (size_hart _) ?_) | (go_at_call 43; refine (hA.out _).mono ?_; rintro e wa ⟨rfl, hba⟩; replace hB0 := hB0.keep hba; clear hba rh ri x33 c0 c1 c2 c3 c4 c5 c6 c7 c8; obtain ⟨rh, ri, x33, c0, c1, c2, c3, c4, c5, c6, c7, c8⟩ := hB0.facts) | (go_at_call 32; refine (hT.out _).mono ?_; rintro e wt ⟨rfl, hbt⟩; have hB := hB0.keep hbt; clear hbt rh ri x33 c0 c1 c2 c3 c4 c5 c6 c7 c8; obtain ⟨rh, ri, x33, c0, c1, c2, c3, c4, c5, c6, c7, c8⟩ := hB.facts; have k17 : wt.cell? ⟨w.heap.size, 18, none⟩ = some (.int .u64 (un x17)) := by rw [← h17.out]; exact hB.h 18 (by decide)))
  go_ret
  exact ⟨rfl, hB.bl⟩
set_option maxRecDepth 100000 in
set_option maxHeartbeats 4000000 in
theorem REnd_8 (h : HartV) (op : Int) (d r1 r2 : Nat) (imm : Int) (aq rl : Bool) (pred succ : Int) (w : World) (x17 ad tw : BitVec 64) (z : Int) (h17 : Hid (h.x 17 = x17)) (hA : Hid (∀ W, Calls Tryz.prog 43 #[.agg (hartArr h), .agg #[.int .i64 op, .int .i64 d, .int .i64 r1, .int .i64 r2, .int .i64 imm, .bool aq, .bool rl, .int .i64 pred, .int .i64 succ]] W fun e w' => e = .returned (.tuple #[.int .u64 (un ad), .int .i64 z]) ∧ Below W.heap.size W w')) (hT : Hid (∀ W, Calls Tryz.prog 32 #[.agg (hartArr h), .agg #[.int .i64 op, .int .i64 d, .int .i64 r1, .int .i64 r2, .int .i64 imm, .bool aq, .bool rl, .int .i64 pred, .int .i64 succ]] W fun e w' => e = .returned (.tuple #[.int .u64 (un tw), .bool true]) ∧ Below W.heap.size W w')) (t65 : (op == 65) = false) (t64 : (op == 64) = true) (u0 : (un x17 == 0) = false) (u1 : (un x17 != 1) = false) (s0 : decide (0 < z) = false) (j4 : ((un tw).tmod 4 != 0) = true) :
    Calls Tryz.prog 29 #[.agg (hartArr h), .agg #[.int .i64 op, .int .i64 d, .int .i64 r1, .int .i64 r2, .int .i64 imm, .bool aq, .bool rl, .int .i64 pred, .int .i64 succ]] w fun e w' => e = .returned (.int .i64 6) ∧ Below w.heap.size w w' := by
  have hB0 := BK.start w h ⟨op, d, r1, r2, imm, aq, rl, pred, succ⟩ 25 27
  have hu := Tryz.underlying25
  have hund : ∀ b : Bool, (some undef = some (Value.bool b)) = False := fun b => by simp [undef]
  obtain ⟨rh, ri, x33, c0, c1, c2, c3, c4, c5, c6, c7, c8⟩ := hB0.facts
  go_enter Tryz.func29, Tryz.ntmps29
  go_wp2_with (first | (refine wpList_load_mid rfl 25 _ rfl w.heap.size 0 rfl (hartL h) _ rh hu rfl (size_hart _) ?_) | (go_at_call 43; refine (hA.out _).mono ?_; rintro e wa ⟨rfl, hba⟩; replace hB0 := hB0.keep hba; clear hba rh ri x33 c0 c1 c2 c3 c4 c5 c6 c7 c8; obtain ⟨rh, ri, x33, c0, c1, c2, c3, c4, c5, c6, c7, c8⟩ := hB0.facts) | (go_at_call 32; refine (hT.out _).mono ?_; rintro e wt ⟨rfl, hbt⟩; have hB := hB0.keep hbt; clear hbt rh ri x33 c0 c1 c2 c3 c4 c5 c6 c7 c8; obtain ⟨rh, ri, x33, c0, c1, c2, c3, c4, c5, c6, c7, c8⟩ := hB.facts; have k17 : wt.cell? ⟨w.heap.size, 18, none⟩ = some (.int .u64 (un x17)) := by rw [← h17.out]; exact hB.h 18 (by decide)))
  go_ret
  exact ⟨rfl, hB.bl⟩
set_option maxRecDepth 100000 in
set_option maxHeartbeats 4000000 in
theorem REnd_9 (h : HartV) (op : Int) (d r1 r2 : Nat) (imm : Int) (aq rl : Bool) (pred succ : Int) (w : World) (x17 ad tw : BitVec 64) (z : Int) (h17 : Hid (h.x 17 = x17)) (hA : Hid (∀ W, Calls Tryz.prog 43 #[.agg (hartArr h), .agg #[.int .i64 op, .int .i64 d, .int .i64 r1, .int .i64 r2, .int .i64 imm, .bool aq, .bool rl, .int .i64 pred, .int .i64 succ]] W fun e w' => e = .returned (.tuple #[.int .u64 (un ad), .int .i64 z]) ∧ Below W.heap.size W w')) (hT : Hid (∀ W, Calls Tryz.prog 32 #[.agg (hartArr h), .agg #[.int .i64 op, .int .i64 d, .int .i64 r1, .int .i64 r2, .int .i64 imm, .bool aq, .bool rl, .int .i64 pred, .int .i64 succ]] W fun e w' => e = .returned (.tuple #[.int .u64 (un tw), .bool true]) ∧ Below W.heap.size W w')) (t65 : (op == 65) = false) (t64 : (op == 64) = true) (u0 : (un x17 == 0) = false) (u1 : (un x17 != 1) = false) (s0 : decide (0 < z) = false) (j4 : ((un tw).tmod 4 != 0) = false) :
    Calls Tryz.prog 29 #[.agg (hartArr h), .agg #[.int .i64 op, .int .i64 d, .int .i64 r1, .int .i64 r2, .int .i64 imm, .bool aq, .bool rl, .int .i64 pred, .int .i64 succ]] w fun e w' => e = .returned (.int .i64 0) ∧ Below w.heap.size w w' := by
  have hB0 := BK.start w h ⟨op, d, r1, r2, imm, aq, rl, pred, succ⟩ 25 27
  have hu := Tryz.underlying25
  have hund : ∀ b : Bool, (some undef = some (Value.bool b)) = False := fun b => by simp [undef]
  obtain ⟨rh, ri, x33, c0, c1, c2, c3, c4, c5, c6, c7, c8⟩ := hB0.facts
  go_enter Tryz.func29, Tryz.ntmps29
  go_wp2_with (first | (refine wpList_load_mid rfl 25 _ rfl w.heap.size 0 rfl (hartL h) _ rh hu rfl (size_hart _) ?_) | (go_at_call 43; refine (hA.out _).mono ?_; rintro e wa ⟨rfl, hba⟩; replace hB0 := hB0.keep hba; clear hba rh ri x33 c0 c1 c2 c3 c4 c5 c6 c7 c8; obtain ⟨rh, ri, x33, c0, c1, c2, c3, c4, c5, c6, c7, c8⟩ := hB0.facts) | (go_at_call 32; refine (hT.out _).mono ?_; rintro e wt ⟨rfl, hbt⟩; have hB := hB0.keep hbt; clear hbt rh ri x33 c0 c1 c2 c3 c4 c5 c6 c7 c8; obtain ⟨rh, ri, x33, c0, c1, c2, c3, c4, c5, c6, c7, c8⟩ := hB.facts; have k17 : wt.cell? ⟨w.heap.size, 18, none⟩ = some (.int .u64 (un x17)) := by rw [← h17.out]; exact hB.h 18 (by decide)))
  go_ret
  exact ⟨rfl, hB.bl⟩
set_option maxRecDepth 100000 in
set_option maxHeartbeats 4000000 in
theorem REnd_10 (h : HartV) (op : Int) (d r1 r2 : Nat) (imm : Int) (aq rl : Bool) (pred succ : Int) (w : World) (x17 ad tw : BitVec 64) (z : Int) (h17 : Hid (h.x 17 = x17)) (hA : Hid (∀ W, Calls Tryz.prog 43 #[.agg (hartArr h), .agg #[.int .i64 op, .int .i64 d, .int .i64 r1, .int .i64 r2, .int .i64 imm, .bool aq, .bool rl, .int .i64 pred, .int .i64 succ]] W fun e w' => e = .returned (.tuple #[.int .u64 (un ad), .int .i64 z]) ∧ Below W.heap.size W w')) (hT : Hid (∀ W, Calls Tryz.prog 32 #[.agg (hartArr h), .agg #[.int .i64 op, .int .i64 d, .int .i64 r1, .int .i64 r2, .int .i64 imm, .bool aq, .bool rl, .int .i64 pred, .int .i64 succ]] W fun e w' => e = .returned (.tuple #[.int .u64 (un tw), .bool false]) ∧ Below W.heap.size W w')) (t65 : (op == 65) = false) (t64 : (op == 64) = true) (u0 : (un x17 == 0) = false) (u1 : (un x17 != 1) = false) (s0 : decide (0 < z) = false) :
    Calls Tryz.prog 29 #[.agg (hartArr h), .agg #[.int .i64 op, .int .i64 d, .int .i64 r1, .int .i64 r2, .int .i64 imm, .bool aq, .bool rl, .int .i64 pred, .int .i64 succ]] w fun e w' => e = .returned (.int .i64 0) ∧ Below w.heap.size w w' := by
  have hB0 := BK.start w h ⟨op, d, r1, r2, imm, aq, rl, pred, succ⟩ 25 27
  have hu := Tryz.underlying25
  have hund : ∀ b : Bool, (some undef = some (Value.bool b)) = False := fun b => by simp [undef]
  obtain ⟨rh, ri, x33, c0, c1, c2, c3, c4, c5, c6, c7, c8⟩ := hB0.facts
  go_enter Tryz.func29, Tryz.ntmps29
  go_wp2_with (first | (refine wpList_load_mid rfl 25 _ rfl w.heap.size 0 rfl (hartL h) _ rh hu rfl (size_hart _) ?_) | (go_at_call 43; refine (hA.out _).mono ?_; rintro e wa ⟨rfl, hba⟩; replace hB0 := hB0.keep hba; clear hba rh ri x33 c0 c1 c2 c3 c4 c5 c6 c7 c8; obtain ⟨rh, ri, x33, c0, c1, c2, c3, c4, c5, c6, c7, c8⟩ := hB0.facts) | (go_at_call 32; refine (hT.out _).mono ?_; rintro e wt ⟨rfl, hbt⟩; have hB := hB0.keep hbt; clear hbt rh ri x33 c0 c1 c2 c3 c4 c5 c6 c7 c8; obtain ⟨rh, ri, x33, c0, c1, c2, c3, c4, c5, c6, c7, c8⟩ := hB.facts; have k17 : wt.cell? ⟨w.heap.size, 18, none⟩ = some (.int .u64 (un x17)) := by rw [← h17.out]; exact hB.h 18 (by decide)))
  go_ret
  exact ⟨rfl, hB.bl⟩
set_option maxRecDepth 100000 in
set_option maxHeartbeats 4000000 in
theorem REnd_11 (h : HartV) (op : Int) (d r1 r2 : Nat) (imm : Int) (aq rl : Bool) (pred succ : Int) (w : World) (x17 ad tw : BitVec 64) (z : Int) (jb : Bool) (h17 : Hid (h.x 17 = x17)) (hA : Hid (∀ W, Calls Tryz.prog 43 #[.agg (hartArr h), .agg #[.int .i64 op, .int .i64 d, .int .i64 r1, .int .i64 r2, .int .i64 imm, .bool aq, .bool rl, .int .i64 pred, .int .i64 succ]] W fun e w' => e = .returned (.tuple #[.int .u64 (un ad), .int .i64 z]) ∧ Below W.heap.size W w')) (hT : Hid (∀ W, Calls Tryz.prog 32 #[.agg (hartArr h), .agg #[.int .i64 op, .int .i64 d, .int .i64 r1, .int .i64 r2, .int .i64 imm, .bool aq, .bool rl, .int .i64 pred, .int .i64 succ]] W fun e w' => e = .returned (.tuple #[.int .u64 (un tw), .bool jb]) ∧ Below W.heap.size W w')) (t65 : (op == 65) = false) (t64 : (op == 64) = false) (s0 : decide (0 < z) = true) (s8 : decide (z < 8) = true) :
    Calls Tryz.prog 29 #[.agg (hartArr h), .agg #[.int .i64 op, .int .i64 d, .int .i64 r1, .int .i64 r2, .int .i64 imm, .bool aq, .bool rl, .int .i64 pred, .int .i64 succ]] w fun e w' => e = .returned (.int .i64 5) ∧ Below w.heap.size w w' := by
  have hB0 := BK.start w h ⟨op, d, r1, r2, imm, aq, rl, pred, succ⟩ 25 27
  have hu := Tryz.underlying25
  have hund : ∀ b : Bool, (some undef = some (Value.bool b)) = False := fun b => by simp [undef]
  obtain ⟨rh, ri, x33, c0, c1, c2, c3, c4, c5, c6, c7, c8⟩ := hB0.facts
  go_enter Tryz.func29, Tryz.ntmps29
  go_wp2_with (first | (refine wpList_load_mid rfl 25 _ rfl w.heap.size 0 rfl (hartL h) _ rh hu rfl (size_hart _) ?_) | (go_at_call 43; refine (hA.out _).mono ?_; rintro e wa ⟨rfl, hba⟩; replace hB0 := hB0.keep hba; clear hba rh ri x33 c0 c1 c2 c3 c4 c5 c6 c7 c8; obtain ⟨rh, ri, x33, c0, c1, c2, c3, c4, c5, c6, c7, c8⟩ := hB0.facts) | (go_at_call 32; refine (hT.out _).mono ?_; rintro e wt ⟨rfl, hbt⟩; have hB := hB0.keep hbt; clear hbt rh ri x33 c0 c1 c2 c3 c4 c5 c6 c7 c8; obtain ⟨rh, ri, x33, c0, c1, c2, c3, c4, c5, c6, c7, c8⟩ := hB.facts; have k17 : wt.cell? ⟨w.heap.size, 18, none⟩ = some (.int .u64 (un x17)) := by rw [← h17.out]; exact hB.h 18 (by decide)))
  go_ret
  exact ⟨rfl, hB.bl⟩
set_option maxRecDepth 100000 in
set_option maxHeartbeats 4000000 in
theorem REnd_12 (h : HartV) (op : Int) (d r1 r2 : Nat) (imm : Int) (aq rl : Bool) (pred succ : Int) (w : World) (x17 ad tw : BitVec 64) (z : Int) (jb : Bool) (h17 : Hid (h.x 17 = x17)) (hA : Hid (∀ W, Calls Tryz.prog 43 #[.agg (hartArr h), .agg #[.int .i64 op, .int .i64 d, .int .i64 r1, .int .i64 r2, .int .i64 imm, .bool aq, .bool rl, .int .i64 pred, .int .i64 succ]] W fun e w' => e = .returned (.tuple #[.int .u64 (un ad), .int .i64 z]) ∧ Below W.heap.size W w')) (hT : Hid (∀ W, Calls Tryz.prog 32 #[.agg (hartArr h), .agg #[.int .i64 op, .int .i64 d, .int .i64 r1, .int .i64 r2, .int .i64 imm, .bool aq, .bool rl, .int .i64 pred, .int .i64 succ]] W fun e w' => e = .returned (.tuple #[.int .u64 (un tw), .bool jb]) ∧ Below W.heap.size W w')) (t65 : (op == 65) = false) (t64 : (op == 64) = false) (s0 : decide (0 < z) = true) (s8 : decide (z < 8) = false) (a8 : ((un ad).tmod 8 != 0) = true) :
    Calls Tryz.prog 29 #[.agg (hartArr h), .agg #[.int .i64 op, .int .i64 d, .int .i64 r1, .int .i64 r2, .int .i64 imm, .bool aq, .bool rl, .int .i64 pred, .int .i64 succ]] w fun e w' => e = .returned (.int .i64 4) ∧ Below w.heap.size w w' := by
  have hB0 := BK.start w h ⟨op, d, r1, r2, imm, aq, rl, pred, succ⟩ 25 27
  have hu := Tryz.underlying25
  have hund : ∀ b : Bool, (some undef = some (Value.bool b)) = False := fun b => by simp [undef]
  obtain ⟨rh, ri, x33, c0, c1, c2, c3, c4, c5, c6, c7, c8⟩ := hB0.facts
  go_enter Tryz.func29, Tryz.ntmps29
  go_wp2_with (first | (refine wpList_load_mid rfl 25 _ rfl w.heap.size 0 rfl (hartL h) _ rh hu rfl (size_hart _) ?_) | (go_at_call 43; refine (hA.out _).mono ?_; rintro e wa ⟨rfl, hba⟩; replace hB0 := hB0.keep hba; clear hba rh ri x33 c0 c1 c2 c3 c4 c5 c6 c7 c8; obtain ⟨rh, ri, x33, c0, c1, c2, c3, c4, c5, c6, c7, c8⟩ := hB0.facts) | (go_at_call 32; refine (hT.out _).mono ?_; rintro e wt ⟨rfl, hbt⟩; have hB := hB0.keep hbt; clear hbt rh ri x33 c0 c1 c2 c3 c4 c5 c6 c7 c8; obtain ⟨rh, ri, x33, c0, c1, c2, c3, c4, c5, c6, c7, c8⟩ := hB.facts; have k17 : wt.cell? ⟨w.heap.size, 18, none⟩ = some (.int .u64 (un x17)) := by rw [← h17.out]; exact hB.h 18 (by decide)))
  go_ret
  exact ⟨rfl, hB.bl⟩
set_option maxRecDepth 100000 in
set_option maxHeartbeats 4000000 in
theorem REnd_13 (h : HartV) (op : Int) (d r1 r2 : Nat) (imm : Int) (aq rl : Bool) (pred succ : Int) (w : World) (x17 ad tw : BitVec 64) (z : Int) (h17 : Hid (h.x 17 = x17)) (hA : Hid (∀ W, Calls Tryz.prog 43 #[.agg (hartArr h), .agg #[.int .i64 op, .int .i64 d, .int .i64 r1, .int .i64 r2, .int .i64 imm, .bool aq, .bool rl, .int .i64 pred, .int .i64 succ]] W fun e w' => e = .returned (.tuple #[.int .u64 (un ad), .int .i64 z]) ∧ Below W.heap.size W w')) (hT : Hid (∀ W, Calls Tryz.prog 32 #[.agg (hartArr h), .agg #[.int .i64 op, .int .i64 d, .int .i64 r1, .int .i64 r2, .int .i64 imm, .bool aq, .bool rl, .int .i64 pred, .int .i64 succ]] W fun e w' => e = .returned (.tuple #[.int .u64 (un tw), .bool true]) ∧ Below W.heap.size W w')) (t65 : (op == 65) = false) (t64 : (op == 64) = false) (s0 : decide (0 < z) = true) (s8 : decide (z < 8) = false) (a8 : ((un ad).tmod 8 != 0) = false) (j4 : ((un tw).tmod 4 != 0) = true) :
    Calls Tryz.prog 29 #[.agg (hartArr h), .agg #[.int .i64 op, .int .i64 d, .int .i64 r1, .int .i64 r2, .int .i64 imm, .bool aq, .bool rl, .int .i64 pred, .int .i64 succ]] w fun e w' => e = .returned (.int .i64 6) ∧ Below w.heap.size w w' := by
  have hB0 := BK.start w h ⟨op, d, r1, r2, imm, aq, rl, pred, succ⟩ 25 27
  have hu := Tryz.underlying25
  have hund : ∀ b : Bool, (some undef = some (Value.bool b)) = False := fun b => by simp [undef]
  obtain ⟨rh, ri, x33, c0, c1, c2, c3, c4, c5, c6, c7, c8⟩ := hB0.facts
  go_enter Tryz.func29, Tryz.ntmps29
  go_wp2_with (first | (refine wpList_load_mid rfl 25 _ rfl w.heap.size 0 rfl (hartL h) _ rh hu rfl (size_hart _) ?_) | (go_at_call 43; refine (hA.out _).mono ?_; rintro e wa ⟨rfl, hba⟩; replace hB0 := hB0.keep hba; clear hba rh ri x33 c0 c1 c2 c3 c4 c5 c6 c7 c8; obtain ⟨rh, ri, x33, c0, c1, c2, c3, c4, c5, c6, c7, c8⟩ := hB0.facts) | (go_at_call 32; refine (hT.out _).mono ?_; rintro e wt ⟨rfl, hbt⟩; have hB := hB0.keep hbt; clear hbt rh ri x33 c0 c1 c2 c3 c4 c5 c6 c7 c8; obtain ⟨rh, ri, x33, c0, c1, c2, c3, c4, c5, c6, c7, c8⟩ := hB.facts; have k17 : wt.cell? ⟨w.heap.size, 18, none⟩ = some (.int .u64 (un x17)) := by rw [← h17.out]; exact hB.h 18 (by decide)))
  go_ret
  exact ⟨rfl, hB.bl⟩
set_option maxRecDepth 100000 in
set_option maxHeartbeats 4000000 in
theorem REnd_14 (h : HartV) (op : Int) (d r1 r2 : Nat) (imm : Int) (aq rl : Bool) (pred succ : Int) (w : World) (x17 ad tw : BitVec 64) (z : Int) (h17 : Hid (h.x 17 = x17)) (hA : Hid (∀ W, Calls Tryz.prog 43 #[.agg (hartArr h), .agg #[.int .i64 op, .int .i64 d, .int .i64 r1, .int .i64 r2, .int .i64 imm, .bool aq, .bool rl, .int .i64 pred, .int .i64 succ]] W fun e w' => e = .returned (.tuple #[.int .u64 (un ad), .int .i64 z]) ∧ Below W.heap.size W w')) (hT : Hid (∀ W, Calls Tryz.prog 32 #[.agg (hartArr h), .agg #[.int .i64 op, .int .i64 d, .int .i64 r1, .int .i64 r2, .int .i64 imm, .bool aq, .bool rl, .int .i64 pred, .int .i64 succ]] W fun e w' => e = .returned (.tuple #[.int .u64 (un tw), .bool true]) ∧ Below W.heap.size W w')) (t65 : (op == 65) = false) (t64 : (op == 64) = false) (s0 : decide (0 < z) = true) (s8 : decide (z < 8) = false) (a8 : ((un ad).tmod 8 != 0) = false) (j4 : ((un tw).tmod 4 != 0) = false) :
    Calls Tryz.prog 29 #[.agg (hartArr h), .agg #[.int .i64 op, .int .i64 d, .int .i64 r1, .int .i64 r2, .int .i64 imm, .bool aq, .bool rl, .int .i64 pred, .int .i64 succ]] w fun e w' => e = .returned (.int .i64 0) ∧ Below w.heap.size w w' := by
  have hB0 := BK.start w h ⟨op, d, r1, r2, imm, aq, rl, pred, succ⟩ 25 27
  have hu := Tryz.underlying25
  have hund : ∀ b : Bool, (some undef = some (Value.bool b)) = False := fun b => by simp [undef]
  obtain ⟨rh, ri, x33, c0, c1, c2, c3, c4, c5, c6, c7, c8⟩ := hB0.facts
  go_enter Tryz.func29, Tryz.ntmps29
  go_wp2_with (first | (refine wpList_load_mid rfl 25 _ rfl w.heap.size 0 rfl (hartL h) _ rh hu rfl (size_hart _) ?_) | (go_at_call 43; refine (hA.out _).mono ?_; rintro e wa ⟨rfl, hba⟩; replace hB0 := hB0.keep hba; clear hba rh ri x33 c0 c1 c2 c3 c4 c5 c6 c7 c8; obtain ⟨rh, ri, x33, c0, c1, c2, c3, c4, c5, c6, c7, c8⟩ := hB0.facts) | (go_at_call 32; refine (hT.out _).mono ?_; rintro e wt ⟨rfl, hbt⟩; have hB := hB0.keep hbt; clear hbt rh ri x33 c0 c1 c2 c3 c4 c5 c6 c7 c8; obtain ⟨rh, ri, x33, c0, c1, c2, c3, c4, c5, c6, c7, c8⟩ := hB.facts; have k17 : wt.cell? ⟨w.heap.size, 18, none⟩ = some (.int .u64 (un x17)) := by rw [← h17.out]; exact hB.h 18 (by decide)))
  go_ret
  exact ⟨rfl, hB.bl⟩
set_option maxRecDepth 100000 in
set_option maxHeartbeats 4000000 in
theorem REnd_15 (h : HartV) (op : Int) (d r1 r2 : Nat) (imm : Int) (aq rl : Bool) (pred succ : Int) (w : World) (x17 ad tw : BitVec 64) (z : Int) (h17 : Hid (h.x 17 = x17)) (hA : Hid (∀ W, Calls Tryz.prog 43 #[.agg (hartArr h), .agg #[.int .i64 op, .int .i64 d, .int .i64 r1, .int .i64 r2, .int .i64 imm, .bool aq, .bool rl, .int .i64 pred, .int .i64 succ]] W fun e w' => e = .returned (.tuple #[.int .u64 (un ad), .int .i64 z]) ∧ Below W.heap.size W w')) (hT : Hid (∀ W, Calls Tryz.prog 32 #[.agg (hartArr h), .agg #[.int .i64 op, .int .i64 d, .int .i64 r1, .int .i64 r2, .int .i64 imm, .bool aq, .bool rl, .int .i64 pred, .int .i64 succ]] W fun e w' => e = .returned (.tuple #[.int .u64 (un tw), .bool false]) ∧ Below W.heap.size W w')) (t65 : (op == 65) = false) (t64 : (op == 64) = false) (s0 : decide (0 < z) = true) (s8 : decide (z < 8) = false) (a8 : ((un ad).tmod 8 != 0) = false) :
    Calls Tryz.prog 29 #[.agg (hartArr h), .agg #[.int .i64 op, .int .i64 d, .int .i64 r1, .int .i64 r2, .int .i64 imm, .bool aq, .bool rl, .int .i64 pred, .int .i64 succ]] w fun e w' => e = .returned (.int .i64 0) ∧ Below w.heap.size w w' := by
  have hB0 := BK.start w h ⟨op, d, r1, r2, imm, aq, rl, pred, succ⟩ 25 27
  have hu := Tryz.underlying25
  have hund : ∀ b : Bool, (some undef = some (Value.bool b)) = False := fun b => by simp [undef]
  obtain ⟨rh, ri, x33, c0, c1, c2, c3, c4, c5, c6, c7, c8⟩ := hB0.facts
  go_enter Tryz.func29, Tryz.ntmps29
  go_wp2_with (first | (refine wpList_load_mid rfl 25 _ rfl w.heap.size 0 rfl (hartL h) _ rh hu rfl (size_hart _) ?_) | (go_at_call 43; refine (hA.out _).mono ?_; rintro e wa ⟨rfl, hba⟩; replace hB0 := hB0.keep hba; clear hba rh ri x33 c0 c1 c2 c3 c4 c5 c6 c7 c8; obtain ⟨rh, ri, x33, c0, c1, c2, c3, c4, c5, c6, c7, c8⟩ := hB0.facts) | (go_at_call 32; refine (hT.out _).mono ?_; rintro e wt ⟨rfl, hbt⟩; have hB := hB0.keep hbt; clear hbt rh ri x33 c0 c1 c2 c3 c4 c5 c6 c7 c8; obtain ⟨rh, ri, x33, c0, c1, c2, c3, c4, c5, c6, c7, c8⟩ := hB.facts; have k17 : wt.cell? ⟨w.heap.size, 18, none⟩ = some (.int .u64 (un x17)) := by rw [← h17.out]; exact hB.h 18 (by decide)))
  go_ret
  exact ⟨rfl, hB.bl⟩
set_option maxRecDepth 100000 in
set_option maxHeartbeats 4000000 in
theorem REnd_16 (h : HartV) (op : Int) (d r1 r2 : Nat) (imm : Int) (aq rl : Bool) (pred succ : Int) (w : World) (x17 ad tw : BitVec 64) (z : Int) (h17 : Hid (h.x 17 = x17)) (hA : Hid (∀ W, Calls Tryz.prog 43 #[.agg (hartArr h), .agg #[.int .i64 op, .int .i64 d, .int .i64 r1, .int .i64 r2, .int .i64 imm, .bool aq, .bool rl, .int .i64 pred, .int .i64 succ]] W fun e w' => e = .returned (.tuple #[.int .u64 (un ad), .int .i64 z]) ∧ Below W.heap.size W w')) (hT : Hid (∀ W, Calls Tryz.prog 32 #[.agg (hartArr h), .agg #[.int .i64 op, .int .i64 d, .int .i64 r1, .int .i64 r2, .int .i64 imm, .bool aq, .bool rl, .int .i64 pred, .int .i64 succ]] W fun e w' => e = .returned (.tuple #[.int .u64 (un tw), .bool true]) ∧ Below W.heap.size W w')) (t65 : (op == 65) = false) (t64 : (op == 64) = false) (s0 : decide (0 < z) = false) (j4 : ((un tw).tmod 4 != 0) = true) :
    Calls Tryz.prog 29 #[.agg (hartArr h), .agg #[.int .i64 op, .int .i64 d, .int .i64 r1, .int .i64 r2, .int .i64 imm, .bool aq, .bool rl, .int .i64 pred, .int .i64 succ]] w fun e w' => e = .returned (.int .i64 6) ∧ Below w.heap.size w w' := by
  have hB0 := BK.start w h ⟨op, d, r1, r2, imm, aq, rl, pred, succ⟩ 25 27
  have hu := Tryz.underlying25
  have hund : ∀ b : Bool, (some undef = some (Value.bool b)) = False := fun b => by simp [undef]
  obtain ⟨rh, ri, x33, c0, c1, c2, c3, c4, c5, c6, c7, c8⟩ := hB0.facts
  go_enter Tryz.func29, Tryz.ntmps29
  go_wp2_with (first | (refine wpList_load_mid rfl 25 _ rfl w.heap.size 0 rfl (hartL h) _ rh hu rfl (size_hart _) ?_) | (go_at_call 43; refine (hA.out _).mono ?_; rintro e wa ⟨rfl, hba⟩; replace hB0 := hB0.keep hba; clear hba rh ri x33 c0 c1 c2 c3 c4 c5 c6 c7 c8; obtain ⟨rh, ri, x33, c0, c1, c2, c3, c4, c5, c6, c7, c8⟩ := hB0.facts) | (go_at_call 32; refine (hT.out _).mono ?_; rintro e wt ⟨rfl, hbt⟩; have hB := hB0.keep hbt; clear hbt rh ri x33 c0 c1 c2 c3 c4 c5 c6 c7 c8; obtain ⟨rh, ri, x33, c0, c1, c2, c3, c4, c5, c6, c7, c8⟩ := hB.facts; have k17 : wt.cell? ⟨w.heap.size, 18, none⟩ = some (.int .u64 (un x17)) := by rw [← h17.out]; exact hB.h 18 (by decide)))
  go_ret
  exact ⟨rfl, hB.bl⟩
set_option maxRecDepth 100000 in
set_option maxHeartbeats 4000000 in
theorem REnd_17 (h : HartV) (op : Int) (d r1 r2 : Nat) (imm : Int) (aq rl : Bool) (pred succ : Int) (w : World) (x17 ad tw : BitVec 64) (z : Int) (h17 : Hid (h.x 17 = x17)) (hA : Hid (∀ W, Calls Tryz.prog 43 #[.agg (hartArr h), .agg #[.int .i64 op, .int .i64 d, .int .i64 r1, .int .i64 r2, .int .i64 imm, .bool aq, .bool rl, .int .i64 pred, .int .i64 succ]] W fun e w' => e = .returned (.tuple #[.int .u64 (un ad), .int .i64 z]) ∧ Below W.heap.size W w')) (hT : Hid (∀ W, Calls Tryz.prog 32 #[.agg (hartArr h), .agg #[.int .i64 op, .int .i64 d, .int .i64 r1, .int .i64 r2, .int .i64 imm, .bool aq, .bool rl, .int .i64 pred, .int .i64 succ]] W fun e w' => e = .returned (.tuple #[.int .u64 (un tw), .bool true]) ∧ Below W.heap.size W w')) (t65 : (op == 65) = false) (t64 : (op == 64) = false) (s0 : decide (0 < z) = false) (j4 : ((un tw).tmod 4 != 0) = false) :
    Calls Tryz.prog 29 #[.agg (hartArr h), .agg #[.int .i64 op, .int .i64 d, .int .i64 r1, .int .i64 r2, .int .i64 imm, .bool aq, .bool rl, .int .i64 pred, .int .i64 succ]] w fun e w' => e = .returned (.int .i64 0) ∧ Below w.heap.size w w' := by
  have hB0 := BK.start w h ⟨op, d, r1, r2, imm, aq, rl, pred, succ⟩ 25 27
  have hu := Tryz.underlying25
  have hund : ∀ b : Bool, (some undef = some (Value.bool b)) = False := fun b => by simp [undef]
  obtain ⟨rh, ri, x33, c0, c1, c2, c3, c4, c5, c6, c7, c8⟩ := hB0.facts
  go_enter Tryz.func29, Tryz.ntmps29
  go_wp2_with (first | (refine wpList_load_mid rfl 25 _ rfl w.heap.size 0 rfl (hartL h) _ rh hu rfl (size_hart _) ?_) | (go_at_call 43; refine (hA.out _).mono ?_; rintro e wa ⟨rfl, hba⟩; replace hB0 := hB0.keep hba; clear hba rh ri x33 c0 c1 c2 c3 c4 c5 c6 c7 c8; obtain ⟨rh, ri, x33, c0, c1, c2, c3, c4, c5, c6, c7, c8⟩ := hB0.facts) | (go_at_call 32; refine (hT.out _).mono ?_; rintro e wt ⟨rfl, hbt⟩; have hB := hB0.keep hbt; clear hbt rh ri x33 c0 c1 c2 c3 c4 c5 c6 c7 c8; obtain ⟨rh, ri, x33, c0, c1, c2, c3, c4, c5, c6, c7, c8⟩ := hB.facts; have k17 : wt.cell? ⟨w.heap.size, 18, none⟩ = some (.int .u64 (un x17)) := by rw [← h17.out]; exact hB.h 18 (by decide)))
  go_ret
  exact ⟨rfl, hB.bl⟩
set_option maxRecDepth 100000 in
set_option maxHeartbeats 4000000 in
theorem REnd_18 (h : HartV) (op : Int) (d r1 r2 : Nat) (imm : Int) (aq rl : Bool) (pred succ : Int) (w : World) (x17 ad tw : BitVec 64) (z : Int) (h17 : Hid (h.x 17 = x17)) (hA : Hid (∀ W, Calls Tryz.prog 43 #[.agg (hartArr h), .agg #[.int .i64 op, .int .i64 d, .int .i64 r1, .int .i64 r2, .int .i64 imm, .bool aq, .bool rl, .int .i64 pred, .int .i64 succ]] W fun e w' => e = .returned (.tuple #[.int .u64 (un ad), .int .i64 z]) ∧ Below W.heap.size W w')) (hT : Hid (∀ W, Calls Tryz.prog 32 #[.agg (hartArr h), .agg #[.int .i64 op, .int .i64 d, .int .i64 r1, .int .i64 r2, .int .i64 imm, .bool aq, .bool rl, .int .i64 pred, .int .i64 succ]] W fun e w' => e = .returned (.tuple #[.int .u64 (un tw), .bool false]) ∧ Below W.heap.size W w')) (t65 : (op == 65) = false) (t64 : (op == 64) = false) (s0 : decide (0 < z) = false) :
    Calls Tryz.prog 29 #[.agg (hartArr h), .agg #[.int .i64 op, .int .i64 d, .int .i64 r1, .int .i64 r2, .int .i64 imm, .bool aq, .bool rl, .int .i64 pred, .int .i64 succ]] w fun e w' => e = .returned (.int .i64 0) ∧ Below w.heap.size w w' := by
  have hB0 := BK.start w h ⟨op, d, r1, r2, imm, aq, rl, pred, succ⟩ 25 27
  have hu := Tryz.underlying25
  have hund : ∀ b : Bool, (some undef = some (Value.bool b)) = False := fun b => by simp [undef]
  obtain ⟨rh, ri, x33, c0, c1, c2, c3, c4, c5, c6, c7, c8⟩ := hB0.facts
  go_enter Tryz.func29, Tryz.ntmps29
  go_wp2_with (first | (refine wpList_load_mid rfl 25 _ rfl w.heap.size 0 rfl (hartL h) _ rh hu rfl (size_hart _) ?_) | (go_at_call 43; refine (hA.out _).mono ?_; rintro e wa ⟨rfl, hba⟩; replace hB0 := hB0.keep hba; clear hba rh ri x33 c0 c1 c2 c3 c4 c5 c6 c7 c8; obtain ⟨rh, ri, x33, c0, c1, c2, c3, c4, c5, c6, c7, c8⟩ := hB0.facts) | (go_at_call 32; refine (hT.out _).mono ?_; rintro e wt ⟨rfl, hbt⟩; have hB := hB0.keep hbt; clear hbt rh ri x33 c0 c1 c2 c3 c4 c5 c6 c7 c8; obtain ⟨rh, ri, x33, c0, c1, c2, c3, c4, c5, c6, c7, c8⟩ := hB.facts; have k17 : wt.cell? ⟨w.heap.size, 18, none⟩ = some (.int .u64 (un x17)) := by rw [← h17.out]; exact hB.h 18 (by decide)))
  go_ret
  exact ⟨rfl, hB.bl⟩
theorem REnd_at (h : HartV) (op : Int) (d r1 r2 : Nat) (imm : Int) (aq rl : Bool) (pred succ : Int) (w : World) (x17 ad tw : BitVec 64) (z : Int) (jb : Bool) (h17 : Hid (h.x 17 = x17)) (hA : Hid (∀ W, Calls Tryz.prog 43 #[.agg (hartArr h), .agg #[.int .i64 op, .int .i64 d, .int .i64 r1, .int .i64 r2, .int .i64 imm, .bool aq, .bool rl, .int .i64 pred, .int .i64 succ]] W fun e w' => e = .returned (.tuple #[.int .u64 (un ad), .int .i64 z]) ∧ Below W.heap.size W w')) (hT : Hid (∀ W, Calls Tryz.prog 32 #[.agg (hartArr h), .agg #[.int .i64 op, .int .i64 d, .int .i64 r1, .int .i64 r2, .int .i64 imm, .bool aq, .bool rl, .int .i64 pred, .int .i64 succ]] W fun e w' => e = .returned (.tuple #[.int .u64 (un tw), .bool jb]) ∧ Below W.heap.size W w')) :
    Calls Tryz.prog 29 #[.agg (hartArr h), .agg #[.int .i64 op, .int .i64 d, .int .i64 r1, .int .i64 r2, .int .i64 imm, .bool aq, .bool rl, .int .i64 pred, .int .i64 succ]] w fun e w' => e = .returned (.int .i64 (rendB op x17 z ad jb tw)) ∧ Below w.heap.size w w' := by
  cases t65 : (op == 65) with
  | true =>
    rw [show rendB op x17 z ad jb tw = 2 by simp [rendB, t65]]
    exact REnd_0 h op d r1 r2 imm aq rl pred succ w x17 ad tw z jb h17 hA hT t65
  | false =>
    cases t64 : (op == 64) with
    | true =>
      cases u0 : (un x17 == 0) with
      | true =>
        rw [show rendB op x17 z ad jb tw = 1 by simp [rendB, t65, t64, u0]]
        exact REnd_1 h op d r1 r2 imm aq rl pred succ w x17 ad tw z jb h17 hA hT t65 t64 u0
      | false =>
        cases u1 : (un x17 != 1) with
        | true =>
          rw [show rendB op x17 z ad jb tw = 3 by simp [rendB, t65, t64, u0, u1]]
          exact REnd_2 h op d r1 r2 imm aq rl pred succ w x17 ad tw z jb h17 hA hT t65 t64 u0 u1
        | false =>
          cases s0 : decide (0 < z) with
          | true =>
            cases s8 : decide (z < 8) with
            | true =>
              rw [show rendB op x17 z ad jb tw = 5 by simp [rendB, t65, t64, u0, u1, s0, s8]]
              exact REnd_3 h op d r1 r2 imm aq rl pred succ w x17 ad tw z jb h17 hA hT t65 t64 u0 u1 s0 s8
            | false =>
              cases a8 : ((un ad).tmod 8 != 0) with
              | true =>
                rw [show rendB op x17 z ad jb tw = 4 by simp [rendB, t65, t64, u0, u1, s0, s8, a8]]
                exact REnd_4 h op d r1 r2 imm aq rl pred succ w x17 ad tw z jb h17 hA hT t65 t64 u0 u1 s0 s8 a8
              | false =>
                cases jb with
                | true =>
                  cases j4 : ((un tw).tmod 4 != 0) with
                  | true =>
                    rw [show rendB op x17 z ad true tw = 6 by simp [rendB, t65, t64, u0, u1, s0, s8, a8, j4]]
                    exact REnd_5 h op d r1 r2 imm aq rl pred succ w x17 ad tw z h17 hA hT t65 t64 u0 u1 s0 s8 a8 j4
                  | false =>
                    rw [show rendB op x17 z ad true tw = 0 by simp [rendB, t65, t64, u0, u1, s0, s8, a8, j4]]
                    exact REnd_6 h op d r1 r2 imm aq rl pred succ w x17 ad tw z h17 hA hT t65 t64 u0 u1 s0 s8 a8 j4
                | false =>
                  rw [show rendB op x17 z ad false tw = 0 by simp [rendB, t65, t64, u0, u1, s0, s8, a8]]
                  exact REnd_7 h op d r1 r2 imm aq rl pred succ w x17 ad tw z h17 hA hT t65 t64 u0 u1 s0 s8 a8
          | false =>
            cases jb with
            | true =>
              cases j4 : ((un tw).tmod 4 != 0) with
              | true =>
                rw [show rendB op x17 z ad true tw = 6 by simp [rendB, t65, t64, u0, u1, s0, j4]]
                exact REnd_8 h op d r1 r2 imm aq rl pred succ w x17 ad tw z h17 hA hT t65 t64 u0 u1 s0 j4
              | false =>
                rw [show rendB op x17 z ad true tw = 0 by simp [rendB, t65, t64, u0, u1, s0, j4]]
                exact REnd_9 h op d r1 r2 imm aq rl pred succ w x17 ad tw z h17 hA hT t65 t64 u0 u1 s0 j4
            | false =>
              rw [show rendB op x17 z ad false tw = 0 by simp [rendB, t65, t64, u0, u1, s0]]
              exact REnd_10 h op d r1 r2 imm aq rl pred succ w x17 ad tw z h17 hA hT t65 t64 u0 u1 s0
    | false =>
      cases s0 : decide (0 < z) with
      | true =>
        cases s8 : decide (z < 8) with
        | true =>
          rw [show rendB op x17 z ad jb tw = 5 by simp [rendB, t65, t64, s0, s8]]
          exact REnd_11 h op d r1 r2 imm aq rl pred succ w x17 ad tw z jb h17 hA hT t65 t64 s0 s8
        | false =>
          cases a8 : ((un ad).tmod 8 != 0) with
          | true =>
            rw [show rendB op x17 z ad jb tw = 4 by simp [rendB, t65, t64, s0, s8, a8]]
            exact REnd_12 h op d r1 r2 imm aq rl pred succ w x17 ad tw z jb h17 hA hT t65 t64 s0 s8 a8
          | false =>
            cases jb with
            | true =>
              cases j4 : ((un tw).tmod 4 != 0) with
              | true =>
                rw [show rendB op x17 z ad true tw = 6 by simp [rendB, t65, t64, s0, s8, a8, j4]]
                exact REnd_13 h op d r1 r2 imm aq rl pred succ w x17 ad tw z h17 hA hT t65 t64 s0 s8 a8 j4
              | false =>
                rw [show rendB op x17 z ad true tw = 0 by simp [rendB, t65, t64, s0, s8, a8, j4]]
                exact REnd_14 h op d r1 r2 imm aq rl pred succ w x17 ad tw z h17 hA hT t65 t64 s0 s8 a8 j4
            | false =>
              rw [show rendB op x17 z ad false tw = 0 by simp [rendB, t65, t64, s0, s8, a8]]
              exact REnd_15 h op d r1 r2 imm aq rl pred succ w x17 ad tw z h17 hA hT t65 t64 s0 s8 a8
      | false =>
        cases jb with
        | true =>
          cases j4 : ((un tw).tmod 4 != 0) with
          | true =>
            rw [show rendB op x17 z ad true tw = 6 by simp [rendB, t65, t64, s0, j4]]
            exact REnd_16 h op d r1 r2 imm aq rl pred succ w x17 ad tw z h17 hA hT t65 t64 s0 j4
          | false =>
            rw [show rendB op x17 z ad true tw = 0 by simp [rendB, t65, t64, s0, j4]]
            exact REnd_17 h op d r1 r2 imm aq rl pred succ w x17 ad tw z h17 hA hT t65 t64 s0 j4
        | false =>
          rw [show rendB op x17 z ad false tw = 0 by simp [rendB, t65, t64, s0]]
          exact REnd_18 h op d r1 r2 imm aq rl pred succ w x17 ad tw z h17 hA hT t65 t64 s0
theorem REnd_any (h : HartV) (op : Int) (d r1 r2 : Nat) (imm : Int) (aq rl : Bool) (pred succ : Int) (w : World) (hr1 : r1 < 32) (hr2 : r2 < 32) :
    Calls Tryz.prog 29 #[.agg (hartArr h), .agg #[.int .i64 op, .int .i64 d, .int .i64 r1, .int .i64 r2, .int .i64 imm, .bool aq, .bool rl, .int .i64 pred, .int .i64 succ]] w fun e w' => e = .returned (.int .i64 (rendV h ⟨op, d, r1, r2, imm, aq, rl, pred, succ⟩)) ∧ Below w.heap.size w w' :=
  REnd_at h op d r1 r2 imm aq rl pred succ w (h.x 17) (h.x r1 + bv imm) (tgtV h ⟨op, d, r1, r2, imm, aq, rl, pred, succ⟩).1 (opOf op).size (tgtV h ⟨op, d, r1, r2, imm, aq, rl, pred, succ⟩).2 (Lib.hid rfl) (Lib.hid fun W => RAddr_any h op d r1 r2 imm aq rl pred succ W hr1) (Lib.hid fun W => RTgt_any h op d r1 r2 imm aq rl pred succ W hr1 hr2)
end
end Go.Proofs.YtbglinhglnbfmaaGreatDoor
namespace Go.Proofs.YtbglinhglnbfmaaGreatDoor
open Go.RowKit
/-- What the frame of the document's Step holds, begun in world w. -/
structure RK (w : World) (h : HartV) (i : InsnV) (W : World) : Prop where
  h : HC w.heap.size h W
  hf : ∀ j, j < 35 → W.frozen? ⟨w.heap.size, j, none⟩ = false
  c : ∀ j, j < 9 → W.cell? ⟨w.heap.size + 1, j, none⟩ = some (insnCell i j)
  z : W.there (w.heap.size + 2) 0 35
  bl : Below w.heap.size w W
  sz : w.heap.size + 3 ≤ W.heap.size
theorem RK.keep {w W W' : World} {h : HartV} {i : InsnV} (hE : RK w h i W) (hb : Below W.heap.size W W') : RK w h i W' := by
  have sz := hE.sz
  have cl : ∀ (x j : Nat), x < w.heap.size + 3 → W'.cell? ⟨x, j, none⟩ = W.cell? ⟨x, j, none⟩ := fun x j hx => hb.cell (p := ⟨x, j, none⟩) (by show x < _; omega)
  have fl : ∀ (x j : Nat), x < w.heap.size + 3 → W'.frozen? ⟨x, j, none⟩ = W.frozen? ⟨x, j, none⟩ := fun x j hx => hb.frozen (p := ⟨x, j, none⟩) (by show x < _; omega)
  exact ⟨fun j hj => by rw [cl _ _ (by omega)]; exact hE.h j hj, fun j hj => by rw [fl _ _ (by omega)]; exact hE.hf j hj, fun j hj => by rw [cl _ _ (by omega)]; exact hE.c j hj,
    fun j hj => by rw [cl _ _ (by omega), fl _ _ (by omega)]; exact hE.z j hj, hE.bl.trans (hb.mono (by omega)), Nat.le_trans hE.sz hb.size⟩
theorem RK.drew {w W : World} {h : HartV} {i : InsnV} (hE : RK w h i W) : RK w h i W.drew := hE.keep (Below.refl _ _).drew
/-- A cell of the hart is stored. -/
theorem RK.put {w W : World} {h h' : HartV} {i : InsnV} (hE : RK w h i W) (o : Nat) (v : Value) (hc : HC w.heap.size h' (W.setCell ⟨w.heap.size, o, none⟩ v)) : RK w h' i (W.setCell ⟨w.heap.size, o, none⟩ v) := by
  have sz := setCell_size W ⟨w.heap.size, o, none⟩ v
  have cl : ∀ (x j : Nat), x ≠ w.heap.size → (W.setCell ⟨w.heap.size, o, none⟩ v).cell? ⟨x, j, none⟩ = W.cell? ⟨x, j, none⟩ := fun x j hx => World.cell?_setCell_other _ _ _ _ (fun e => hx (by injection e with e1 _ _; exact e1.symm))
  have fl : ∀ (x j : Nat), (W.setCell ⟨w.heap.size, o, none⟩ v).frozen? ⟨x, j, none⟩ = W.frozen? ⟨x, j, none⟩ := fun x j => World.frozen?_setCells w.heap.size [v] o W ⟨x, j, none⟩
  exact ⟨hc, fun j hj => by rw [fl]; exact hE.hf j hj, fun j hj => by rw [cl _ _ (by omega)]; exact hE.c j hj, fun j hj => by rw [cl _ _ (by omega), fl]; exact hE.z j hj, hE.bl.setCell (p := ⟨w.heap.size, o, none⟩) (Nat.le_refl _) v, Nat.le_trans hE.sz sz⟩
theorem HC.goes {a : Nat} {h : HartV} {W : World} (hc : HC a h W) (n : BitVec 64) : HC a (h.goes n) (W.setCell ⟨a, 0, none⟩ (.int .u64 (un n))) := fun j hj => by
  rw [setCell_at (hc 0 (by decide))]
  split
  · rename_i e; subst e; rfl
  · rename_i e; rw [hc j hj]; unfold hartCell; rw [if_neg e, if_neg e]; rfl
theorem RK.start (w : World) (h : HartV) (i : InsnV) (t1 t2 t3 : TypeId) : RK w h i (((((w.alloc (.cells (hartArr h) t1)).alloc (.cells i.cells t2)).alloc (.cells #[.int .u64 0, .int .u64 0, .int .u64 0, .int .u64 0, .int .u64 0, .int .u64 0, .int .u64 0, .int .u64 0, .int .u64 0, .int .u64 0, .int .u64 0, .int .u64 0, .int .u64 0, .int .u64 0, .int .u64 0, .int .u64 0, .int .u64 0, .int .u64 0, .int .u64 0, .int .u64 0, .int .u64 0, .int .u64 0, .int .u64 0, .int .u64 0, .int .u64 0, .int .u64 0, .int .u64 0, .int .u64 0, .int .u64 0, .int .u64 0, .int .u64 0, .int .u64 0, .int .u64 0, .int .i64 0, .int .u64 0] t3)))) := by
  have n1 : (w.alloc (.cells (hartArr h) t1)).heap.size = w.heap.size + 1 := by simp
  have n2 : ((w.alloc (.cells (hartArr h) t1)).alloc (.cells i.cells t2)).heap.size = w.heap.size + 2 := by simp
  have k1 : Below (w.heap.size + 1) (w.alloc (.cells (hartArr h) t1)) (((((w.alloc (.cells (hartArr h) t1)).alloc (.cells i.cells t2)).alloc (.cells #[.int .u64 0, .int .u64 0, .int .u64 0, .int .u64 0, .int .u64 0, .int .u64 0, .int .u64 0, .int .u64 0, .int .u64 0, .int .u64 0, .int .u64 0, .int .u64 0, .int .u64 0, .int .u64 0, .int .u64 0, .int .u64 0, .int .u64 0, .int .u64 0, .int .u64 0, .int .u64 0, .int .u64 0, .int .u64 0, .int .u64 0, .int .u64 0, .int .u64 0, .int .u64 0, .int .u64 0, .int .u64 0, .int .u64 0, .int .u64 0, .int .u64 0, .int .u64 0, .int .u64 0, .int .i64 0, .int .u64 0] t3)))) := ((Below.refl _ _).alloc (by omega) _).alloc (by omega) _
  have k2 : Below (w.heap.size + 2) ((w.alloc (.cells (hartArr h) t1)).alloc (.cells i.cells t2)) (((((w.alloc (.cells (hartArr h) t1)).alloc (.cells i.cells t2)).alloc (.cells #[.int .u64 0, .int .u64 0, .int .u64 0, .int .u64 0, .int .u64 0, .int .u64 0, .int .u64 0, .int .u64 0, .int .u64 0, .int .u64 0, .int .u64 0, .int .u64 0, .int .u64 0, .int .u64 0, .int .u64 0, .int .u64 0, .int .u64 0, .int .u64 0, .int .u64 0, .int .u64 0, .int .u64 0, .int .u64 0, .int .u64 0, .int .u64 0, .int .u64 0, .int .u64 0, .int .u64 0, .int .u64 0, .int .u64 0, .int .u64 0, .int .u64 0, .int .u64 0, .int .u64 0, .int .i64 0, .int .u64 0] t3)))) := (Below.refl _ _).alloc (by omega) _
  refine ⟨fun j hj => ?_, fun j hj => ?_, fun j hj => ?_, ?_, (((Below.refl _ _).alloc (Nat.le_refl _) _).alloc (by omega) _).alloc (by omega) _, by simp⟩
  · rw [k1.cell (p := ⟨w.heap.size, j, none⟩) (by show w.heap.size < _; omega), World.cell?_alloc_new, hartArr_at h j hj]
  · rw [k1.frozen (p := ⟨w.heap.size, j, none⟩) (by show w.heap.size < _; omega)]; exact fresh_thaw _ _ _ _
  · rw [k2.cell (p := ⟨w.heap.size + 1, j, none⟩) (by show w.heap.size + 1 < _; omega), ← n1, World.cell?_alloc_new]
    rcases (show j = 0 ∨ j = 1 ∨ j = 2 ∨ j = 3 ∨ j = 4 ∨ j = 5 ∨ j = 6 ∨ j = 7 ∨ j = 8 by omega) with rfl | rfl | rfl | rfl | rfl | rfl | rfl | rfl | rfl <;> rfl
  · rw [← n2]; exact there_fresh _ _ _ 35 (by simp)
theorem RK.facts {w W : World} {h : HartV} {op rd r1 r2 imm : Int} {aq rl : Bool} {pred succ : Int} (hE : RK w h ⟨op, rd, r1, r2, imm, aq, rl, pred, succ⟩ W) :
    W.rangeAt w.heap.size 0 (hartL h) ∧ W.cell? ⟨w.heap.size + 1, 0, none⟩ = some (Value.int .i64 op) ∧ W.cell? ⟨w.heap.size + 1, 1, none⟩ = some (Value.int .i64 rd) ∧ W.cell? ⟨w.heap.size + 1, 2, none⟩ = some (Value.int .i64 r1) ∧ W.cell? ⟨w.heap.size + 1, 3, none⟩ = some (Value.int .i64 r2) ∧ W.cell? ⟨w.heap.size + 1, 4, none⟩ = some (Value.int .i64 imm) ∧ W.cell? ⟨w.heap.size + 1, 5, none⟩ = some (Value.bool aq) ∧ W.cell? ⟨w.heap.size + 1, 6, none⟩ = some (Value.bool rl) ∧ W.cell? ⟨w.heap.size + 1, 7, none⟩ = some (Value.int .i64 pred) ∧ W.cell? ⟨w.heap.size + 1, 8, none⟩ = some (Value.int .i64 succ) :=
  ⟨hE.h.range, hE.c 0 (by decide), hE.c 1 (by decide), hE.c 2 (by decide), hE.c 3 (by decide), hE.c 4 (by decide), hE.c 5 (by decide), hE.c 6 (by decide), hE.c 7 (by decide), hE.c 8 (by decide)⟩
/-- The zero hart. -/
def zeroH : HartV := ⟨0#64, fun _ => 0#64, 0, 0#64⟩
/-- fencepostref05.Step, where the hart goes on -/
def ransV (h : HartV) (i : InsnV) (found : BitVec 64) (won : Bool) : BitVec 64 :=
  if i.op = 69 then (if won = true then 0#64 else 1#64) else if (opOf i.op).loads = true then found else if i.op = 3 ∨ i.op = 4 then h.pc + 4#64
  else if i.op = 2 then h.pc + doF 1 0#64 (bv i.imm) else if doE i.op ≠ 0 then 0#64 else doF i.op (h.x i.rs1.toNat) (if rform i.op = 8 then h.x i.rs2.toNat else bv i.imm)
def rgoneV (h : HartV) (i : InsnV) (n : BitVec 64) (v : BitVec 64) : HartV := if i.rd = 0 then h.goes n else (h.goes n).set i.rd.toNat v
def rstepV (h : HartV) (i : InsnV) (found : BitVec 64) (won : Bool) : HartV :=
  if rendV h i = 0 then rgoneV h i (tgtV h i).1 (ransV h i found won) else endedV h (rendV h i)
attribute [local go_sem] wrap_u64_bv bv_un bv_sn bv_add bv_mul bv_neg bv_sub mul_bvpow shr_min shl_min sshr_min bv_lit bv_0 bv_1 un_shr sn_shr wrap_i64_un bits_u64_and bits_u64_or bits_u64_xor bits_u64_andNot bv_max u64_unsigned
section
attribute [local irreducible] un sn hartL
set_option maxRecDepth 100000 in
set_option maxHeartbeats 8000000 in
theorem RStep_no (h : HartV) (op rd r1 r2 imm : Int) (aq rl : Bool) (pred succ : Int) (found : BitVec 64) (won : Bool) (w : World) (e0 : Int) (he : mayE h ⟨op, rd, r1, r2, imm, aq, rl, pred, succ⟩ = e0) (hne : e0 ≠ 0) :
    Calls Tryz.prog 15 #[.agg (hartArr h), .agg #[.int .i64 op, .int .i64 rd, .int .i64 r1, .int .i64 r2, .int .i64 imm, .bool aq, .bool rl, .int .i64 pred, .int .i64 succ], .int .u64 (un found), .bool won] w fun e w' => e = .returned (.tuple #[.agg (hartArr zeroH), .int .i64 e0]) ∧ Below w.heap.size w w' := by
  have hE := RK.start w h ⟨op, rd, r1, r2, imm, aq, rl, pred, succ⟩ 25 27 25
  obtain ⟨rh, c0, c1, c2, c3, c4, c5, c6, c7, c8⟩ := hE.facts
  have hu := Tryz.underlying25
  have hM := Lib.hid (fun W => RMay_any h ⟨op, rd, r1, r2, imm, aq, rl, pred, succ⟩ W)
  rw [he] at hM
  have t0 : (e0 != 0) = true := by simpa using hne
  clear he hne
  have hz : Hid ((#[.int .u64 0, .int .u64 0, .int .u64 0, .int .u64 0, .int .u64 0, .int .u64 0, .int .u64 0, .int .u64 0, .int .u64 0, .int .u64 0, .int .u64 0, .int .u64 0, .int .u64 0, .int .u64 0, .int .u64 0, .int .u64 0, .int .u64 0, .int .u64 0, .int .u64 0, .int .u64 0, .int .u64 0, .int .u64 0, .int .u64 0, .int .u64 0, .int .u64 0, .int .u64 0, .int .u64 0, .int .u64 0, .int .u64 0, .int .u64 0, .int .u64 0, .int .u64 0, .int .u64 0, .int .i64 0, .int .u64 0] : Array Value) = (hartL zeroH).toArray) := Lib.hid (by kernel_rfl)
  go_enter Tryz.func15, Tryz.ntmps15
  go_wp2_with (first | (refine wpList_load_mid rfl 25 _ rfl w.heap.size 0 rfl (hartL h) _ rh hu rfl (size_hart _) ?_) | (go_at_call 28; refine (hM.out _).mono ?_; rintro e wk ⟨rfl, hbk⟩; have hE9 := hE.keep hbk; clear hbk hE rh c0 c1 c2 c3 c4 c5 c6 c7 c8; have hE := hE9; clear hE9; obtain ⟨rh, c0, c1, c2, c3, c4, c5, c6, c7, c8⟩ := hE.facts) | (refine wpList_store_mid rfl 25 _ _ rfl (w.heap.size + 2) 0 #[.int .u64 0, .int .u64 0, .int .u64 0, .int .u64 0, .int .u64 0, .int .u64 0, .int .u64 0, .int .u64 0, .int .u64 0, .int .u64 0, .int .u64 0, .int .u64 0, .int .u64 0, .int .u64 0, .int .u64 0, .int .u64 0, .int .u64 0, .int .u64 0, .int .u64 0, .int .u64 0, .int .u64 0, .int .u64 0, .int .u64 0, .int .u64 0, .int .u64 0, .int .u64 0, .int .u64 0, .int .u64 0, .int .u64 0, .int .u64 0, .int .u64 0, .int .u64 0, .int .u64 0, .int .i64 0, .int .u64 0] rfl rfl (by rw [hz.out]; exact there_hart hE.z _) (by rw [hz.out]; exact size_hartA _) (by rw [hz.out]; exact hartL_one _) ?_; rw [hz.out]))
  have hr := World.rangeAt_setCells_same wk (w.heap.size + 2) 0 (hartL zeroH) (by rw [hartL_len]; exact hE.z)
  have hbl : Below w.heap.size w (World.setCells wk (w.heap.size + 2) 0 (hartL zeroH)) := below_setCells (Nat.le_add_right _ _) (hartL zeroH) 0 wk hE.bl
  generalize World.setCells wk (w.heap.size + 2) 0 (hartL zeroH) = W5 at hr hbl ⊢
  have hlv := result_hart W5 (w.heap.size + 2) zeroH hr
  exact bodyPost_ret (v := .tuple #[.agg (hartL zeroH).toArray, .int .i64 e0]) (by simp [results, Tryz.results15, asAddr, hlv]) rfl ⟨rfl, hbl⟩
set_option maxRecDepth 100000 in
set_option maxHeartbeats 8000000 in
theorem RStep_end1 (h : HartV) (op : Int) (d r1 r2 : Nat) (imm : Int) (aq rl : Bool) (pred succ : Int) (found : BitVec 64) (won : Bool) (w : World) (hr1 : r1 < 32) (hr2 : r2 < 32) (hm : mayE h ⟨op, d, r1, r2, imm, aq, rl, pred, succ⟩ = 0) (k : Int) (he : rendV h ⟨op, d, r1, r2, imm, aq, rl, pred, succ⟩ = k) (hne : k ≠ 0) (h1 : k = 1) :
    Calls Tryz.prog 15 #[.agg (hartArr h), .agg #[.int .i64 op, .int .i64 d, .int .i64 r1, .int .i64 r2, .int .i64 imm, .bool aq, .bool rl, .int .i64 pred, .int .i64 succ], .int .u64 (un found), .bool won] w fun e w' => e = .returned (.tuple #[.agg (hartArr ((h.ends k).codes (h.x 10))), .int .i64 0]) ∧ Below w.heap.size w w' := by
  have hE := RK.start w h ⟨op, d, r1, r2, imm, aq, rl, pred, succ⟩ 25 27 25
  obtain ⟨rh, c0, c1, c2, c3, c4, c5, c6, c7, c8⟩ := hE.facts
  have hu := Tryz.underlying25
  have hM := Lib.hid (fun W => RMay_any h ⟨op, d, r1, r2, imm, aq, rl, pred, succ⟩ W)
  have hN := Lib.hid (fun W => REnd_any h op d r1 r2 imm aq rl pred succ W hr1 hr2)
  rw [hm] at hM
  rw [he] at hN
  have t0 : (k != 0) = true := by simpa using hne
  have t1 : (k == 1) = true := by rw [h1]; rfl
  clear hm he hne h1
  go_enter Tryz.func15, Tryz.ntmps15
  go_upto_region 6 with (first | (refine wpList_load_mid rfl 25 _ rfl w.heap.size 0 rfl (hartL h) _ rh hu rfl (size_hart _) ?_) | (go_at_call 28; refine (hM.out _).mono ?_; rintro e wk ⟨rfl, hbk⟩; have hE9 := hE.keep hbk; clear hbk hE rh c0 c1 c2 c3 c4 c5 c6 c7 c8; have hE := hE9; clear hE9; obtain ⟨rh, c0, c1, c2, c3, c4, c5, c6, c7, c8⟩ := hE.facts) | (go_at_call 29; refine (hN.out _).mono ?_; rintro e wk ⟨rfl, hbk⟩; have hE9 := hE.keep hbk; clear hbk hE rh c0 c1 c2 c3 c4 c5 c6 c7 c8; have hE := hE9; clear hE9; obtain ⟨rh, c0, c1, c2, c3, c4, c5, c6, c7, c8⟩ := hE.facts))
  have z33 : wk.frozen? ⟨w.heap.size, 33, none⟩ = false := hE.hf 33 (by decide)
  have y33 : wk.cell? ⟨w.heap.size, 33, none⟩ = some (.int .i64 h.fin) := hE.h 33 (by decide)
  go_upto_region 7 with fail
  have hE9 := hE.put 33 (.int .i64 k) (hE.h.ends k)
  clear hE rh c0 c1 c2 c3 c4 c5 c6 c7 c8 z33 y33
  have hE := hE9
  clear hE9
  generalize World.setCell _ _ _ = u1 at hE ⊢
  have y11 : u1.cell? ⟨w.heap.size, 11, none⟩ = some (.int .u64 (un (h.x 10))) := hE.h 11 (by decide)
  have z34 : u1.frozen? ⟨w.heap.size, 34, none⟩ = false := hE.hf 34 (by decide)
  have y34 : u1.cell? ⟨w.heap.size, 34, none⟩ = some (.int .u64 (un h.code)) := hE.h 34 (by decide)
  go_upto_region 9 with fail
  have hE9 := hE.put 34 (.int .u64 (un (h.x 10))) (hE.h.codes (h.x 10))
  clear hE y11 z34 y34
  have hE := hE9
  clear hE9
  generalize World.setCell _ _ _ = u2 at hE ⊢
  have rh := hE.h.range
  go_wp2_with (first | (refine wpList_load_mid rfl 25 _ rfl w.heap.size 0 rfl (hartL ((h.ends k).codes (h.x 10))) _ rh hu rfl (size_hart _) ?_) | (refine wpList_store_mid rfl 25 _ _ rfl (w.heap.size + 2) 0 (hartL ((h.ends k).codes (h.x 10))).toArray rfl rfl (there_hart hE.z _) (size_hartA _) (hartL_one _) ?_))
  have hr := World.rangeAt_setCells_same u2 (w.heap.size + 2) 0 (hartL ((h.ends k).codes (h.x 10))) (by rw [hartL_len]; exact hE.z)
  have hbl : Below w.heap.size w (World.setCells u2 (w.heap.size + 2) 0 (hartL ((h.ends k).codes (h.x 10)))) := below_setCells (Nat.le_add_right _ _) (hartL ((h.ends k).codes (h.x 10))) 0 u2 hE.bl
  generalize World.setCells u2 (w.heap.size + 2) 0 (hartL ((h.ends k).codes (h.x 10))) = W5 at hr hbl ⊢
  have hlv := result_hart W5 (w.heap.size + 2) ((h.ends k).codes (h.x 10)) hr
  exact bodyPost_ret (v := .tuple #[.agg (hartL ((h.ends k).codes (h.x 10))).toArray, .int .i64 0]) (by simp [results, Tryz.results15, asAddr, hlv]) rfl ⟨rfl, hbl⟩
set_option maxRecDepth 100000 in
set_option maxHeartbeats 8000000 in
theorem RStep_endn (h : HartV) (op : Int) (d r1 r2 : Nat) (imm : Int) (aq rl : Bool) (pred succ : Int) (found : BitVec 64) (won : Bool) (w : World) (hr1 : r1 < 32) (hr2 : r2 < 32) (hm : mayE h ⟨op, d, r1, r2, imm, aq, rl, pred, succ⟩ = 0) (k : Int) (he : rendV h ⟨op, d, r1, r2, imm, aq, rl, pred, succ⟩ = k) (hne : k ≠ 0) (h1 : k ≠ 1) :
    Calls Tryz.prog 15 #[.agg (hartArr h), .agg #[.int .i64 op, .int .i64 d, .int .i64 r1, .int .i64 r2, .int .i64 imm, .bool aq, .bool rl, .int .i64 pred, .int .i64 succ], .int .u64 (un found), .bool won] w fun e w' => e = .returned (.tuple #[.agg (hartArr (h.ends k)), .int .i64 0]) ∧ Below w.heap.size w w' := by
  have hE := RK.start w h ⟨op, d, r1, r2, imm, aq, rl, pred, succ⟩ 25 27 25
  obtain ⟨rh, c0, c1, c2, c3, c4, c5, c6, c7, c8⟩ := hE.facts
  have hu := Tryz.underlying25
  have hM := Lib.hid (fun W => RMay_any h ⟨op, d, r1, r2, imm, aq, rl, pred, succ⟩ W)
  have hN := Lib.hid (fun W => REnd_any h op d r1 r2 imm aq rl pred succ W hr1 hr2)
  rw [hm] at hM
  rw [he] at hN
  have t0 : (k != 0) = true := by simpa using hne
  have t1 : (k == 1) = false := by rw [beq_eq_false_iff_ne]; exact h1
  clear hm he hne h1
  go_enter Tryz.func15, Tryz.ntmps15
  go_upto_region 6 with (first | (refine wpList_load_mid rfl 25 _ rfl w.heap.size 0 rfl (hartL h) _ rh hu rfl (size_hart _) ?_) | (go_at_call 28; refine (hM.out _).mono ?_; rintro e wk ⟨rfl, hbk⟩; have hE9 := hE.keep hbk; clear hbk hE rh c0 c1 c2 c3 c4 c5 c6 c7 c8; have hE := hE9; clear hE9; obtain ⟨rh, c0, c1, c2, c3, c4, c5, c6, c7, c8⟩ := hE.facts) | (go_at_call 29; refine (hN.out _).mono ?_; rintro e wk ⟨rfl, hbk⟩; have hE9 := hE.keep hbk; clear hbk hE rh c0 c1 c2 c3 c4 c5 c6 c7 c8; have hE := hE9; clear hE9; obtain ⟨rh, c0, c1, c2, c3, c4, c5, c6, c7, c8⟩ := hE.facts))
  have z33 : wk.frozen? ⟨w.heap.size, 33, none⟩ = false := hE.hf 33 (by decide)
  have y33 : wk.cell? ⟨w.heap.size, 33, none⟩ = some (.int .i64 h.fin) := hE.h 33 (by decide)
  go_upto_region 7 with fail
  have hE9 := hE.put 33 (.int .i64 k) (hE.h.ends k)
  clear hE rh c0 c1 c2 c3 c4 c5 c6 c7 c8 z33 y33
  have hE := hE9
  clear hE9
  generalize World.setCell _ _ _ = u1 at hE ⊢
  have rh := hE.h.range
  go_wp2_with (first | (refine wpList_load_mid rfl 25 _ rfl w.heap.size 0 rfl (hartL (h.ends k)) _ rh hu rfl (size_hart _) ?_) | (refine wpList_store_mid rfl 25 _ _ rfl (w.heap.size + 2) 0 (hartL (h.ends k)).toArray rfl rfl (there_hart hE.z _) (size_hartA _) (hartL_one _) ?_))
  have hr := World.rangeAt_setCells_same u1 (w.heap.size + 2) 0 (hartL (h.ends k)) (by rw [hartL_len]; exact hE.z)
  have hbl : Below w.heap.size w (World.setCells u1 (w.heap.size + 2) 0 (hartL (h.ends k))) := below_setCells (Nat.le_add_right _ _) (hartL (h.ends k)) 0 u1 hE.bl
  generalize World.setCells u1 (w.heap.size + 2) 0 (hartL (h.ends k)) = W5 at hr hbl ⊢
  have hlv := result_hart W5 (w.heap.size + 2) (h.ends k) hr
  exact bodyPost_ret (v := .tuple #[.agg (hartL (h.ends k)).toArray, .int .i64 0]) (by simp [results, Tryz.results15, asAddr, hlv]) rfl ⟨rfl, hbl⟩
end
end Go.Proofs.YtbglinhglnbfmaaGreatDoor
