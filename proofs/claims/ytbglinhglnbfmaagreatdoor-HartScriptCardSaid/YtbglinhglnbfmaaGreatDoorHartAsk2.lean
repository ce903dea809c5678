/- The walk of a hart's ask, at what does not reach memory. The walk of a hart's ask, at a mark. Conditions: as each theorem says. -/
import Derived.Test.YtbglinhglnbfmaaGreatDoorHartWk
import Derived.RegionDies
set_option linter.unusedVariables false
namespace Go.Proofs.YtbglinhglnbfmaaGreatDoor
open Go.RowKit
attribute [local go_sem] wrap_u64_bv bv_un bv_sn bv_add bv_mul bv_neg bv_sub mul_bvpow shr_min shl_min sshr_min bv_lit bv_0 bv_1 un_shr sn_shr wrap_i64_un bits_u64_and bits_u64_or bits_u64_xor bits_u64_andNot bv_max u64_unsigned
section
attribute [local irreducible] un sn
set_option maxRecDepth 100000 in
set_option maxHeartbeats 8000000 in
theorem ask_9 (b : Nat) (h : HartV) (op rd : Int) (r1 r2 : Nat) (imm : Int) (aq rl : Bool) (pred succ : Int) (w : World) (hW : WK b h ⟨op, rd, r1, r2, imm, aq, rl, pred, succ⟩ w) (ht : Tabs w) (hop : op ≤ 9223372036854775807) (hr1 : r1 < 32) (hr2 : r2 < 32) (n : BitVec 64) (hn : nextR h ⟨op, rd, r1, r2, imm, aq, rl, pred, succ⟩ = some n) (hf : (opOf op).form = 9) :
    Calls Tryz.prog 24 #[.pointer (some ⟨b, 0, none⟩)] w fun e w' => e = .returned (.agg #[.int .i64 6, .int .u64 0, .int .u64 0, .int .i64 0, .bool false, .bool false, .int .i64 pred, .int .i64 succ]) ∧ Below w.heap.size w w' := by
  have hA0 := AK.start hW 42 27
  have hWz := hW.keep ((Below.refl w.heap.size w).alloc (Nat.le_refl _) (.cells #[.int .i64 0, .int .u64 0, .int .u64 0, .int .i64 0, .bool false, .bool false, .int .i64 0, .int .i64 0] 42))
  have i0 : _ = some (Value.int .i64 op) := hWz.i 0 (by decide)
  have i1 : _ = some (Value.int .i64 rd) := hWz.i 1 (by decide)
  have i2 : _ = some (Value.int .i64 r1) := hWz.i 2 (by decide)
  have i3 : _ = some (Value.int .i64 r2) := hWz.i 3 (by decide)
  have i4 : _ = some (Value.int .i64 imm) := hWz.i 4 (by decide)
  have i5 : _ = some (Value.bool aq) := hWz.i 5 (by decide)
  have i6 : _ = some (Value.bool rl) := hWz.i 6 (by decide)
  have i7 : _ = some (Value.int .i64 pred) := hWz.i 7 (by decide)
  have i8 : _ = some (Value.int .i64 succ) := hWz.i 8 (by decide)
  have hlt : 0 ≤ (r1 : Int) ∧ (r1 : Int) < 32 := by omega
  have hlt2 : 0 ≤ (r2 : Int) ∧ (r2 : Int) < 32 := by omega
  have hFm := Lib.hid (fun W (hW : Tabs W) => Form_any op hop W hW)
  have hNx : Hid (∀ W, AK w b h ⟨op, rd, r1, r2, imm, aq, rl, pred, succ⟩ W → Calls Tryz.prog 25 #[.pointer (some ⟨b, 0, none⟩)] W fun e w' => e = .returned (.int .u64 (un n)) ∧ Below W.heap.size W w') := Lib.hid fun W hA => by
    have := next_any b h op rd r1 r2 imm aq rl pred succ W hA.wk (ht.later hA.bl (Nat.le_refl _)) hop hr1 hr2
    rw [hn] at this; exact this
  rw [hf] at hFm
  clear hf
  clear hW hWz hop
  go_enter Tryz.func24, Tryz.ntmps24
  go_wp2_with (first | (go_at_call 25; refine (hNx.out _ hA0).mono ?_; rintro e w2 ⟨rfl, hb2⟩; have hA := hA0.keep hb2; have c0 : w2.cell? ⟨w.heap.size + 1, 0, none⟩ = some (.int .i64 op) := hA.c 0 (by decide)) | (go_at_call 38; refine (hFm.out _ (ht.later hA.bl (Nat.le_refl _))).mono ?_; rintro e w3 ⟨rfl, hb3⟩; have hA := hA.keep hb3; obtain ⟨x1, x2, x17, x10, c0, c1, c2, c3, c4, c5, c6, c7, c8, z0, z1, z2, z3, z4, z5, z6, z7, f0, f1, f2, f3, f4, f5, f6, f7⟩ := hA.facts hr1 hr2) | (go_at_call 39; refine (hAd.out _ hA).mono ?_; rintro e w4 ⟨rfl, hb4⟩; have hA := hA.keep hb4; obtain ⟨x1, x2, x17, x10, c0, c1, c2, c3, c4, c5, c6, c7, c8, z0, z1, z2, z3, z4, z5, z6, z7, f0, f1, f2, f3, f4, f5, f6, f7⟩ := hA.facts hr1 hr2))
  change bodyPost _ _ _ _ _ (World.setCells w3 w.heap.size 0 [.int .i64 6, .int .u64 0, .int .u64 0, .int .i64 0, .bool false, .bool false, .int .i64 pred, .int .i64 succ])
  have hr := World.cell?_setCells_in w.heap.size [.int .i64 6, .int .u64 0, .int .u64 0, .int .i64 0, .bool false, .bool false, .int .i64 pred, .int .i64 succ] 0 w3 (fun j hj => hA.some j hj)
  have hbl := below_setCells (Nat.le_refl w.heap.size) [.int .i64 6, .int .u64 0, .int .u64 0, .int .i64 0, .bool false, .bool false, .int .i64 pred, .int .i64 succ] 0 w3 hA.bl
  generalize World.setCells w3 w.heap.size 0 [.int .i64 6, .int .u64 0, .int .u64 0, .int .i64 0, .bool false, .bool false, .int .i64 pred, .int .i64 succ] = W8 at hr hbl ⊢
  have s0 : W8.cell? ⟨w.heap.size, 0, none⟩ = some (.int .i64 6) := hr 0 (by simp)
  have s1 : W8.cell? ⟨w.heap.size, 1, none⟩ = some (.int .u64 0) := hr 1 (by simp)
  have s2 : W8.cell? ⟨w.heap.size, 2, none⟩ = some (.int .u64 0) := hr 2 (by simp)
  have s3 : W8.cell? ⟨w.heap.size, 3, none⟩ = some (.int .i64 0) := hr 3 (by simp)
  have s4 : W8.cell? ⟨w.heap.size, 4, none⟩ = some (.bool false) := hr 4 (by simp)
  have s5 : W8.cell? ⟨w.heap.size, 5, none⟩ = some (.bool false) := hr 5 (by simp)
  have s6 : W8.cell? ⟨w.heap.size, 6, none⟩ = some (.int .i64 pred) := hr 6 (by simp)
  have s7 : W8.cell? ⟨w.heap.size, 7, none⟩ = some (.int .i64 succ) := hr 7 (by simp)
  exact bodyPost_ret (v := .agg #[.int .i64 6, .int .u64 0, .int .u64 0, .int .i64 0, .bool false, .bool false, .int .i64 pred, .int .i64 succ]) (by simp [results, Tryz.results24, go_sem, s0, s1, s2, s3, s4, s5, s6, s7]) rfl ⟨rfl, hbl⟩
set_option maxRecDepth 100000 in
set_option maxHeartbeats 8000000 in
theorem ask_10b (b : Nat) (h : HartV) (op rd : Int) (r1 r2 : Nat) (imm : Int) (aq rl : Bool) (pred succ : Int) (w : World) (hW : WK b h ⟨op, rd, r1, r2, imm, aq, rl, pred, succ⟩ w) (ht : Tabs w) (hop : op ≤ 9223372036854775807) (hr1 : r1 < 32) (hr2 : r2 < 32) (n : BitVec 64) (hn : nextR h ⟨op, rd, r1, r2, imm, aq, rl, pred, succ⟩ = some n) (hf : (opOf op).form = 10) (h65 : op = 65) :
    Calls Tryz.prog 24 #[.pointer (some ⟨b, 0, none⟩)] w fun e w' => e = .panicked (thrown 2) ∧ Below w.heap.size w w' := by
  have hA0 := AK.start hW 42 27
  have hWz := hW.keep ((Below.refl w.heap.size w).alloc (Nat.le_refl _) (.cells #[.int .i64 0, .int .u64 0, .int .u64 0, .int .i64 0, .bool false, .bool false, .int .i64 0, .int .i64 0] 42))
  have i0 : _ = some (Value.int .i64 op) := hWz.i 0 (by decide)
  have i1 : _ = some (Value.int .i64 rd) := hWz.i 1 (by decide)
  have i2 : _ = some (Value.int .i64 r1) := hWz.i 2 (by decide)
  have i3 : _ = some (Value.int .i64 r2) := hWz.i 3 (by decide)
  have i4 : _ = some (Value.int .i64 imm) := hWz.i 4 (by decide)
  have i5 : _ = some (Value.bool aq) := hWz.i 5 (by decide)
  have i6 : _ = some (Value.bool rl) := hWz.i 6 (by decide)
  have i7 : _ = some (Value.int .i64 pred) := hWz.i 7 (by decide)
  have i8 : _ = some (Value.int .i64 succ) := hWz.i 8 (by decide)
  have hlt : 0 ≤ (r1 : Int) ∧ (r1 : Int) < 32 := by omega
  have hlt2 : 0 ≤ (r2 : Int) ∧ (r2 : Int) < 32 := by omega
  have hFm := Lib.hid (fun W (hW : Tabs W) => Form_any op hop W hW)
  have hNx : Hid (∀ W, AK w b h ⟨op, rd, r1, r2, imm, aq, rl, pred, succ⟩ W → Calls Tryz.prog 25 #[.pointer (some ⟨b, 0, none⟩)] W fun e w' => e = .returned (.int .u64 (un n)) ∧ Below W.heap.size W w') := Lib.hid fun W hA => by
    have := next_any b h op rd r1 r2 imm aq rl pred succ W hA.wk (ht.later hA.bl (Nat.le_refl _)) hop hr1 hr2
    rw [hn] at this; exact this
  rw [hf] at hFm
  clear hf
  have t65 : (op == 65) = true := by rw [h65]; rfl
  clear h65
  clear hW hWz hop
  go_enter Tryz.func24, Tryz.ntmps24
  go_wp2_with (first | (go_at_call 25; refine (hNx.out _ hA0).mono ?_; rintro e w2 ⟨rfl, hb2⟩; have hA := hA0.keep hb2; have c0 : w2.cell? ⟨w.heap.size + 1, 0, none⟩ = some (.int .i64 op) := hA.c 0 (by decide)) | (go_at_call 38; refine (hFm.out _ (ht.later hA.bl (Nat.le_refl _))).mono ?_; rintro e w3 ⟨rfl, hb3⟩; have hA := hA.keep hb3; obtain ⟨x1, x2, x17, x10, c0, c1, c2, c3, c4, c5, c6, c7, c8, z0, z1, z2, z3, z4, z5, z6, z7, f0, f1, f2, f3, f4, f5, f6, f7⟩ := hA.facts hr1 hr2) | (go_at_call 39; refine (hAd.out _ hA).mono ?_; rintro e w4 ⟨rfl, hb4⟩; have hA := hA.keep hb4; obtain ⟨x1, x2, x17, x10, c0, c1, c2, c3, c4, c5, c6, c7, c8, z0, z1, z2, z3, z4, z5, z6, z7, f0, f1, f2, f3, f4, f5, f6, f7⟩ := hA.facts hr1 hr2))
  exact ⟨rfl, rfl, hA.bl⟩
set_option maxRecDepth 100000 in
set_option maxHeartbeats 8000000 in
theorem ask_10h (b : Nat) (h : HartV) (op rd : Int) (r1 r2 : Nat) (imm : Int) (aq rl : Bool) (pred succ : Int) (w : World) (hW : WK b h ⟨op, rd, r1, r2, imm, aq, rl, pred, succ⟩ w) (ht : Tabs w) (hop : op ≤ 9223372036854775807) (hr1 : r1 < 32) (hr2 : r2 < 32) (n : BitVec 64) (hn : nextR h ⟨op, rd, r1, r2, imm, aq, rl, pred, succ⟩ = some n) (hf : (opOf op).form = 10) (h65 : op ≠ 65) (h0 : un (h.x 17) = 0) :
    Calls Tryz.prog 24 #[.pointer (some ⟨b, 0, none⟩)] w fun e w' => e = .panicked (thrown 1) ∧ Below w.heap.size w w' := by
  have hA0 := AK.start hW 42 27
  have hWz := hW.keep ((Below.refl w.heap.size w).alloc (Nat.le_refl _) (.cells #[.int .i64 0, .int .u64 0, .int .u64 0, .int .i64 0, .bool false, .bool false, .int .i64 0, .int .i64 0] 42))
  have i0 : _ = some (Value.int .i64 op) := hWz.i 0 (by decide)
  have i1 : _ = some (Value.int .i64 rd) := hWz.i 1 (by decide)
  have i2 : _ = some (Value.int .i64 r1) := hWz.i 2 (by decide)
  have i3 : _ = some (Value.int .i64 r2) := hWz.i 3 (by decide)
  have i4 : _ = some (Value.int .i64 imm) := hWz.i 4 (by decide)
  have i5 : _ = some (Value.bool aq) := hWz.i 5 (by decide)
  have i6 : _ = some (Value.bool rl) := hWz.i 6 (by decide)
  have i7 : _ = some (Value.int .i64 pred) := hWz.i 7 (by decide)
  have i8 : _ = some (Value.int .i64 succ) := hWz.i 8 (by decide)
  have hlt : 0 ≤ (r1 : Int) ∧ (r1 : Int) < 32 := by omega
  have hlt2 : 0 ≤ (r2 : Int) ∧ (r2 : Int) < 32 := by omega
  have hFm := Lib.hid (fun W (hW : Tabs W) => Form_any op hop W hW)
  have hNx : Hid (∀ W, AK w b h ⟨op, rd, r1, r2, imm, aq, rl, pred, succ⟩ W → Calls Tryz.prog 25 #[.pointer (some ⟨b, 0, none⟩)] W fun e w' => e = .returned (.int .u64 (un n)) ∧ Below W.heap.size W w') := Lib.hid fun W hA => by
    have := next_any b h op rd r1 r2 imm aq rl pred succ W hA.wk (ht.later hA.bl (Nat.le_refl _)) hop hr1 hr2
    rw [hn] at this; exact this
  rw [hf] at hFm
  clear hf
  have t65 : (op == 65) = false := by rw [beq_eq_false_iff_ne]; exact h65
  clear h65
  have t0 : (un (h.x 17) == 0) = true := by rw [h0]; rfl
  clear h0
  clear hW hWz hop
  go_enter Tryz.func24, Tryz.ntmps24
  go_wp2_with (first | (go_at_call 25; refine (hNx.out _ hA0).mono ?_; rintro e w2 ⟨rfl, hb2⟩; have hA := hA0.keep hb2; have c0 : w2.cell? ⟨w.heap.size + 1, 0, none⟩ = some (.int .i64 op) := hA.c 0 (by decide)) | (go_at_call 38; refine (hFm.out _ (ht.later hA.bl (Nat.le_refl _))).mono ?_; rintro e w3 ⟨rfl, hb3⟩; have hA := hA.keep hb3; obtain ⟨x1, x2, x17, x10, c0, c1, c2, c3, c4, c5, c6, c7, c8, z0, z1, z2, z3, z4, z5, z6, z7, f0, f1, f2, f3, f4, f5, f6, f7⟩ := hA.facts hr1 hr2) | (go_at_call 39; refine (hAd.out _ hA).mono ?_; rintro e w4 ⟨rfl, hb4⟩; have hA := hA.keep hb4; obtain ⟨x1, x2, x17, x10, c0, c1, c2, c3, c4, c5, c6, c7, c8, z0, z1, z2, z3, z4, z5, z6, z7, f0, f1, f2, f3, f4, f5, f6, f7⟩ := hA.facts hr1 hr2))
  exact ⟨rfl, rfl, hA.bl⟩
set_option maxRecDepth 100000 in
set_option maxHeartbeats 8000000 in
theorem ask_10c (b : Nat) (h : HartV) (op rd : Int) (r1 r2 : Nat) (imm : Int) (aq rl : Bool) (pred succ : Int) (w : World) (hW : WK b h ⟨op, rd, r1, r2, imm, aq, rl, pred, succ⟩ w) (ht : Tabs w) (hop : op ≤ 9223372036854775807) (hr1 : r1 < 32) (hr2 : r2 < 32) (n : BitVec 64) (hn : nextR h ⟨op, rd, r1, r2, imm, aq, rl, pred, succ⟩ = some n) (hf : (opOf op).form = 10) (h65 : op ≠ 65) (h0 : un (h.x 17) ≠ 0) (h1 : un (h.x 17) ≠ 1) :
    Calls Tryz.prog 24 #[.pointer (some ⟨b, 0, none⟩)] w fun e w' => e = .panicked (thrown 3) ∧ Below w.heap.size w w' := by
  have hA0 := AK.start hW 42 27
  have hWz := hW.keep ((Below.refl w.heap.size w).alloc (Nat.le_refl _) (.cells #[.int .i64 0, .int .u64 0, .int .u64 0, .int .i64 0, .bool false, .bool false, .int .i64 0, .int .i64 0] 42))
  have i0 : _ = some (Value.int .i64 op) := hWz.i 0 (by decide)
  have i1 : _ = some (Value.int .i64 rd) := hWz.i 1 (by decide)
  have i2 : _ = some (Value.int .i64 r1) := hWz.i 2 (by decide)
  have i3 : _ = some (Value.int .i64 r2) := hWz.i 3 (by decide)
  have i4 : _ = some (Value.int .i64 imm) := hWz.i 4 (by decide)
  have i5 : _ = some (Value.bool aq) := hWz.i 5 (by decide)
  have i6 : _ = some (Value.bool rl) := hWz.i 6 (by decide)
  have i7 : _ = some (Value.int .i64 pred) := hWz.i 7 (by decide)
  have i8 : _ = some (Value.int .i64 succ) := hWz.i 8 (by decide)
  have hlt : 0 ≤ (r1 : Int) ∧ (r1 : Int) < 32 := by omega
  have hlt2 : 0 ≤ (r2 : Int) ∧ (r2 : Int) < 32 := by omega
  have hFm := Lib.hid (fun W (hW : Tabs W) => Form_any op hop W hW)
  have hNx : Hid (∀ W, AK w b h ⟨op, rd, r1, r2, imm, aq, rl, pred, succ⟩ W → Calls Tryz.prog 25 #[.pointer (some ⟨b, 0, none⟩)] W fun e w' => e = .returned (.int .u64 (un n)) ∧ Below W.heap.size W w') := Lib.hid fun W hA => by
    have := next_any b h op rd r1 r2 imm aq rl pred succ W hA.wk (ht.later hA.bl (Nat.le_refl _)) hop hr1 hr2
    rw [hn] at this; exact this
  rw [hf] at hFm
  clear hf
  have t65 : (op == 65) = false := by rw [beq_eq_false_iff_ne]; exact h65
  clear h65
  have t0 : (un (h.x 17) == 0) = false := by rw [beq_eq_false_iff_ne]; exact h0
  have t1 : (un (h.x 17) == 1) = false := by rw [beq_eq_false_iff_ne]; exact h1
  clear h0 h1
  clear hW hWz hop
  go_enter Tryz.func24, Tryz.ntmps24
  go_wp2_with (first | (go_at_call 25; refine (hNx.out _ hA0).mono ?_; rintro e w2 ⟨rfl, hb2⟩; have hA := hA0.keep hb2; have c0 : w2.cell? ⟨w.heap.size + 1, 0, none⟩ = some (.int .i64 op) := hA.c 0 (by decide)) | (go_at_call 38; refine (hFm.out _ (ht.later hA.bl (Nat.le_refl _))).mono ?_; rintro e w3 ⟨rfl, hb3⟩; have hA := hA.keep hb3; obtain ⟨x1, x2, x17, x10, c0, c1, c2, c3, c4, c5, c6, c7, c8, z0, z1, z2, z3, z4, z5, z6, z7, f0, f1, f2, f3, f4, f5, f6, f7⟩ := hA.facts hr1 hr2) | (go_at_call 39; refine (hAd.out _ hA).mono ?_; rintro e w4 ⟨rfl, hb4⟩; have hA := hA.keep hb4; obtain ⟨x1, x2, x17, x10, c0, c1, c2, c3, c4, c5, c6, c7, c8, z0, z1, z2, z3, z4, z5, z6, z7, f0, f1, f2, f3, f4, f5, f6, f7⟩ := hA.facts hr1 hr2))
  exact ⟨rfl, rfl, hA.bl⟩
set_option maxRecDepth 100000 in
set_option maxHeartbeats 8000000 in
theorem ask_10o (b : Nat) (h : HartV) (op rd : Int) (r1 r2 : Nat) (imm : Int) (aq rl : Bool) (pred succ : Int) (w : World) (hW : WK b h ⟨op, rd, r1, r2, imm, aq, rl, pred, succ⟩ w) (ht : Tabs w) (hop : op ≤ 9223372036854775807) (hr1 : r1 < 32) (hr2 : r2 < 32) (n : BitVec 64) (hn : nextR h ⟨op, rd, r1, r2, imm, aq, rl, pred, succ⟩ = some n) (hf : (opOf op).form = 10) (h65 : op ≠ 65) (h1 : un (h.x 17) = 1) :
    Calls Tryz.prog 24 #[.pointer (some ⟨b, 0, none⟩)] w fun e w' => e = .returned (.agg #[.int .i64 7, .int .u64 0, .int .u64 (un (h.x 10)), .int .i64 0, .bool false, .bool false, .int .i64 0, .int .i64 0]) ∧ Below w.heap.size w w' := by
  have hA0 := AK.start hW 42 27
  have hWz := hW.keep ((Below.refl w.heap.size w).alloc (Nat.le_refl _) (.cells #[.int .i64 0, .int .u64 0, .int .u64 0, .int .i64 0, .bool false, .bool false, .int .i64 0, .int .i64 0] 42))
  have i0 : _ = some (Value.int .i64 op) := hWz.i 0 (by decide)
  have i1 : _ = some (Value.int .i64 rd) := hWz.i 1 (by decide)
  have i2 : _ = some (Value.int .i64 r1) := hWz.i 2 (by decide)
  have i3 : _ = some (Value.int .i64 r2) := hWz.i 3 (by decide)
  have i4 : _ = some (Value.int .i64 imm) := hWz.i 4 (by decide)
  have i5 : _ = some (Value.bool aq) := hWz.i 5 (by decide)
  have i6 : _ = some (Value.bool rl) := hWz.i 6 (by decide)
  have i7 : _ = some (Value.int .i64 pred) := hWz.i 7 (by decide)
  have i8 : _ = some (Value.int .i64 succ) := hWz.i 8 (by decide)
  have hlt : 0 ≤ (r1 : Int) ∧ (r1 : Int) < 32 := by omega
  have hlt2 : 0 ≤ (r2 : Int) ∧ (r2 : Int) < 32 := by omega
  have hFm := Lib.hid (fun W (hW : Tabs W) => Form_any op hop W hW)
  have hNx : Hid (∀ W, AK w b h ⟨op, rd, r1, r2, imm, aq, rl, pred, succ⟩ W → Calls Tryz.prog 25 #[.pointer (some ⟨b, 0, none⟩)] W fun e w' => e = .returned (.int .u64 (un n)) ∧ Below W.heap.size W w') := Lib.hid fun W hA => by
    have := next_any b h op rd r1 r2 imm aq rl pred succ W hA.wk (ht.later hA.bl (Nat.le_refl _)) hop hr1 hr2
    rw [hn] at this; exact this
  rw [hf] at hFm
  clear hf
  have t65 : (op == 65) = false := by rw [beq_eq_false_iff_ne]; exact h65
  clear h65
  have t0 : (un (h.x 17) == 0) = false := by rw [h1]; rfl
  have t1 : (un (h.x 17) == 1) = true := by rw [h1]; rfl
  clear h1
  clear hW hWz hop
  go_enter Tryz.func24, Tryz.ntmps24
  go_wp2_with (first | (go_at_call 25; refine (hNx.out _ hA0).mono ?_; rintro e w2 ⟨rfl, hb2⟩; have hA := hA0.keep hb2; have c0 : w2.cell? ⟨w.heap.size + 1, 0, none⟩ = some (.int .i64 op) := hA.c 0 (by decide)) | (go_at_call 38; refine (hFm.out _ (ht.later hA.bl (Nat.le_refl _))).mono ?_; rintro e w3 ⟨rfl, hb3⟩; have hA := hA.keep hb3; obtain ⟨x1, x2, x17, x10, c0, c1, c2, c3, c4, c5, c6, c7, c8, z0, z1, z2, z3, z4, z5, z6, z7, f0, f1, f2, f3, f4, f5, f6, f7⟩ := hA.facts hr1 hr2) | (go_at_call 39; refine (hAd.out _ hA).mono ?_; rintro e w4 ⟨rfl, hb4⟩; have hA := hA.keep hb4; obtain ⟨x1, x2, x17, x10, c0, c1, c2, c3, c4, c5, c6, c7, c8, z0, z1, z2, z3, z4, z5, z6, z7, f0, f1, f2, f3, f4, f5, f6, f7⟩ := hA.facts hr1 hr2))
  change bodyPost _ _ _ _ _ (World.setCells w3 w.heap.size 0 [.int .i64 7, .int .u64 0, .int .u64 (un (h.x 10)), .int .i64 0, .bool false, .bool false, .int .i64 0, .int .i64 0])
  have hr := World.cell?_setCells_in w.heap.size [.int .i64 7, .int .u64 0, .int .u64 (un (h.x 10)), .int .i64 0, .bool false, .bool false, .int .i64 0, .int .i64 0] 0 w3 (fun j hj => hA.some j hj)
  have hbl := below_setCells (Nat.le_refl w.heap.size) [.int .i64 7, .int .u64 0, .int .u64 (un (h.x 10)), .int .i64 0, .bool false, .bool false, .int .i64 0, .int .i64 0] 0 w3 hA.bl
  generalize World.setCells w3 w.heap.size 0 [.int .i64 7, .int .u64 0, .int .u64 (un (h.x 10)), .int .i64 0, .bool false, .bool false, .int .i64 0, .int .i64 0] = W8 at hr hbl ⊢
  have s0 : W8.cell? ⟨w.heap.size, 0, none⟩ = some (.int .i64 7) := hr 0 (by simp)
  have s1 : W8.cell? ⟨w.heap.size, 1, none⟩ = some (.int .u64 0) := hr 1 (by simp)
  have s2 : W8.cell? ⟨w.heap.size, 2, none⟩ = some (.int .u64 (un (h.x 10))) := hr 2 (by simp)
  have s3 : W8.cell? ⟨w.heap.size, 3, none⟩ = some (.int .i64 0) := hr 3 (by simp)
  have s4 : W8.cell? ⟨w.heap.size, 4, none⟩ = some (.bool false) := hr 4 (by simp)
  have s5 : W8.cell? ⟨w.heap.size, 5, none⟩ = some (.bool false) := hr 5 (by simp)
  have s6 : W8.cell? ⟨w.heap.size, 6, none⟩ = some (.int .i64 0) := hr 6 (by simp)
  have s7 : W8.cell? ⟨w.heap.size, 7, none⟩ = some (.int .i64 0) := hr 7 (by simp)
  exact bodyPost_ret (v := .agg #[.int .i64 7, .int .u64 0, .int .u64 (un (h.x 10)), .int .i64 0, .bool false, .bool false, .int .i64 0, .int .i64 0]) (by simp [results, Tryz.results24, go_sem, s0, s1, s2, s3, s4, s5, s6, s7]) rfl ⟨rfl, hbl⟩
set_option maxRecDepth 100000 in
set_option maxHeartbeats 8000000 in
theorem ask_0a (b : Nat) (h : HartV) (op rd : Int) (r1 r2 : Nat) (imm : Int) (aq rl : Bool) (pred succ : Int) (w : World) (hW : WK b h ⟨op, rd, r1, r2, imm, aq, rl, pred, succ⟩ w) (ht : Tabs w) (hop : op ≤ 9223372036854775807) (hr1 : r1 < 32) (hr2 : r2 < 32) (n : BitVec 64) (hn : nextR h ⟨op, rd, r1, r2, imm, aq, rl, pred, succ⟩ = some n) (hf : (opOf op).form ≠ 4 ∧ (opOf op).form ≠ 5 ∧ (opOf op).form ≠ 9 ∧ (opOf op).form ≠ 10 ∧ (opOf op).form ≠ 11 ∧ (opOf op).form ≠ 12) (h22 : op ≠ 22) :
    Calls Tryz.prog 24 #[.pointer (some ⟨b, 0, none⟩)] w fun e w' => e = .returned (.agg #[.int .i64 0, .int .u64 0, .int .u64 0, .int .i64 0, .bool false, .bool false, .int .i64 0, .int .i64 0]) ∧ Below w.heap.size w w' := by
  have hA0 := AK.start hW 42 27
  have hWz := hW.keep ((Below.refl w.heap.size w).alloc (Nat.le_refl _) (.cells #[.int .i64 0, .int .u64 0, .int .u64 0, .int .i64 0, .bool false, .bool false, .int .i64 0, .int .i64 0] 42))
  have i0 : _ = some (Value.int .i64 op) := hWz.i 0 (by decide)
  have i1 : _ = some (Value.int .i64 rd) := hWz.i 1 (by decide)
  have i2 : _ = some (Value.int .i64 r1) := hWz.i 2 (by decide)
  have i3 : _ = some (Value.int .i64 r2) := hWz.i 3 (by decide)
  have i4 : _ = some (Value.int .i64 imm) := hWz.i 4 (by decide)
  have i5 : _ = some (Value.bool aq) := hWz.i 5 (by decide)
  have i6 : _ = some (Value.bool rl) := hWz.i 6 (by decide)
  have i7 : _ = some (Value.int .i64 pred) := hWz.i 7 (by decide)
  have i8 : _ = some (Value.int .i64 succ) := hWz.i 8 (by decide)
  have hlt : 0 ≤ (r1 : Int) ∧ (r1 : Int) < 32 := by omega
  have hlt2 : 0 ≤ (r2 : Int) ∧ (r2 : Int) < 32 := by omega
  have hFm := Lib.hid (fun W (hW : Tabs W) => Form_any op hop W hW)
  have hNx : Hid (∀ W, AK w b h ⟨op, rd, r1, r2, imm, aq, rl, pred, succ⟩ W → Calls Tryz.prog 25 #[.pointer (some ⟨b, 0, none⟩)] W fun e w' => e = .returned (.int .u64 (un n)) ∧ Below W.heap.size W w') := Lib.hid fun W hA => by
    have := next_any b h op rd r1 r2 imm aq rl pred succ W hA.wk (ht.later hA.bl (Nat.le_refl _)) hop hr1 hr2
    rw [hn] at this; exact this
  have tf4 : ((opOf op).form == 4) = false := by rw [beq_eq_false_iff_ne]; omega
  have tf5 : ((opOf op).form == 5) = false := by rw [beq_eq_false_iff_ne]; omega
  have tf9 : ((opOf op).form == 9) = false := by rw [beq_eq_false_iff_ne]; omega
  have tf10 : ((opOf op).form == 10) = false := by rw [beq_eq_false_iff_ne]; omega
  have tf11 : ((opOf op).form == 11) = false := by rw [beq_eq_false_iff_ne]; omega
  have tf12 : ((opOf op).form == 12) = false := by rw [beq_eq_false_iff_ne]; omega
  have t22 : (op == 22) = false := by rw [beq_eq_false_iff_ne]; exact h22
  clear hf h22
  clear hW hWz hop
  go_enter Tryz.func24, Tryz.ntmps24
  go_wp2_with (first | (go_at_call 25; refine (hNx.out _ hA0).mono ?_; rintro e w2 ⟨rfl, hb2⟩; have hA := hA0.keep hb2; have c0 : w2.cell? ⟨w.heap.size + 1, 0, none⟩ = some (.int .i64 op) := hA.c 0 (by decide)) | (go_at_call 38; refine (hFm.out _ (ht.later hA.bl (Nat.le_refl _))).mono ?_; rintro e w3 ⟨rfl, hb3⟩; have hA := hA.keep hb3; obtain ⟨x1, x2, x17, x10, c0, c1, c2, c3, c4, c5, c6, c7, c8, z0, z1, z2, z3, z4, z5, z6, z7, f0, f1, f2, f3, f4, f5, f6, f7⟩ := hA.facts hr1 hr2) | (go_at_call 39; refine (hAd.out _ hA).mono ?_; rintro e w4 ⟨rfl, hb4⟩; have hA := hA.keep hb4; obtain ⟨x1, x2, x17, x10, c0, c1, c2, c3, c4, c5, c6, c7, c8, z0, z1, z2, z3, z4, z5, z6, z7, f0, f1, f2, f3, f4, f5, f6, f7⟩ := hA.facts hr1 hr2))
  change bodyPost _ _ _ _ _ (World.setCells w3 w.heap.size 0 [.int .i64 0, .int .u64 0, .int .u64 0, .int .i64 0, .bool false, .bool false, .int .i64 0, .int .i64 0])
  have hr := World.cell?_setCells_in w.heap.size [.int .i64 0, .int .u64 0, .int .u64 0, .int .i64 0, .bool false, .bool false, .int .i64 0, .int .i64 0] 0 w3 (fun j hj => hA.some j hj)
  have hbl := below_setCells (Nat.le_refl w.heap.size) [.int .i64 0, .int .u64 0, .int .u64 0, .int .i64 0, .bool false, .bool false, .int .i64 0, .int .i64 0] 0 w3 hA.bl
  generalize World.setCells w3 w.heap.size 0 [.int .i64 0, .int .u64 0, .int .u64 0, .int .i64 0, .bool false, .bool false, .int .i64 0, .int .i64 0] = W8 at hr hbl ⊢
  have s0 : W8.cell? ⟨w.heap.size, 0, none⟩ = some (.int .i64 0) := hr 0 (by simp)
  have s1 : W8.cell? ⟨w.heap.size, 1, none⟩ = some (.int .u64 0) := hr 1 (by simp)
  have s2 : W8.cell? ⟨w.heap.size, 2, none⟩ = some (.int .u64 0) := hr 2 (by simp)
  have s3 : W8.cell? ⟨w.heap.size, 3, none⟩ = some (.int .i64 0) := hr 3 (by simp)
  have s4 : W8.cell? ⟨w.heap.size, 4, none⟩ = some (.bool false) := hr 4 (by simp)
  have s5 : W8.cell? ⟨w.heap.size, 5, none⟩ = some (.bool false) := hr 5 (by simp)
  have s6 : W8.cell? ⟨w.heap.size, 6, none⟩ = some (.int .i64 0) := hr 6 (by simp)
  have s7 : W8.cell? ⟨w.heap.size, 7, none⟩ = some (.int .i64 0) := hr 7 (by simp)
  exact bodyPost_ret (v := .agg #[.int .i64 0, .int .u64 0, .int .u64 0, .int .i64 0, .bool false, .bool false, .int .i64 0, .int .i64 0]) (by simp [results, Tryz.results24, go_sem, s0, s1, s2, s3, s4, s5, s6, s7]) rfl ⟨rfl, hbl⟩
set_option maxRecDepth 100000 in
set_option maxHeartbeats 8000000 in
theorem ask_0b (b : Nat) (h : HartV) (op rd : Int) (r1 r2 : Nat) (imm : Int) (aq rl : Bool) (pred succ : Int) (w : World) (hW : WK b h ⟨op, rd, r1, r2, imm, aq, rl, pred, succ⟩ w) (ht : Tabs w) (hop : op ≤ 9223372036854775807) (hr1 : r1 < 32) (hr2 : r2 < 32) (n : BitVec 64) (hn : nextR h ⟨op, rd, r1, r2, imm, aq, rl, pred, succ⟩ = some n) (hf : (opOf op).form ≠ 4 ∧ (opOf op).form ≠ 5 ∧ (opOf op).form ≠ 9 ∧ (opOf op).form ≠ 10 ∧ (opOf op).form ≠ 11 ∧ (opOf op).form ≠ 12) (h22 : op = 22) (hrd : rd ≠ 0) :
    Calls Tryz.prog 24 #[.pointer (some ⟨b, 0, none⟩)] w fun e w' => e = .returned (.agg #[.int .i64 0, .int .u64 0, .int .u64 0, .int .i64 0, .bool false, .bool false, .int .i64 0, .int .i64 0]) ∧ Below w.heap.size w w' := by
  have hA0 := AK.start hW 42 27
  have hWz := hW.keep ((Below.refl w.heap.size w).alloc (Nat.le_refl _) (.cells #[.int .i64 0, .int .u64 0, .int .u64 0, .int .i64 0, .bool false, .bool false, .int .i64 0, .int .i64 0] 42))
  have i0 : _ = some (Value.int .i64 op) := hWz.i 0 (by decide)
  have i1 : _ = some (Value.int .i64 rd) := hWz.i 1 (by decide)
  have i2 : _ = some (Value.int .i64 r1) := hWz.i 2 (by decide)
  have i3 : _ = some (Value.int .i64 r2) := hWz.i 3 (by decide)
  have i4 : _ = some (Value.int .i64 imm) := hWz.i 4 (by decide)
  have i5 : _ = some (Value.bool aq) := hWz.i 5 (by decide)
  have i6 : _ = some (Value.bool rl) := hWz.i 6 (by decide)
  have i7 : _ = some (Value.int .i64 pred) := hWz.i 7 (by decide)
  have i8 : _ = some (Value.int .i64 succ) := hWz.i 8 (by decide)
  have hlt : 0 ≤ (r1 : Int) ∧ (r1 : Int) < 32 := by omega
  have hlt2 : 0 ≤ (r2 : Int) ∧ (r2 : Int) < 32 := by omega
  have hFm := Lib.hid (fun W (hW : Tabs W) => Form_any op hop W hW)
  have hNx : Hid (∀ W, AK w b h ⟨op, rd, r1, r2, imm, aq, rl, pred, succ⟩ W → Calls Tryz.prog 25 #[.pointer (some ⟨b, 0, none⟩)] W fun e w' => e = .returned (.int .u64 (un n)) ∧ Below W.heap.size W w') := Lib.hid fun W hA => by
    have := next_any b h op rd r1 r2 imm aq rl pred succ W hA.wk (ht.later hA.bl (Nat.le_refl _)) hop hr1 hr2
    rw [hn] at this; exact this
  have tf4 : ((opOf op).form == 4) = false := by rw [beq_eq_false_iff_ne]; omega
  have tf5 : ((opOf op).form == 5) = false := by rw [beq_eq_false_iff_ne]; omega
  have tf9 : ((opOf op).form == 9) = false := by rw [beq_eq_false_iff_ne]; omega
  have tf10 : ((opOf op).form == 10) = false := by rw [beq_eq_false_iff_ne]; omega
  have tf11 : ((opOf op).form == 11) = false := by rw [beq_eq_false_iff_ne]; omega
  have tf12 : ((opOf op).form == 12) = false := by rw [beq_eq_false_iff_ne]; omega
  have t22 : (op == 22) = true := by rw [h22]; rfl
  have trd : (rd == 0) = false := by rw [beq_eq_false_iff_ne]; exact hrd
  clear hrd
  clear hf h22
  clear hW hWz hop
  go_enter Tryz.func24, Tryz.ntmps24
  go_wp2_with (first | (go_at_call 25; refine (hNx.out _ hA0).mono ?_; rintro e w2 ⟨rfl, hb2⟩; have hA := hA0.keep hb2; have c0 : w2.cell? ⟨w.heap.size + 1, 0, none⟩ = some (.int .i64 op) := hA.c 0 (by decide)) | (go_at_call 38; refine (hFm.out _ (ht.later hA.bl (Nat.le_refl _))).mono ?_; rintro e w3 ⟨rfl, hb3⟩; have hA := hA.keep hb3; obtain ⟨x1, x2, x17, x10, c0, c1, c2, c3, c4, c5, c6, c7, c8, z0, z1, z2, z3, z4, z5, z6, z7, f0, f1, f2, f3, f4, f5, f6, f7⟩ := hA.facts hr1 hr2) | (go_at_call 39; refine (hAd.out _ hA).mono ?_; rintro e w4 ⟨rfl, hb4⟩; have hA := hA.keep hb4; obtain ⟨x1, x2, x17, x10, c0, c1, c2, c3, c4, c5, c6, c7, c8, z0, z1, z2, z3, z4, z5, z6, z7, f0, f1, f2, f3, f4, f5, f6, f7⟩ := hA.facts hr1 hr2))
  change bodyPost _ _ _ _ _ (World.setCells w3 w.heap.size 0 [.int .i64 0, .int .u64 0, .int .u64 0, .int .i64 0, .bool false, .bool false, .int .i64 0, .int .i64 0])
  have hr := World.cell?_setCells_in w.heap.size [.int .i64 0, .int .u64 0, .int .u64 0, .int .i64 0, .bool false, .bool false, .int .i64 0, .int .i64 0] 0 w3 (fun j hj => hA.some j hj)
  have hbl := below_setCells (Nat.le_refl w.heap.size) [.int .i64 0, .int .u64 0, .int .u64 0, .int .i64 0, .bool false, .bool false, .int .i64 0, .int .i64 0] 0 w3 hA.bl
  generalize World.setCells w3 w.heap.size 0 [.int .i64 0, .int .u64 0, .int .u64 0, .int .i64 0, .bool false, .bool false, .int .i64 0, .int .i64 0] = W8 at hr hbl ⊢
  have s0 : W8.cell? ⟨w.heap.size, 0, none⟩ = some (.int .i64 0) := hr 0 (by simp)
  have s1 : W8.cell? ⟨w.heap.size, 1, none⟩ = some (.int .u64 0) := hr 1 (by simp)
  have s2 : W8.cell? ⟨w.heap.size, 2, none⟩ = some (.int .u64 0) := hr 2 (by simp)
  have s3 : W8.cell? ⟨w.heap.size, 3, none⟩ = some (.int .i64 0) := hr 3 (by simp)
  have s4 : W8.cell? ⟨w.heap.size, 4, none⟩ = some (.bool false) := hr 4 (by simp)
  have s5 : W8.cell? ⟨w.heap.size, 5, none⟩ = some (.bool false) := hr 5 (by simp)
  have s6 : W8.cell? ⟨w.heap.size, 6, none⟩ = some (.int .i64 0) := hr 6 (by simp)
  have s7 : W8.cell? ⟨w.heap.size, 7, none⟩ = some (.int .i64 0) := hr 7 (by simp)
  exact bodyPost_ret (v := .agg #[.int .i64 0, .int .u64 0, .int .u64 0, .int .i64 0, .bool false, .bool false, .int .i64 0, .int .i64 0]) (by simp [results, Tryz.results24, go_sem, s0, s1, s2, s3, s4, s5, s6, s7]) rfl ⟨rfl, hbl⟩
set_option maxRecDepth 100000 in
set_option maxHeartbeats 8000000 in
theorem ask_0c (b : Nat) (h : HartV) (op rd : Int) (r1 r2 : Nat) (imm : Int) (aq rl : Bool) (pred succ : Int) (w : World) (hW : WK b h ⟨op, rd, r1, r2, imm, aq, rl, pred, succ⟩ w) (ht : Tabs w) (hop : op ≤ 9223372036854775807) (hr1 : r1 < 32) (hr2 : r2 < 32) (n : BitVec 64) (hn : nextR h ⟨op, rd, r1, r2, imm, aq, rl, pred, succ⟩ = some n) (hf : (opOf op).form ≠ 4 ∧ (opOf op).form ≠ 5 ∧ (opOf op).form ≠ 9 ∧ (opOf op).form ≠ 10 ∧ (opOf op).form ≠ 11 ∧ (opOf op).form ≠ 12) (h22 : op = 22) (hrd : rd = 0) (him : ¬ 0 < imm) :
    Calls Tryz.prog 24 #[.pointer (some ⟨b, 0, none⟩)] w fun e w' => e = .returned (.agg #[.int .i64 0, .int .u64 0, .int .u64 0, .int .i64 0, .bool false, .bool false, .int .i64 0, .int .i64 0]) ∧ Below w.heap.size w w' := by
  have hA0 := AK.start hW 42 27
  have hWz := hW.keep ((Below.refl w.heap.size w).alloc (Nat.le_refl _) (.cells #[.int .i64 0, .int .u64 0, .int .u64 0, .int .i64 0, .bool false, .bool false, .int .i64 0, .int .i64 0] 42))
  have i0 : _ = some (Value.int .i64 op) := hWz.i 0 (by decide)
  have i1 : _ = some (Value.int .i64 rd) := hWz.i 1 (by decide)
  have i2 : _ = some (Value.int .i64 r1) := hWz.i 2 (by decide)
  have i3 : _ = some (Value.int .i64 r2) := hWz.i 3 (by decide)
  have i4 : _ = some (Value.int .i64 imm) := hWz.i 4 (by decide)
  have i5 : _ = some (Value.bool aq) := hWz.i 5 (by decide)
  have i6 : _ = some (Value.bool rl) := hWz.i 6 (by decide)
  have i7 : _ = some (Value.int .i64 pred) := hWz.i 7 (by decide)
  have i8 : _ = some (Value.int .i64 succ) := hWz.i 8 (by decide)
  have hlt : 0 ≤ (r1 : Int) ∧ (r1 : Int) < 32 := by omega
  have hlt2 : 0 ≤ (r2 : Int) ∧ (r2 : Int) < 32 := by omega
  have hFm := Lib.hid (fun W (hW : Tabs W) => Form_any op hop W hW)
  have hNx : Hid (∀ W, AK w b h ⟨op, rd, r1, r2, imm, aq, rl, pred, succ⟩ W → Calls Tryz.prog 25 #[.pointer (some ⟨b, 0, none⟩)] W fun e w' => e = .returned (.int .u64 (un n)) ∧ Below W.heap.size W w') := Lib.hid fun W hA => by
    have := next_any b h op rd r1 r2 imm aq rl pred succ W hA.wk (ht.later hA.bl (Nat.le_refl _)) hop hr1 hr2
    rw [hn] at this; exact this
  have tf4 : ((opOf op).form == 4) = false := by rw [beq_eq_false_iff_ne]; omega
  have tf5 : ((opOf op).form == 5) = false := by rw [beq_eq_false_iff_ne]; omega
  have tf9 : ((opOf op).form == 9) = false := by rw [beq_eq_false_iff_ne]; omega
  have tf10 : ((opOf op).form == 10) = false := by rw [beq_eq_false_iff_ne]; omega
  have tf11 : ((opOf op).form == 11) = false := by rw [beq_eq_false_iff_ne]; omega
  have tf12 : ((opOf op).form == 12) = false := by rw [beq_eq_false_iff_ne]; omega
  have t22 : (op == 22) = true := by rw [h22]; rfl
  have trd : (rd == 0) = true := by rw [hrd]; rfl
  clear hrd
  clear hf h22
  clear hW hWz hop
  go_enter Tryz.func24, Tryz.ntmps24
  go_wp2_with (first | (go_at_call 25; refine (hNx.out _ hA0).mono ?_; rintro e w2 ⟨rfl, hb2⟩; have hA := hA0.keep hb2; have c0 : w2.cell? ⟨w.heap.size + 1, 0, none⟩ = some (.int .i64 op) := hA.c 0 (by decide)) | (go_at_call 38; refine (hFm.out _ (ht.later hA.bl (Nat.le_refl _))).mono ?_; rintro e w3 ⟨rfl, hb3⟩; have hA := hA.keep hb3; obtain ⟨x1, x2, x17, x10, c0, c1, c2, c3, c4, c5, c6, c7, c8, z0, z1, z2, z3, z4, z5, z6, z7, f0, f1, f2, f3, f4, f5, f6, f7⟩ := hA.facts hr1 hr2) | (go_at_call 39; refine (hAd.out _ hA).mono ?_; rintro e w4 ⟨rfl, hb4⟩; have hA := hA.keep hb4; obtain ⟨x1, x2, x17, x10, c0, c1, c2, c3, c4, c5, c6, c7, c8, z0, z1, z2, z3, z4, z5, z6, z7, f0, f1, f2, f3, f4, f5, f6, f7⟩ := hA.facts hr1 hr2))
  change bodyPost _ _ _ _ _ (World.setCells w3 w.heap.size 0 [.int .i64 0, .int .u64 0, .int .u64 0, .int .i64 0, .bool false, .bool false, .int .i64 0, .int .i64 0])
  have hr := World.cell?_setCells_in w.heap.size [.int .i64 0, .int .u64 0, .int .u64 0, .int .i64 0, .bool false, .bool false, .int .i64 0, .int .i64 0] 0 w3 (fun j hj => hA.some j hj)
  have hbl := below_setCells (Nat.le_refl w.heap.size) [.int .i64 0, .int .u64 0, .int .u64 0, .int .i64 0, .bool false, .bool false, .int .i64 0, .int .i64 0] 0 w3 hA.bl
  generalize World.setCells w3 w.heap.size 0 [.int .i64 0, .int .u64 0, .int .u64 0, .int .i64 0, .bool false, .bool false, .int .i64 0, .int .i64 0] = W8 at hr hbl ⊢
  have s0 : W8.cell? ⟨w.heap.size, 0, none⟩ = some (.int .i64 0) := hr 0 (by simp)
  have s1 : W8.cell? ⟨w.heap.size, 1, none⟩ = some (.int .u64 0) := hr 1 (by simp)
  have s2 : W8.cell? ⟨w.heap.size, 2, none⟩ = some (.int .u64 0) := hr 2 (by simp)
  have s3 : W8.cell? ⟨w.heap.size, 3, none⟩ = some (.int .i64 0) := hr 3 (by simp)
  have s4 : W8.cell? ⟨w.heap.size, 4, none⟩ = some (.bool false) := hr 4 (by simp)
  have s5 : W8.cell? ⟨w.heap.size, 5, none⟩ = some (.bool false) := hr 5 (by simp)
  have s6 : W8.cell? ⟨w.heap.size, 6, none⟩ = some (.int .i64 0) := hr 6 (by simp)
  have s7 : W8.cell? ⟨w.heap.size, 7, none⟩ = some (.int .i64 0) := hr 7 (by simp)
  exact bodyPost_ret (v := .agg #[.int .i64 0, .int .u64 0, .int .u64 0, .int .i64 0, .bool false, .bool false, .int .i64 0, .int .i64 0]) (by simp [results, Tryz.results24, go_sem, s0, s1, s2, s3, s4, s5, s6, s7]) rfl ⟨rfl, hbl⟩
end
end Go.Proofs.YtbglinhglnbfmaaGreatDoor
namespace Go.Proofs.YtbglinhglnbfmaaGreatDoor
open Go.RowKit
attribute [local go_sem] wrap_u64_bv bv_un bv_sn bv_add bv_mul bv_neg bv_sub mul_bvpow shr_min shl_min sshr_min bv_lit bv_0 bv_1 un_shr sn_shr wrap_i64_un bits_u64_and bits_u64_or bits_u64_xor bits_u64_andNot bv_max u64_unsigned
section
attribute [local irreducible] un sn
set_option maxRecDepth 100000 in
set_option maxHeartbeats 8000000 in
theorem ask_0m (b : Nat) (h : HartV) (op rd : Int) (r1 r2 : Nat) (imm : Int) (aq rl : Bool) (pred succ : Int) (w : World) (hW : WK b h ⟨op, rd, r1, r2, imm, aq, rl, pred, succ⟩ w) (ht : Tabs w) (hop : op ≤ 9223372036854775807) (hr1 : r1 < 32) (hr2 : r2 < 32) (n : BitVec 64) (hn : nextR h ⟨op, rd, r1, r2, imm, aq, rl, pred, succ⟩ = some n) (hf : (opOf op).form ≠ 4 ∧ (opOf op).form ≠ 5 ∧ (opOf op).form ≠ 9 ∧ (opOf op).form ≠ 10 ∧ (opOf op).form ≠ 11 ∧ (opOf op).form ≠ 12) (h22 : op = 22) (hrd : rd = 0) (him : 0 < imm) :
    Calls Tryz.prog 24 #[.pointer (some ⟨b, 0, none⟩)] w fun e w' => e = .returned (.agg #[.int .i64 8, .int .u64 0, .int .u64 (un (h.x r1)), .int .i64 imm, .bool false, .bool false, .int .i64 0, .int .i64 0]) ∧ Below w.heap.size w w' := by
  have hA0 := AK.start hW 42 27
  have hWz := hW.keep ((Below.refl w.heap.size w).alloc (Nat.le_refl _) (.cells #[.int .i64 0, .int .u64 0, .int .u64 0, .int .i64 0, .bool false, .bool false, .int .i64 0, .int .i64 0] 42))
  have i0 : _ = some (Value.int .i64 op) := hWz.i 0 (by decide)
  have i1 : _ = some (Value.int .i64 rd) := hWz.i 1 (by decide)
  have i2 : _ = some (Value.int .i64 r1) := hWz.i 2 (by decide)
  have i3 : _ = some (Value.int .i64 r2) := hWz.i 3 (by decide)
  have i4 : _ = some (Value.int .i64 imm) := hWz.i 4 (by decide)
  have i5 : _ = some (Value.bool aq) := hWz.i 5 (by decide)
  have i6 : _ = some (Value.bool rl) := hWz.i 6 (by decide)
  have i7 : _ = some (Value.int .i64 pred) := hWz.i 7 (by decide)
  have i8 : _ = some (Value.int .i64 succ) := hWz.i 8 (by decide)
  have hlt : 0 ≤ (r1 : Int) ∧ (r1 : Int) < 32 := by omega
  have hlt2 : 0 ≤ (r2 : Int) ∧ (r2 : Int) < 32 := by omega
  have hFm := Lib.hid (fun W (hW : Tabs W) => Form_any op hop W hW)
  have hNx : Hid (∀ W, AK w b h ⟨op, rd, r1, r2, imm, aq, rl, pred, succ⟩ W → Calls Tryz.prog 25 #[.pointer (some ⟨b, 0, none⟩)] W fun e w' => e = .returned (.int .u64 (un n)) ∧ Below W.heap.size W w') := Lib.hid fun W hA => by
    have := next_any b h op rd r1 r2 imm aq rl pred succ W hA.wk (ht.later hA.bl (Nat.le_refl _)) hop hr1 hr2
    rw [hn] at this; exact this
  have tf4 : ((opOf op).form == 4) = false := by rw [beq_eq_false_iff_ne]; omega
  have tf5 : ((opOf op).form == 5) = false := by rw [beq_eq_false_iff_ne]; omega
  have tf9 : ((opOf op).form == 9) = false := by rw [beq_eq_false_iff_ne]; omega
  have tf10 : ((opOf op).form == 10) = false := by rw [beq_eq_false_iff_ne]; omega
  have tf11 : ((opOf op).form == 11) = false := by rw [beq_eq_false_iff_ne]; omega
  have tf12 : ((opOf op).form == 12) = false := by rw [beq_eq_false_iff_ne]; omega
  have t22 : (op == 22) = true := by rw [h22]; rfl
  have trd : (rd == 0) = true := by rw [hrd]; rfl
  clear hrd hf h22
  clear hW hWz hop
  go_enter Tryz.func24, Tryz.ntmps24
  go_wp2_with (first | (go_at_call 25; refine (hNx.out _ hA0).mono ?_; rintro e w2 ⟨rfl, hb2⟩; have hA := hA0.keep hb2; have c0 : w2.cell? ⟨w.heap.size + 1, 0, none⟩ = some (.int .i64 op) := hA.c 0 (by decide)) | (go_at_call 38; refine (hFm.out _ (ht.later hA.bl (Nat.le_refl _))).mono ?_; rintro e w3 ⟨rfl, hb3⟩; have hA := hA.keep hb3; obtain ⟨x1, x2, x17, x10, c0, c1, c2, c3, c4, c5, c6, c7, c8, z0, z1, z2, z3, z4, z5, z6, z7, f0, f1, f2, f3, f4, f5, f6, f7⟩ := hA.facts hr1 hr2) | (go_at_call 39; refine (hAd.out _ hA).mono ?_; rintro e w4 ⟨rfl, hb4⟩; have hA := hA.keep hb4; obtain ⟨x1, x2, x17, x10, c0, c1, c2, c3, c4, c5, c6, c7, c8, z0, z1, z2, z3, z4, z5, z6, z7, f0, f1, f2, f3, f4, f5, f6, f7⟩ := hA.facts hr1 hr2))
  go_region
  all_goals
    go_wp2
    change bodyPost _ _ _ _ _ (World.setCells w3 w.heap.size 0 [.int .i64 8, .int .u64 0, .int .u64 (un (h.x r1)), .int .i64 imm, .bool false, .bool false, .int .i64 0, .int .i64 0]).drew
    have hr := World.cell?_setCells_in w.heap.size [.int .i64 8, .int .u64 0, .int .u64 (un (h.x r1)), .int .i64 imm, .bool false, .bool false, .int .i64 0, .int .i64 0] 0 w3 (fun j hj => hA.some j hj)
    have hbl := below_setCells (Nat.le_refl w.heap.size) [.int .i64 8, .int .u64 0, .int .u64 (un (h.x r1)), .int .i64 imm, .bool false, .bool false, .int .i64 0, .int .i64 0] 0 w3 hA.bl
    generalize World.setCells w3 w.heap.size 0 [.int .i64 8, .int .u64 0, .int .u64 (un (h.x r1)), .int .i64 imm, .bool false, .bool false, .int .i64 0, .int .i64 0] = W8 at hr hbl ⊢
    have s0 : W8.cell? ⟨w.heap.size, 0, none⟩ = some (.int .i64 8) := hr 0 (by simp)
    have s1 : W8.cell? ⟨w.heap.size, 1, none⟩ = some (.int .u64 0) := hr 1 (by simp)
    have s2 : W8.cell? ⟨w.heap.size, 2, none⟩ = some (.int .u64 (un (h.x r1))) := hr 2 (by simp)
    have s3 : W8.cell? ⟨w.heap.size, 3, none⟩ = some (.int .i64 imm) := hr 3 (by simp)
    have s4 : W8.cell? ⟨w.heap.size, 4, none⟩ = some (.bool false) := hr 4 (by simp)
    have s5 : W8.cell? ⟨w.heap.size, 5, none⟩ = some (.bool false) := hr 5 (by simp)
    have s6 : W8.cell? ⟨w.heap.size, 6, none⟩ = some (.int .i64 0) := hr 6 (by simp)
    have s7 : W8.cell? ⟨w.heap.size, 7, none⟩ = some (.int .i64 0) := hr 7 (by simp)
    exact bodyPost_ret (v := .agg #[.int .i64 8, .int .u64 0, .int .u64 (un (h.x r1)), .int .i64 imm, .bool false, .bool false, .int .i64 0, .int .i64 0]) (by simp [results, Tryz.results24, go_sem, s0, s1, s2, s3, s4, s5, s6, s7]) rfl ⟨rfl, hbl.drew⟩
end
end Go.Proofs.YtbglinhglnbfmaaGreatDoor
