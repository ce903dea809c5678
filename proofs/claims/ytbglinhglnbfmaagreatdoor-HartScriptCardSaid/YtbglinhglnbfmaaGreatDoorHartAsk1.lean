/- The walk of a hart's ask, thrown off, and at a load. The walk of a hart's ask, at a store. The walk of a hart's ask, at a load that reserves. Conditions: as each theorem says. -/
import Derived.Test.YtbglinhglnbfmaaGreatDoorHartWk
import Derived.RegionDies
set_option linter.unusedVariables false
namespace Go.Proofs.YtbglinhglnbfmaaGreatDoor
open Go.RowKit
attribute [local go_sem] wrap_u64_bv bv_un bv_sn bv_add bv_mul bv_neg bv_sub mul_bvpow shr_min shl_min sshr_min bv_lit bv_0 bv_1 un_shr sn_shr wrap_i64_un bits_u64_and bits_u64_or bits_u64_xor bits_u64_andNot bv_max u64_unsigned
section
attribute [local irreducible] un sn
set_option maxRecDepth 100000 in
set_option maxHeartbeats 8000000 in
theorem ask_next (b : Nat) (h : HartV) (op rd : Int) (r1 r2 : Nat) (imm : Int) (aq rl : Bool) (pred succ : Int) (w : World) (hW : WK b h ⟨op, rd, r1, r2, imm, aq, rl, pred, succ⟩ w) (ht : Tabs w) (hop : op ≤ 9223372036854775807) (hr1 : r1 < 32) (hr2 : r2 < 32) (hn : nextR h ⟨op, rd, r1, r2, imm, aq, rl, pred, succ⟩ = none) :
    Calls Tryz.prog 24 #[.pointer (some ⟨b, 0, none⟩)] w fun e w' => e = .panicked (thrown 6) ∧ Below w.heap.size w w' := by
  have hA0 := AK.start hW 42 27
  have hWz := hW.keep ((Below.refl w.heap.size w).alloc (Nat.le_refl _) (.cells #[.int .i64 0, .int .u64 0, .int .u64 0, .int .i64 0, .bool false, .bool false, .int .i64 0, .int .i64 0] 42))
  have i0 : _ = some (Value.int .i64 op) := hWz.i 0 (by decide)
  have i1 : _ = some (Value.int .i64 rd) := hWz.i 1 (by decide)
  have i2 : _ = some (Value.int .i64 r1) := hWz.i 2 (by decide)
  have i3 : _ = some (Value.int .i64 r2) := hWz.i 3 (by decide)
  have i4 : _ = some (Value.int .i64 imm) := hWz.i 4 (by decide)
  have i5 : _ = some (Value.bool aq) := hWz.i 5 (by decide)
  have i6 : _ = some (Value.bool rl) := hWz.i 6 (by decide)
  have i7 : _ = some (Value.int .i64 pred) := hWz.i 7 (by decide)
  have i8 : _ = some (Value.int .i64 succ) := hWz.i 8 (by decide)
  have hlt : 0 ≤ (r1 : Int) ∧ (r1 : Int) < 32 := by omega
  have hlt2 : 0 ≤ (r2 : Int) ∧ (r2 : Int) < 32 := by omega
  have hFm := Lib.hid (fun W (hW : Tabs W) => Form_any op hop W hW)
  have hNx : Hid (∀ W, AK w b h ⟨op, rd, r1, r2, imm, aq, rl, pred, succ⟩ W → Calls Tryz.prog 25 #[.pointer (some ⟨b, 0, none⟩)] W fun e w' => e = .panicked (thrown 6) ∧ Below W.heap.size W w') := Lib.hid fun W hA => by
    have := next_any b h op rd r1 r2 imm aq rl pred succ W hA.wk (ht.later hA.bl (Nat.le_refl _)) hop hr1 hr2
    rw [hn] at this; exact this
  clear hW hWz hop
  go_enter Tryz.func24, Tryz.ntmps24
  go_wp2_with (first | (go_at_call 25; refine (hNx.out _ hA0).mono ?_; rintro e w2 ⟨rfl, hb2⟩; have hA := hA0.keep hb2; have c0 : w2.cell? ⟨w.heap.size + 1, 0, none⟩ = some (.int .i64 op) := hA.c 0 (by decide)) | (go_at_call 38; refine (hFm.out _ (ht.later hA.bl (Nat.le_refl _))).mono ?_; rintro e w3 ⟨rfl, hb3⟩; have hA := hA.keep hb3; obtain ⟨x1, x2, x17, x10, c0, c1, c2, c3, c4, c5, c6, c7, c8, z0, z1, z2, z3, z4, z5, z6, z7, f0, f1, f2, f3, f4, f5, f6, f7⟩ := hA.facts hr1 hr2) | (go_at_call 39; refine (hAd.out _ hA).mono ?_; rintro e w4 ⟨rfl, hb4⟩; have hA := hA.keep hb4; obtain ⟨x1, x2, x17, x10, c0, c1, c2, c3, c4, c5, c6, c7, c8, z0, z1, z2, z3, z4, z5, z6, z7, f0, f1, f2, f3, f4, f5, f6, f7⟩ := hA.facts hr1 hr2))
  exact ⟨rfl, rfl, hA.bl⟩
set_option maxRecDepth 100000 in
set_option maxHeartbeats 8000000 in
theorem ask_4 (b : Nat) (h : HartV) (op rd : Int) (r1 r2 : Nat) (imm : Int) (aq rl : Bool) (pred succ : Int) (w : World) (hW : WK b h ⟨op, rd, r1, r2, imm, aq, rl, pred, succ⟩ w) (ht : Tabs w) (hop : op ≤ 9223372036854775807) (hr1 : r1 < 32) (hr2 : r2 < 32) (n : BitVec 64) (hn : nextR h ⟨op, rd, r1, r2, imm, aq, rl, pred, succ⟩ = some n) (hf : (opOf op).form = 4) (ha : addrE h ⟨op, rd, r1, r2, imm, aq, rl, pred, succ⟩ = 0) :
    Calls Tryz.prog 24 #[.pointer (some ⟨b, 0, none⟩)] w fun e w' => e = .returned (.agg #[.int .i64 1, .int .u64 (un (h.x r1 + bv imm)), .int .u64 0, .int .i64 0, .bool false, .bool false, .int .i64 0, .int .i64 0]) ∧ Below w.heap.size w w' := by
  have hA0 := AK.start hW 42 27
  have hWz := hW.keep ((Below.refl w.heap.size w).alloc (Nat.le_refl _) (.cells #[.int .i64 0, .int .u64 0, .int .u64 0, .int .i64 0, .bool false, .bool false, .int .i64 0, .int .i64 0] 42))
  have i0 : _ = some (Value.int .i64 op) := hWz.i 0 (by decide)
  have i1 : _ = some (Value.int .i64 rd) := hWz.i 1 (by decide)
  have i2 : _ = some (Value.int .i64 r1) := hWz.i 2 (by decide)
  have i3 : _ = some (Value.int .i64 r2) := hWz.i 3 (by decide)
  have i4 : _ = some (Value.int .i64 imm) := hWz.i 4 (by decide)
  have i5 : _ = some (Value.bool aq) := hWz.i 5 (by decide)
  have i6 : _ = some (Value.bool rl) := hWz.i 6 (by decide)
  have i7 : _ = some (Value.int .i64 pred) := hWz.i 7 (by decide)
  have i8 : _ = some (Value.int .i64 succ) := hWz.i 8 (by decide)
  have hlt : 0 ≤ (r1 : Int) ∧ (r1 : Int) < 32 := by omega
  have hlt2 : 0 ≤ (r2 : Int) ∧ (r2 : Int) < 32 := by omega
  have hFm := Lib.hid (fun W (hW : Tabs W) => Form_any op hop W hW)
  have hNx : Hid (∀ W, AK w b h ⟨op, rd, r1, r2, imm, aq, rl, pred, succ⟩ W → Calls Tryz.prog 25 #[.pointer (some ⟨b, 0, none⟩)] W fun e w' => e = .returned (.int .u64 (un n)) ∧ Below W.heap.size W w') := Lib.hid fun W hA => by
    have := next_any b h op rd r1 r2 imm aq rl pred succ W hA.wk (ht.later hA.bl (Nat.le_refl _)) hop hr1 hr2
    rw [hn] at this; exact this
  have hAd : Hid (∀ W, AK w b h ⟨op, rd, r1, r2, imm, aq, rl, pred, succ⟩ W → Calls Tryz.prog 39 #[.pointer (some ⟨b, 0, none⟩)] W fun e w' => e = .returned (.int .u64 (un (h.x r1 + bv imm))) ∧ Below W.heap.size W w') := Lib.hid fun W hA => by
    have := address_any b h op rd r1 r2 imm aq rl pred succ W hA.wk (ht.later hA.bl (Nat.le_refl _)) hop hr1
    rw [ha] at this; exact this
  rw [hf] at hFm
  clear hf
  clear hW hWz hop
  go_enter Tryz.func24, Tryz.ntmps24
  go_wp2_with (first | (go_at_call 25; refine (hNx.out _ hA0).mono ?_; rintro e w2 ⟨rfl, hb2⟩; have hA := hA0.keep hb2; have c0 : w2.cell? ⟨w.heap.size + 1, 0, none⟩ = some (.int .i64 op) := hA.c 0 (by decide)) | (go_at_call 38; refine (hFm.out _ (ht.later hA.bl (Nat.le_refl _))).mono ?_; rintro e w3 ⟨rfl, hb3⟩; have hA := hA.keep hb3; obtain ⟨x1, x2, x17, x10, c0, c1, c2, c3, c4, c5, c6, c7, c8, z0, z1, z2, z3, z4, z5, z6, z7, f0, f1, f2, f3, f4, f5, f6, f7⟩ := hA.facts hr1 hr2) | (go_at_call 39; refine (hAd.out _ hA).mono ?_; rintro e w4 ⟨rfl, hb4⟩; have hA := hA.keep hb4; obtain ⟨x1, x2, x17, x10, c0, c1, c2, c3, c4, c5, c6, c7, c8, z0, z1, z2, z3, z4, z5, z6, z7, f0, f1, f2, f3, f4, f5, f6, f7⟩ := hA.facts hr1 hr2))
  change bodyPost _ _ _ _ _ (World.setCells w4 w.heap.size 0 [.int .i64 1, .int .u64 (un (h.x r1 + bv imm)), .int .u64 0, .int .i64 0, .bool false, .bool false, .int .i64 0, .int .i64 0])
  have hr := World.cell?_setCells_in w.heap.size [.int .i64 1, .int .u64 (un (h.x r1 + bv imm)), .int .u64 0, .int .i64 0, .bool false, .bool false, .int .i64 0, .int .i64 0] 0 w4 (fun j hj => hA.some j hj)
  have hbl := below_setCells (Nat.le_refl w.heap.size) [.int .i64 1, .int .u64 (un (h.x r1 + bv imm)), .int .u64 0, .int .i64 0, .bool false, .bool false, .int .i64 0, .int .i64 0] 0 w4 hA.bl
  generalize World.setCells w4 w.heap.size 0 [.int .i64 1, .int .u64 (un (h.x r1 + bv imm)), .int .u64 0, .int .i64 0, .bool false, .bool false, .int .i64 0, .int .i64 0] = W8 at hr hbl ⊢
  have s0 : W8.cell? ⟨w.heap.size, 0, none⟩ = some (.int .i64 1) := hr 0 (by simp)
  have s1 : W8.cell? ⟨w.heap.size, 1, none⟩ = some (.int .u64 (un (h.x r1 + bv imm))) := hr 1 (by simp)
  have s2 : W8.cell? ⟨w.heap.size, 2, none⟩ = some (.int .u64 0) := hr 2 (by simp)
  have s3 : W8.cell? ⟨w.heap.size, 3, none⟩ = some (.int .i64 0) := hr 3 (by simp)
  have s4 : W8.cell? ⟨w.heap.size, 4, none⟩ = some (.bool false) := hr 4 (by simp)
  have s5 : W8.cell? ⟨w.heap.size, 5, none⟩ = some (.bool false) := hr 5 (by simp)
  have s6 : W8.cell? ⟨w.heap.size, 6, none⟩ = some (.int .i64 0) := hr 6 (by simp)
  have s7 : W8.cell? ⟨w.heap.size, 7, none⟩ = some (.int .i64 0) := hr 7 (by simp)
  exact bodyPost_ret (v := .agg #[.int .i64 1, .int .u64 (un (h.x r1 + bv imm)), .int .u64 0, .int .i64 0, .bool false, .bool false, .int .i64 0, .int .i64 0]) (by simp [results, Tryz.results24, go_sem, s0, s1, s2, s3, s4, s5, s6, s7]) rfl ⟨rfl, hbl⟩
set_option maxRecDepth 100000 in
set_option maxHeartbeats 8000000 in
theorem ask_4x (b : Nat) (h : HartV) (op rd : Int) (r1 r2 : Nat) (imm : Int) (aq rl : Bool) (pred succ : Int) (w : World) (hW : WK b h ⟨op, rd, r1, r2, imm, aq, rl, pred, succ⟩ w) (ht : Tabs w) (hop : op ≤ 9223372036854775807) (hr1 : r1 < 32) (hr2 : r2 < 32) (n : BitVec 64) (k : Int) (hk : k ≠ 0) (hn : nextR h ⟨op, rd, r1, r2, imm, aq, rl, pred, succ⟩ = some n) (hf : (opOf op).form = 4) (ha : addrE h ⟨op, rd, r1, r2, imm, aq, rl, pred, succ⟩ = k) :
    Calls Tryz.prog 24 #[.pointer (some ⟨b, 0, none⟩)] w fun e w' => e = .panicked (thrown k) ∧ Below w.heap.size w w' := by
  have hA0 := AK.start hW 42 27
  have hWz := hW.keep ((Below.refl w.heap.size w).alloc (Nat.le_refl _) (.cells #[.int .i64 0, .int .u64 0, .int .u64 0, .int .i64 0, .bool false, .bool false, .int .i64 0, .int .i64 0] 42))
  have i0 : _ = some (Value.int .i64 op) := hWz.i 0 (by decide)
  have i1 : _ = some (Value.int .i64 rd) := hWz.i 1 (by decide)
  have i2 : _ = some (Value.int .i64 r1) := hWz.i 2 (by decide)
  have i3 : _ = some (Value.int .i64 r2) := hWz.i 3 (by decide)
  have i4 : _ = some (Value.int .i64 imm) := hWz.i 4 (by decide)
  have i5 : _ = some (Value.bool aq) := hWz.i 5 (by decide)
  have i6 : _ = some (Value.bool rl) := hWz.i 6 (by decide)
  have i7 : _ = some (Value.int .i64 pred) := hWz.i 7 (by decide)
  have i8 : _ = some (Value.int .i64 succ) := hWz.i 8 (by decide)
  have hlt : 0 ≤ (r1 : Int) ∧ (r1 : Int) < 32 := by omega
  have hlt2 : 0 ≤ (r2 : Int) ∧ (r2 : Int) < 32 := by omega
  have hFm := Lib.hid (fun W (hW : Tabs W) => Form_any op hop W hW)
  have hNx : Hid (∀ W, AK w b h ⟨op, rd, r1, r2, imm, aq, rl, pred, succ⟩ W → Calls Tryz.prog 25 #[.pointer (some ⟨b, 0, none⟩)] W fun e w' => e = .returned (.int .u64 (un n)) ∧ Below W.heap.size W w') := Lib.hid fun W hA => by
    have := next_any b h op rd r1 r2 imm aq rl pred succ W hA.wk (ht.later hA.bl (Nat.le_refl _)) hop hr1 hr2
    rw [hn] at this; exact this
  have hAd : Hid (∀ W, AK w b h ⟨op, rd, r1, r2, imm, aq, rl, pred, succ⟩ W → Calls Tryz.prog 39 #[.pointer (some ⟨b, 0, none⟩)] W fun e w' => e = .panicked (thrown k) ∧ Below W.heap.size W w') := Lib.hid fun W hA => by
    have := address_any b h op rd r1 r2 imm aq rl pred succ W hA.wk (ht.later hA.bl (Nat.le_refl _)) hop hr1
    rw [ha, if_neg hk] at this; exact this
  rw [hf] at hFm
  clear hf
  clear hW hWz hop
  go_enter Tryz.func24, Tryz.ntmps24
  go_wp2_with (first | (go_at_call 25; refine (hNx.out _ hA0).mono ?_; rintro e w2 ⟨rfl, hb2⟩; have hA := hA0.keep hb2; have c0 : w2.cell? ⟨w.heap.size + 1, 0, none⟩ = some (.int .i64 op) := hA.c 0 (by decide)) | (go_at_call 38; refine (hFm.out _ (ht.later hA.bl (Nat.le_refl _))).mono ?_; rintro e w3 ⟨rfl, hb3⟩; have hA := hA.keep hb3; obtain ⟨x1, x2, x17, x10, c0, c1, c2, c3, c4, c5, c6, c7, c8, z0, z1, z2, z3, z4, z5, z6, z7, f0, f1, f2, f3, f4, f5, f6, f7⟩ := hA.facts hr1 hr2) | (go_at_call 39; refine (hAd.out _ hA).mono ?_; rintro e w4 ⟨rfl, hb4⟩; have hA := hA.keep hb4; obtain ⟨x1, x2, x17, x10, c0, c1, c2, c3, c4, c5, c6, c7, c8, z0, z1, z2, z3, z4, z5, z6, z7, f0, f1, f2, f3, f4, f5, f6, f7⟩ := hA.facts hr1 hr2))
  exact ⟨rfl, rfl, hA.bl⟩
end
end Go.Proofs.YtbglinhglnbfmaaGreatDoor
namespace Go.Proofs.YtbglinhglnbfmaaGreatDoor
open Go.RowKit
attribute [local go_sem] wrap_u64_bv bv_un bv_sn bv_add bv_mul bv_neg bv_sub mul_bvpow shr_min shl_min sshr_min bv_lit bv_0 bv_1 un_shr sn_shr wrap_i64_un bits_u64_and bits_u64_or bits_u64_xor bits_u64_andNot bv_max u64_unsigned
section
attribute [local irreducible] un sn
set_option maxRecDepth 100000 in
set_option maxHeartbeats 8000000 in
theorem ask_5 (b : Nat) (h : HartV) (op rd : Int) (r1 r2 : Nat) (imm : Int) (aq rl : Bool) (pred succ : Int) (w : World) (hW : WK b h ⟨op, rd, r1, r2, imm, aq, rl, pred, succ⟩ w) (ht : Tabs w) (hop : op ≤ 9223372036854775807) (hr1 : r1 < 32) (hr2 : r2 < 32) (n : BitVec 64) (hn : nextR h ⟨op, rd, r1, r2, imm, aq, rl, pred, succ⟩ = some n) (hf : (opOf op).form = 5) (ha : addrE h ⟨op, rd, r1, r2, imm, aq, rl, pred, succ⟩ = 0) :
    Calls Tryz.prog 24 #[.pointer (some ⟨b, 0, none⟩)] w fun e w' => e = .returned (.agg #[.int .i64 2, .int .u64 (un (h.x r1 + bv imm)), .int .u64 (un (h.x r2)), .int .i64 0, .bool false, .bool false, .int .i64 0, .int .i64 0]) ∧ Below w.heap.size w w' := by
  have hA0 := AK.start hW 42 27
  have hWz := hW.keep ((Below.refl w.heap.size w).alloc (Nat.le_refl _) (.cells #[.int .i64 0, .int .u64 0, .int .u64 0, .int .i64 0, .bool false, .bool false, .int .i64 0, .int .i64 0] 42))
  have i0 : _ = some (Value.int .i64 op) := hWz.i 0 (by decide)
  have i1 : _ = some (Value.int .i64 rd) := hWz.i 1 (by decide)
  have i2 : _ = some (Value.int .i64 r1) := hWz.i 2 (by decide)
  have i3 : _ = some (Value.int .i64 r2) := hWz.i 3 (by decide)
  have i4 : _ = some (Value.int .i64 imm) := hWz.i 4 (by decide)
  have i5 : _ = some (Value.bool aq) := hWz.i 5 (by decide)
  have i6 : _ = some (Value.bool rl) := hWz.i 6 (by decide)
  have i7 : _ = some (Value.int .i64 pred) := hWz.i 7 (by decide)
  have i8 : _ = some (Value.int .i64 succ) := hWz.i 8 (by decide)
  have hlt : 0 ≤ (r1 : Int) ∧ (r1 : Int) < 32 := by omega
  have hlt2 : 0 ≤ (r2 : Int) ∧ (r2 : Int) < 32 := by omega
  have hFm := Lib.hid (fun W (hW : Tabs W) => Form_any op hop W hW)
  have hNx : Hid (∀ W, AK w b h ⟨op, rd, r1, r2, imm, aq, rl, pred, succ⟩ W → Calls Tryz.prog 25 #[.pointer (some ⟨b, 0, none⟩)] W fun e w' => e = .returned (.int .u64 (un n)) ∧ Below W.heap.size W w') := Lib.hid fun W hA => by
    have := next_any b h op rd r1 r2 imm aq rl pred succ W hA.wk (ht.later hA.bl (Nat.le_refl _)) hop hr1 hr2
    rw [hn] at this; exact this
  have hAd : Hid (∀ W, AK w b h ⟨op, rd, r1, r2, imm, aq, rl, pred, succ⟩ W → Calls Tryz.prog 39 #[.pointer (some ⟨b, 0, none⟩)] W fun e w' => e = .returned (.int .u64 (un (h.x r1 + bv imm))) ∧ Below W.heap.size W w') := Lib.hid fun W hA => by
    have := address_any b h op rd r1 r2 imm aq rl pred succ W hA.wk (ht.later hA.bl (Nat.le_refl _)) hop hr1
    rw [ha] at this; exact this
  rw [hf] at hFm
  clear hf
  have hblt := hW.lt
  clear hW hWz hop
  go_enter Tryz.func24, Tryz.ntmps24
  go_wp2_with (first | (go_at_call 25; refine (hNx.out _ hA0).mono ?_; rintro e w2 ⟨rfl, hb2⟩; have hA := hA0.keep hb2; have c0 : w2.cell? ⟨w.heap.size + 1, 0, none⟩ = some (.int .i64 op) := hA.c 0 (by decide)) | (go_at_call 38; refine (hFm.out _ (ht.later hA.bl (Nat.le_refl _))).mono ?_; rintro e w3 ⟨rfl, hb3⟩; have hA := hA.keep hb3; obtain ⟨x1, x2, x17, x10, c0, c1, c2, c3, c4, c5, c6, c7, c8, z0, z1, z2, z3, z4, z5, z6, z7, f0, f1, f2, f3, f4, f5, f6, f7⟩ := hA.facts hr1 hr2) | (go_at_call 39; refine (hAd.out _ hA).mono ?_; rintro e w4 ⟨rfl, hb4⟩; have hA := hA.keep hb4; obtain ⟨x1, x2, x17, x10, c0, c1, c2, c3, c4, c5, c6, c7, c8, z0, z1, z2, z3, z4, z5, z6, z7, f0, f1, f2, f3, f4, f5, f6, f7⟩ := hA.facts hr1 hr2))
  have c3d : w3.drew.cell? ⟨w.heap.size + 1, 3, none⟩ = some (.int .i64 r2) := c3
  have x2d : w3.drew.cell? ⟨b, 1 + r2, none⟩ = some (.int .u64 (un (h.x r2))) := x2
  have hbne : ¬ w.heap.size = b := fun e => absurd hblt (by omega)
  go_region_held3 (fun w' => w'.cell? ⟨w.heap.size + 1, 3, none⟩ = some (.int .i64 r2) ∧ w'.cell? ⟨b, 1 + r2, none⟩ = some (.int .u64 (un (h.x r2)))) (first | with_reducible exact ⟨c3d, x2d⟩ | with_reducible exact ⟨c3, x2⟩ | go_keep) ((first | (go_at_call 39; refine (hAd.out _ hA.drew).mono ?_; rintro e w4 ⟨rfl, hb4⟩; have hA := hA.drew.keep hb4; obtain ⟨x1, x2, x17, x10, c0, c1, c2, c3, c4, c5, c6, c7, c8, z0, z1, z2, z3, z4, z5, z6, z7, f0, f1, f2, f3, f4, f5, f6, f7⟩ := hA.facts hr1 hr2)))
  go_wp2
  change bodyPost _ _ _ _ _ (World.setCells w4 w.heap.size 0 [.int .i64 2, .int .u64 (un (h.x r1 + bv imm)), .int .u64 (un (h.x r2)), .int .i64 0, .bool false, .bool false, .int .i64 0, .int .i64 0])
  have hr := World.cell?_setCells_in w.heap.size [.int .i64 2, .int .u64 (un (h.x r1 + bv imm)), .int .u64 (un (h.x r2)), .int .i64 0, .bool false, .bool false, .int .i64 0, .int .i64 0] 0 w4 (fun j hj => hA.some j hj)
  have hbl := below_setCells (Nat.le_refl w.heap.size) [.int .i64 2, .int .u64 (un (h.x r1 + bv imm)), .int .u64 (un (h.x r2)), .int .i64 0, .bool false, .bool false, .int .i64 0, .int .i64 0] 0 w4 hA.bl
  generalize World.setCells w4 w.heap.size 0 [.int .i64 2, .int .u64 (un (h.x r1 + bv imm)), .int .u64 (un (h.x r2)), .int .i64 0, .bool false, .bool false, .int .i64 0, .int .i64 0] = W8 at hr hbl ⊢
  have s0 : W8.cell? ⟨w.heap.size, 0, none⟩ = some (.int .i64 2) := hr 0 (by simp)
  have s1 : W8.cell? ⟨w.heap.size, 1, none⟩ = some (.int .u64 (un (h.x r1 + bv imm))) := hr 1 (by simp)
  have s2 : W8.cell? ⟨w.heap.size, 2, none⟩ = some (.int .u64 (un (h.x r2))) := hr 2 (by simp)
  have s3 : W8.cell? ⟨w.heap.size, 3, none⟩ = some (.int .i64 0) := hr 3 (by simp)
  have s4 : W8.cell? ⟨w.heap.size, 4, none⟩ = some (.bool false) := hr 4 (by simp)
  have s5 : W8.cell? ⟨w.heap.size, 5, none⟩ = some (.bool false) := hr 5 (by simp)
  have s6 : W8.cell? ⟨w.heap.size, 6, none⟩ = some (.int .i64 0) := hr 6 (by simp)
  have s7 : W8.cell? ⟨w.heap.size, 7, none⟩ = some (.int .i64 0) := hr 7 (by simp)
  exact bodyPost_ret (v := .agg #[.int .i64 2, .int .u64 (un (h.x r1 + bv imm)), .int .u64 (un (h.x r2)), .int .i64 0, .bool false, .bool false, .int .i64 0, .int .i64 0]) (by simp [results, Tryz.results24, go_sem, s0, s1, s2, s3, s4, s5, s6, s7]) rfl ⟨rfl, hbl⟩
set_option maxRecDepth 100000 in
set_option maxHeartbeats 8000000 in
theorem ask_5x (b : Nat) (h : HartV) (op rd : Int) (r1 r2 : Nat) (imm : Int) (aq rl : Bool) (pred succ : Int) (w : World) (hW : WK b h ⟨op, rd, r1, r2, imm, aq, rl, pred, succ⟩ w) (ht : Tabs w) (hop : op ≤ 9223372036854775807) (hr1 : r1 < 32) (hr2 : r2 < 32) (n : BitVec 64) (k : Int) (hk : k ≠ 0) (hn : nextR h ⟨op, rd, r1, r2, imm, aq, rl, pred, succ⟩ = some n) (hf : (opOf op).form = 5) (ha : addrE h ⟨op, rd, r1, r2, imm, aq, rl, pred, succ⟩ = k) :
    Calls Tryz.prog 24 #[.pointer (some ⟨b, 0, none⟩)] w fun e w' => e = .panicked (thrown k) ∧ Below w.heap.size w w' := by
  have hA0 := AK.start hW 42 27
  have hWz := hW.keep ((Below.refl w.heap.size w).alloc (Nat.le_refl _) (.cells #[.int .i64 0, .int .u64 0, .int .u64 0, .int .i64 0, .bool false, .bool false, .int .i64 0, .int .i64 0] 42))
  have i0 : _ = some (Value.int .i64 op) := hWz.i 0 (by decide)
  have i1 : _ = some (Value.int .i64 rd) := hWz.i 1 (by decide)
  have i2 : _ = some (Value.int .i64 r1) := hWz.i 2 (by decide)
  have i3 : _ = some (Value.int .i64 r2) := hWz.i 3 (by decide)
  have i4 : _ = some (Value.int .i64 imm) := hWz.i 4 (by decide)
  have i5 : _ = some (Value.bool aq) := hWz.i 5 (by decide)
  have i6 : _ = some (Value.bool rl) := hWz.i 6 (by decide)
  have i7 : _ = some (Value.int .i64 pred) := hWz.i 7 (by decide)
  have i8 : _ = some (Value.int .i64 succ) := hWz.i 8 (by decide)
  have hlt : 0 ≤ (r1 : Int) ∧ (r1 : Int) < 32 := by omega
  have hlt2 : 0 ≤ (r2 : Int) ∧ (r2 : Int) < 32 := by omega
  have hFm := Lib.hid (fun W (hW : Tabs W) => Form_any op hop W hW)
  have hNx : Hid (∀ W, AK w b h ⟨op, rd, r1, r2, imm, aq, rl, pred, succ⟩ W → Calls Tryz.prog 25 #[.pointer (some ⟨b, 0, none⟩)] W fun e w' => e = .returned (.int .u64 (un n)) ∧ Below W.heap.size W w') := Lib.hid fun W hA => by
    have := next_any b h op rd r1 r2 imm aq rl pred succ W hA.wk (ht.later hA.bl (Nat.le_refl _)) hop hr1 hr2
    rw [hn] at this; exact this
  have hAd : Hid (∀ W, AK w b h ⟨op, rd, r1, r2, imm, aq, rl, pred, succ⟩ W → Calls Tryz.prog 39 #[.pointer (some ⟨b, 0, none⟩)] W fun e w' => e = .panicked (thrown k) ∧ Below W.heap.size W w') := Lib.hid fun W hA => by
    have := address_any b h op rd r1 r2 imm aq rl pred succ W hA.wk (ht.later hA.bl (Nat.le_refl _)) hop hr1
    rw [ha, if_neg hk] at this; exact this
  rw [hf] at hFm
  clear hf
  clear hW hWz hop
  go_enter Tryz.func24, Tryz.ntmps24
  go_wp2_with (first | (go_at_call 25; refine (hNx.out _ hA0).mono ?_; rintro e w2 ⟨rfl, hb2⟩; have hA := hA0.keep hb2; have c0 : w2.cell? ⟨w.heap.size + 1, 0, none⟩ = some (.int .i64 op) := hA.c 0 (by decide)) | (go_at_call 38; refine (hFm.out _ (ht.later hA.bl (Nat.le_refl _))).mono ?_; rintro e w3 ⟨rfl, hb3⟩; have hA := hA.keep hb3; obtain ⟨x1, x2, x17, x10, c0, c1, c2, c3, c4, c5, c6, c7, c8, z0, z1, z2, z3, z4, z5, z6, z7, f0, f1, f2, f3, f4, f5, f6, f7⟩ := hA.facts hr1 hr2) | (go_at_call 39; refine (hAd.out _ hA).mono ?_; rintro e w4 ⟨rfl, hb4⟩; have hA := hA.keep hb4; obtain ⟨x1, x2, x17, x10, c0, c1, c2, c3, c4, c5, c6, c7, c8, z0, z1, z2, z3, z4, z5, z6, z7, f0, f1, f2, f3, f4, f5, f6, f7⟩ := hA.facts hr1 hr2))
  go_region_dies
  all_goals
    refine (hAd.out _ hA.drew).mono ?_
    rintro e w4 ⟨rfl, hb4⟩
    exact ⟨rfl, rfl, (hA.drew.keep hb4).bl⟩
end
end Go.Proofs.YtbglinhglnbfmaaGreatDoor
namespace Go.Proofs.YtbglinhglnbfmaaGreatDoor
open Go.RowKit
attribute [local go_sem] wrap_u64_bv bv_un bv_sn bv_add bv_mul bv_neg bv_sub mul_bvpow shr_min shl_min sshr_min bv_lit bv_0 bv_1 un_shr sn_shr wrap_i64_un bits_u64_and bits_u64_or bits_u64_xor bits_u64_andNot bv_max u64_unsigned
section
attribute [local irreducible] un sn
set_option maxRecDepth 100000 in
set_option maxHeartbeats 8000000 in
theorem ask_11 (b : Nat) (h : HartV) (op rd : Int) (r1 r2 : Nat) (imm : Int) (aq rl : Bool) (pred succ : Int) (w : World) (hW : WK b h ⟨op, rd, r1, r2, imm, aq, rl, pred, succ⟩ w) (ht : Tabs w) (hop : op ≤ 9223372036854775807) (hr1 : r1 < 32) (hr2 : r2 < 32) (n : BitVec 64) (hn : nextR h ⟨op, rd, r1, r2, imm, aq, rl, pred, succ⟩ = some n) (hf : (opOf op).form = 11) (ha : addrE h ⟨op, rd, r1, r2, imm, aq, rl, pred, succ⟩ = 0) :
    Calls Tryz.prog 24 #[.pointer (some ⟨b, 0, none⟩)] w fun e w' => e = .returned (.agg #[.int .i64 3, .int .u64 (un (h.x r1 + bv imm)), .int .u64 0, .int .i64 0, .bool aq, .bool rl, .int .i64 0, .int .i64 0]) ∧ Below w.heap.size w w' := by
  have hA0 := AK.start hW 42 27
  have hWz := hW.keep ((Below.refl w.heap.size w).alloc (Nat.le_refl _) (.cells #[.int .i64 0, .int .u64 0, .int .u64 0, .int .i64 0, .bool false, .bool false, .int .i64 0, .int .i64 0] 42))
  have i0 : _ = some (Value.int .i64 op) := hWz.i 0 (by decide)
  have i1 : _ = some (Value.int .i64 rd) := hWz.i 1 (by decide)
  have i2 : _ = some (Value.int .i64 r1) := hWz.i 2 (by decide)
  have i3 : _ = some (Value.int .i64 r2) := hWz.i 3 (by decide)
  have i4 : _ = some (Value.int .i64 imm) := hWz.i 4 (by decide)
  have i5 : _ = some (Value.bool aq) := hWz.i 5 (by decide)
  have i6 : _ = some (Value.bool rl) := hWz.i 6 (by decide)
  have i7 : _ = some (Value.int .i64 pred) := hWz.i 7 (by decide)
  have i8 : _ = some (Value.int .i64 succ) := hWz.i 8 (by decide)
  have hlt : 0 ≤ (r1 : Int) ∧ (r1 : Int) < 32 := by omega
  have hlt2 : 0 ≤ (r2 : Int) ∧ (r2 : Int) < 32 := by omega
  have hFm := Lib.hid (fun W (hW : Tabs W) => Form_any op hop W hW)
  have hNx : Hid (∀ W, AK w b h ⟨op, rd, r1, r2, imm, aq, rl, pred, succ⟩ W → Calls Tryz.prog 25 #[.pointer (some ⟨b, 0, none⟩)] W fun e w' => e = .returned (.int .u64 (un n)) ∧ Below W.heap.size W w') := Lib.hid fun W hA => by
    have := next_any b h op rd r1 r2 imm aq rl pred succ W hA.wk (ht.later hA.bl (Nat.le_refl _)) hop hr1 hr2
    rw [hn] at this; exact this
  have hAd : Hid (∀ W, AK w b h ⟨op, rd, r1, r2, imm, aq, rl, pred, succ⟩ W → Calls Tryz.prog 39 #[.pointer (some ⟨b, 0, none⟩)] W fun e w' => e = .returned (.int .u64 (un (h.x r1 + bv imm))) ∧ Below W.heap.size W w') := Lib.hid fun W hA => by
    have := address_any b h op rd r1 r2 imm aq rl pred succ W hA.wk (ht.later hA.bl (Nat.le_refl _)) hop hr1
    rw [ha] at this; exact this
  rw [hf] at hFm
  clear hf
  have hblt := hW.lt
  clear hW hWz hop
  go_enter Tryz.func24, Tryz.ntmps24
  go_wp2_with (first | (go_at_call 25; refine (hNx.out _ hA0).mono ?_; rintro e w2 ⟨rfl, hb2⟩; have hA := hA0.keep hb2; have c0 : w2.cell? ⟨w.heap.size + 1, 0, none⟩ = some (.int .i64 op) := hA.c 0 (by decide)) | (go_at_call 38; refine (hFm.out _ (ht.later hA.bl (Nat.le_refl _))).mono ?_; rintro e w3 ⟨rfl, hb3⟩; have hA := hA.keep hb3; obtain ⟨x1, x2, x17, x10, c0, c1, c2, c3, c4, c5, c6, c7, c8, z0, z1, z2, z3, z4, z5, z6, z7, f0, f1, f2, f3, f4, f5, f6, f7⟩ := hA.facts hr1 hr2) | (go_at_call 39; refine (hAd.out _ hA).mono ?_; rintro e w4 ⟨rfl, hb4⟩; have hA := hA.keep hb4; obtain ⟨x1, x2, x17, x10, c0, c1, c2, c3, c4, c5, c6, c7, c8, z0, z1, z2, z3, z4, z5, z6, z7, f0, f1, f2, f3, f4, f5, f6, f7⟩ := hA.facts hr1 hr2))
  have c5d : w3.drew.cell? ⟨w.heap.size + 1, 5, none⟩ = some (.bool aq) := c5
  have c6d : w3.drew.cell? ⟨w.heap.size + 1, 6, none⟩ = some (.bool rl) := c6
  have hbne : ¬ w.heap.size = b := fun e => absurd hblt (by omega)
  go_region_held3 (fun w' => w'.cell? ⟨w.heap.size + 1, 5, none⟩ = some (.bool aq) ∧ w'.cell? ⟨w.heap.size + 1, 6, none⟩ = some (.bool rl)) (first | with_reducible exact ⟨c5d, c6d⟩ | with_reducible exact ⟨c5, c6⟩ | go_keep) ((first | (go_at_call 39; refine (hAd.out _ hA.drew).mono ?_; rintro e w4 ⟨rfl, hb4⟩; have hA := hA.drew.keep hb4; obtain ⟨x1, x2, x17, x10, c0, c1, c2, c3, c4, c5, c6, c7, c8, z0, z1, z2, z3, z4, z5, z6, z7, f0, f1, f2, f3, f4, f5, f6, f7⟩ := hA.facts hr1 hr2)))
  go_wp2
  change bodyPost _ _ _ _ _ (World.setCells w4 w.heap.size 0 [.int .i64 3, .int .u64 (un (h.x r1 + bv imm)), .int .u64 0, .int .i64 0, .bool aq, .bool rl, .int .i64 0, .int .i64 0])
  have hr := World.cell?_setCells_in w.heap.size [.int .i64 3, .int .u64 (un (h.x r1 + bv imm)), .int .u64 0, .int .i64 0, .bool aq, .bool rl, .int .i64 0, .int .i64 0] 0 w4 (fun j hj => hA.some j hj)
  have hbl := below_setCells (Nat.le_refl w.heap.size) [.int .i64 3, .int .u64 (un (h.x r1 + bv imm)), .int .u64 0, .int .i64 0, .bool aq, .bool rl, .int .i64 0, .int .i64 0] 0 w4 hA.bl
  generalize World.setCells w4 w.heap.size 0 [.int .i64 3, .int .u64 (un (h.x r1 + bv imm)), .int .u64 0, .int .i64 0, .bool aq, .bool rl, .int .i64 0, .int .i64 0] = W8 at hr hbl ⊢
  have s0 : W8.cell? ⟨w.heap.size, 0, none⟩ = some (.int .i64 3) := hr 0 (by simp)
  have s1 : W8.cell? ⟨w.heap.size, 1, none⟩ = some (.int .u64 (un (h.x r1 + bv imm))) := hr 1 (by simp)
  have s2 : W8.cell? ⟨w.heap.size, 2, none⟩ = some (.int .u64 0) := hr 2 (by simp)
  have s3 : W8.cell? ⟨w.heap.size, 3, none⟩ = some (.int .i64 0) := hr 3 (by simp)
  have s4 : W8.cell? ⟨w.heap.size, 4, none⟩ = some (.bool aq) := hr 4 (by simp)
  have s5 : W8.cell? ⟨w.heap.size, 5, none⟩ = some (.bool rl) := hr 5 (by simp)
  have s6 : W8.cell? ⟨w.heap.size, 6, none⟩ = some (.int .i64 0) := hr 6 (by simp)
  have s7 : W8.cell? ⟨w.heap.size, 7, none⟩ = some (.int .i64 0) := hr 7 (by simp)
  exact bodyPost_ret (v := .agg #[.int .i64 3, .int .u64 (un (h.x r1 + bv imm)), .int .u64 0, .int .i64 0, .bool aq, .bool rl, .int .i64 0, .int .i64 0]) (by simp [results, Tryz.results24, go_sem, s0, s1, s2, s3, s4, s5, s6, s7]) rfl ⟨rfl, hbl⟩
set_option maxRecDepth 100000 in
set_option maxHeartbeats 8000000 in
theorem ask_11x (b : Nat) (h : HartV) (op rd : Int) (r1 r2 : Nat) (imm : Int) (aq rl : Bool) (pred succ : Int) (w : World) (hW : WK b h ⟨op, rd, r1, r2, imm, aq, rl, pred, succ⟩ w) (ht : Tabs w) (hop : op ≤ 9223372036854775807) (hr1 : r1 < 32) (hr2 : r2 < 32) (n : BitVec 64) (k : Int) (hk : k ≠ 0) (hn : nextR h ⟨op, rd, r1, r2, imm, aq, rl, pred, succ⟩ = some n) (hf : (opOf op).form = 11) (ha : addrE h ⟨op, rd, r1, r2, imm, aq, rl, pred, succ⟩ = k) :
    Calls Tryz.prog 24 #[.pointer (some ⟨b, 0, none⟩)] w fun e w' => e = .panicked (thrown k) ∧ Below w.heap.size w w' := by
  have hA0 := AK.start hW 42 27
  have hWz := hW.keep ((Below.refl w.heap.size w).alloc (Nat.le_refl _) (.cells #[.int .i64 0, .int .u64 0, .int .u64 0, .int .i64 0, .bool false, .bool false, .int .i64 0, .int .i64 0] 42))
  have i0 : _ = some (Value.int .i64 op) := hWz.i 0 (by decide)
  have i1 : _ = some (Value.int .i64 rd) := hWz.i 1 (by decide)
  have i2 : _ = some (Value.int .i64 r1) := hWz.i 2 (by decide)
  have i3 : _ = some (Value.int .i64 r2) := hWz.i 3 (by decide)
  have i4 : _ = some (Value.int .i64 imm) := hWz.i 4 (by decide)
  have i5 : _ = some (Value.bool aq) := hWz.i 5 (by decide)
  have i6 : _ = some (Value.bool rl) := hWz.i 6 (by decide)
  have i7 : _ = some (Value.int .i64 pred) := hWz.i 7 (by decide)
  have i8 : _ = some (Value.int .i64 succ) := hWz.i 8 (by decide)
  have hlt : 0 ≤ (r1 : Int) ∧ (r1 : Int) < 32 := by omega
  have hlt2 : 0 ≤ (r2 : Int) ∧ (r2 : Int) < 32 := by omega
  have hFm := Lib.hid (fun W (hW : Tabs W) => Form_any op hop W hW)
  have hNx : Hid (∀ W, AK w b h ⟨op, rd, r1, r2, imm, aq, rl, pred, succ⟩ W → Calls Tryz.prog 25 #[.pointer (some ⟨b, 0, none⟩)] W fun e w' => e = .returned (.int .u64 (un n)) ∧ Below W.heap.size W w') := Lib.hid fun W hA => by
    have := next_any b h op rd r1 r2 imm aq rl pred succ W hA.wk (ht.later hA.bl (Nat.le_refl _)) hop hr1 hr2
    rw [hn] at this; exact this
  have hAd : Hid (∀ W, AK w b h ⟨op, rd, r1, r2, imm, aq, rl, pred, succ⟩ W → Calls Tryz.prog 39 #[.pointer (some ⟨b, 0, none⟩)] W fun e w' => e = .panicked (thrown k) ∧ Below W.heap.size W w') := Lib.hid fun W hA => by
    have := address_any b h op rd r1 r2 imm aq rl pred succ W hA.wk (ht.later hA.bl (Nat.le_refl _)) hop hr1
    rw [ha, if_neg hk] at this; exact this
  rw [hf] at hFm
  clear hf
  clear hW hWz hop
  go_enter Tryz.func24, Tryz.ntmps24
  go_wp2_with (first | (go_at_call 25; refine (hNx.out _ hA0).mono ?_; rintro e w2 ⟨rfl, hb2⟩; have hA := hA0.keep hb2; have c0 : w2.cell? ⟨w.heap.size + 1, 0, none⟩ = some (.int .i64 op) := hA.c 0 (by decide)) | (go_at_call 38; refine (hFm.out _ (ht.later hA.bl (Nat.le_refl _))).mono ?_; rintro e w3 ⟨rfl, hb3⟩; have hA := hA.keep hb3; obtain ⟨x1, x2, x17, x10, c0, c1, c2, c3, c4, c5, c6, c7, c8, z0, z1, z2, z3, z4, z5, z6, z7, f0, f1, f2, f3, f4, f5, f6, f7⟩ := hA.facts hr1 hr2) | (go_at_call 39; refine (hAd.out _ hA).mono ?_; rintro e w4 ⟨rfl, hb4⟩; have hA := hA.keep hb4; obtain ⟨x1, x2, x17, x10, c0, c1, c2, c3, c4, c5, c6, c7, c8, z0, z1, z2, z3, z4, z5, z6, z7, f0, f1, f2, f3, f4, f5, f6, f7⟩ := hA.facts hr1 hr2))
  go_region_dies
  all_goals
    refine (hAd.out _ hA.drew).mono ?_
    rintro e w4 ⟨rfl, hb4⟩
    exact ⟨rfl, rfl, (hA.drew.keep hb4).bl⟩
end
end Go.Proofs.YtbglinhglnbfmaaGreatDoor
