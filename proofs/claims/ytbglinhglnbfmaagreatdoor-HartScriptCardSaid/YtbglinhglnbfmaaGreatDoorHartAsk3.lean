/- The walk of a hart's ask, at an amo. The walk of a hart's ask, thrown off at an amo. The walk of a hart's ask, at sc.d. Conditions: as each theorem says. -/
import Derived.Test.YtbglinhglnbfmaaGreatDoorHartWk
import Derived.RegionDies
set_option linter.unusedVariables false
namespace Go.Proofs.YtbglinhglnbfmaaGreatDoor
open Go.RowKit
attribute [local go_sem] wrap_u64_bv bv_un bv_sn bv_add bv_mul bv_neg bv_sub mul_bvpow shr_min shl_min sshr_min bv_lit bv_0 bv_1 un_shr sn_shr wrap_i64_un bits_u64_and bits_u64_or bits_u64_xor bits_u64_andNot bv_max u64_unsigned
section
attribute [local irreducible] un sn
theorem fresh8 {w3 w4 : World} {t : TypeId} (hb4 : Below (w3.alloc (.cells #[.int .i64 0, .int .u64 0, .int .u64 0, .int .i64 0, .bool false, .bool false, .int .i64 0, .int .i64 0] t)).drew.heap.size (w3.alloc (.cells #[.int .i64 0, .int .u64 0, .int .u64 0, .int .i64 0, .bool false, .bool false, .int .i64 0, .int .i64 0] t)).drew w4) : w4.cell? ⟨w3.heap.size, 0, none⟩ = some (Value.int .i64 0) ∧ w4.cell? ⟨w3.heap.size, 1, none⟩ = some (Value.int .u64 0) ∧ w4.cell? ⟨w3.heap.size, 2, none⟩ = some (Value.int .u64 0) ∧ w4.cell? ⟨w3.heap.size, 3, none⟩ = some (Value.int .i64 0) ∧ w4.cell? ⟨w3.heap.size, 4, none⟩ = some (Value.bool false) ∧ w4.cell? ⟨w3.heap.size, 5, none⟩ = some (Value.bool false) ∧ w4.cell? ⟨w3.heap.size, 6, none⟩ = some (Value.int .i64 0) ∧ w4.cell? ⟨w3.heap.size, 7, none⟩ = some (Value.int .i64 0) ∧ w4.frozen? ⟨w3.heap.size, 0, none⟩ = false ∧ w4.frozen? ⟨w3.heap.size, 1, none⟩ = false ∧ w4.frozen? ⟨w3.heap.size, 2, none⟩ = false ∧ w4.frozen? ⟨w3.heap.size, 3, none⟩ = false ∧ w4.frozen? ⟨w3.heap.size, 4, none⟩ = false ∧ w4.frozen? ⟨w3.heap.size, 5, none⟩ = false ∧ w4.frozen? ⟨w3.heap.size, 6, none⟩ = false ∧ w4.frozen? ⟨w3.heap.size, 7, none⟩ = false := by
  have hs : w3.heap.size < (w3.alloc (.cells #[.int .i64 0, .int .u64 0, .int .u64 0, .int .i64 0, .bool false, .bool false, .int .i64 0, .int .i64 0] t)).drew.heap.size := by simp
  have c : ∀ j, w4.cell? ⟨w3.heap.size, j, none⟩ = #[.int .i64 0, .int .u64 0, .int .u64 0, .int .i64 0, .bool false, .bool false, .int .i64 0, .int .i64 0][j]? := fun j => by
    rw [hb4.cell (p := ⟨w3.heap.size, j, none⟩) hs]; exact World.cell?_alloc_new w3 _ t j
  have f : ∀ j, w4.frozen? ⟨w3.heap.size, j, none⟩ = false := fun j => by
    rw [hb4.frozen (p := ⟨w3.heap.size, j, none⟩) hs]
    show (w3.alloc (.cells #[.int .i64 0, .int .u64 0, .int .u64 0, .int .i64 0, .bool false, .bool false, .int .i64 0, .int .i64 0] t)).frozen? _ = false
    rw [frozen?_alloc_cells]; unfold World.frozen?; rw [Array.getElem?_eq_none (Nat.le_refl _)]
  exact ⟨c 0, c 1, c 2, c 3, c 4, c 5, c 6, c 7, f 0, f 1, f 2, f 3, f 4, f 5, f 6, f 7⟩
theorem AK.setOther {w W : World} {b a : Nat} {h : HartV} {i : InsnV} (hA : AK w b h i W) (h1 : w.heap.size + 2 ≤ a) (h2 : a ≠ b) (vs : List Value) : AK w b h i (W.setCells a 0 vs) := by
  have c : ∀ x j, x ≠ a → (W.setCells a 0 vs).cell? ⟨x, j, none⟩ = W.cell? ⟨x, j, none⟩ := fun x j hx => World.cell?_setCells_out a vs 0 W ⟨x, j, none⟩ (fun e => absurd e hx)
  have f : ∀ x j, (W.setCells a 0 vs).frozen? ⟨x, j, none⟩ = W.frozen? ⟨x, j, none⟩ := fun x j => World.frozen?_setCells a vs 0 W ⟨x, j, none⟩
  have sz : W.heap.size ≤ (W.setCells a 0 vs).heap.size := (below_setCells (Nat.zero_le a) vs 0 W (Below.refl 0 W)).size
  refine ⟨⟨Nat.lt_of_lt_of_le hA.wk.lt sz, fun j hj => by rw [c _ _ (Ne.symm h2)]; exact hA.wk.c j hj, fun j hj => by rw [c _ _ (Ne.symm h2)]; exact hA.wk.i j hj, fun j hj => by rw [f]; exact hA.wk.f j hj⟩, fun j hj => by rw [c _ _ (by omega)]; exact hA.z j hj, fun j hj => by rw [f]; exact hA.zf j hj, fun j hj => by rw [c _ _ (by omega)]; exact hA.c j hj, below_setCells (by omega) vs 0 W hA.bl, Nat.le_trans hA.sz sz⟩
set_option maxRecDepth 100000 in
set_option maxHeartbeats 8000000 in
theorem ask_12 (b : Nat) (h : HartV) (op rd : Int) (r1 r2 : Nat) (imm : Int) (aq rl : Bool) (pred succ : Int) (w : World) (hW : WK b h ⟨op, rd, r1, r2, imm, aq, rl, pred, succ⟩ w) (ht : Tabs w) (hop : op ≤ 9223372036854775807) (hr1 : r1 < 32) (hr2 : r2 < 32) (n : BitVec 64) (hn : nextR h ⟨op, rd, r1, r2, imm, aq, rl, pred, succ⟩ = some n) (hf : (opOf op).form = 12) (ha : addrE h ⟨op, rd, r1, r2, imm, aq, rl, pred, succ⟩ = 0) (h69 : op ≠ 69) :
    Calls Tryz.prog 24 #[.pointer (some ⟨b, 0, none⟩)] w fun e w' => e = .returned (.agg #[.int .i64 5, .int .u64 (un (h.x r1 + bv imm)), .int .u64 (un (h.x r2)), .int .i64 op, .bool aq, .bool rl, .int .i64 0, .int .i64 0]) ∧ Below w.heap.size w w' := by
  have hA0 := AK.start hW 42 27
  have hWz := hW.keep ((Below.refl w.heap.size w).alloc (Nat.le_refl _) (.cells #[.int .i64 0, .int .u64 0, .int .u64 0, .int .i64 0, .bool false, .bool false, .int .i64 0, .int .i64 0] 42))
  have i0 : _ = some (Value.int .i64 op) := hWz.i 0 (by decide)
  have i1 : _ = some (Value.int .i64 rd) := hWz.i 1 (by decide)
  have i2 : _ = some (Value.int .i64 r1) := hWz.i 2 (by decide)
  have i3 : _ = some (Value.int .i64 r2) := hWz.i 3 (by decide)
  have i4 : _ = some (Value.int .i64 imm) := hWz.i 4 (by decide)
  have i5 : _ = some (Value.bool aq) := hWz.i 5 (by decide)
  have i6 : _ = some (Value.bool rl) := hWz.i 6 (by decide)
  have i7 : _ = some (Value.int .i64 pred) := hWz.i 7 (by decide)
  have i8 : _ = some (Value.int .i64 succ) := hWz.i 8 (by decide)
  have hlt : 0 ≤ (r1 : Int) ∧ (r1 : Int) < 32 := by omega
  have hlt2 : 0 ≤ (r2 : Int) ∧ (r2 : Int) < 32 := by omega
  have hFm := Lib.hid (fun W (hW : Tabs W) => Form_any op hop W hW)
  have hNx : Hid (∀ W, AK w b h ⟨op, rd, r1, r2, imm, aq, rl, pred, succ⟩ W → Calls Tryz.prog 25 #[.pointer (some ⟨b, 0, none⟩)] W fun e w' => e = .returned (.int .u64 (un n)) ∧ Below W.heap.size W w') := Lib.hid fun W hA => by
    have := next_any b h op rd r1 r2 imm aq rl pred succ W hA.wk (ht.later hA.bl (Nat.le_refl _)) hop hr1 hr2
    rw [hn] at this; exact this
  have hAd : Hid (∀ W, AK w b h ⟨op, rd, r1, r2, imm, aq, rl, pred, succ⟩ W → Calls Tryz.prog 39 #[.pointer (some ⟨b, 0, none⟩)] W fun e w' => e = .returned (.int .u64 (un (h.x r1 + bv imm))) ∧ Below W.heap.size W w') := Lib.hid fun W hA => by
    have := address_any b h op rd r1 r2 imm aq rl pred succ W hA.wk (ht.later hA.bl (Nat.le_refl _)) hop hr1
    rw [ha] at this; exact this
  rw [hf] at hFm
  clear hf
  have hblt := hW.lt
  have t69 : (op == 69) = false := by rw [beq_eq_false_iff_ne]; exact h69
  clear hW hWz hop
  go_enter Tryz.func24, Tryz.ntmps24
  go_wp2_with (first | (go_at_call 25; refine (hNx.out _ hA0).mono ?_; rintro e w2 ⟨rfl, hb2⟩; have hA := hA0.keep hb2; have c0 : w2.cell? ⟨w.heap.size + 1, 0, none⟩ = some (.int .i64 op) := hA.c 0 (by decide)) | (go_at_call 38; refine (hFm.out _ (ht.later hA.bl (Nat.le_refl _))).mono ?_; rintro e w3 ⟨rfl, hb3⟩; have hA := hA.keep hb3; obtain ⟨x1, x2, x17, x10, c0, c1, c2, c3, c4, c5, c6, c7, c8, z0, z1, z2, z3, z4, z5, z6, z7, f0, f1, f2, f3, f4, f5, f6, f7⟩ := hA.facts hr1 hr2) | (go_at_call 39; refine (hAd.out _ hA).mono ?_; rintro e w4 ⟨rfl, hb4⟩; have hA := hA.keep hb4; obtain ⟨x1, x2, x17, x10, c0, c1, c2, c3, c4, c5, c6, c7, c8, z0, z1, z2, z3, z4, z5, z6, z7, f0, f1, f2, f3, f4, f5, f6, f7⟩ := hA.facts hr1 hr2))
  have c3d : w3.drew.cell? ⟨w.heap.size + 1, 3, none⟩ = some (.int .i64 r2) := c3
  have x2d : w3.drew.cell? ⟨b, 1 + r2, none⟩ = some (.int .u64 (un (h.x r2))) := x2
  have c0d : w3.drew.cell? ⟨w.heap.size + 1, 0, none⟩ = some (.int .i64 op) := c0
  have c5d : w3.drew.cell? ⟨w.heap.size + 1, 5, none⟩ = some (.bool aq) := c5
  have c6d : w3.drew.cell? ⟨w.heap.size + 1, 6, none⟩ = some (.bool rl) := c6
  have hbne : ¬ w.heap.size = b := fun e => absurd hblt (by omega)
  have sz := hA.sz
  have ltb := hA.wk.lt
  have hn0 : ¬ w3.heap.size = w.heap.size := by omega
  have hn1 : ¬ w3.heap.size = w.heap.size + 1 := by omega
  have hn2 : ¬ w3.heap.size = b := by omega
  go_region_held3 (fun w' => w'.cell? ⟨w.heap.size + 1, 3, none⟩ = some (.int .i64 r2) ∧ w'.cell? ⟨b, 1 + r2, none⟩ = some (.int .u64 (un (h.x r2))) ∧ w'.cell? ⟨w.heap.size + 1, 0, none⟩ = some (.int .i64 op) ∧ w'.cell? ⟨w.heap.size + 1, 5, none⟩ = some (.bool aq) ∧ w'.cell? ⟨w.heap.size + 1, 6, none⟩ = some (.bool rl)) (first | with_reducible exact ⟨c3d, x2d, c0d, c5d, c6d⟩ | with_reducible exact ⟨c3, x2, c0, c5, c6⟩ | go_keep) ((first | (go_at_call 39; refine (hAd.out _ hA.drew).mono ?_; rintro e w4 ⟨rfl, hb4⟩; have hA4 := hA.drew.keep hb4; obtain ⟨x1, x2, x17, x10, c0, c1, c2, c3, c4, c5, c6, c7, c8, z0, z1, z2, z3, z4, z5, z6, z7, f0, f1, f2, f3, f4, f5, f6, f7⟩ := hA4.facts hr1 hr2) | (go_at_call 39; refine (hAd.out _ (hA.keep ((Below.refl _ _).alloc (Nat.le_refl _) _)).drew).mono ?_; rintro e w4 ⟨rfl, hb4⟩; have hA4 := (hA.keep ((Below.refl _ _).alloc (Nat.le_refl _) _)).drew.keep hb4; obtain ⟨x1, x2, x17, x10, c0, c1, c2, c3, c4, c5, c6, c7, c8, z0, z1, z2, z3, z4, z5, z6, z7, f0, f1, f2, f3, f4, f5, f6, f7⟩ := hA4.facts hr1 hr2; obtain ⟨y0, y1, y2, y3, y4, y5, y6, y7, g0, g1, g2, g3, g4, g5, g6, g7⟩ := fresh8 hb4)))
  · have hA := hA4.keep ((Below.refl _ _).alloc (Nat.le_refl _) (.cells #[.int .i64 5, .int .u64 (un (h.x r1 + bv imm)), .int .u64 (un (h.x r2)), .int .i64 op, .bool aq, .bool rl, .int .i64 0, .int .i64 0] 42))
    obtain ⟨x1, x2, x17, x10, c0, c1, c2, c3, c4, c5, c6, c7, c8, z0, z1, z2, z3, z4, z5, z6, z7, f0, f1, f2, f3, f4, f5, f6, f7⟩ := hA.facts hr1 hr2
    go_wp2
    change bodyPost _ _ _ _ _ (World.setCells (w4.alloc (.cells #[.int .i64 5, .int .u64 (un (h.x r1 + bv imm)), .int .u64 (un (h.x r2)), .int .i64 op, .bool aq, .bool rl, .int .i64 0, .int .i64 0] 42)) w.heap.size 0 [.int .i64 5, .int .u64 (un (h.x r1 + bv imm)), .int .u64 (un (h.x r2)), .int .i64 op, .bool aq, .bool rl, .int .i64 0, .int .i64 0])
    have hr := World.cell?_setCells_in w.heap.size [.int .i64 5, .int .u64 (un (h.x r1 + bv imm)), .int .u64 (un (h.x r2)), .int .i64 op, .bool aq, .bool rl, .int .i64 0, .int .i64 0] 0 (w4.alloc (.cells #[.int .i64 5, .int .u64 (un (h.x r1 + bv imm)), .int .u64 (un (h.x r2)), .int .i64 op, .bool aq, .bool rl, .int .i64 0, .int .i64 0] 42)) (fun j hj => hA.some j hj)
    have hbl := below_setCells (Nat.le_refl w.heap.size) [.int .i64 5, .int .u64 (un (h.x r1 + bv imm)), .int .u64 (un (h.x r2)), .int .i64 op, .bool aq, .bool rl, .int .i64 0, .int .i64 0] 0 (w4.alloc (.cells #[.int .i64 5, .int .u64 (un (h.x r1 + bv imm)), .int .u64 (un (h.x r2)), .int .i64 op, .bool aq, .bool rl, .int .i64 0, .int .i64 0] 42)) hA.bl
    generalize World.setCells (w4.alloc (.cells #[.int .i64 5, .int .u64 (un (h.x r1 + bv imm)), .int .u64 (un (h.x r2)), .int .i64 op, .bool aq, .bool rl, .int .i64 0, .int .i64 0] 42)) w.heap.size 0 [.int .i64 5, .int .u64 (un (h.x r1 + bv imm)), .int .u64 (un (h.x r2)), .int .i64 op, .bool aq, .bool rl, .int .i64 0, .int .i64 0] = W8 at hr hbl ⊢
    have s0 : W8.cell? ⟨w.heap.size, 0, none⟩ = some (.int .i64 5) := hr 0 (by simp)
    have s1 : W8.cell? ⟨w.heap.size, 1, none⟩ = some (.int .u64 (un (h.x r1 + bv imm))) := hr 1 (by simp)
    have s2 : W8.cell? ⟨w.heap.size, 2, none⟩ = some (.int .u64 (un (h.x r2))) := hr 2 (by simp)
    have s3 : W8.cell? ⟨w.heap.size, 3, none⟩ = some (.int .i64 op) := hr 3 (by simp)
    have s4 : W8.cell? ⟨w.heap.size, 4, none⟩ = some (.bool aq) := hr 4 (by simp)
    have s5 : W8.cell? ⟨w.heap.size, 5, none⟩ = some (.bool rl) := hr 5 (by simp)
    have s6 : W8.cell? ⟨w.heap.size, 6, none⟩ = some (.int .i64 0) := hr 6 (by simp)
    have s7 : W8.cell? ⟨w.heap.size, 7, none⟩ = some (.int .i64 0) := hr 7 (by simp)
    exact bodyPost_ret (v := .agg #[.int .i64 5, .int .u64 (un (h.x r1 + bv imm)), .int .u64 (un (h.x r2)), .int .i64 op, .bool aq, .bool rl, .int .i64 0, .int .i64 0]) (by simp [results, Tryz.results24, go_sem, s0, s1, s2, s3, s4, s5, s6, s7]) rfl ⟨rfl, hbl⟩
  · change Exit.then _ _ _ _ (World.setCells w4 w3.heap.size 0 [.int .i64 5, .int .u64 (un (h.x r1 + bv imm)), .int .u64 (un (h.x r2)), .int .i64 op, .bool aq, .bool rl, .int .i64 0, .int .i64 0])
    have hA := hA4.setOther (by omega) hn2 [.int .i64 5, .int .u64 (un (h.x r1 + bv imm)), .int .u64 (un (h.x r2)), .int .i64 op, .bool aq, .bool rl, .int .i64 0, .int .i64 0]
    have hu := World.cell?_setCells_in w3.heap.size [.int .i64 5, .int .u64 (un (h.x r1 + bv imm)), .int .u64 (un (h.x r2)), .int .i64 op, .bool aq, .bool rl, .int .i64 0, .int .i64 0] 0 w4 (fun j hj => by
      rcases (show j = 0 ∨ j = 1 ∨ j = 2 ∨ j = 3 ∨ j = 4 ∨ j = 5 ∨ j = 6 ∨ j = 7 by simp at hj; omega) with rfl | rfl | rfl | rfl | rfl | rfl | rfl | rfl
      · exact Option.isSome_iff_exists.2 ⟨_, y0⟩
      · exact Option.isSome_iff_exists.2 ⟨_, y1⟩
      · exact Option.isSome_iff_exists.2 ⟨_, y2⟩
      · exact Option.isSome_iff_exists.2 ⟨_, y3⟩
      · exact Option.isSome_iff_exists.2 ⟨_, y4⟩
      · exact Option.isSome_iff_exists.2 ⟨_, y5⟩
      · exact Option.isSome_iff_exists.2 ⟨_, y6⟩
      · exact Option.isSome_iff_exists.2 ⟨_, y7⟩)
    generalize World.setCells w4 w3.heap.size 0 [.int .i64 5, .int .u64 (un (h.x r1 + bv imm)), .int .u64 (un (h.x r2)), .int .i64 op, .bool aq, .bool rl, .int .i64 0, .int .i64 0] = W5 at hA hu ⊢
    have u0 : W5.cell? ⟨w3.heap.size, 0, none⟩ = some (.int .i64 5) := hu 0 (by simp)
    have u1 : W5.cell? ⟨w3.heap.size, 1, none⟩ = some (.int .u64 (un (h.x r1 + bv imm))) := hu 1 (by simp)
    have u2 : W5.cell? ⟨w3.heap.size, 2, none⟩ = some (.int .u64 (un (h.x r2))) := hu 2 (by simp)
    have u3 : W5.cell? ⟨w3.heap.size, 3, none⟩ = some (.int .i64 op) := hu 3 (by simp)
    have u4 : W5.cell? ⟨w3.heap.size, 4, none⟩ = some (.bool aq) := hu 4 (by simp)
    have u5 : W5.cell? ⟨w3.heap.size, 5, none⟩ = some (.bool rl) := hu 5 (by simp)
    have u6 : W5.cell? ⟨w3.heap.size, 6, none⟩ = some (.int .i64 0) := hu 6 (by simp)
    have u7 : W5.cell? ⟨w3.heap.size, 7, none⟩ = some (.int .i64 0) := hu 7 (by simp)
    obtain ⟨x1, x2, x17, x10, c0, c1, c2, c3, c4, c5, c6, c7, c8, z0, z1, z2, z3, z4, z5, z6, z7, f0, f1, f2, f3, f4, f5, f6, f7⟩ := hA.facts hr1 hr2
    go_wp2
    change bodyPost _ _ _ _ _ (World.setCells W5 w.heap.size 0 [.int .i64 5, .int .u64 (un (h.x r1 + bv imm)), .int .u64 (un (h.x r2)), .int .i64 op, .bool aq, .bool rl, .int .i64 0, .int .i64 0])
    have hr := World.cell?_setCells_in w.heap.size [.int .i64 5, .int .u64 (un (h.x r1 + bv imm)), .int .u64 (un (h.x r2)), .int .i64 op, .bool aq, .bool rl, .int .i64 0, .int .i64 0] 0 W5 (fun j hj => hA.some j hj)
    have hbl := below_setCells (Nat.le_refl w.heap.size) [.int .i64 5, .int .u64 (un (h.x r1 + bv imm)), .int .u64 (un (h.x r2)), .int .i64 op, .bool aq, .bool rl, .int .i64 0, .int .i64 0] 0 W5 hA.bl
    generalize World.setCells W5 w.heap.size 0 [.int .i64 5, .int .u64 (un (h.x r1 + bv imm)), .int .u64 (un (h.x r2)), .int .i64 op, .bool aq, .bool rl, .int .i64 0, .int .i64 0] = W8 at hr hbl ⊢
    have s0 : W8.cell? ⟨w.heap.size, 0, none⟩ = some (.int .i64 5) := hr 0 (by simp)
    have s1 : W8.cell? ⟨w.heap.size, 1, none⟩ = some (.int .u64 (un (h.x r1 + bv imm))) := hr 1 (by simp)
    have s2 : W8.cell? ⟨w.heap.size, 2, none⟩ = some (.int .u64 (un (h.x r2))) := hr 2 (by simp)
    have s3 : W8.cell? ⟨w.heap.size, 3, none⟩ = some (.int .i64 op) := hr 3 (by simp)
    have s4 : W8.cell? ⟨w.heap.size, 4, none⟩ = some (.bool aq) := hr 4 (by simp)
    have s5 : W8.cell? ⟨w.heap.size, 5, none⟩ = some (.bool rl) := hr 5 (by simp)
    have s6 : W8.cell? ⟨w.heap.size, 6, none⟩ = some (.int .i64 0) := hr 6 (by simp)
    have s7 : W8.cell? ⟨w.heap.size, 7, none⟩ = some (.int .i64 0) := hr 7 (by simp)
    exact bodyPost_ret (v := .agg #[.int .i64 5, .int .u64 (un (h.x r1 + bv imm)), .int .u64 (un (h.x r2)), .int .i64 op, .bool aq, .bool rl, .int .i64 0, .int .i64 0]) (by simp [results, Tryz.results24, go_sem, s0, s1, s2, s3, s4, s5, s6, s7]) rfl ⟨rfl, hbl⟩
end
end Go.Proofs.YtbglinhglnbfmaaGreatDoor
namespace Go.Proofs.YtbglinhglnbfmaaGreatDoor
open Go.RowKit
attribute [local go_sem] wrap_u64_bv bv_un bv_sn bv_add bv_mul bv_neg bv_sub mul_bvpow shr_min shl_min sshr_min bv_lit bv_0 bv_1 un_shr sn_shr wrap_i64_un bits_u64_and bits_u64_or bits_u64_xor bits_u64_andNot bv_max u64_unsigned
section
attribute [local irreducible] un sn
set_option maxRecDepth 100000 in
set_option maxHeartbeats 8000000 in
theorem ask_12x (b : Nat) (h : HartV) (op rd : Int) (r1 r2 : Nat) (imm : Int) (aq rl : Bool) (pred succ : Int) (w : World) (hW : WK b h ⟨op, rd, r1, r2, imm, aq, rl, pred, succ⟩ w) (ht : Tabs w) (hop : op ≤ 9223372036854775807) (hr1 : r1 < 32) (hr2 : r2 < 32) (n : BitVec 64) (k : Int) (hk : k ≠ 0) (hn : nextR h ⟨op, rd, r1, r2, imm, aq, rl, pred, succ⟩ = some n) (hf : (opOf op).form = 12) (ha : addrE h ⟨op, rd, r1, r2, imm, aq, rl, pred, succ⟩ = k) :
    Calls Tryz.prog 24 #[.pointer (some ⟨b, 0, none⟩)] w fun e w' => e = .panicked (thrown k) ∧ Below w.heap.size w w' := by
  have hA0 := AK.start hW 42 27
  have hWz := hW.keep ((Below.refl w.heap.size w).alloc (Nat.le_refl _) (.cells #[.int .i64 0, .int .u64 0, .int .u64 0, .int .i64 0, .bool false, .bool false, .int .i64 0, .int .i64 0] 42))
  have i0 : _ = some (Value.int .i64 op) := hWz.i 0 (by decide)
  have i1 : _ = some (Value.int .i64 rd) := hWz.i 1 (by decide)
  have i2 : _ = some (Value.int .i64 r1) := hWz.i 2 (by decide)
  have i3 : _ = some (Value.int .i64 r2) := hWz.i 3 (by decide)
  have i4 : _ = some (Value.int .i64 imm) := hWz.i 4 (by decide)
  have i5 : _ = some (Value.bool aq) := hWz.i 5 (by decide)
  have i6 : _ = some (Value.bool rl) := hWz.i 6 (by decide)
  have i7 : _ = some (Value.int .i64 pred) := hWz.i 7 (by decide)
  have i8 : _ = some (Value.int .i64 succ) := hWz.i 8 (by decide)
  have hlt : 0 ≤ (r1 : Int) ∧ (r1 : Int) < 32 := by omega
  have hlt2 : 0 ≤ (r2 : Int) ∧ (r2 : Int) < 32 := by omega
  have hFm := Lib.hid (fun W (hW : Tabs W) => Form_any op hop W hW)
  have hNx : Hid (∀ W, AK w b h ⟨op, rd, r1, r2, imm, aq, rl, pred, succ⟩ W → Calls Tryz.prog 25 #[.pointer (some ⟨b, 0, none⟩)] W fun e w' => e = .returned (.int .u64 (un n)) ∧ Below W.heap.size W w') := Lib.hid fun W hA => by
    have := next_any b h op rd r1 r2 imm aq rl pred succ W hA.wk (ht.later hA.bl (Nat.le_refl _)) hop hr1 hr2
    rw [hn] at this; exact this
  have hAd : Hid (∀ W, AK w b h ⟨op, rd, r1, r2, imm, aq, rl, pred, succ⟩ W → Calls Tryz.prog 39 #[.pointer (some ⟨b, 0, none⟩)] W fun e w' => e = .panicked (thrown k) ∧ Below W.heap.size W w') := Lib.hid fun W hA => by
    have := address_any b h op rd r1 r2 imm aq rl pred succ W hA.wk (ht.later hA.bl (Nat.le_refl _)) hop hr1
    rw [ha, if_neg hk] at this; exact this
  rw [hf] at hFm
  clear hf
  clear hW hWz hop
  go_enter Tryz.func24, Tryz.ntmps24
  go_wp2_with (first | (go_at_call 25; refine (hNx.out _ hA0).mono ?_; rintro e w2 ⟨rfl, hb2⟩; have hA := hA0.keep hb2; have c0 : w2.cell? ⟨w.heap.size + 1, 0, none⟩ = some (.int .i64 op) := hA.c 0 (by decide)) | (go_at_call 38; refine (hFm.out _ (ht.later hA.bl (Nat.le_refl _))).mono ?_; rintro e w3 ⟨rfl, hb3⟩; have hA := hA.keep hb3; obtain ⟨x1, x2, x17, x10, c0, c1, c2, c3, c4, c5, c6, c7, c8, z0, z1, z2, z3, z4, z5, z6, z7, f0, f1, f2, f3, f4, f5, f6, f7⟩ := hA.facts hr1 hr2) | (go_at_call 39; refine (hAd.out _ hA).mono ?_; rintro e w4 ⟨rfl, hb4⟩; have hA := hA.keep hb4; obtain ⟨x1, x2, x17, x10, c0, c1, c2, c3, c4, c5, c6, c7, c8, z0, z1, z2, z3, z4, z5, z6, z7, f0, f1, f2, f3, f4, f5, f6, f7⟩ := hA.facts hr1 hr2))
  refine wp_region_held_drew (S := fun W => AK w b h ⟨op, rd, r1, r2, imm, aq, rl, pred, succ⟩ W) (by kernel_rfl) hA.drew (fun hHeld => ?_)
  refine wpAnyH_take (i := 0) (v := .pointer (some ⟨b, 0, none⟩)) rfl (by kernel_rfl) (by kernel_rfl) (by kernel_rfl) (fun _ _ _ h => h) (Or.inl ⟨by rfl, fun W _ => by kernel_rfl⟩) hHeld ?_
  try simp only [Act.put, List.getElem_toArray, List.getElem_cons_zero, List.setIfInBounds_toArray, List.set_cons_zero, List.set_cons_succ]
  refine wpAnyH_take (i := 2) (v := .pointer (some ⟨b, 0, none⟩)) rfl (by kernel_rfl) (by kernel_rfl) (by kernel_rfl) (fun _ _ _ h => h) (Or.inl ⟨by rfl, fun W _ => by kernel_rfl⟩) hHeld ?_
  try simp only [Act.put, List.getElem_toArray, List.getElem_cons_succ, List.getElem_cons_zero, List.setIfInBounds_toArray, List.set_cons_zero, List.set_cons_succ]
  refine wpAnyH_take (i := 3) (v := .pointer (some ⟨w.heap.size + 1, 3, none⟩)) rfl (by kernel_rfl) (by kernel_rfl) (by kernel_rfl) (fun _ _ _ h => h) (Or.inl ⟨by rfl, fun W _ => by kernel_rfl⟩) hHeld ?_
  try simp only [Act.put, List.getElem_toArray, List.getElem_cons_succ, List.getElem_cons_zero, List.setIfInBounds_toArray, List.set_cons_zero, List.set_cons_succ]
  refine wpAnyH_take (i := 4) (v := .int .i64 r2) rfl (by kernel_rfl) (by kernel_rfl) (by kernel_rfl) (fun _ _ _ h => h) (Or.inl ⟨by rfl, fun W hS => by (have k : W.cell? ⟨w.heap.size + 1, 3, none⟩ = some (.int .i64 r2) := hS.c 3 (by decide)); go_simp⟩) hHeld ?_
  try simp only [Act.put, List.getElem_toArray, List.getElem_cons_succ, List.getElem_cons_zero, List.setIfInBounds_toArray, List.set_cons_zero, List.set_cons_succ]
  refine wpAnyH_take (i := 10) (v := .pointer (some ⟨w.heap.size + 1, 0, none⟩)) rfl (by kernel_rfl) (by kernel_rfl) (by kernel_rfl) (fun _ _ _ h => h) (Or.inl ⟨by rfl, fun W _ => by kernel_rfl⟩) hHeld ?_
  try simp only [Act.put, List.getElem_toArray, List.getElem_cons_succ, List.getElem_cons_zero, List.setIfInBounds_toArray, List.set_cons_zero, List.set_cons_succ]
  refine wpAnyH_take (i := 11) (v := .int .i64 op) rfl (by kernel_rfl) (by kernel_rfl) (by kernel_rfl) (fun _ _ _ h => h) (Or.inl ⟨by rfl, fun W hS => by (have k : W.cell? ⟨w.heap.size + 1, 0, none⟩ = some (.int .i64 op) := hS.c 0 (by decide)); go_simp⟩) hHeld ?_
  try simp only [Act.put, List.getElem_toArray, List.getElem_cons_succ, List.getElem_cons_zero, List.setIfInBounds_toArray, List.set_cons_zero, List.set_cons_succ]
  refine wpAnyH_take (i := 12) (v := .pointer (some ⟨w.heap.size + 1, 5, none⟩)) rfl (by kernel_rfl) (by kernel_rfl) (by kernel_rfl) (fun _ _ _ h => h) (Or.inl ⟨by rfl, fun W _ => by kernel_rfl⟩) hHeld ?_
  try simp only [Act.put, List.getElem_toArray, List.getElem_cons_succ, List.getElem_cons_zero, List.setIfInBounds_toArray, List.set_cons_zero, List.set_cons_succ]
  refine wpAnyH_take (i := 13) (v := .bool aq) rfl (by kernel_rfl) (by kernel_rfl) (by kernel_rfl) (fun _ _ _ h => h) (Or.inl ⟨by rfl, fun W hS => by (have k : W.cell? ⟨w.heap.size + 1, 5, none⟩ = some (.bool aq) := hS.c 5 (by decide)); go_simp⟩) hHeld ?_
  try simp only [Act.put, List.getElem_toArray, List.getElem_cons_succ, List.getElem_cons_zero, List.setIfInBounds_toArray, List.set_cons_zero, List.set_cons_succ]
  refine wpAnyH_take (i := 14) (v := .pointer (some ⟨w.heap.size + 1, 6, none⟩)) rfl (by kernel_rfl) (by kernel_rfl) (by kernel_rfl) (fun _ _ _ h => h) (Or.inl ⟨by rfl, fun W _ => by kernel_rfl⟩) hHeld ?_
  try simp only [Act.put, List.getElem_toArray, List.getElem_cons_succ, List.getElem_cons_zero, List.setIfInBounds_toArray, List.set_cons_zero, List.set_cons_succ]
  refine wpAnyH_take (i := 15) (v := .bool rl) rfl (by kernel_rfl) (by kernel_rfl) (by kernel_rfl) (fun _ _ _ h => h) (Or.inl ⟨by rfl, fun W hS => by (have k : W.cell? ⟨w.heap.size + 1, 6, none⟩ = some (.bool rl) := hS.c 6 (by decide)); go_simp⟩) hHeld ?_
  try simp only [Act.put, List.getElem_toArray, List.getElem_cons_succ, List.getElem_cons_zero, List.setIfInBounds_toArray, List.set_cons_zero, List.set_cons_succ]
  refine wpAnyH_take (i := 5) (v := .pointer (some ⟨b, 0, none⟩)) rfl (by kernel_rfl) (by kernel_rfl) (by kernel_rfl) (fun _ _ _ h => h) (Or.inl ⟨by rfl, fun W _ => by kernel_rfl⟩) hHeld ?_
  try simp only [Act.put, List.getElem_toArray, List.getElem_cons_succ, List.getElem_cons_zero, List.setIfInBounds_toArray, List.set_cons_zero, List.set_cons_succ]
  refine wpAnyH_take (i := 6) (v := .pointer (some ⟨b, 0, none⟩)) rfl (by kernel_rfl) (by kernel_rfl) (by kernel_rfl) (fun _ _ _ h => h) (Or.inl ⟨by rfl, fun W _ => by kernel_rfl⟩) hHeld ?_
  try simp only [Act.put, List.getElem_toArray, List.getElem_cons_succ, List.getElem_cons_zero, List.setIfInBounds_toArray, List.set_cons_zero, List.set_cons_succ]
  refine wpAnyH_take (i := 7) (v := .pointer (some ⟨b, 1, none⟩)) rfl (by kernel_rfl) (by kernel_rfl) (by kernel_rfl) (fun _ _ _ h => h) (Or.inl ⟨by rfl, fun W _ => by kernel_rfl⟩) hHeld ?_
  try simp only [Act.put, List.getElem_toArray, List.getElem_cons_succ, List.getElem_cons_zero, List.setIfInBounds_toArray, List.set_cons_zero, List.set_cons_succ]
  refine wpAnyH_take (i := 8) (v := .pointer (some ⟨b, 1 + r2, none⟩)) rfl (by kernel_rfl) (by kernel_rfl) (by kernel_rfl) (fun _ _ _ h => h) (Or.inl ⟨by rfl, fun W _ => by go_simp⟩) hHeld ?_
  try simp only [Act.put, List.getElem_toArray, List.getElem_cons_succ, List.getElem_cons_zero, List.setIfInBounds_toArray, List.set_cons_zero, List.set_cons_succ]
  refine wpAnyH_take (i := 9) (v := .int .u64 (un (h.x r2))) rfl (by kernel_rfl) (by kernel_rfl) (by kernel_rfl) (fun _ _ _ h => h) (Or.inl ⟨by rfl, fun W hS => by (have k : W.cell? ⟨b, 1 + r2, none⟩ = some (.int .u64 (un (h.x r2))) := by rw [hS.wk.c (1 + r2) (by omega), hartCell_x h r2 hr2]); go_simp⟩) hHeld ?_
  try simp only [Act.put, List.getElem_toArray, List.getElem_cons_succ, List.getElem_cons_zero, List.setIfInBounds_toArray, List.set_cons_zero, List.set_cons_succ]
  refine wpAnyH_ready (rs := [1, 17]) (by kernel_rfl) (by simp) ?_
  refine AllReadyH.cons rfl (fun K hK2 => ?_) ?_
  · rw [if_pos (by rfl)]
    simp only [List.getElem_toArray, List.getElem_cons_succ, List.getElem_cons_zero]
    go_wp2_with (go_at_call 39; refine (hAd.out _ hHeld).mono ?_; rintro e w4 ⟨rfl, hb4⟩)
    exact ⟨rfl, rfl, (hHeld.keep hb4).bl⟩
  refine AllReadyH.cons rfl (fun K hK2 => ?_) ?_
  · rw [if_pos (by rfl)]
    simp only [List.getElem_toArray, List.getElem_cons_succ, List.getElem_cons_zero]
    go_simp
    refine hK2.out _ _ (hHeld.keep ((Below.refl _ _).alloc (Nat.le_refl _) _)) (fun hHeld2 => ?_)
    clear hK2 K hHeld
    have hHeld := hHeld2
    clear hHeld2
    try simp only [Act.put, List.getElem_toArray, List.getElem_cons_succ, List.getElem_cons_zero, List.setIfInBounds_toArray, List.set_cons_zero, List.set_cons_succ]
    refine wpAnyH_ready (rs := [1]) (by kernel_rfl) (by simp) ?_
    refine AllReadyH.cons rfl (fun K hK2 => ?_) ?_
    · rw [if_pos (by rfl)]
      simp only [List.getElem_toArray, List.getElem_cons_succ, List.getElem_cons_zero]
      go_wp2_with (go_at_call 39; refine (hAd.out _ hHeld).mono ?_; rintro e w4 ⟨rfl, hb4⟩)
      exact ⟨rfl, rfl, (hHeld.keep hb4).bl⟩
    exact AllReadyH.nil
  exact AllReadyH.nil
end
end Go.Proofs.YtbglinhglnbfmaaGreatDoor
namespace Go.Proofs.YtbglinhglnbfmaaGreatDoor
open Go.RowKit
attribute [local go_sem] wrap_u64_bv bv_un bv_sn bv_add bv_mul bv_neg bv_sub mul_bvpow shr_min shl_min sshr_min bv_lit bv_0 bv_1 un_shr sn_shr wrap_i64_un bits_u64_and bits_u64_or bits_u64_xor bits_u64_andNot bv_max u64_unsigned
theorem AK.set1 {w W : World} {b a : Nat} {h : HartV} {i : InsnV} (hA : AK w b h i W) (h1 : w.heap.size + 2 ≤ a) (h2 : a ≠ b) (o : Nat) (v : Value) : AK w b h i (W.setCell ⟨a, o, none⟩ v) := by
  have c : ∀ x j, x ≠ a → (W.setCell ⟨a, o, none⟩ v).cell? ⟨x, j, none⟩ = W.cell? ⟨x, j, none⟩ := fun x j hx => World.cell?_setCells_out a [v] o W ⟨x, j, none⟩ (fun e => absurd e hx)
  have f : ∀ x j, (W.setCell ⟨a, o, none⟩ v).frozen? ⟨x, j, none⟩ = W.frozen? ⟨x, j, none⟩ := fun x j => World.frozen?_setCells a [v] o W ⟨x, j, none⟩
  have sz : W.heap.size ≤ (W.setCell ⟨a, o, none⟩ v).heap.size := (below_setCells (Nat.zero_le a) [v] o W (Below.refl 0 W)).size
  refine ⟨⟨Nat.lt_of_lt_of_le hA.wk.lt sz, fun j hj => by rw [c _ _ (Ne.symm h2)]; exact hA.wk.c j hj, fun j hj => by rw [c _ _ (Ne.symm h2)]; exact hA.wk.i j hj, fun j hj => by rw [f]; exact hA.wk.f j hj⟩, fun j hj => by rw [c _ _ (by omega)]; exact hA.z j hj, fun j hj => by rw [f]; exact hA.zf j hj, fun j hj => by rw [c _ _ (by omega)]; exact hA.c j hj, below_setCells (by omega) [v] o W hA.bl, Nat.le_trans hA.sz sz⟩
theorem fresh_thaw (w : World) (cs : Array Value) (t : TypeId) (j : Nat) : (w.alloc (.cells cs t)).frozen? ⟨w.heap.size, j, none⟩ = false := by
  rw [frozen?_alloc_cells]; unfold World.frozen?; rw [Array.getElem?_eq_none (Nat.le_refl _)]
theorem fresh8n {w3 w4 : World} {t : TypeId} (hb4 : Below (w3.alloc (.cells #[.int .i64 0, .int .u64 0, .int .u64 0, .int .i64 0, .bool false, .bool false, .int .i64 0, .int .i64 0] t)).heap.size (w3.alloc (.cells #[.int .i64 0, .int .u64 0, .int .u64 0, .int .i64 0, .bool false, .bool false, .int .i64 0, .int .i64 0] t)) w4) : w4.cell? ⟨w3.heap.size, 0, none⟩ = some (Value.int .i64 0) ∧ w4.cell? ⟨w3.heap.size, 1, none⟩ = some (Value.int .u64 0) ∧ w4.cell? ⟨w3.heap.size, 2, none⟩ = some (Value.int .u64 0) ∧ w4.cell? ⟨w3.heap.size, 3, none⟩ = some (Value.int .i64 0) ∧ w4.cell? ⟨w3.heap.size, 4, none⟩ = some (Value.bool false) ∧ w4.cell? ⟨w3.heap.size, 5, none⟩ = some (Value.bool false) ∧ w4.cell? ⟨w3.heap.size, 6, none⟩ = some (Value.int .i64 0) ∧ w4.cell? ⟨w3.heap.size, 7, none⟩ = some (Value.int .i64 0) ∧ w4.frozen? ⟨w3.heap.size, 0, none⟩ = false ∧ w4.frozen? ⟨w3.heap.size, 1, none⟩ = false ∧ w4.frozen? ⟨w3.heap.size, 2, none⟩ = false ∧ w4.frozen? ⟨w3.heap.size, 3, none⟩ = false ∧ w4.frozen? ⟨w3.heap.size, 4, none⟩ = false ∧ w4.frozen? ⟨w3.heap.size, 5, none⟩ = false ∧ w4.frozen? ⟨w3.heap.size, 6, none⟩ = false ∧ w4.frozen? ⟨w3.heap.size, 7, none⟩ = false := by
  have hs : w3.heap.size < (w3.alloc (.cells #[.int .i64 0, .int .u64 0, .int .u64 0, .int .i64 0, .bool false, .bool false, .int .i64 0, .int .i64 0] t)).heap.size := by simp
  have c : ∀ j, w4.cell? ⟨w3.heap.size, j, none⟩ = #[.int .i64 0, .int .u64 0, .int .u64 0, .int .i64 0, .bool false, .bool false, .int .i64 0, .int .i64 0][j]? := fun j => by
    rw [hb4.cell (p := ⟨w3.heap.size, j, none⟩) hs]; exact World.cell?_alloc_new w3 _ t j
  have f : ∀ j, w4.frozen? ⟨w3.heap.size, j, none⟩ = false := fun j => by
    rw [hb4.frozen (p := ⟨w3.heap.size, j, none⟩) hs]; exact fresh_thaw w3 _ t j
  exact ⟨c 0, c 1, c 2, c 3, c 4, c 5, c 6, c 7, f 0, f 1, f 2, f 3, f 4, f 5, f 6, f 7⟩
section
attribute [local irreducible] un sn
set_option maxRecDepth 100000 in
set_option maxHeartbeats 8000000 in
theorem ask_69 (b : Nat) (h : HartV) (op rd : Int) (r1 r2 : Nat) (imm : Int) (aq rl : Bool) (pred succ : Int) (w : World) (hW : WK b h ⟨op, rd, r1, r2, imm, aq, rl, pred, succ⟩ w) (ht : Tabs w) (hop : op ≤ 9223372036854775807) (hr1 : r1 < 32) (hr2 : r2 < 32) (n : BitVec 64) (hn : nextR h ⟨op, rd, r1, r2, imm, aq, rl, pred, succ⟩ = some n) (hf : (opOf op).form = 12) (ha : addrE h ⟨op, rd, r1, r2, imm, aq, rl, pred, succ⟩ = 0) (h69 : op = 69) :
    Calls Tryz.prog 24 #[.pointer (some ⟨b, 0, none⟩)] w fun e w' => e = .returned (.agg #[.int .i64 4, .int .u64 (un (h.x r1 + bv imm)), .int .u64 (un (h.x r2)), .int .i64 0, .bool aq, .bool rl, .int .i64 0, .int .i64 0]) ∧ Below w.heap.size w w' := by
  have hA0 := AK.start hW 42 27
  have hWz := hW.keep ((Below.refl w.heap.size w).alloc (Nat.le_refl _) (.cells #[.int .i64 0, .int .u64 0, .int .u64 0, .int .i64 0, .bool false, .bool false, .int .i64 0, .int .i64 0] 42))
  have i0 : _ = some (Value.int .i64 op) := hWz.i 0 (by decide)
  have i1 : _ = some (Value.int .i64 rd) := hWz.i 1 (by decide)
  have i2 : _ = some (Value.int .i64 r1) := hWz.i 2 (by decide)
  have i3 : _ = some (Value.int .i64 r2) := hWz.i 3 (by decide)
  have i4 : _ = some (Value.int .i64 imm) := hWz.i 4 (by decide)
  have i5 : _ = some (Value.bool aq) := hWz.i 5 (by decide)
  have i6 : _ = some (Value.bool rl) := hWz.i 6 (by decide)
  have i7 : _ = some (Value.int .i64 pred) := hWz.i 7 (by decide)
  have i8 : _ = some (Value.int .i64 succ) := hWz.i 8 (by decide)
  have hlt : 0 ≤ (r1 : Int) ∧ (r1 : Int) < 32 := by omega
  have hlt2 : 0 ≤ (r2 : Int) ∧ (r2 : Int) < 32 := by omega
  have hFm := Lib.hid (fun W (hW : Tabs W) => Form_any op hop W hW)
  have hNx : Hid (∀ W, AK w b h ⟨op, rd, r1, r2, imm, aq, rl, pred, succ⟩ W → Calls Tryz.prog 25 #[.pointer (some ⟨b, 0, none⟩)] W fun e w' => e = .returned (.int .u64 (un n)) ∧ Below W.heap.size W w') := Lib.hid fun W hA => by
    have := next_any b h op rd r1 r2 imm aq rl pred succ W hA.wk (ht.later hA.bl (Nat.le_refl _)) hop hr1 hr2
    rw [hn] at this; exact this
  have hAd : Hid (∀ W, AK w b h ⟨op, rd, r1, r2, imm, aq, rl, pred, succ⟩ W → Calls Tryz.prog 39 #[.pointer (some ⟨b, 0, none⟩)] W fun e w' => e = .returned (.int .u64 (un (h.x r1 + bv imm))) ∧ Below W.heap.size W w') := Lib.hid fun W hA => by
    have := address_any b h op rd r1 r2 imm aq rl pred succ W hA.wk (ht.later hA.bl (Nat.le_refl _)) hop hr1
    rw [ha] at this; exact this
  rw [hf] at hFm
  clear hf
  have hblt := hW.lt
  have t69 : (op == 69) = true := by rw [h69]; rfl
  clear h69
  clear hW hWz hop
  go_enter Tryz.func24, Tryz.ntmps24
  go_wp2_with (first | (go_at_call 25; refine (hNx.out _ hA0).mono ?_; rintro e w2 ⟨rfl, hb2⟩; have hA := hA0.keep hb2; have c0 : w2.cell? ⟨w.heap.size + 1, 0, none⟩ = some (.int .i64 op) := hA.c 0 (by decide)) | (go_at_call 38; refine (hFm.out _ (ht.later hA.bl (Nat.le_refl _))).mono ?_; rintro e w3 ⟨rfl, hb3⟩; have hA := hA.keep hb3; obtain ⟨x1, x2, x17, x10, c0, c1, c2, c3, c4, c5, c6, c7, c8, z0, z1, z2, z3, z4, z5, z6, z7, f0, f1, f2, f3, f4, f5, f6, f7⟩ := hA.facts hr1 hr2) | (go_at_call 39; refine (hAd.out _ hA).mono ?_; rintro e w4 ⟨rfl, hb4⟩; have hA := hA.keep hb4; obtain ⟨x1, x2, x17, x10, c0, c1, c2, c3, c4, c5, c6, c7, c8, z0, z1, z2, z3, z4, z5, z6, z7, f0, f1, f2, f3, f4, f5, f6, f7⟩ := hA.facts hr1 hr2))
  refine wp_region_held_drew (S := fun W => AK w b h ⟨op, rd, r1, r2, imm, aq, rl, pred, succ⟩ W) (by kernel_rfl) hA.drew (fun hHeld => ?_)
  refine wpAnyH_take (i := 0) (v := .pointer (some ⟨b, 0, none⟩)) rfl (by kernel_rfl) (by kernel_rfl) (by kernel_rfl) (fun _ _ _ h => h) (Or.inl ⟨by rfl, fun W _ => by kernel_rfl⟩) hHeld ?_
  try simp only [Act.put, List.getElem_toArray, List.getElem_cons_zero, List.setIfInBounds_toArray, List.set_cons_zero, List.set_cons_succ]
  refine wpAnyH_take (i := 2) (v := .pointer (some ⟨b, 0, none⟩)) rfl (by kernel_rfl) (by kernel_rfl) (by kernel_rfl) (fun _ _ _ h => h) (Or.inl ⟨by rfl, fun W _ => by kernel_rfl⟩) hHeld ?_
  try simp only [Act.put, List.getElem_toArray, List.getElem_cons_succ, List.getElem_cons_zero, List.setIfInBounds_toArray, List.set_cons_zero, List.set_cons_succ]
  refine wpAnyH_take (i := 3) (v := .pointer (some ⟨w.heap.size + 1, 3, none⟩)) rfl (by kernel_rfl) (by kernel_rfl) (by kernel_rfl) (fun _ _ _ h => h) (Or.inl ⟨by rfl, fun W _ => by kernel_rfl⟩) hHeld ?_
  try simp only [Act.put, List.getElem_toArray, List.getElem_cons_succ, List.getElem_cons_zero, List.setIfInBounds_toArray, List.set_cons_zero, List.set_cons_succ]
  refine wpAnyH_take (i := 4) (v := .int .i64 r2) rfl (by kernel_rfl) (by kernel_rfl) (by kernel_rfl) (fun _ _ _ h => h) (Or.inl ⟨by rfl, fun W hS => by (have k : W.cell? ⟨w.heap.size + 1, 3, none⟩ = some (.int .i64 r2) := hS.c 3 (by decide)); go_simp⟩) hHeld ?_
  try simp only [Act.put, List.getElem_toArray, List.getElem_cons_succ, List.getElem_cons_zero, List.setIfInBounds_toArray, List.set_cons_zero, List.set_cons_succ]
  refine wpAnyH_take (i := 10) (v := .pointer (some ⟨w.heap.size + 1, 0, none⟩)) rfl (by kernel_rfl) (by kernel_rfl) (by kernel_rfl) (fun _ _ _ h => h) (Or.inl ⟨by rfl, fun W _ => by kernel_rfl⟩) hHeld ?_
  try simp only [Act.put, List.getElem_toArray, List.getElem_cons_succ, List.getElem_cons_zero, List.setIfInBounds_toArray, List.set_cons_zero, List.set_cons_succ]
  refine wpAnyH_take (i := 11) (v := .int .i64 op) rfl (by kernel_rfl) (by kernel_rfl) (by kernel_rfl) (fun _ _ _ h => h) (Or.inl ⟨by rfl, fun W hS => by (have k : W.cell? ⟨w.heap.size + 1, 0, none⟩ = some (.int .i64 op) := hS.c 0 (by decide)); go_simp⟩) hHeld ?_
  try simp only [Act.put, List.getElem_toArray, List.getElem_cons_succ, List.getElem_cons_zero, List.setIfInBounds_toArray, List.set_cons_zero, List.set_cons_succ]
  refine wpAnyH_take (i := 12) (v := .pointer (some ⟨w.heap.size + 1, 5, none⟩)) rfl (by kernel_rfl) (by kernel_rfl) (by kernel_rfl) (fun _ _ _ h => h) (Or.inl ⟨by rfl, fun W _ => by kernel_rfl⟩) hHeld ?_
  try simp only [Act.put, List.getElem_toArray, List.getElem_cons_succ, List.getElem_cons_zero, List.setIfInBounds_toArray, List.set_cons_zero, List.set_cons_succ]
  refine wpAnyH_take (i := 13) (v := .bool aq) rfl (by kernel_rfl) (by kernel_rfl) (by kernel_rfl) (fun _ _ _ h => h) (Or.inl ⟨by rfl, fun W hS => by (have k : W.cell? ⟨w.heap.size + 1, 5, none⟩ = some (.bool aq) := hS.c 5 (by decide)); go_simp⟩) hHeld ?_
  try simp only [Act.put, List.getElem_toArray, List.getElem_cons_succ, List.getElem_cons_zero, List.setIfInBounds_toArray, List.set_cons_zero, List.set_cons_succ]
  refine wpAnyH_take (i := 14) (v := .pointer (some ⟨w.heap.size + 1, 6, none⟩)) rfl (by kernel_rfl) (by kernel_rfl) (by kernel_rfl) (fun _ _ _ h => h) (Or.inl ⟨by rfl, fun W _ => by kernel_rfl⟩) hHeld ?_
  try simp only [Act.put, List.getElem_toArray, List.getElem_cons_succ, List.getElem_cons_zero, List.setIfInBounds_toArray, List.set_cons_zero, List.set_cons_succ]
  refine wpAnyH_take (i := 15) (v := .bool rl) rfl (by kernel_rfl) (by kernel_rfl) (by kernel_rfl) (fun _ _ _ h => h) (Or.inl ⟨by rfl, fun W hS => by (have k : W.cell? ⟨w.heap.size + 1, 6, none⟩ = some (.bool rl) := hS.c 6 (by decide)); go_simp⟩) hHeld ?_
  try simp only [Act.put, List.getElem_toArray, List.getElem_cons_succ, List.getElem_cons_zero, List.setIfInBounds_toArray, List.set_cons_zero, List.set_cons_succ]
  refine wpAnyH_take (i := 5) (v := .pointer (some ⟨b, 0, none⟩)) rfl (by kernel_rfl) (by kernel_rfl) (by kernel_rfl) (fun _ _ _ h => h) (Or.inl ⟨by rfl, fun W _ => by kernel_rfl⟩) hHeld ?_
  try simp only [Act.put, List.getElem_toArray, List.getElem_cons_succ, List.getElem_cons_zero, List.setIfInBounds_toArray, List.set_cons_zero, List.set_cons_succ]
  refine wpAnyH_take (i := 6) (v := .pointer (some ⟨b, 0, none⟩)) rfl (by kernel_rfl) (by kernel_rfl) (by kernel_rfl) (fun _ _ _ h => h) (Or.inl ⟨by rfl, fun W _ => by kernel_rfl⟩) hHeld ?_
  try simp only [Act.put, List.getElem_toArray, List.getElem_cons_succ, List.getElem_cons_zero, List.setIfInBounds_toArray, List.set_cons_zero, List.set_cons_succ]
  refine wpAnyH_take (i := 7) (v := .pointer (some ⟨b, 1, none⟩)) rfl (by kernel_rfl) (by kernel_rfl) (by kernel_rfl) (fun _ _ _ h => h) (Or.inl ⟨by rfl, fun W _ => by kernel_rfl⟩) hHeld ?_
  try simp only [Act.put, List.getElem_toArray, List.getElem_cons_succ, List.getElem_cons_zero, List.setIfInBounds_toArray, List.set_cons_zero, List.set_cons_succ]
  refine wpAnyH_take (i := 8) (v := .pointer (some ⟨b, 1 + r2, none⟩)) rfl (by kernel_rfl) (by kernel_rfl) (by kernel_rfl) (fun _ _ _ h => h) (Or.inl ⟨by rfl, fun W _ => by go_simp⟩) hHeld ?_
  try simp only [Act.put, List.getElem_toArray, List.getElem_cons_succ, List.getElem_cons_zero, List.setIfInBounds_toArray, List.set_cons_zero, List.set_cons_succ]
  refine wpAnyH_take (i := 9) (v := .int .u64 (un (h.x r2))) rfl (by kernel_rfl) (by kernel_rfl) (by kernel_rfl) (fun _ _ _ h => h) (Or.inl ⟨by rfl, fun W hS => by (have k : W.cell? ⟨b, 1 + r2, none⟩ = some (.int .u64 (un (h.x r2))) := by rw [hS.wk.c (1 + r2) (by omega), hartCell_x h r2 hr2]); go_simp⟩) hHeld ?_
  try simp only [Act.put, List.getElem_toArray, List.getElem_cons_succ, List.getElem_cons_zero, List.setIfInBounds_toArray, List.set_cons_zero, List.set_cons_succ]
  generalize hW1 : World.drew _ = W1 at hHeld ⊢
  refine wpAnyH_ready (rs := [1, 17]) (by kernel_rfl) (by simp) ?_
  refine AllReadyH.cons rfl (fun K hK2 => ?_) ?_
  · rw [if_pos (by rfl)]
    simp only [List.getElem_toArray, List.getElem_cons_succ, List.getElem_cons_zero]
    go_wp2_with (go_at_call 39; refine (hAd.out _ hHeld).mono ?_; rintro e w4 ⟨rfl, hb4⟩)
    refine hK2.out _ _ (hHeld.keep hb4) (fun hHeld2 => ?_)
    clear hK2 K hHeld
    have hHeld := hHeld2
    clear hHeld2
    try simp only [Act.put, List.getElem_toArray, List.getElem_cons_succ, List.getElem_cons_zero, List.setIfInBounds_toArray, List.set_cons_zero, List.set_cons_succ]
    refine wpAnyH_take (i := 16) (v := .agg #[.int .i64 5, .int .u64 (un (h.x r1 + bv imm)), .int .u64 (un (h.x r2)), .int .i64 op, .bool aq, .bool rl, .int .i64 0, .int .i64 0]) rfl (by kernel_rfl) (by kernel_rfl) (by kernel_rfl) (fun _ _ _ h => h) (Or.inl ⟨by rfl, fun W _ => by kernel_rfl⟩) hHeld ?_
    try simp only [Act.put, List.getElem_toArray, List.getElem_cons_succ, List.getElem_cons_zero, List.setIfInBounds_toArray, List.set_cons_zero, List.set_cons_succ]
    refine wpAnyH_ready (rs := [17]) (by kernel_rfl) (by simp) ?_
    refine AllReadyH.cons rfl (fun K hK2 => ?_) ?_
    · rw [if_pos (by rfl)]
      simp only [List.getElem_toArray, List.getElem_cons_succ, List.getElem_cons_zero]
      have hA5 := hHeld.keep ((Below.refl _ _).alloc (Nat.le_refl _) (.cells #[.int .i64 5, .int .u64 (un (h.x r1 + bv imm)), .int .u64 (un (h.x r2)), .int .i64 op, .bool aq, .bool rl, .int .i64 0, .int .i64 0] 42))
      have hu : ∀ j, j < 8 → (w4.alloc (.cells #[.int .i64 5, .int .u64 (un (h.x r1 + bv imm)), .int .u64 (un (h.x r2)), .int .i64 op, .bool aq, .bool rl, .int .i64 0, .int .i64 0] 42)).cell? ⟨w4.heap.size, j, none⟩ = #[.int .i64 5, .int .u64 (un (h.x r1 + bv imm)), .int .u64 (un (h.x r2)), .int .i64 op, .bool aq, .bool rl, .int .i64 0, .int .i64 0][j]? := fun j _ => World.cell?_alloc_new _ _ _ j
      have hg : ∀ j, (w4.alloc (.cells #[.int .i64 5, .int .u64 (un (h.x r1 + bv imm)), .int .u64 (un (h.x r2)), .int .i64 op, .bool aq, .bool rl, .int .i64 0, .int .i64 0] 42)).frozen? ⟨w4.heap.size, j, none⟩ = false := fun j => fresh_thaw _ _ _ j
      have ha2 : w.heap.size + 2 ≤ w4.heap.size := hHeld.sz
      have hna2 : w4.heap.size ≠ b := by have := hHeld.wk.lt; omega
      go_simp
      refine hK2.out _ _ (hHeld.keep ((Below.refl _ _).alloc (Nat.le_refl _) _)) (fun hHeld2 => ?_)
      clear hK2 K hHeld
      have hHeld := hHeld2
      clear hHeld2
      try simp only [Act.put, List.getElem_toArray, List.getElem_cons_succ, List.getElem_cons_zero, List.setIfInBounds_toArray, List.set_cons_zero, List.set_cons_succ]
      refine wpAnyH_ready (rs := [18]) (by kernel_rfl) (by simp) ?_
      refine AllReadyH.cons rfl (fun K hK2 => ?_) ?_
      · rw [if_pos (by rfl)]
        simp only [List.getElem_toArray, List.getElem_cons_succ, List.getElem_cons_zero]
        go_simp
        refine hK2.out _ _ hA5 (fun hHeld2 => ?_)
        clear hK2 K hHeld
        have hHeld := hHeld2
        clear hHeld2
        try simp only [Act.put, List.getElem_toArray, List.getElem_cons_succ, List.getElem_cons_zero, List.setIfInBounds_toArray, List.set_cons_zero, List.set_cons_succ]
        generalize World.alloc w4 (.cells #[.int .i64 5, .int .u64 (un (h.x r1 + bv imm)), .int .u64 (un (h.x r2)), .int .i64 op, .bool aq, .bool rl, .int .i64 0, .int .i64 0] 42) = W5 at hA5 hu hg hHeld ⊢
        generalize w4.heap.size = a at *
        have hna0 : ¬ a = w.heap.size := by omega
        have hna1 : ¬ a = w.heap.size + 1 := by omega
        have hna0s : ¬ w.heap.size = a := by omega
        have hna1s : ¬ w.heap.size + 1 = a := by omega
        refine wpAnyH_done (by kernel_rfl) ?_ _
        obtain ⟨x1, x2, x17, x10, c0, c1, c2, c3, c4, c5, c6, c7, c8, z0, z1, z2, z3, z4, z5, z6, z7, f0, f1, f2, f3, f4, f5, f6, f7⟩ := hA5.facts hr1 hr2
        have u0 : W5.cell? ⟨a, 0, none⟩ = some (.int .i64 5) := hu 0 (by decide)
        have u1 : W5.cell? ⟨a, 1, none⟩ = some (.int .u64 (un (h.x r1 + bv imm))) := hu 1 (by decide)
        have u2 : W5.cell? ⟨a, 2, none⟩ = some (.int .u64 (un (h.x r2))) := hu 2 (by decide)
        have u3 : W5.cell? ⟨a, 3, none⟩ = some (.int .i64 op) := hu 3 (by decide)
        have u4 : W5.cell? ⟨a, 4, none⟩ = some (.bool aq) := hu 4 (by decide)
        have u5 : W5.cell? ⟨a, 5, none⟩ = some (.bool rl) := hu 5 (by decide)
        have u6 : W5.cell? ⟨a, 6, none⟩ = some (.int .i64 0) := hu 6 (by decide)
        have u7 : W5.cell? ⟨a, 7, none⟩ = some (.int .i64 0) := hu 7 (by decide)
        have g0 : W5.frozen? ⟨a, 0, none⟩ = false := hg 0
        have g3 : W5.frozen? ⟨a, 3, none⟩ = false := hg 3
        clear hu hg hHeld
        go_wp2
        have hA := (hA5.set1 ha2 hna2 0 (.int .i64 4)).set1 ha2 hna2 3 (.int .i64 0)
        change bodyPost _ _ _ _ _ (World.setCells ((W5.setCell ⟨a, 0, none⟩ (.int .i64 4)).setCell ⟨a, 3, none⟩ (.int .i64 0)) w.heap.size 0 [.int .i64 4, .int .u64 (un (h.x r1 + bv imm)), .int .u64 (un (h.x r2)), .int .i64 0, .bool aq, .bool rl, .int .i64 0, .int .i64 0])
        have hr := World.cell?_setCells_in w.heap.size [.int .i64 4, .int .u64 (un (h.x r1 + bv imm)), .int .u64 (un (h.x r2)), .int .i64 0, .bool aq, .bool rl, .int .i64 0, .int .i64 0] 0 ((W5.setCell ⟨a, 0, none⟩ (.int .i64 4)).setCell ⟨a, 3, none⟩ (.int .i64 0)) (fun j hj => hA.some j hj)
        have hbl := below_setCells (Nat.le_refl w.heap.size) [.int .i64 4, .int .u64 (un (h.x r1 + bv imm)), .int .u64 (un (h.x r2)), .int .i64 0, .bool aq, .bool rl, .int .i64 0, .int .i64 0] 0 ((W5.setCell ⟨a, 0, none⟩ (.int .i64 4)).setCell ⟨a, 3, none⟩ (.int .i64 0)) hA.bl
        generalize World.setCells ((W5.setCell ⟨a, 0, none⟩ (.int .i64 4)).setCell ⟨a, 3, none⟩ (.int .i64 0)) w.heap.size 0 [.int .i64 4, .int .u64 (un (h.x r1 + bv imm)), .int .u64 (un (h.x r2)), .int .i64 0, .bool aq, .bool rl, .int .i64 0, .int .i64 0] = W8 at hr hbl ⊢
        have s0 : W8.cell? ⟨w.heap.size, 0, none⟩ = some (.int .i64 4) := hr 0 (by simp)
        have s1 : W8.cell? ⟨w.heap.size, 1, none⟩ = some (.int .u64 (un (h.x r1 + bv imm))) := hr 1 (by simp)
        have s2 : W8.cell? ⟨w.heap.size, 2, none⟩ = some (.int .u64 (un (h.x r2))) := hr 2 (by simp)
        have s3 : W8.cell? ⟨w.heap.size, 3, none⟩ = some (.int .i64 0) := hr 3 (by simp)
        have s4 : W8.cell? ⟨w.heap.size, 4, none⟩ = some (.bool aq) := hr 4 (by simp)
        have s5 : W8.cell? ⟨w.heap.size, 5, none⟩ = some (.bool rl) := hr 5 (by simp)
        have s6 : W8.cell? ⟨w.heap.size, 6, none⟩ = some (.int .i64 0) := hr 6 (by simp)
        have s7 : W8.cell? ⟨w.heap.size, 7, none⟩ = some (.int .i64 0) := hr 7 (by simp)
        exact bodyPost_ret (v := .agg #[.int .i64 4, .int .u64 (un (h.x r1 + bv imm)), .int .u64 (un (h.x r2)), .int .i64 0, .bool aq, .bool rl, .int .i64 0, .int .i64 0]) (by simp [results, Tryz.results24, go_sem, s0, s1, s2, s3, s4, s5, s6, s7]) rfl ⟨rfl, hbl⟩
      exact AllReadyH.nil
    exact AllReadyH.nil
  refine AllReadyH.cons rfl (fun K hK2 => ?_) ?_
  · rw [if_pos (by rfl)]
    simp only [List.getElem_toArray, List.getElem_cons_succ, List.getElem_cons_zero]
    have ha2 : w.heap.size + 2 ≤ W1.heap.size := hHeld.sz
    have hna2 : W1.heap.size ≠ b := by have := hHeld.wk.lt; omega
    go_simp
    refine hK2.out _ _ (hHeld.keep ((Below.refl _ _).alloc (Nat.le_refl _) _)) (fun hHeld2 => ?_)
    clear hK2 K hHeld
    have hHeld := hHeld2
    clear hHeld2
    try simp only [Act.put, List.getElem_toArray, List.getElem_cons_succ, List.getElem_cons_zero, List.setIfInBounds_toArray, List.set_cons_zero, List.set_cons_succ]
    refine wpAnyH_ready (rs := [1]) (by kernel_rfl) (by simp) ?_
    refine AllReadyH.cons rfl (fun K hK2 => ?_) ?_
    · rw [if_pos (by rfl)]
      simp only [List.getElem_toArray, List.getElem_cons_succ, List.getElem_cons_zero]
      go_wp2_with (go_at_call 39; refine (hAd.out _ hHeld).mono ?_; rintro e w4 ⟨rfl, hb4⟩)
      have hgz : ∀ j, w4.frozen? ⟨W1.heap.size, j, none⟩ = false := fun j => by rw [hb4.frozen (p := ⟨W1.heap.size, j, none⟩) (by simp)]; exact fresh_thaw _ _ _ j
      obtain ⟨y0, y1, y2, y3, y4, y5, y6, y7, g0, g1, g2, g3, g4, g5, g6, g7⟩ := fresh8n hb4
      generalize W1.heap.size = a at *
      refine hK2.out _ _ (hHeld.keep hb4) (fun hHeld2 => ?_)
      clear hK2 K hHeld
      have hHeld := hHeld2
      clear hHeld2
      try simp only [Act.put, List.getElem_toArray, List.getElem_cons_succ, List.getElem_cons_zero, List.setIfInBounds_toArray, List.set_cons_zero, List.set_cons_succ]
      refine wpAnyH_take (i := 16) (v := .agg #[.int .i64 5, .int .u64 (un (h.x r1 + bv imm)), .int .u64 (un (h.x r2)), .int .i64 op, .bool aq, .bool rl, .int .i64 0, .int .i64 0]) rfl (by kernel_rfl) (by kernel_rfl) (by kernel_rfl) (fun _ _ _ h => h) (Or.inl ⟨by rfl, fun W _ => by kernel_rfl⟩) hHeld ?_
      try simp only [Act.put, List.getElem_toArray, List.getElem_cons_succ, List.getElem_cons_zero, List.setIfInBounds_toArray, List.set_cons_zero, List.set_cons_succ]
      refine wpAnyH_ready (rs := [18]) (by kernel_rfl) (by simp) ?_
      refine AllReadyH.cons rfl (fun K hK2 => ?_) ?_
      · rw [if_pos (by rfl)]
        simp only [List.getElem_toArray, List.getElem_cons_succ, List.getElem_cons_zero]
        have hA5 := hHeld.setOther ha2 hna2 [.int .i64 5, .int .u64 (un (h.x r1 + bv imm)), .int .u64 (un (h.x r2)), .int .i64 op, .bool aq, .bool rl, .int .i64 0, .int .i64 0]
        have hu := World.cell?_setCells_in a [.int .i64 5, .int .u64 (un (h.x r1 + bv imm)), .int .u64 (un (h.x r2)), .int .i64 op, .bool aq, .bool rl, .int .i64 0, .int .i64 0] 0 w4 (fun j hj => by
          rcases (show j = 0 ∨ j = 1 ∨ j = 2 ∨ j = 3 ∨ j = 4 ∨ j = 5 ∨ j = 6 ∨ j = 7 by simp at hj; omega) with rfl | rfl | rfl | rfl | rfl | rfl | rfl | rfl
          · exact Option.isSome_iff_exists.2 ⟨_, y0⟩
          · exact Option.isSome_iff_exists.2 ⟨_, y1⟩
          · exact Option.isSome_iff_exists.2 ⟨_, y2⟩
          · exact Option.isSome_iff_exists.2 ⟨_, y3⟩
          · exact Option.isSome_iff_exists.2 ⟨_, y4⟩
          · exact Option.isSome_iff_exists.2 ⟨_, y5⟩
          · exact Option.isSome_iff_exists.2 ⟨_, y6⟩
          · exact Option.isSome_iff_exists.2 ⟨_, y7⟩)
        have hg : ∀ j, (World.setCells w4 a 0 [.int .i64 5, .int .u64 (un (h.x r1 + bv imm)), .int .u64 (un (h.x r2)), .int .i64 op, .bool aq, .bool rl, .int .i64 0, .int .i64 0]).frozen? ⟨a, j, none⟩ = false := fun j => by rw [World.frozen?_setCells a _ 0 w4 ⟨a, j, none⟩]; exact hgz j
        go_simp
        change K _ (World.setCells w4 a 0 [.int .i64 5, .int .u64 (un (h.x r1 + bv imm)), .int .u64 (un (h.x r2)), .int .i64 op, .bool aq, .bool rl, .int .i64 0, .int .i64 0])
        refine hK2.out _ _ hA5 (fun hHeld2 => ?_)
        clear hK2 K hHeld
        have hHeld := hHeld2
        clear hHeld2
        try simp only [Act.put, List.getElem_toArray, List.getElem_cons_succ, List.getElem_cons_zero, List.setIfInBounds_toArray, List.set_cons_zero, List.set_cons_succ]
        generalize World.setCells w4 a 0 [.int .i64 5, .int .u64 (un (h.x r1 + bv imm)), .int .u64 (un (h.x r2)), .int .i64 op, .bool aq, .bool rl, .int .i64 0, .int .i64 0] = W5 at hA5 hu hg hHeld ⊢
        have hna0 : ¬ a = w.heap.size := by omega
        have hna1 : ¬ a = w.heap.size + 1 := by omega
        have hna0s : ¬ w.heap.size = a := by omega
        have hna1s : ¬ w.heap.size + 1 = a := by omega
        refine wpAnyH_done (by kernel_rfl) ?_ _
        obtain ⟨x1, x2, x17, x10, c0, c1, c2, c3, c4, c5, c6, c7, c8, z0, z1, z2, z3, z4, z5, z6, z7, f0, f1, f2, f3, f4, f5, f6, f7⟩ := hA5.facts hr1 hr2
        have u0 : W5.cell? ⟨a, 0, none⟩ = some (.int .i64 5) := by simpa using hu 0 (by simp)
        have u1 : W5.cell? ⟨a, 1, none⟩ = some (.int .u64 (un (h.x r1 + bv imm))) := by simpa using hu 1 (by simp)
        have u2 : W5.cell? ⟨a, 2, none⟩ = some (.int .u64 (un (h.x r2))) := by simpa using hu 2 (by simp)
        have u3 : W5.cell? ⟨a, 3, none⟩ = some (.int .i64 op) := by simpa using hu 3 (by simp)
        have u4 : W5.cell? ⟨a, 4, none⟩ = some (.bool aq) := by simpa using hu 4 (by simp)
        have u5 : W5.cell? ⟨a, 5, none⟩ = some (.bool rl) := by simpa using hu 5 (by simp)
        have u6 : W5.cell? ⟨a, 6, none⟩ = some (.int .i64 0) := by simpa using hu 6 (by simp)
        have u7 : W5.cell? ⟨a, 7, none⟩ = some (.int .i64 0) := by simpa using hu 7 (by simp)
        have g0 : W5.frozen? ⟨a, 0, none⟩ = false := hg 0
        have g3 : W5.frozen? ⟨a, 3, none⟩ = false := hg 3
        clear hu hg hHeld
        go_wp2
        have hA := (hA5.set1 ha2 hna2 0 (.int .i64 4)).set1 ha2 hna2 3 (.int .i64 0)
        change bodyPost _ _ _ _ _ (World.setCells ((W5.setCell ⟨a, 0, none⟩ (.int .i64 4)).setCell ⟨a, 3, none⟩ (.int .i64 0)) w.heap.size 0 [.int .i64 4, .int .u64 (un (h.x r1 + bv imm)), .int .u64 (un (h.x r2)), .int .i64 0, .bool aq, .bool rl, .int .i64 0, .int .i64 0])
        have hr := World.cell?_setCells_in w.heap.size [.int .i64 4, .int .u64 (un (h.x r1 + bv imm)), .int .u64 (un (h.x r2)), .int .i64 0, .bool aq, .bool rl, .int .i64 0, .int .i64 0] 0 ((W5.setCell ⟨a, 0, none⟩ (.int .i64 4)).setCell ⟨a, 3, none⟩ (.int .i64 0)) (fun j hj => hA.some j hj)
        have hbl := below_setCells (Nat.le_refl w.heap.size) [.int .i64 4, .int .u64 (un (h.x r1 + bv imm)), .int .u64 (un (h.x r2)), .int .i64 0, .bool aq, .bool rl, .int .i64 0, .int .i64 0] 0 ((W5.setCell ⟨a, 0, none⟩ (.int .i64 4)).setCell ⟨a, 3, none⟩ (.int .i64 0)) hA.bl
        generalize World.setCells ((W5.setCell ⟨a, 0, none⟩ (.int .i64 4)).setCell ⟨a, 3, none⟩ (.int .i64 0)) w.heap.size 0 [.int .i64 4, .int .u64 (un (h.x r1 + bv imm)), .int .u64 (un (h.x r2)), .int .i64 0, .bool aq, .bool rl, .int .i64 0, .int .i64 0] = W8 at hr hbl ⊢
        have s0 : W8.cell? ⟨w.heap.size, 0, none⟩ = some (.int .i64 4) := hr 0 (by simp)
        have s1 : W8.cell? ⟨w.heap.size, 1, none⟩ = some (.int .u64 (un (h.x r1 + bv imm))) := hr 1 (by simp)
        have s2 : W8.cell? ⟨w.heap.size, 2, none⟩ = some (.int .u64 (un (h.x r2))) := hr 2 (by simp)
        have s3 : W8.cell? ⟨w.heap.size, 3, none⟩ = some (.int .i64 0) := hr 3 (by simp)
        have s4 : W8.cell? ⟨w.heap.size, 4, none⟩ = some (.bool aq) := hr 4 (by simp)
        have s5 : W8.cell? ⟨w.heap.size, 5, none⟩ = some (.bool rl) := hr 5 (by simp)
        have s6 : W8.cell? ⟨w.heap.size, 6, none⟩ = some (.int .i64 0) := hr 6 (by simp)
        have s7 : W8.cell? ⟨w.heap.size, 7, none⟩ = some (.int .i64 0) := hr 7 (by simp)
        exact bodyPost_ret (v := .agg #[.int .i64 4, .int .u64 (un (h.x r1 + bv imm)), .int .u64 (un (h.x r2)), .int .i64 0, .bool aq, .bool rl, .int .i64 0, .int .i64 0]) (by simp [results, Tryz.results24, go_sem, s0, s1, s2, s3, s4, s5, s6, s7]) rfl ⟨rfl, hbl⟩
      exact AllReadyH.nil
    exact AllReadyH.nil
  exact AllReadyH.nil
end
end Go.Proofs.YtbglinhglnbfmaaGreatDoor
