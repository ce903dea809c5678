/- The walk of hart.Step at a running hart and a valid instruction. Conditions: the library's table of ASCII spaces lies as its initialiser lays it. -/
import Derived.Test.YtbglinhglnbfmaaGreatDoorHartJ
set_option linter.unusedVariables false
namespace Go.Proofs.YtbglinhglnbfmaaGreatDoor
open Go.RowKit
theorem size_hart (h : HartV) : (Tryz.prog.info? 25).map (·.size) = some (hartL h).length := by rw [hartL_len]; kernel_rfl
theorem hartL_size (h : HartV) : (hartL h).toArray.size = 35 := hartArr_size h
theorem there_hart {W : World} {a : Nat} (hz : W.there a 0 35) (h : HartV) : W.there a 0 (hartL h).toArray.size := by rw [hartL_size]; exact hz
theorem size_hartA (h : HartV) : (Tryz.prog.info? 25).map (·.size) = some (hartL h).toArray.size := by rw [hartL_size]; kernel_rfl
theorem result_hart (W : World) (a : Nat) (h : HartV) (hr : W.rangeAt a 0 (hartL h)) : (loadVar 25 ⟨a, 0, none⟩).run Tryz.prog W = .ok (.agg (hartL h).toArray) W := run_loadVar_mid W a 0 25 (hartL h) _ hr Tryz.underlying25 rfl (size_hart h)
section
attribute [local irreducible] un sn
set_option maxRecDepth 100000 in
set_option maxHeartbeats 8000000 in
theorem Step_go (h : HartV) (op : Int) (d r1 r2 : Nat) (imm : Int) (aq rl : Bool) (pred succ : Int) (found : BitVec 64) (won : Bool) (w : World) (ht : Tabs w) (hop : op ≤ 9223372036854775807) (hd : d < 32) (hr1 : r1 < 32) (hr2 : r2 < 32) (hb : hartE h = 0) (hf : h.fin = 0) (hck : checkE ⟨op, d, r1, r2, imm, aq, rl, pred, succ⟩ = 0) (ha : askE h ⟨op, d, r1, r2, imm, aq, rl, pred, succ⟩ = 0) :
    Calls Tryz.prog 9 #[.agg (hartArr h), .agg #[.int .i64 op, .int .i64 d, .int .i64 r1, .int .i64 r2, .int .i64 imm, .bool aq, .bool rl, .int .i64 pred, .int .i64 succ], .int .u64 (un found), .bool won] w fun e w' => e = .returned (.tuple #[.agg (hartArr (stepV h ⟨op, d, r1, r2, imm, aq, rl, pred, succ⟩ found won)), .int .i64 0]) ∧ Below w.heap.size w w' := by
  have hE0 := EK.start w h ⟨op, d, r1, r2, imm, aq, rl, pred, succ⟩ found won 25 27 22 4 25
  obtain ⟨rh, k0, k1, k2, k3, k4, k5, k6, k7, k8⟩ := hE0.facts
  have hu := Tryz.underlying25
  have hBg := Lib.hid (fun W (hT : Tabs W) => begin_ok h op d r1 r2 imm aq rl pred succ W hT hop hb hf)
  rw [hck] at hBg
  generalize hh2 : stepV h ⟨op, d, r1, r2, imm, aq, rl, pred, succ⟩ found won = h2
  go_enter Tryz.func9, Tryz.ntmps9
  go_wp2_with (first | (refine wpList_load_mid rfl 25 _ rfl w.heap.size 0 rfl (hartL h) _ rh hu rfl (size_hart _) ?_) | (refine wpList_load_mid rfl 25 _ rfl b 0 rfl (hartL h2) _ (hart_range hW4.c) hu rfl (size_hart _) ?_) | (go_at_call 20; refine (hBg.out _ (ht.later hE0.bl (Nat.le_refl _))).mono ?_; rintro e w2 ⟨b, rfl, hbn, hwk, hb2⟩; have hE2 := hE0.keep hE0.sz hb2; have hal : Below w2.heap.size w2 (w2.alloc (.cells #[.pointer (some ⟨b, 0, none⟩)] 55)) := (Below.refl _ _).alloc (Nat.le_refl _) _; have hE3 := hE2.keep hE2.sz hal; have hW3 := hwk.keep hal; have hp3 : _ = some (Value.pointer (some ⟨b, 0, none⟩)) := World.cell?_alloc_new w2 #[.pointer (some ⟨b, 0, none⟩)] 55 0; have hb5 : w.heap.size + 5 ≤ b := Nat.le_trans hE0.sz hbn; have hpb : w2.heap.size ≠ b := Nat.ne_of_gt hwk.lt) | (go_at_call 21; refine (try_go w w2.heap.size b h op d r1 r2 imm aq rl pred succ found won _ hE3 hW3 hp3 hpb hb5 (ht.later hE3.bl (Nat.le_refl _)) ht.lt hop hd hr1 hr2 ha hck).mono ?_; rw [hh2]; rintro e w4 ⟨rfl, hE4, hW4, hp4⟩) | (refine wpList_store_mid rfl 25 _ _ rfl (w.heap.size + 4) 0 (hartL h2).toArray rfl rfl (there_hart hE4.z _) (size_hartA _) (hartL_one _) ?_))
  have hr := World.rangeAt_setCells_same w4 (w.heap.size + 4) 0 (hartL h2) (by rw [hartL_len]; exact hE4.z)
  have hbl : Below w.heap.size w (w4.setCells (w.heap.size + 4) 0 (hartL h2)) := below_setCells (Nat.le_add_right _ _) (hartL h2) 0 w4 hE4.bl
  generalize World.setCells w4 (w.heap.size + 4) 0 (hartL h2) = W5 at hr hbl ⊢
  have hlv := result_hart W5 (w.heap.size + 4) h2 hr
  exact bodyPost_ret (v := .tuple #[.agg (hartL h2).toArray, .int .i64 0]) (by simp [results, Tryz.results9, asAddr, hlv]) rfl ⟨rfl, hbl⟩
set_option maxRecDepth 100000 in
set_option maxHeartbeats 8000000 in
theorem Step_off1 (h : HartV) (op : Int) (d r1 r2 : Nat) (imm : Int) (aq rl : Bool) (pred succ : Int) (found : BitVec 64) (won : Bool) (w : World) (ht : Tabs w) (hop : op ≤ 9223372036854775807) (hd : d < 32) (hr1 : r1 < 32) (hr2 : r2 < 32) (hb : hartE h = 0) (hf : h.fin = 0) (hck : checkE ⟨op, d, r1, r2, imm, aq, rl, pred, succ⟩ = 0) (k : Int) (hk : k ≠ 0) (ha : askE h ⟨op, d, r1, r2, imm, aq, rl, pred, succ⟩ = k) (h1 : k = 1) :
    Calls Tryz.prog 9 #[.agg (hartArr h), .agg #[.int .i64 op, .int .i64 d, .int .i64 r1, .int .i64 r2, .int .i64 imm, .bool aq, .bool rl, .int .i64 pred, .int .i64 succ], .int .u64 (un found), .bool won] w fun e w' => e = .returned (.tuple #[.agg (hartArr (endedV h k)), .int .i64 0]) ∧ Below w.heap.size w w' := by
  have hE0 := EK.start w h ⟨op, d, r1, r2, imm, aq, rl, pred, succ⟩ found won 25 27 22 4 25
  obtain ⟨rh, k0, k1, k2, k3, k4, k5, k6, k7, k8⟩ := hE0.facts
  have hu := Tryz.underlying25
  have hBg := Lib.hid (fun W (hT : Tabs W) => begin_ok h op d r1 r2 imm aq rl pred succ W hT hop hb hf)
  rw [hck] at hBg
  have t0 : (k != 0) = true := by simpa using hk
  have t1 : (k == 1) = true := by rw [h1]; rfl
  have hres : endedV h k = (h.ends k).codes (h.x 10) := if_pos h1
  rw [hres]
  clear hres h1
  go_enter Tryz.func9, Tryz.ntmps9
  go_wp2_with (first | (refine wpList_load_mid rfl 25 _ rfl w.heap.size 0 rfl (hartL h) _ rh hu rfl (size_hart _) ?_) | (refine wpList_load_mid rfl 25 _ rfl w.heap.size 0 rfl (hartL ((h.ends k).codes (h.x 10))) _ (hart_range ((hE4.h.ends k).codes (h.x 10))) hu rfl (size_hart _) ?_) | (go_at_call 20; refine (hBg.out _ (ht.later hE0.bl (Nat.le_refl _))).mono ?_; rintro e w2 ⟨b, rfl, hbn, hwk, hb2⟩; have hE2 := hE0.keep hE0.sz hb2; have hal : Below w2.heap.size w2 (w2.alloc (.cells #[.pointer (some ⟨b, 0, none⟩)] 55)) := (Below.refl _ _).alloc (Nat.le_refl _) _; have hE3 := hE2.keep hE2.sz hal; have hW3 := hwk.keep hal; have hp3 : _ = some (Value.pointer (some ⟨b, 0, none⟩)) := World.cell?_alloc_new w2 #[.pointer (some ⟨b, 0, none⟩)] 55 0; have hb5 : w.heap.size + 5 ≤ b := Nat.le_trans hE0.sz hbn; have hpb : w2.heap.size ≠ b := Nat.ne_of_gt hwk.lt) | (go_at_call 21; refine (try_off w w2.heap.size b h op d r1 r2 imm aq rl pred succ found won _ hE3 hW3 hp3 hpb hb5 (ht.later hE3.bl (Nat.le_refl _)) ht.lt hop hd hr1 hr2 k hk ha).mono ?_; rintro e w4 ⟨rfl, hE4⟩; have q33 : w4.cell? ⟨w.heap.size, 33, none⟩ = some (.int .i64 h.fin) := hE4.h 33 (by decide); have f33 := hE4.hf 33 (by decide); have q34 : w4.cell? ⟨w.heap.size, 34, none⟩ = some (.int .u64 (un h.code)) := hE4.h 34 (by decide); have f34 := hE4.hf 34 (by decide); have q11 : w4.cell? ⟨w.heap.size, 11, none⟩ = some (.int .u64 (un (h.x 10))) := hE4.h 11 (by decide)) | (refine wpList_store_mid rfl 25 _ _ rfl (w.heap.size + 4) 0 (hartL ((h.ends k).codes (h.x 10))).toArray rfl rfl (there_hart (World.there_setCells (World.there_setCells hE4.z w.heap.size 33 [.int .i64 k]) w.heap.size 34 [.int .u64 (un (h.x 10))]) _) (size_hartA _) (hartL_one _) ?_))
  have hr := World.rangeAt_setCells_same ((w4.setCell ⟨w.heap.size, 33, none⟩ (.int .i64 k)).setCell ⟨w.heap.size, 34, none⟩ (.int .u64 (un (h.x 10)))) (w.heap.size + 4) 0 (hartL ((h.ends k).codes (h.x 10))) (by rw [hartL_len]; exact (World.there_setCells (World.there_setCells hE4.z w.heap.size 33 [.int .i64 k]) w.heap.size 34 [.int .u64 (un (h.x 10))]))
  have hbl : Below w.heap.size w (((w4.setCell ⟨w.heap.size, 33, none⟩ (.int .i64 k)).setCell ⟨w.heap.size, 34, none⟩ (.int .u64 (un (h.x 10)))).setCells (w.heap.size + 4) 0 (hartL ((h.ends k).codes (h.x 10)))) := below_setCells (Nat.le_add_right _ _) (hartL ((h.ends k).codes (h.x 10))) 0 ((w4.setCell ⟨w.heap.size, 33, none⟩ (.int .i64 k)).setCell ⟨w.heap.size, 34, none⟩ (.int .u64 (un (h.x 10)))) ((hE4.bl.setCell (p := ⟨w.heap.size, 33, none⟩) (Nat.le_refl _) (.int .i64 k)).setCell (p := ⟨w.heap.size, 34, none⟩) (Nat.le_refl _) (.int .u64 (un (h.x 10))))
  generalize World.setCells ((w4.setCell ⟨w.heap.size, 33, none⟩ (.int .i64 k)).setCell ⟨w.heap.size, 34, none⟩ (.int .u64 (un (h.x 10)))) (w.heap.size + 4) 0 (hartL ((h.ends k).codes (h.x 10))) = W5 at hr hbl ⊢
  have hlv := result_hart W5 (w.heap.size + 4) ((h.ends k).codes (h.x 10)) hr
  exact bodyPost_ret (v := .tuple #[.agg (hartL ((h.ends k).codes (h.x 10))).toArray, .int .i64 0]) (by simp [results, Tryz.results9, asAddr, hlv]) rfl ⟨rfl, hbl⟩
set_option maxRecDepth 100000 in
set_option maxHeartbeats 8000000 in
theorem Step_offn (h : HartV) (op : Int) (d r1 r2 : Nat) (imm : Int) (aq rl : Bool) (pred succ : Int) (found : BitVec 64) (won : Bool) (w : World) (ht : Tabs w) (hop : op ≤ 9223372036854775807) (hd : d < 32) (hr1 : r1 < 32) (hr2 : r2 < 32) (hb : hartE h = 0) (hf : h.fin = 0) (hck : checkE ⟨op, d, r1, r2, imm, aq, rl, pred, succ⟩ = 0) (k : Int) (hk : k ≠ 0) (ha : askE h ⟨op, d, r1, r2, imm, aq, rl, pred, succ⟩ = k) (h1 : k ≠ 1) :
    Calls Tryz.prog 9 #[.agg (hartArr h), .agg #[.int .i64 op, .int .i64 d, .int .i64 r1, .int .i64 r2, .int .i64 imm, .bool aq, .bool rl, .int .i64 pred, .int .i64 succ], .int .u64 (un found), .bool won] w fun e w' => e = .returned (.tuple #[.agg (hartArr (endedV h k)), .int .i64 0]) ∧ Below w.heap.size w w' := by
  have hE0 := EK.start w h ⟨op, d, r1, r2, imm, aq, rl, pred, succ⟩ found won 25 27 22 4 25
  obtain ⟨rh, k0, k1, k2, k3, k4, k5, k6, k7, k8⟩ := hE0.facts
  have hu := Tryz.underlying25
  have hBg := Lib.hid (fun W (hT : Tabs W) => begin_ok h op d r1 r2 imm aq rl pred succ W hT hop hb hf)
  rw [hck] at hBg
  have t0 : (k != 0) = true := by simpa using hk
  have t1 : (k == 1) = false := by rw [beq_eq_false_iff_ne]; exact h1
  have hres : endedV h k = h.ends k := if_neg h1
  rw [hres]
  clear hres h1
  go_enter Tryz.func9, Tryz.ntmps9
  go_wp2_with (first | (refine wpList_load_mid rfl 25 _ rfl w.heap.size 0 rfl (hartL h) _ rh hu rfl (size_hart _) ?_) | (refine wpList_load_mid rfl 25 _ rfl w.heap.size 0 rfl (hartL (h.ends k)) _ (hart_range (hE4.h.ends k)) hu rfl (size_hart _) ?_) | (go_at_call 20; refine (hBg.out _ (ht.later hE0.bl (Nat.le_refl _))).mono ?_; rintro e w2 ⟨b, rfl, hbn, hwk, hb2⟩; have hE2 := hE0.keep hE0.sz hb2; have hal : Below w2.heap.size w2 (w2.alloc (.cells #[.pointer (some ⟨b, 0, none⟩)] 55)) := (Below.refl _ _).alloc (Nat.le_refl _) _; have hE3 := hE2.keep hE2.sz hal; have hW3 := hwk.keep hal; have hp3 : _ = some (Value.pointer (some ⟨b, 0, none⟩)) := World.cell?_alloc_new w2 #[.pointer (some ⟨b, 0, none⟩)] 55 0; have hb5 : w.heap.size + 5 ≤ b := Nat.le_trans hE0.sz hbn; have hpb : w2.heap.size ≠ b := Nat.ne_of_gt hwk.lt) | (go_at_call 21; refine (try_off w w2.heap.size b h op d r1 r2 imm aq rl pred succ found won _ hE3 hW3 hp3 hpb hb5 (ht.later hE3.bl (Nat.le_refl _)) ht.lt hop hd hr1 hr2 k hk ha).mono ?_; rintro e w4 ⟨rfl, hE4⟩; have q33 : w4.cell? ⟨w.heap.size, 33, none⟩ = some (.int .i64 h.fin) := hE4.h 33 (by decide); have f33 := hE4.hf 33 (by decide); have q34 : w4.cell? ⟨w.heap.size, 34, none⟩ = some (.int .u64 (un h.code)) := hE4.h 34 (by decide); have f34 := hE4.hf 34 (by decide); have q11 : w4.cell? ⟨w.heap.size, 11, none⟩ = some (.int .u64 (un (h.x 10))) := hE4.h 11 (by decide)) | (refine wpList_store_mid rfl 25 _ _ rfl (w.heap.size + 4) 0 (hartL (h.ends k)).toArray rfl rfl (there_hart (World.there_setCells hE4.z w.heap.size 33 [.int .i64 k]) _) (size_hartA _) (hartL_one _) ?_))
  have hr := World.rangeAt_setCells_same (w4.setCell ⟨w.heap.size, 33, none⟩ (.int .i64 k)) (w.heap.size + 4) 0 (hartL (h.ends k)) (by rw [hartL_len]; exact (World.there_setCells hE4.z w.heap.size 33 [.int .i64 k]))
  have hbl : Below w.heap.size w ((w4.setCell ⟨w.heap.size, 33, none⟩ (.int .i64 k)).setCells (w.heap.size + 4) 0 (hartL (h.ends k))) := below_setCells (Nat.le_add_right _ _) (hartL (h.ends k)) 0 (w4.setCell ⟨w.heap.size, 33, none⟩ (.int .i64 k)) (hE4.bl.setCell (p := ⟨w.heap.size, 33, none⟩) (Nat.le_refl _) (.int .i64 k))
  generalize World.setCells (w4.setCell ⟨w.heap.size, 33, none⟩ (.int .i64 k)) (w.heap.size + 4) 0 (hartL (h.ends k)) = W5 at hr hbl ⊢
  have hlv := result_hart W5 (w.heap.size + 4) (h.ends k) hr
  exact bodyPost_ret (v := .tuple #[.agg (hartL (h.ends k)).toArray, .int .i64 0]) (by simp [results, Tryz.results9, asAddr, hlv]) rfl ⟨rfl, hbl⟩
end
theorem Step_any (h : HartV) (i : InsnV) (found : BitVec 64) (won : Bool) (w : World) (ht : Tabs w) (hop : i.op ≤ 9223372036854775807) (hb : hartE h = 0) (hf : h.fin = 0) (hck : checkE i = 0) :
    Calls Tryz.prog 9 #[.agg (hartArr h), .agg i.cells, .int .u64 (un found), .bool won] w fun e w' => e = .returned (.tuple #[.agg (hartArr (stepV h i found won)), .int .i64 0]) ∧ Below w.heap.size w w' := by
  have hok : checkOk i = true := by
    unfold checkE at hck
    cases hc : checkOk i with
    | true => rfl
    | false => rw [hc] at hck; cases hck
  have hregs := checkOk_regs i hok
  obtain ⟨op, rd, rs1, rs2, imm, aq, rl, pred, succ⟩ := i
  obtain ⟨h1, h2, h3, h4, h5, h6⟩ := hregs
  simp only at h1 h2 h3 h4 h5 h6
  obtain ⟨d, rfl⟩ := Int.eq_ofNat_of_zero_le h1
  obtain ⟨r1, rfl⟩ := Int.eq_ofNat_of_zero_le h3
  obtain ⟨r2, rfl⟩ := Int.eq_ofNat_of_zero_le h5
  have hd : d < 32 := by omega
  have hr1 : r1 < 32 := by omega
  have hr2 : r2 < 32 := by omega
  by_cases ha : askE h ⟨op, d, r1, r2, imm, aq, rl, pred, succ⟩ = 0
  · exact Step_go h op d r1 r2 imm aq rl pred succ found won w ht hop hd hr1 hr2 hb hf hck ha
  · have hv : stepV h ⟨op, d, r1, r2, imm, aq, rl, pred, succ⟩ found won = endedV h (askE h ⟨op, d, r1, r2, imm, aq, rl, pred, succ⟩) := if_neg ha
    rw [hv]
    by_cases hk1 : askE h ⟨op, d, r1, r2, imm, aq, rl, pred, succ⟩ = 1
    · exact Step_off1 h op d r1 r2 imm aq rl pred succ found won w ht hop hd hr1 hr2 hb hf hck _ ha rfl hk1
    · exact Step_offn h op d r1 r2 imm aq rl pred succ found won w ht hop hd hr1 hr2 hb hf hck _ ha rfl hk1
end Go.Proofs.YtbglinhglnbfmaaGreatDoor
