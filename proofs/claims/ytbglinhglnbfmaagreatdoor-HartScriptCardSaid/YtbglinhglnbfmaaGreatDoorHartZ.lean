/- The document's Step where the hart goes on: first. The document's Step where the hart goes on: second. The document's Step where the hart goes on: third. Conditions: as each theorem says. -/
import Derived.Test.YtbglinhglnbfmaaGreatDoorHartVY
import Derived.Test.YtbglinhglnbfmaaGreatDoorHartQS
import Derived.Deep.RegionHeld3
set_option linter.unusedVariables false
namespace Go.Proofs.YtbglinhglnbfmaaGreatDoor
open Go.RowKit
attribute [local go_sem] wrap_u64_bv bv_un bv_sn bv_add bv_mul bv_neg bv_sub mul_bvpow shr_min shl_min sshr_min bv_lit bv_0 bv_1 un_shr sn_shr wrap_i64_un bits_u64_and bits_u64_or bits_u64_xor bits_u64_andNot bv_max u64_unsigned
section
attribute [local irreducible] un sn hartL
set_option maxRecDepth 100000 in
set_option maxHeartbeats 8000000 in
theorem RGo_a (h : HartV) (op : Int) (d r1 r2 : Nat) (imm : Int) (aq rl : Bool) (pred succ : Int) (found : BitVec 64) (w : World) (hr1 : r1 < 32) (hr2 : r2 < 32) (hd : d < 32) (hm : mayE h ⟨op, d, r1, r2, imm, aq, rl, pred, succ⟩ = 0) (he : rendV h ⟨op, d, r1, r2, imm, aq, rl, pred, succ⟩ = 0) (hc : checkE ⟨op, d, r1, r2, imm, aq, rl, pred, succ⟩ = 0) (t8 : (rform op != 8) = true) (t69 : (op == 69) = true) :
    Calls Tryz.prog 15 #[.agg (hartArr h), .agg #[.int .i64 op, .int .i64 d, .int .i64 r1, .int .i64 r2, .int .i64 imm, .bool aq, .bool rl, .int .i64 pred, .int .i64 succ], .int .u64 (un found), .bool true] w fun e w' => e = .returned (.tuple #[.agg (hartArr (rgoneV h ⟨op, d, r1, r2, imm, aq, rl, pred, succ⟩ (tgtV h ⟨op, d, r1, r2, imm, aq, rl, pred, succ⟩).1 0#64)), .int .i64 0]) ∧ Below w.heap.size w w' := by
  have hE := RK.start w h ⟨op, d, r1, r2, imm, aq, rl, pred, succ⟩ 25 27 25
  obtain ⟨rh, c0, c1, c2, c3, c4, c5, c6, c7, c8⟩ := hE.facts
  have hu := Tryz.underlying25
  have hM := Lib.hid (fun W => RMay_any h ⟨op, d, r1, r2, imm, aq, rl, pred, succ⟩ W)
  have hN := Lib.hid (fun W => REnd_any h op d r1 r2 imm aq rl pred succ W hr1 hr2)
  have hF := Lib.hid (fun W => R2Form_any op W)
  have hD := Lib.hid (fun W => RDo_any op (h.x r1) (bv imm) W)
  have hD1 : Hid (∀ W, Calls Tryz.prog 30 #[.int .i64 1, .int .u64 0, .int .u64 (un (bv imm))] W fun e w' => e = .returned (.tuple #[.int .u64 (un (doF 1 0#64 (bv imm))), .int .i64 (doE 1)]) ∧ Below W.heap.size W w') := Lib.hid fun W => by have h1 := RDo_any 1 0#64 (bv imm) W; rw [un_0] at h1; exact h1
  have hMem := Lib.hid (fun W => R2Mem_any op W)
  have hT := Lib.hid (fun W => RTgt_any h op d r1 r2 imm aq rl pred succ W hr1 hr2)
  have hWr := Lib.hid (fun W => R2Writes_ok ⟨op, d, r1, r2, imm, aq, rl, pred, succ⟩ hc W)
  unfold memV at hMem
  rw [hm] at hM
  rw [he] at hN
  generalize (tgtV h ⟨op, d, r1, r2, imm, aq, rl, pred, succ⟩).1 = tn at hT ⊢
  generalize (tgtV h ⟨op, d, r1, r2, imm, aq, rl, pred, succ⟩).2 = tv at hT
  obtain ⟨v, hv⟩ : ∃ v, v = 0#64 := ⟨_, rfl⟩
  rw [← hv]
  generalize rform op = ff at hF t8
  generalize hq : doF op (h.x r1) (bv imm) = q at hD
  clear hq
  generalize doE op = qe at hD
  clear hm he hc
  have hund : ∀ b : Bool, (some undef = some (Value.bool b)) = False := fun b => by simp [undef]
  have hl1 : 0 ≤ (r1 : Int) ∧ (r1 : Int) < 32 := by omega
  have hl2 : 0 ≤ (r2 : Int) ∧ (r2 : Int) < 32 := by omega
  have hld : 0 ≤ (d : Int) ∧ (d : Int) < 32 := by omega
  have hun : Hid (un v = 0) := Lib.hid (by rw [hv]; exact un_0)
  clear hv
  go_enter Tryz.func15, Tryz.ntmps15
  go_upto_region 10 with (first | (refine wpList_load_mid rfl 25 _ rfl w.heap.size 0 rfl (hartL h) _ rh hu rfl (size_hart _) ?_) | (go_at_call 28; refine (hM.out _).mono ?_; rintro e wk ⟨rfl, hbk⟩; have hE9 := hE.keep hbk; clear hbk hE rh c0 c1 c2 c3 c4 c5 c6 c7 c8; have hE := hE9; clear hE9; obtain ⟨rh, c0, c1, c2, c3, c4, c5, c6, c7, c8⟩ := hE.facts) | (go_at_call 29; refine (hN.out _).mono ?_; rintro e wk ⟨rfl, hbk⟩; have hE9 := hE.keep hbk; clear hbk hE rh c0 c1 c2 c3 c4 c5 c6 c7 c8; have hE := hE9; clear hE9; obtain ⟨rh, c0, c1, c2, c3, c4, c5, c6, c7, c8⟩ := hE.facts))
  have x2 : wk.cell? ⟨w.heap.size, 1 + r2, none⟩ = some (.int .u64 (un (h.x r2))) := (hE.h (1 + r2) (by omega)).trans (congrArg some (hartCell_x h r2 hr2))
  go_upto_region 13 with (go_at_call 17; refine (hF.out _).mono ?_; rintro e wk ⟨rfl, rfl⟩; skip)
  clear x2 rh c0 c1 c2 c3 c4 c5 c6 c7 c8
  refine wp_region_held_drew (S := fun W => RK w h ⟨op, d, r1, r2, imm, aq, rl, pred, succ⟩ W) (by kernel_rfl) hE.drew (fun hHeld => ?_)
  refine wpAnyH_take (i := 0) (v := .pointer (some ⟨(w.heap.size + 1), 0, none⟩)) rfl (by kernel_rfl) (by kernel_rfl) (by kernel_rfl) (fun _ _ _ h => h) (Or.inl ⟨by rfl, fun W _ => by kernel_rfl⟩) hHeld ?_
  try simp only [Act.put, List.getElem_toArray, List.getElem_cons_zero, List.setIfInBounds_toArray, List.set_cons_zero, List.set_cons_succ]
  refine wpAnyH_take (i := 1) (v := .int .i64 op) rfl (by kernel_rfl) (by kernel_rfl) (by kernel_rfl) (fun _ _ _ h => h) (Or.inl ⟨by rfl, fun W hS => by (have k : W.cell? ⟨(w.heap.size + 1), 0, none⟩ = some (.int .i64 op) := (hS.c 0 (by decide))); go_simp⟩) hHeld ?_
  try simp only [Act.put, List.getElem_toArray, List.getElem_cons_succ, List.getElem_cons_zero, List.setIfInBounds_toArray, List.set_cons_zero, List.set_cons_succ]
  refine wpAnyH_take (i := 2) (v := .pointer (some ⟨(w.heap.size + 1), 2, none⟩)) rfl (by kernel_rfl) (by kernel_rfl) (by kernel_rfl) (fun _ _ _ h => h) (Or.inl ⟨by rfl, fun W _ => by kernel_rfl⟩) hHeld ?_
  try simp only [Act.put, List.getElem_toArray, List.getElem_cons_succ, List.getElem_cons_zero, List.setIfInBounds_toArray, List.set_cons_zero, List.set_cons_succ]
  refine wpAnyH_take (i := 3) (v := .int .i64 r1) rfl (by kernel_rfl) (by kernel_rfl) (by kernel_rfl) (fun _ _ _ h => h) (Or.inl ⟨by rfl, fun W hS => by (have k : W.cell? ⟨(w.heap.size + 1), 2, none⟩ = some (.int .i64 r1) := (hS.c 2 (by decide))); go_simp⟩) hHeld ?_
  try simp only [Act.put, List.getElem_toArray, List.getElem_cons_succ, List.getElem_cons_zero, List.setIfInBounds_toArray, List.set_cons_zero, List.set_cons_succ]
  refine wpAnyH_take (i := 4) (v := .pointer (some ⟨w.heap.size, 1, none⟩)) rfl (by kernel_rfl) (by kernel_rfl) (by kernel_rfl) (fun _ _ _ h => h) (Or.inl ⟨by rfl, fun W _ => by kernel_rfl⟩) hHeld ?_
  try simp only [Act.put, List.getElem_toArray, List.getElem_cons_succ, List.getElem_cons_zero, List.setIfInBounds_toArray, List.set_cons_zero, List.set_cons_succ]
  refine wpAnyH_take (i := 5) (v := .pointer (some ⟨w.heap.size, 1 + r1, none⟩)) rfl (by kernel_rfl) (by kernel_rfl) (by kernel_rfl) (fun _ _ _ h => h) (Or.inl ⟨by rfl, fun W _ => by go_simp⟩) hHeld ?_
  try simp only [Act.put, List.getElem_toArray, List.getElem_cons_succ, List.getElem_cons_zero, List.setIfInBounds_toArray, List.set_cons_zero, List.set_cons_succ]
  refine wpAnyH_take (i := 6) (v := .int .u64 (un (h.x r1))) rfl (by kernel_rfl) (by kernel_rfl) (by kernel_rfl) (fun _ _ _ h => h) (Or.inl ⟨by rfl, fun W hS => by (have k : W.cell? ⟨w.heap.size, 1 + r1, none⟩ = some (.int .u64 (un (h.x r1))) := (hS.h (1 + r1) (by omega)).trans (congrArg some (hartCell_x h r1 hr1))); go_simp⟩) hHeld ?_
  try simp only [Act.put, List.getElem_toArray, List.getElem_cons_succ, List.getElem_cons_zero, List.setIfInBounds_toArray, List.set_cons_zero, List.set_cons_succ]
  refine wpAnyH_take (i := 7) (v := .int .u64 (un (bv imm))) rfl (by kernel_rfl) (by kernel_rfl) (by kernel_rfl) (fun _ _ _ h => h) (Or.inl ⟨by rfl, fun W _ => by kernel_rfl⟩) hHeld ?_
  try simp only [Act.put, List.getElem_toArray, List.getElem_cons_succ, List.getElem_cons_zero, List.setIfInBounds_toArray, List.set_cons_zero, List.set_cons_succ]
  refine wpAnyH_ready (rs := [8]) (by kernel_rfl) (by simp) (AllReadyH.cons rfl (fun K hK2 => ?_) AllReadyH.nil)
  rw [if_pos (by rfl)]
  simp only [List.getElem_toArray, List.getElem_cons_succ, List.getElem_cons_zero]
  go_wp2_with (go_at_call 30; refine (hD.out _).mono ?_; rintro e wb ⟨rfl, hbb⟩)
  refine hK2.out _ _ (hHeld.keep hbb) (fun hHeld2 => ?_)
  clear hK2 K hHeld
  have hHeld := hHeld2
  clear hHeld2
  try simp only [Act.put, List.getElem_toArray, List.getElem_cons_succ, List.getElem_cons_zero, List.setIfInBounds_toArray, List.set_cons_zero, List.set_cons_succ]
  clear hbb
  refine wpAnyH_take (i := 9) (v := .tuple #[.int .u64 (un q), .int .i64 qe]) rfl (by kernel_rfl) (by kernel_rfl) (by kernel_rfl) (fun _ _ _ h => h) (Or.inl ⟨by rfl, fun W _ => by kernel_rfl⟩) hHeld ?_
  try simp only [Act.put, List.getElem_toArray, List.getElem_cons_succ, List.getElem_cons_zero, List.setIfInBounds_toArray, List.set_cons_zero, List.set_cons_succ]
  refine wpAnyH_take (i := 10) (v := .int .u64 (un q)) rfl (by kernel_rfl) (by kernel_rfl) (by kernel_rfl) (fun _ _ _ h => h) (Or.inl ⟨by rfl, fun W _ => by kernel_rfl⟩) hHeld ?_
  try simp only [Act.put, List.getElem_toArray, List.getElem_cons_succ, List.getElem_cons_zero, List.setIfInBounds_toArray, List.set_cons_zero, List.set_cons_succ]
  refine wpAnyH_take (i := 11) (v := .int .i64 qe) rfl (by kernel_rfl) (by kernel_rfl) (by kernel_rfl) (fun _ _ _ h => h) (Or.inl ⟨by rfl, fun W _ => by kernel_rfl⟩) hHeld ?_
  try simp only [Act.put, List.getElem_toArray, List.getElem_cons_succ, List.getElem_cons_zero, List.setIfInBounds_toArray, List.set_cons_zero, List.set_cons_succ]
  refine wpAnyH_take (i := 12) (v := .int .u64 (un q)) rfl (by kernel_rfl) (by kernel_rfl) (by kernel_rfl) (fun _ _ _ h => h) (Or.inl ⟨by rfl, fun W _ => by kernel_rfl⟩) hHeld ?_
  try simp only [Act.put, List.getElem_toArray, List.getElem_cons_succ, List.getElem_cons_zero, List.setIfInBounds_toArray, List.set_cons_zero, List.set_cons_succ]
  refine wpAnyH_take (i := 13) (v := .int .i64 qe) rfl (by kernel_rfl) (by kernel_rfl) (by kernel_rfl) (fun _ _ _ h => h) (Or.inl ⟨by rfl, fun W _ => by kernel_rfl⟩) hHeld ?_
  try simp only [Act.put, List.getElem_toArray, List.getElem_cons_succ, List.getElem_cons_zero, List.setIfInBounds_toArray, List.set_cons_zero, List.set_cons_succ]
  refine wpAnyH_done (by kernel_rfl) ?_ _
  have hE := hHeld
  clear hHeld hD
  skip
  obtain ⟨rh, c0, c1, c2, c3, c4, c5, c6, c7, c8⟩ := hE.facts
  have pc0 := hE.h 0 (by decide)
  rw [show hartCell h 0 = .int .u64 (un h.pc) from rfl] at pc0
  go_upto_region 28 with (first | (go_at_call 31; refine (hMem.out _).mono ?_; rintro e wk ⟨rfl, hbk⟩; have hE9 := hE.keep hbk; clear pc0; clear hbk hE rh c0 c1 c2 c3 c4 c5 c6 c7 c8; have hE := hE9; clear hE9; obtain ⟨rh, c0, c1, c2, c3, c4, c5, c6, c7, c8⟩ := hE.facts; have pc0 : wk.cell? ⟨w.heap.size, 0, none⟩ = some (.int .u64 (un h.pc)) := hE.h 0 (by decide)) | (go_at_call 30; refine (hD1.out _).mono ?_; rintro e wk ⟨rfl, hbk⟩; have hE9 := hE.keep hbk; clear pc0; clear hbk hE rh c0 c1 c2 c3 c4 c5 c6 c7 c8; have hE := hE9; clear hE9; obtain ⟨rh, c0, c1, c2, c3, c4, c5, c6, c7, c8⟩ := hE.facts; have pc0 : wk.cell? ⟨w.heap.size, 0, none⟩ = some (.int .u64 (un h.pc)) := hE.h 0 (by decide)))
  have z0 : wk.frozen? ⟨w.heap.size, 0, none⟩ = false := hE.hf 0 (by decide)
  go_upto_region 29 with (first | (refine wpList_load_mid rfl 25 _ rfl w.heap.size 0 rfl (hartL h) _ rh hu rfl (size_hart _) ?_) | (go_at_call 32; refine (hT.out _).mono ?_; rintro e wk ⟨rfl, hbk⟩; have hE9 := hE.keep hbk; clear pc0 z0; clear hbk hE rh c0 c1 c2 c3 c4 c5 c6 c7 c8; have hE := hE9; clear hE9; obtain ⟨rh, c0, c1, c2, c3, c4, c5, c6, c7, c8⟩ := hE.facts; have pc0 : wk.cell? ⟨w.heap.size, 0, none⟩ = some (.int .u64 (un h.pc)) := hE.h 0 (by decide); have z0 : wk.frozen? ⟨w.heap.size, 0, none⟩ = false := hE.hf 0 (by decide)))
  have hE9 := hE.put 0 (.int .u64 (un tn)) (hE.h.goes tn)
  clear hE pc0 z0 rh c0 c1 c2 c3 c4 c5 c6 c7 c8
  have hE := hE9
  clear hE9
  generalize World.setCell _ _ _ = u1 at hE ⊢
  obtain ⟨rh, c0, c1, c2, c3, c4, c5, c6, c7, c8⟩ := hE.facts
  go_upto_region 30 with (go_at_call 13; refine (hWr.out _).mono ?_; rintro e wk ⟨rfl, hbk⟩; have hE9 := hE.keep hbk; clear hbk hE rh c0 c1 c2 c3 c4 c5 c6 c7 c8; have hE := hE9; clear hE9; obtain ⟨rh, c0, c1, c2, c3, c4, c5, c6, c7, c8⟩ := hE.facts)
  by_cases hz : d = 0
  · have tz : decide (0 < (d : Int)) = false := by rw [decide_eq_false_iff_not]; omega
    have tz2 : decide (0 < d) = false := by rw [decide_eq_false_iff_not]; omega
    have hres : rgoneV h ⟨op, d, r1, r2, imm, aq, rl, pred, succ⟩ tn v = h.goes tn := if_pos (show (d : Int) = 0 by omega)
    replace hres := Lib.hid hres
    clear hz
    go_wp2_with (first | (refine wpList_load_mid rfl 25 _ rfl w.heap.size 0 rfl (hartL (h.goes tn)) _ rh hu rfl (size_hart _) ?_) | (refine wpList_store_mid rfl 25 _ _ rfl (w.heap.size + 2) 0 (hartL (h.goes tn)).toArray rfl rfl (there_hart hE.z _) (size_hartA _) (hartL_one _) ?_))
    have hr := World.rangeAt_setCells_same wk (w.heap.size + 2) 0 (hartL (h.goes tn)) (by rw [hartL_len]; exact hE.z)
    have hbl : Below w.heap.size w (World.setCells wk (w.heap.size + 2) 0 (hartL (h.goes tn))) := below_setCells (Nat.le_add_right _ _) (hartL (h.goes tn)) 0 wk hE.bl
    generalize World.setCells wk (w.heap.size + 2) 0 (hartL (h.goes tn)) = W5 at hr hbl ⊢
    have hlv := result_hart W5 (w.heap.size + 2) (h.goes tn) hr
    exact bodyPost_ret (v := .tuple #[.agg (hartL (h.goes tn)).toArray, .int .i64 0]) (by simp [results, Tryz.results15, asAddr, hlv]) rfl ⟨by rw [hres.out]; rfl, hbl⟩
  · have tz : decide (0 < (d : Int)) = true := by rw [decide_eq_true_iff]; omega
    have tz2 : decide (0 < d) = true := by rw [decide_eq_true_iff]; omega
    have hres : rgoneV h ⟨op, d, r1, r2, imm, aq, rl, pred, succ⟩ tn v = (h.goes tn).set d v := if_neg (show ¬ (d : Int) = 0 by omega)
    replace hres := Lib.hid hres
    clear hz
    have xd : wk.cell? ⟨w.heap.size, 1 + d, none⟩ = some (.int .u64 (un (h.x d))) := (hE.h (1 + d) (by omega)).trans (congrArg some (hartCell_x (h.goes tn) d hd))
    have zd : wk.frozen? ⟨w.heap.size, 1 + d, none⟩ = false := hE.hf (1 + d) (by omega)
    go_upto_region 32 with fail
    have hE9 := hE.put (h' := (h.goes tn).set d v) (1 + d) (.int .u64 0) (by have h9 := hE.h.setX d hd v; rw [hun.out] at h9; exact h9)
    clear hE xd zd rh c0 c1 c2 c3 c4 c5 c6 c7 c8
    have hE := hE9
    clear hE9
    generalize World.setCell _ _ _ = u2 at hE ⊢
    have rh := hE.h.range
    go_wp2_with (first | (refine wpList_load_mid rfl 25 _ rfl w.heap.size 0 rfl (hartL ((h.goes tn).set d v)) _ rh hu rfl (size_hart _) ?_) | (refine wpList_store_mid rfl 25 _ _ rfl (w.heap.size + 2) 0 (hartL ((h.goes tn).set d v)).toArray rfl rfl (there_hart hE.z _) (size_hartA _) (hartL_one _) ?_))
    have hr := World.rangeAt_setCells_same u2 (w.heap.size + 2) 0 (hartL ((h.goes tn).set d v)) (by rw [hartL_len]; exact hE.z)
    have hbl : Below w.heap.size w (World.setCells u2 (w.heap.size + 2) 0 (hartL ((h.goes tn).set d v))) := below_setCells (Nat.le_add_right _ _) (hartL ((h.goes tn).set d v)) 0 u2 hE.bl
    generalize World.setCells u2 (w.heap.size + 2) 0 (hartL ((h.goes tn).set d v)) = W5 at hr hbl ⊢
    have hlv := result_hart W5 (w.heap.size + 2) ((h.goes tn).set d v) hr
    exact bodyPost_ret (v := .tuple #[.agg (hartL ((h.goes tn).set d v)).toArray, .int .i64 0]) (by simp [results, Tryz.results15, asAddr, hlv]) rfl ⟨by rw [hres.out]; rfl, hbl⟩
set_option maxRecDepth 100000 in
set_option maxHeartbeats 8000000 in
theorem RGo_b (h : HartV) (op : Int) (d r1 r2 : Nat) (imm : Int) (aq rl : Bool) (pred succ : Int) (found : BitVec 64) (w : World) (hr1 : r1 < 32) (hr2 : r2 < 32) (hd : d < 32) (hm : mayE h ⟨op, d, r1, r2, imm, aq, rl, pred, succ⟩ = 0) (he : rendV h ⟨op, d, r1, r2, imm, aq, rl, pred, succ⟩ = 0) (hc : checkE ⟨op, d, r1, r2, imm, aq, rl, pred, succ⟩ = 0) (t8 : (rform op != 8) = true) (t69 : (op == 69) = true) :
    Calls Tryz.prog 15 #[.agg (hartArr h), .agg #[.int .i64 op, .int .i64 d, .int .i64 r1, .int .i64 r2, .int .i64 imm, .bool aq, .bool rl, .int .i64 pred, .int .i64 succ], .int .u64 (un found), .bool false] w fun e w' => e = .returned (.tuple #[.agg (hartArr (rgoneV h ⟨op, d, r1, r2, imm, aq, rl, pred, succ⟩ (tgtV h ⟨op, d, r1, r2, imm, aq, rl, pred, succ⟩).1 1#64)), .int .i64 0]) ∧ Below w.heap.size w w' := by
  have hE := RK.start w h ⟨op, d, r1, r2, imm, aq, rl, pred, succ⟩ 25 27 25
  obtain ⟨rh, c0, c1, c2, c3, c4, c5, c6, c7, c8⟩ := hE.facts
  have hu := Tryz.underlying25
  have hM := Lib.hid (fun W => RMay_any h ⟨op, d, r1, r2, imm, aq, rl, pred, succ⟩ W)
  have hN := Lib.hid (fun W => REnd_any h op d r1 r2 imm aq rl pred succ W hr1 hr2)
  have hF := Lib.hid (fun W => R2Form_any op W)
  have hD := Lib.hid (fun W => RDo_any op (h.x r1) (bv imm) W)
  have hD1 : Hid (∀ W, Calls Tryz.prog 30 #[.int .i64 1, .int .u64 0, .int .u64 (un (bv imm))] W fun e w' => e = .returned (.tuple #[.int .u64 (un (doF 1 0#64 (bv imm))), .int .i64 (doE 1)]) ∧ Below W.heap.size W w') := Lib.hid fun W => by have h1 := RDo_any 1 0#64 (bv imm) W; rw [un_0] at h1; exact h1
  have hMem := Lib.hid (fun W => R2Mem_any op W)
  have hT := Lib.hid (fun W => RTgt_any h op d r1 r2 imm aq rl pred succ W hr1 hr2)
  have hWr := Lib.hid (fun W => R2Writes_ok ⟨op, d, r1, r2, imm, aq, rl, pred, succ⟩ hc W)
  unfold memV at hMem
  rw [hm] at hM
  rw [he] at hN
  generalize (tgtV h ⟨op, d, r1, r2, imm, aq, rl, pred, succ⟩).1 = tn at hT ⊢
  generalize (tgtV h ⟨op, d, r1, r2, imm, aq, rl, pred, succ⟩).2 = tv at hT
  obtain ⟨v, hv⟩ : ∃ v, v = 1#64 := ⟨_, rfl⟩
  rw [← hv]
  generalize rform op = ff at hF t8
  generalize hq : doF op (h.x r1) (bv imm) = q at hD
  clear hq
  generalize doE op = qe at hD
  clear hm he hc
  have hund : ∀ b : Bool, (some undef = some (Value.bool b)) = False := fun b => by simp [undef]
  have hl1 : 0 ≤ (r1 : Int) ∧ (r1 : Int) < 32 := by omega
  have hl2 : 0 ≤ (r2 : Int) ∧ (r2 : Int) < 32 := by omega
  have hld : 0 ≤ (d : Int) ∧ (d : Int) < 32 := by omega
  have hun : Hid (un v = 1) := Lib.hid (by rw [hv]; exact un_1)
  clear hv
  go_enter Tryz.func15, Tryz.ntmps15
  go_upto_region 10 with (first | (refine wpList_load_mid rfl 25 _ rfl w.heap.size 0 rfl (hartL h) _ rh hu rfl (size_hart _) ?_) | (go_at_call 28; refine (hM.out _).mono ?_; rintro e wk ⟨rfl, hbk⟩; have hE9 := hE.keep hbk; clear hbk hE rh c0 c1 c2 c3 c4 c5 c6 c7 c8; have hE := hE9; clear hE9; obtain ⟨rh, c0, c1, c2, c3, c4, c5, c6, c7, c8⟩ := hE.facts) | (go_at_call 29; refine (hN.out _).mono ?_; rintro e wk ⟨rfl, hbk⟩; have hE9 := hE.keep hbk; clear hbk hE rh c0 c1 c2 c3 c4 c5 c6 c7 c8; have hE := hE9; clear hE9; obtain ⟨rh, c0, c1, c2, c3, c4, c5, c6, c7, c8⟩ := hE.facts))
  have x2 : wk.cell? ⟨w.heap.size, 1 + r2, none⟩ = some (.int .u64 (un (h.x r2))) := (hE.h (1 + r2) (by omega)).trans (congrArg some (hartCell_x h r2 hr2))
  go_upto_region 13 with (go_at_call 17; refine (hF.out _).mono ?_; rintro e wk ⟨rfl, rfl⟩; skip)
  clear x2 rh c0 c1 c2 c3 c4 c5 c6 c7 c8
  refine wp_region_held_drew (S := fun W => RK w h ⟨op, d, r1, r2, imm, aq, rl, pred, succ⟩ W) (by kernel_rfl) hE.drew (fun hHeld => ?_)
  refine wpAnyH_take (i := 0) (v := .pointer (some ⟨(w.heap.size + 1), 0, none⟩)) rfl (by kernel_rfl) (by kernel_rfl) (by kernel_rfl) (fun _ _ _ h => h) (Or.inl ⟨by rfl, fun W _ => by kernel_rfl⟩) hHeld ?_
  try simp only [Act.put, List.getElem_toArray, List.getElem_cons_zero, List.setIfInBounds_toArray, List.set_cons_zero, List.set_cons_succ]
  refine wpAnyH_take (i := 1) (v := .int .i64 op) rfl (by kernel_rfl) (by kernel_rfl) (by kernel_rfl) (fun _ _ _ h => h) (Or.inl ⟨by rfl, fun W hS => by (have k : W.cell? ⟨(w.heap.size + 1), 0, none⟩ = some (.int .i64 op) := (hS.c 0 (by decide))); go_simp⟩) hHeld ?_
  try simp only [Act.put, List.getElem_toArray, List.getElem_cons_succ, List.getElem_cons_zero, List.setIfInBounds_toArray, List.set_cons_zero, List.set_cons_succ]
  refine wpAnyH_take (i := 2) (v := .pointer (some ⟨(w.heap.size + 1), 2, none⟩)) rfl (by kernel_rfl) (by kernel_rfl) (by kernel_rfl) (fun _ _ _ h => h) (Or.inl ⟨by rfl, fun W _ => by kernel_rfl⟩) hHeld ?_
  try simp only [Act.put, List.getElem_toArray, List.getElem_cons_succ, List.getElem_cons_zero, List.setIfInBounds_toArray, List.set_cons_zero, List.set_cons_succ]
  refine wpAnyH_take (i := 3) (v := .int .i64 r1) rfl (by kernel_rfl) (by kernel_rfl) (by kernel_rfl) (fun _ _ _ h => h) (Or.inl ⟨by rfl, fun W hS => by (have k : W.cell? ⟨(w.heap.size + 1), 2, none⟩ = some (.int .i64 r1) := (hS.c 2 (by decide))); go_simp⟩) hHeld ?_
  try simp only [Act.put, List.getElem_toArray, List.getElem_cons_succ, List.getElem_cons_zero, List.setIfInBounds_toArray, List.set_cons_zero, List.set_cons_succ]
  refine wpAnyH_take (i := 4) (v := .pointer (some ⟨w.heap.size, 1, none⟩)) rfl (by kernel_rfl) (by kernel_rfl) (by kernel_rfl) (fun _ _ _ h => h) (Or.inl ⟨by rfl, fun W _ => by kernel_rfl⟩) hHeld ?_
  try simp only [Act.put, List.getElem_toArray, List.getElem_cons_succ, List.getElem_cons_zero, List.setIfInBounds_toArray, List.set_cons_zero, List.set_cons_succ]
  refine wpAnyH_take (i := 5) (v := .pointer (some ⟨w.heap.size, 1 + r1, none⟩)) rfl (by kernel_rfl) (by kernel_rfl) (by kernel_rfl) (fun _ _ _ h => h) (Or.inl ⟨by rfl, fun W _ => by go_simp⟩) hHeld ?_
  try simp only [Act.put, List.getElem_toArray, List.getElem_cons_succ, List.getElem_cons_zero, List.setIfInBounds_toArray, List.set_cons_zero, List.set_cons_succ]
  refine wpAnyH_take (i := 6) (v := .int .u64 (un (h.x r1))) rfl (by kernel_rfl) (by kernel_rfl) (by kernel_rfl) (fun _ _ _ h => h) (Or.inl ⟨by rfl, fun W hS => by (have k : W.cell? ⟨w.heap.size, 1 + r1, none⟩ = some (.int .u64 (un (h.x r1))) := (hS.h (1 + r1) (by omega)).trans (congrArg some (hartCell_x h r1 hr1))); go_simp⟩) hHeld ?_
  try simp only [Act.put, List.getElem_toArray, List.getElem_cons_succ, List.getElem_cons_zero, List.setIfInBounds_toArray, List.set_cons_zero, List.set_cons_succ]
  refine wpAnyH_take (i := 7) (v := .int .u64 (un (bv imm))) rfl (by kernel_rfl) (by kernel_rfl) (by kernel_rfl) (fun _ _ _ h => h) (Or.inl ⟨by rfl, fun W _ => by kernel_rfl⟩) hHeld ?_
  try simp only [Act.put, List.getElem_toArray, List.getElem_cons_succ, List.getElem_cons_zero, List.setIfInBounds_toArray, List.set_cons_zero, List.set_cons_succ]
  refine wpAnyH_ready (rs := [8]) (by kernel_rfl) (by simp) (AllReadyH.cons rfl (fun K hK2 => ?_) AllReadyH.nil)
  rw [if_pos (by rfl)]
  simp only [List.getElem_toArray, List.getElem_cons_succ, List.getElem_cons_zero]
  go_wp2_with (go_at_call 30; refine (hD.out _).mono ?_; rintro e wb ⟨rfl, hbb⟩)
  refine hK2.out _ _ (hHeld.keep hbb) (fun hHeld2 => ?_)
  clear hK2 K hHeld
  have hHeld := hHeld2
  clear hHeld2
  try simp only [Act.put, List.getElem_toArray, List.getElem_cons_succ, List.getElem_cons_zero, List.setIfInBounds_toArray, List.set_cons_zero, List.set_cons_succ]
  clear hbb
  refine wpAnyH_take (i := 9) (v := .tuple #[.int .u64 (un q), .int .i64 qe]) rfl (by kernel_rfl) (by kernel_rfl) (by kernel_rfl) (fun _ _ _ h => h) (Or.inl ⟨by rfl, fun W _ => by kernel_rfl⟩) hHeld ?_
  try simp only [Act.put, List.getElem_toArray, List.getElem_cons_succ, List.getElem_cons_zero, List.setIfInBounds_toArray, List.set_cons_zero, List.set_cons_succ]
  refine wpAnyH_take (i := 10) (v := .int .u64 (un q)) rfl (by kernel_rfl) (by kernel_rfl) (by kernel_rfl) (fun _ _ _ h => h) (Or.inl ⟨by rfl, fun W _ => by kernel_rfl⟩) hHeld ?_
  try simp only [Act.put, List.getElem_toArray, List.getElem_cons_succ, List.getElem_cons_zero, List.setIfInBounds_toArray, List.set_cons_zero, List.set_cons_succ]
  refine wpAnyH_take (i := 11) (v := .int .i64 qe) rfl (by kernel_rfl) (by kernel_rfl) (by kernel_rfl) (fun _ _ _ h => h) (Or.inl ⟨by rfl, fun W _ => by kernel_rfl⟩) hHeld ?_
  try simp only [Act.put, List.getElem_toArray, List.getElem_cons_succ, List.getElem_cons_zero, List.setIfInBounds_toArray, List.set_cons_zero, List.set_cons_succ]
  refine wpAnyH_take (i := 12) (v := .int .u64 (un q)) rfl (by kernel_rfl) (by kernel_rfl) (by kernel_rfl) (fun _ _ _ h => h) (Or.inl ⟨by rfl, fun W _ => by kernel_rfl⟩) hHeld ?_
  try simp only [Act.put, List.getElem_toArray, List.getElem_cons_succ, List.getElem_cons_zero, List.setIfInBounds_toArray, List.set_cons_zero, List.set_cons_succ]
  refine wpAnyH_take (i := 13) (v := .int .i64 qe) rfl (by kernel_rfl) (by kernel_rfl) (by kernel_rfl) (fun _ _ _ h => h) (Or.inl ⟨by rfl, fun W _ => by kernel_rfl⟩) hHeld ?_
  try simp only [Act.put, List.getElem_toArray, List.getElem_cons_succ, List.getElem_cons_zero, List.setIfInBounds_toArray, List.set_cons_zero, List.set_cons_succ]
  refine wpAnyH_done (by kernel_rfl) ?_ _
  have hE := hHeld
  clear hHeld hD
  skip
  obtain ⟨rh, c0, c1, c2, c3, c4, c5, c6, c7, c8⟩ := hE.facts
  have pc0 := hE.h 0 (by decide)
  rw [show hartCell h 0 = .int .u64 (un h.pc) from rfl] at pc0
  go_upto_region 28 with (first | (go_at_call 31; refine (hMem.out _).mono ?_; rintro e wk ⟨rfl, hbk⟩; have hE9 := hE.keep hbk; clear pc0; clear hbk hE rh c0 c1 c2 c3 c4 c5 c6 c7 c8; have hE := hE9; clear hE9; obtain ⟨rh, c0, c1, c2, c3, c4, c5, c6, c7, c8⟩ := hE.facts; have pc0 : wk.cell? ⟨w.heap.size, 0, none⟩ = some (.int .u64 (un h.pc)) := hE.h 0 (by decide)) | (go_at_call 30; refine (hD1.out _).mono ?_; rintro e wk ⟨rfl, hbk⟩; have hE9 := hE.keep hbk; clear pc0; clear hbk hE rh c0 c1 c2 c3 c4 c5 c6 c7 c8; have hE := hE9; clear hE9; obtain ⟨rh, c0, c1, c2, c3, c4, c5, c6, c7, c8⟩ := hE.facts; have pc0 : wk.cell? ⟨w.heap.size, 0, none⟩ = some (.int .u64 (un h.pc)) := hE.h 0 (by decide)))
  have z0 : wk.frozen? ⟨w.heap.size, 0, none⟩ = false := hE.hf 0 (by decide)
  go_upto_region 29 with (first | (refine wpList_load_mid rfl 25 _ rfl w.heap.size 0 rfl (hartL h) _ rh hu rfl (size_hart _) ?_) | (go_at_call 32; refine (hT.out _).mono ?_; rintro e wk ⟨rfl, hbk⟩; have hE9 := hE.keep hbk; clear pc0 z0; clear hbk hE rh c0 c1 c2 c3 c4 c5 c6 c7 c8; have hE := hE9; clear hE9; obtain ⟨rh, c0, c1, c2, c3, c4, c5, c6, c7, c8⟩ := hE.facts; have pc0 : wk.cell? ⟨w.heap.size, 0, none⟩ = some (.int .u64 (un h.pc)) := hE.h 0 (by decide); have z0 : wk.frozen? ⟨w.heap.size, 0, none⟩ = false := hE.hf 0 (by decide)))
  have hE9 := hE.put 0 (.int .u64 (un tn)) (hE.h.goes tn)
  clear hE pc0 z0 rh c0 c1 c2 c3 c4 c5 c6 c7 c8
  have hE := hE9
  clear hE9
  generalize World.setCell _ _ _ = u1 at hE ⊢
  obtain ⟨rh, c0, c1, c2, c3, c4, c5, c6, c7, c8⟩ := hE.facts
  go_upto_region 30 with (go_at_call 13; refine (hWr.out _).mono ?_; rintro e wk ⟨rfl, hbk⟩; have hE9 := hE.keep hbk; clear hbk hE rh c0 c1 c2 c3 c4 c5 c6 c7 c8; have hE := hE9; clear hE9; obtain ⟨rh, c0, c1, c2, c3, c4, c5, c6, c7, c8⟩ := hE.facts)
  by_cases hz : d = 0
  · have tz : decide (0 < (d : Int)) = false := by rw [decide_eq_false_iff_not]; omega
    have tz2 : decide (0 < d) = false := by rw [decide_eq_false_iff_not]; omega
    have hres : rgoneV h ⟨op, d, r1, r2, imm, aq, rl, pred, succ⟩ tn v = h.goes tn := if_pos (show (d : Int) = 0 by omega)
    replace hres := Lib.hid hres
    clear hz
    go_wp2_with (first | (refine wpList_load_mid rfl 25 _ rfl w.heap.size 0 rfl (hartL (h.goes tn)) _ rh hu rfl (size_hart _) ?_) | (refine wpList_store_mid rfl 25 _ _ rfl (w.heap.size + 2) 0 (hartL (h.goes tn)).toArray rfl rfl (there_hart hE.z _) (size_hartA _) (hartL_one _) ?_))
    have hr := World.rangeAt_setCells_same wk (w.heap.size + 2) 0 (hartL (h.goes tn)) (by rw [hartL_len]; exact hE.z)
    have hbl : Below w.heap.size w (World.setCells wk (w.heap.size + 2) 0 (hartL (h.goes tn))) := below_setCells (Nat.le_add_right _ _) (hartL (h.goes tn)) 0 wk hE.bl
    generalize World.setCells wk (w.heap.size + 2) 0 (hartL (h.goes tn)) = W5 at hr hbl ⊢
    have hlv := result_hart W5 (w.heap.size + 2) (h.goes tn) hr
    exact bodyPost_ret (v := .tuple #[.agg (hartL (h.goes tn)).toArray, .int .i64 0]) (by simp [results, Tryz.results15, asAddr, hlv]) rfl ⟨by rw [hres.out]; rfl, hbl⟩
  · have tz : decide (0 < (d : Int)) = true := by rw [decide_eq_true_iff]; omega
    have tz2 : decide (0 < d) = true := by rw [decide_eq_true_iff]; omega
    have hres : rgoneV h ⟨op, d, r1, r2, imm, aq, rl, pred, succ⟩ tn v = (h.goes tn).set d v := if_neg (show ¬ (d : Int) = 0 by omega)
    replace hres := Lib.hid hres
    clear hz
    have xd : wk.cell? ⟨w.heap.size, 1 + d, none⟩ = some (.int .u64 (un (h.x d))) := (hE.h (1 + d) (by omega)).trans (congrArg some (hartCell_x (h.goes tn) d hd))
    have zd : wk.frozen? ⟨w.heap.size, 1 + d, none⟩ = false := hE.hf (1 + d) (by omega)
    go_upto_region 32 with fail
    have hE9 := hE.put (h' := (h.goes tn).set d v) (1 + d) (.int .u64 1) (by have h9 := hE.h.setX d hd v; rw [hun.out] at h9; exact h9)
    clear hE xd zd rh c0 c1 c2 c3 c4 c5 c6 c7 c8
    have hE := hE9
    clear hE9
    generalize World.setCell _ _ _ = u2 at hE ⊢
    have rh := hE.h.range
    go_wp2_with (first | (refine wpList_load_mid rfl 25 _ rfl w.heap.size 0 rfl (hartL ((h.goes tn).set d v)) _ rh hu rfl (size_hart _) ?_) | (refine wpList_store_mid rfl 25 _ _ rfl (w.heap.size + 2) 0 (hartL ((h.goes tn).set d v)).toArray rfl rfl (there_hart hE.z _) (size_hartA _) (hartL_one _) ?_))
    have hr := World.rangeAt_setCells_same u2 (w.heap.size + 2) 0 (hartL ((h.goes tn).set d v)) (by rw [hartL_len]; exact hE.z)
    have hbl : Below w.heap.size w (World.setCells u2 (w.heap.size + 2) 0 (hartL ((h.goes tn).set d v))) := below_setCells (Nat.le_add_right _ _) (hartL ((h.goes tn).set d v)) 0 u2 hE.bl
    generalize World.setCells u2 (w.heap.size + 2) 0 (hartL ((h.goes tn).set d v)) = W5 at hr hbl ⊢
    have hlv := result_hart W5 (w.heap.size + 2) ((h.goes tn).set d v) hr
    exact bodyPost_ret (v := .tuple #[.agg (hartL ((h.goes tn).set d v)).toArray, .int .i64 0]) (by simp [results, Tryz.results15, asAddr, hlv]) rfl ⟨by rw [hres.out]; rfl, hbl⟩
set_option maxRecDepth 100000 in
set_option maxHeartbeats 8000000 in
theorem RGo_c (h : HartV) (op : Int) (d r1 r2 : Nat) (imm : Int) (aq rl : Bool) (pred succ : Int) (found : BitVec 64) (won : Bool) (w : World) (hr1 : r1 < 32) (hr2 : r2 < 32) (hd : d < 32) (hm : mayE h ⟨op, d, r1, r2, imm, aq, rl, pred, succ⟩ = 0) (he : rendV h ⟨op, d, r1, r2, imm, aq, rl, pred, succ⟩ = 0) (hc : checkE ⟨op, d, r1, r2, imm, aq, rl, pred, succ⟩ = 0) (t8 : (rform op != 8) = true) (t69 : (op == 69) = false) (tl : (opOf op).loads = true) :
    Calls Tryz.prog 15 #[.agg (hartArr h), .agg #[.int .i64 op, .int .i64 d, .int .i64 r1, .int .i64 r2, .int .i64 imm, .bool aq, .bool rl, .int .i64 pred, .int .i64 succ], .int .u64 (un found), .bool won] w fun e w' => e = .returned (.tuple #[.agg (hartArr (rgoneV h ⟨op, d, r1, r2, imm, aq, rl, pred, succ⟩ (tgtV h ⟨op, d, r1, r2, imm, aq, rl, pred, succ⟩).1 found)), .int .i64 0]) ∧ Below w.heap.size w w' := by
  have hE := RK.start w h ⟨op, d, r1, r2, imm, aq, rl, pred, succ⟩ 25 27 25
  obtain ⟨rh, c0, c1, c2, c3, c4, c5, c6, c7, c8⟩ := hE.facts
  have hu := Tryz.underlying25
  have hM := Lib.hid (fun W => RMay_any h ⟨op, d, r1, r2, imm, aq, rl, pred, succ⟩ W)
  have hN := Lib.hid (fun W => REnd_any h op d r1 r2 imm aq rl pred succ W hr1 hr2)
  have hF := Lib.hid (fun W => R2Form_any op W)
  have hD := Lib.hid (fun W => RDo_any op (h.x r1) (bv imm) W)
  have hD1 : Hid (∀ W, Calls Tryz.prog 30 #[.int .i64 1, .int .u64 0, .int .u64 (un (bv imm))] W fun e w' => e = .returned (.tuple #[.int .u64 (un (doF 1 0#64 (bv imm))), .int .i64 (doE 1)]) ∧ Below W.heap.size W w') := Lib.hid fun W => by have h1 := RDo_any 1 0#64 (bv imm) W; rw [un_0] at h1; exact h1
  have hMem := Lib.hid (fun W => R2Mem_any op W)
  have hT := Lib.hid (fun W => RTgt_any h op d r1 r2 imm aq rl pred succ W hr1 hr2)
  have hWr := Lib.hid (fun W => R2Writes_ok ⟨op, d, r1, r2, imm, aq, rl, pred, succ⟩ hc W)
  unfold memV at hMem
  rw [hm] at hM
  rw [he] at hN
  generalize (tgtV h ⟨op, d, r1, r2, imm, aq, rl, pred, succ⟩).1 = tn at hT ⊢
  generalize (tgtV h ⟨op, d, r1, r2, imm, aq, rl, pred, succ⟩).2 = tv at hT
  obtain ⟨v, hv⟩ : ∃ v, v = found := ⟨_, rfl⟩
  rw [← hv]
  generalize rform op = ff at hF t8
  generalize hq : doF op (h.x r1) (bv imm) = q at hD
  clear hq
  generalize doE op = qe at hD
  generalize hlb : (opOf op).loads = lb at hMem tl
  subst tl
  clear hm he hc
  have hund : ∀ b : Bool, (some undef = some (Value.bool b)) = False := fun b => by simp [undef]
  have hl1 : 0 ≤ (r1 : Int) ∧ (r1 : Int) < 32 := by omega
  have hl2 : 0 ≤ (r2 : Int) ∧ (r2 : Int) < 32 := by omega
  have hld : 0 ≤ (d : Int) ∧ (d : Int) < 32 := by omega
  clear hv
  go_enter Tryz.func15, Tryz.ntmps15
  go_upto_region 10 with (first | (refine wpList_load_mid rfl 25 _ rfl w.heap.size 0 rfl (hartL h) _ rh hu rfl (size_hart _) ?_) | (go_at_call 28; refine (hM.out _).mono ?_; rintro e wk ⟨rfl, hbk⟩; have hE9 := hE.keep hbk; clear hbk hE rh c0 c1 c2 c3 c4 c5 c6 c7 c8; have hE := hE9; clear hE9; obtain ⟨rh, c0, c1, c2, c3, c4, c5, c6, c7, c8⟩ := hE.facts) | (go_at_call 29; refine (hN.out _).mono ?_; rintro e wk ⟨rfl, hbk⟩; have hE9 := hE.keep hbk; clear hbk hE rh c0 c1 c2 c3 c4 c5 c6 c7 c8; have hE := hE9; clear hE9; obtain ⟨rh, c0, c1, c2, c3, c4, c5, c6, c7, c8⟩ := hE.facts))
  have x2 : wk.cell? ⟨w.heap.size, 1 + r2, none⟩ = some (.int .u64 (un (h.x r2))) := (hE.h (1 + r2) (by omega)).trans (congrArg some (hartCell_x h r2 hr2))
  go_upto_region 13 with (go_at_call 17; refine (hF.out _).mono ?_; rintro e wk ⟨rfl, rfl⟩; skip)
  clear x2 rh c0 c1 c2 c3 c4 c5 c6 c7 c8
  refine wp_region_held_drew (S := fun W => RK w h ⟨op, d, r1, r2, imm, aq, rl, pred, succ⟩ W) (by kernel_rfl) hE.drew (fun hHeld => ?_)
  refine wpAnyH_take (i := 0) (v := .pointer (some ⟨(w.heap.size + 1), 0, none⟩)) rfl (by kernel_rfl) (by kernel_rfl) (by kernel_rfl) (fun _ _ _ h => h) (Or.inl ⟨by rfl, fun W _ => by kernel_rfl⟩) hHeld ?_
  try simp only [Act.put, List.getElem_toArray, List.getElem_cons_zero, List.setIfInBounds_toArray, List.set_cons_zero, List.set_cons_succ]
  refine wpAnyH_take (i := 1) (v := .int .i64 op) rfl (by kernel_rfl) (by kernel_rfl) (by kernel_rfl) (fun _ _ _ h => h) (Or.inl ⟨by rfl, fun W hS => by (have k : W.cell? ⟨(w.heap.size + 1), 0, none⟩ = some (.int .i64 op) := (hS.c 0 (by decide))); go_simp⟩) hHeld ?_
  try simp only [Act.put, List.getElem_toArray, List.getElem_cons_succ, List.getElem_cons_zero, List.setIfInBounds_toArray, List.set_cons_zero, List.set_cons_succ]
  refine wpAnyH_take (i := 2) (v := .pointer (some ⟨(w.heap.size + 1), 2, none⟩)) rfl (by kernel_rfl) (by kernel_rfl) (by kernel_rfl) (fun _ _ _ h => h) (Or.inl ⟨by rfl, fun W _ => by kernel_rfl⟩) hHeld ?_
  try simp only [Act.put, List.getElem_toArray, List.getElem_cons_succ, List.getElem_cons_zero, List.setIfInBounds_toArray, List.set_cons_zero, List.set_cons_succ]
  refine wpAnyH_take (i := 3) (v := .int .i64 r1) rfl (by kernel_rfl) (by kernel_rfl) (by kernel_rfl) (fun _ _ _ h => h) (Or.inl ⟨by rfl, fun W hS => by (have k : W.cell? ⟨(w.heap.size + 1), 2, none⟩ = some (.int .i64 r1) := (hS.c 2 (by decide))); go_simp⟩) hHeld ?_
  try simp only [Act.put, List.getElem_toArray, List.getElem_cons_succ, List.getElem_cons_zero, List.setIfInBounds_toArray, List.set_cons_zero, List.set_cons_succ]
  refine wpAnyH_take (i := 4) (v := .pointer (some ⟨w.heap.size, 1, none⟩)) rfl (by kernel_rfl) (by kernel_rfl) (by kernel_rfl) (fun _ _ _ h => h) (Or.inl ⟨by rfl, fun W _ => by kernel_rfl⟩) hHeld ?_
  try simp only [Act.put, List.getElem_toArray, List.getElem_cons_succ, List.getElem_cons_zero, List.setIfInBounds_toArray, List.set_cons_zero, List.set_cons_succ]
  refine wpAnyH_take (i := 5) (v := .pointer (some ⟨w.heap.size, 1 + r1, none⟩)) rfl (by kernel_rfl) (by kernel_rfl) (by kernel_rfl) (fun _ _ _ h => h) (Or.inl ⟨by rfl, fun W _ => by go_simp⟩) hHeld ?_
  try simp only [Act.put, List.getElem_toArray, List.getElem_cons_succ, List.getElem_cons_zero, List.setIfInBounds_toArray, List.set_cons_zero, List.set_cons_succ]
  refine wpAnyH_take (i := 6) (v := .int .u64 (un (h.x r1))) rfl (by kernel_rfl) (by kernel_rfl) (by kernel_rfl) (fun _ _ _ h => h) (Or.inl ⟨by rfl, fun W hS => by (have k : W.cell? ⟨w.heap.size, 1 + r1, none⟩ = some (.int .u64 (un (h.x r1))) := (hS.h (1 + r1) (by omega)).trans (congrArg some (hartCell_x h r1 hr1))); go_simp⟩) hHeld ?_
  try simp only [Act.put, List.getElem_toArray, List.getElem_cons_succ, List.getElem_cons_zero, List.setIfInBounds_toArray, List.set_cons_zero, List.set_cons_succ]
  refine wpAnyH_take (i := 7) (v := .int .u64 (un (bv imm))) rfl (by kernel_rfl) (by kernel_rfl) (by kernel_rfl) (fun _ _ _ h => h) (Or.inl ⟨by rfl, fun W _ => by kernel_rfl⟩) hHeld ?_
  try simp only [Act.put, List.getElem_toArray, List.getElem_cons_succ, List.getElem_cons_zero, List.setIfInBounds_toArray, List.set_cons_zero, List.set_cons_succ]
  refine wpAnyH_ready (rs := [8]) (by kernel_rfl) (by simp) (AllReadyH.cons rfl (fun K hK2 => ?_) AllReadyH.nil)
  rw [if_pos (by rfl)]
  simp only [List.getElem_toArray, List.getElem_cons_succ, List.getElem_cons_zero]
  go_wp2_with (go_at_call 30; refine (hD.out _).mono ?_; rintro e wb ⟨rfl, hbb⟩)
  refine hK2.out _ _ (hHeld.keep hbb) (fun hHeld2 => ?_)
  clear hK2 K hHeld
  have hHeld := hHeld2
  clear hHeld2
  try simp only [Act.put, List.getElem_toArray, List.getElem_cons_succ, List.getElem_cons_zero, List.setIfInBounds_toArray, List.set_cons_zero, List.set_cons_succ]
  clear hbb
  refine wpAnyH_take (i := 9) (v := .tuple #[.int .u64 (un q), .int .i64 qe]) rfl (by kernel_rfl) (by kernel_rfl) (by kernel_rfl) (fun _ _ _ h => h) (Or.inl ⟨by rfl, fun W _ => by kernel_rfl⟩) hHeld ?_
  try simp only [Act.put, List.getElem_toArray, List.getElem_cons_succ, List.getElem_cons_zero, List.setIfInBounds_toArray, List.set_cons_zero, List.set_cons_succ]
  refine wpAnyH_take (i := 10) (v := .int .u64 (un q)) rfl (by kernel_rfl) (by kernel_rfl) (by kernel_rfl) (fun _ _ _ h => h) (Or.inl ⟨by rfl, fun W _ => by kernel_rfl⟩) hHeld ?_
  try simp only [Act.put, List.getElem_toArray, List.getElem_cons_succ, List.getElem_cons_zero, List.setIfInBounds_toArray, List.set_cons_zero, List.set_cons_succ]
  refine wpAnyH_take (i := 11) (v := .int .i64 qe) rfl (by kernel_rfl) (by kernel_rfl) (by kernel_rfl) (fun _ _ _ h => h) (Or.inl ⟨by rfl, fun W _ => by kernel_rfl⟩) hHeld ?_
  try simp only [Act.put, List.getElem_toArray, List.getElem_cons_succ, List.getElem_cons_zero, List.setIfInBounds_toArray, List.set_cons_zero, List.set_cons_succ]
  refine wpAnyH_take (i := 12) (v := .int .u64 (un q)) rfl (by kernel_rfl) (by kernel_rfl) (by kernel_rfl) (fun _ _ _ h => h) (Or.inl ⟨by rfl, fun W _ => by kernel_rfl⟩) hHeld ?_
  try simp only [Act.put, List.getElem_toArray, List.getElem_cons_succ, List.getElem_cons_zero, List.setIfInBounds_toArray, List.set_cons_zero, List.set_cons_succ]
  refine wpAnyH_take (i := 13) (v := .int .i64 qe) rfl (by kernel_rfl) (by kernel_rfl) (by kernel_rfl) (fun _ _ _ h => h) (Or.inl ⟨by rfl, fun W _ => by kernel_rfl⟩) hHeld ?_
  try simp only [Act.put, List.getElem_toArray, List.getElem_cons_succ, List.getElem_cons_zero, List.setIfInBounds_toArray, List.set_cons_zero, List.set_cons_succ]
  refine wpAnyH_done (by kernel_rfl) ?_ _
  have hE := hHeld
  clear hHeld hD
  skip
  obtain ⟨rh, c0, c1, c2, c3, c4, c5, c6, c7, c8⟩ := hE.facts
  have pc0 := hE.h 0 (by decide)
  rw [show hartCell h 0 = .int .u64 (un h.pc) from rfl] at pc0
  go_upto_region 28 with (first | (go_at_call 31; refine (hMem.out _).mono ?_; rintro e wk ⟨rfl, hbk⟩; have hE9 := hE.keep hbk; clear pc0; clear hbk hE rh c0 c1 c2 c3 c4 c5 c6 c7 c8; have hE := hE9; clear hE9; obtain ⟨rh, c0, c1, c2, c3, c4, c5, c6, c7, c8⟩ := hE.facts; have pc0 : wk.cell? ⟨w.heap.size, 0, none⟩ = some (.int .u64 (un h.pc)) := hE.h 0 (by decide)) | (go_at_call 30; refine (hD1.out _).mono ?_; rintro e wk ⟨rfl, hbk⟩; have hE9 := hE.keep hbk; clear pc0; clear hbk hE rh c0 c1 c2 c3 c4 c5 c6 c7 c8; have hE := hE9; clear hE9; obtain ⟨rh, c0, c1, c2, c3, c4, c5, c6, c7, c8⟩ := hE.facts; have pc0 : wk.cell? ⟨w.heap.size, 0, none⟩ = some (.int .u64 (un h.pc)) := hE.h 0 (by decide)))
  have z0 : wk.frozen? ⟨w.heap.size, 0, none⟩ = false := hE.hf 0 (by decide)
  go_upto_region 29 with (first | (refine wpList_load_mid rfl 25 _ rfl w.heap.size 0 rfl (hartL h) _ rh hu rfl (size_hart _) ?_) | (go_at_call 32; refine (hT.out _).mono ?_; rintro e wk ⟨rfl, hbk⟩; have hE9 := hE.keep hbk; clear pc0 z0; clear hbk hE rh c0 c1 c2 c3 c4 c5 c6 c7 c8; have hE := hE9; clear hE9; obtain ⟨rh, c0, c1, c2, c3, c4, c5, c6, c7, c8⟩ := hE.facts; have pc0 : wk.cell? ⟨w.heap.size, 0, none⟩ = some (.int .u64 (un h.pc)) := hE.h 0 (by decide); have z0 : wk.frozen? ⟨w.heap.size, 0, none⟩ = false := hE.hf 0 (by decide)))
  have hE9 := hE.put 0 (.int .u64 (un tn)) (hE.h.goes tn)
  clear hE pc0 z0 rh c0 c1 c2 c3 c4 c5 c6 c7 c8
  have hE := hE9
  clear hE9
  generalize World.setCell _ _ _ = u1 at hE ⊢
  obtain ⟨rh, c0, c1, c2, c3, c4, c5, c6, c7, c8⟩ := hE.facts
  go_upto_region 30 with (go_at_call 13; refine (hWr.out _).mono ?_; rintro e wk ⟨rfl, hbk⟩; have hE9 := hE.keep hbk; clear hbk hE rh c0 c1 c2 c3 c4 c5 c6 c7 c8; have hE := hE9; clear hE9; obtain ⟨rh, c0, c1, c2, c3, c4, c5, c6, c7, c8⟩ := hE.facts)
  by_cases hz : d = 0
  · have tz : decide (0 < (d : Int)) = false := by rw [decide_eq_false_iff_not]; omega
    have tz2 : decide (0 < d) = false := by rw [decide_eq_false_iff_not]; omega
    have hres : rgoneV h ⟨op, d, r1, r2, imm, aq, rl, pred, succ⟩ tn v = h.goes tn := if_pos (show (d : Int) = 0 by omega)
    replace hres := Lib.hid hres
    clear hz
    go_wp2_with (first | (refine wpList_load_mid rfl 25 _ rfl w.heap.size 0 rfl (hartL (h.goes tn)) _ rh hu rfl (size_hart _) ?_) | (refine wpList_store_mid rfl 25 _ _ rfl (w.heap.size + 2) 0 (hartL (h.goes tn)).toArray rfl rfl (there_hart hE.z _) (size_hartA _) (hartL_one _) ?_))
    have hr := World.rangeAt_setCells_same wk (w.heap.size + 2) 0 (hartL (h.goes tn)) (by rw [hartL_len]; exact hE.z)
    have hbl : Below w.heap.size w (World.setCells wk (w.heap.size + 2) 0 (hartL (h.goes tn))) := below_setCells (Nat.le_add_right _ _) (hartL (h.goes tn)) 0 wk hE.bl
    generalize World.setCells wk (w.heap.size + 2) 0 (hartL (h.goes tn)) = W5 at hr hbl ⊢
    have hlv := result_hart W5 (w.heap.size + 2) (h.goes tn) hr
    exact bodyPost_ret (v := .tuple #[.agg (hartL (h.goes tn)).toArray, .int .i64 0]) (by simp [results, Tryz.results15, asAddr, hlv]) rfl ⟨by rw [hres.out]; rfl, hbl⟩
  · have tz : decide (0 < (d : Int)) = true := by rw [decide_eq_true_iff]; omega
    have tz2 : decide (0 < d) = true := by rw [decide_eq_true_iff]; omega
    have hres : rgoneV h ⟨op, d, r1, r2, imm, aq, rl, pred, succ⟩ tn v = (h.goes tn).set d v := if_neg (show ¬ (d : Int) = 0 by omega)
    replace hres := Lib.hid hres
    clear hz
    have xd : wk.cell? ⟨w.heap.size, 1 + d, none⟩ = some (.int .u64 (un (h.x d))) := (hE.h (1 + d) (by omega)).trans (congrArg some (hartCell_x (h.goes tn) d hd))
    have zd : wk.frozen? ⟨w.heap.size, 1 + d, none⟩ = false := hE.hf (1 + d) (by omega)
    go_upto_region 32 with fail
    have hE9 := hE.put (1 + d) (.int .u64 (un v)) (hE.h.setX d hd v)
    clear hE xd zd rh c0 c1 c2 c3 c4 c5 c6 c7 c8
    have hE := hE9
    clear hE9
    generalize World.setCell _ _ _ = u2 at hE ⊢
    have rh := hE.h.range
    go_wp2_with (first | (refine wpList_load_mid rfl 25 _ rfl w.heap.size 0 rfl (hartL ((h.goes tn).set d v)) _ rh hu rfl (size_hart _) ?_) | (refine wpList_store_mid rfl 25 _ _ rfl (w.heap.size + 2) 0 (hartL ((h.goes tn).set d v)).toArray rfl rfl (there_hart hE.z _) (size_hartA _) (hartL_one _) ?_))
    have hr := World.rangeAt_setCells_same u2 (w.heap.size + 2) 0 (hartL ((h.goes tn).set d v)) (by rw [hartL_len]; exact hE.z)
    have hbl : Below w.heap.size w (World.setCells u2 (w.heap.size + 2) 0 (hartL ((h.goes tn).set d v))) := below_setCells (Nat.le_add_right _ _) (hartL ((h.goes tn).set d v)) 0 u2 hE.bl
    generalize World.setCells u2 (w.heap.size + 2) 0 (hartL ((h.goes tn).set d v)) = W5 at hr hbl ⊢
    have hlv := result_hart W5 (w.heap.size + 2) ((h.goes tn).set d v) hr
    exact bodyPost_ret (v := .tuple #[.agg (hartL ((h.goes tn).set d v)).toArray, .int .i64 0]) (by simp [results, Tryz.results15, asAddr, hlv]) rfl ⟨by rw [hres.out]; rfl, hbl⟩
end
end Go.Proofs.YtbglinhglnbfmaaGreatDoor
namespace Go.Proofs.YtbglinhglnbfmaaGreatDoor
open Go.RowKit
attribute [local go_sem] wrap_u64_bv bv_un bv_sn bv_add bv_mul bv_neg bv_sub mul_bvpow shr_min shl_min sshr_min bv_lit bv_0 bv_1 un_shr sn_shr wrap_i64_un bits_u64_and bits_u64_or bits_u64_xor bits_u64_andNot bv_max u64_unsigned
section
attribute [local irreducible] un sn hartL
set_option maxRecDepth 100000 in
set_option maxHeartbeats 8000000 in
theorem RGo_d (h : HartV) (op : Int) (d r1 r2 : Nat) (imm : Int) (aq rl : Bool) (pred succ : Int) (found : BitVec 64) (won : Bool) (w : World) (hr1 : r1 < 32) (hr2 : r2 < 32) (hd : d < 32) (hm : mayE h ⟨op, d, r1, r2, imm, aq, rl, pred, succ⟩ = 0) (he : rendV h ⟨op, d, r1, r2, imm, aq, rl, pred, succ⟩ = 0) (hc : checkE ⟨op, d, r1, r2, imm, aq, rl, pred, succ⟩ = 0) (t8 : (rform op != 8) = true) (t69 : (op == 69) = false) (tl : (opOf op).loads = false) (t3 : (op == 3) = true) :
    Calls Tryz.prog 15 #[.agg (hartArr h), .agg #[.int .i64 op, .int .i64 d, .int .i64 r1, .int .i64 r2, .int .i64 imm, .bool aq, .bool rl, .int .i64 pred, .int .i64 succ], .int .u64 (un found), .bool won] w fun e w' => e = .returned (.tuple #[.agg (hartArr (rgoneV h ⟨op, d, r1, r2, imm, aq, rl, pred, succ⟩ (tgtV h ⟨op, d, r1, r2, imm, aq, rl, pred, succ⟩).1 (h.pc + 4#64))), .int .i64 0]) ∧ Below w.heap.size w w' := by
  have hE := RK.start w h ⟨op, d, r1, r2, imm, aq, rl, pred, succ⟩ 25 27 25
  obtain ⟨rh, c0, c1, c2, c3, c4, c5, c6, c7, c8⟩ := hE.facts
  have hu := Tryz.underlying25
  have hM := Lib.hid (fun W => RMay_any h ⟨op, d, r1, r2, imm, aq, rl, pred, succ⟩ W)
  have hN := Lib.hid (fun W => REnd_any h op d r1 r2 imm aq rl pred succ W hr1 hr2)
  have hF := Lib.hid (fun W => R2Form_any op W)
  have hD := Lib.hid (fun W => RDo_any op (h.x r1) (bv imm) W)
  have hD1 : Hid (∀ W, Calls Tryz.prog 30 #[.int .i64 1, .int .u64 0, .int .u64 (un (bv imm))] W fun e w' => e = .returned (.tuple #[.int .u64 (un (doF 1 0#64 (bv imm))), .int .i64 (doE 1)]) ∧ Below W.heap.size W w') := Lib.hid fun W => by have h1 := RDo_any 1 0#64 (bv imm) W; rw [un_0] at h1; exact h1
  have hMem := Lib.hid (fun W => R2Mem_any op W)
  have hT := Lib.hid (fun W => RTgt_any h op d r1 r2 imm aq rl pred succ W hr1 hr2)
  have hWr := Lib.hid (fun W => R2Writes_ok ⟨op, d, r1, r2, imm, aq, rl, pred, succ⟩ hc W)
  unfold memV at hMem
  rw [hm] at hM
  rw [he] at hN
  generalize (tgtV h ⟨op, d, r1, r2, imm, aq, rl, pred, succ⟩).1 = tn at hT ⊢
  generalize (tgtV h ⟨op, d, r1, r2, imm, aq, rl, pred, succ⟩).2 = tv at hT
  obtain ⟨v, hv⟩ : ∃ v, v = (h.pc + 4#64) := ⟨_, rfl⟩
  rw [← hv]
  generalize rform op = ff at hF t8
  generalize hq : doF op (h.x r1) (bv imm) = q at hD
  clear hq
  generalize doE op = qe at hD
  generalize hlb : (opOf op).loads = lb at hMem tl
  subst tl
  clear hm he hc
  have hund : ∀ b : Bool, (some undef = some (Value.bool b)) = False := fun b => by simp [undef]
  have hl1 : 0 ≤ (r1 : Int) ∧ (r1 : Int) < 32 := by omega
  have hl2 : 0 ≤ (r2 : Int) ∧ (r2 : Int) < 32 := by omega
  have hld : 0 ≤ (d : Int) ∧ (d : Int) < 32 := by omega
  have hun : Hid (un v = un (h.pc + 4#64)) := Lib.hid (by rw [hv])
  clear hv
  go_enter Tryz.func15, Tryz.ntmps15
  go_upto_region 10 with (first | (refine wpList_load_mid rfl 25 _ rfl w.heap.size 0 rfl (hartL h) _ rh hu rfl (size_hart _) ?_) | (go_at_call 28; refine (hM.out _).mono ?_; rintro e wk ⟨rfl, hbk⟩; have hE9 := hE.keep hbk; clear hbk hE rh c0 c1 c2 c3 c4 c5 c6 c7 c8; have hE := hE9; clear hE9; obtain ⟨rh, c0, c1, c2, c3, c4, c5, c6, c7, c8⟩ := hE.facts) | (go_at_call 29; refine (hN.out _).mono ?_; rintro e wk ⟨rfl, hbk⟩; have hE9 := hE.keep hbk; clear hbk hE rh c0 c1 c2 c3 c4 c5 c6 c7 c8; have hE := hE9; clear hE9; obtain ⟨rh, c0, c1, c2, c3, c4, c5, c6, c7, c8⟩ := hE.facts))
  have x2 : wk.cell? ⟨w.heap.size, 1 + r2, none⟩ = some (.int .u64 (un (h.x r2))) := (hE.h (1 + r2) (by omega)).trans (congrArg some (hartCell_x h r2 hr2))
  go_upto_region 13 with (go_at_call 17; refine (hF.out _).mono ?_; rintro e wk ⟨rfl, rfl⟩; skip)
  clear x2 rh c0 c1 c2 c3 c4 c5 c6 c7 c8
  refine wp_region_held_drew (S := fun W => RK w h ⟨op, d, r1, r2, imm, aq, rl, pred, succ⟩ W) (by kernel_rfl) hE.drew (fun hHeld => ?_)
  refine wpAnyH_take (i := 0) (v := .pointer (some ⟨(w.heap.size + 1), 0, none⟩)) rfl (by kernel_rfl) (by kernel_rfl) (by kernel_rfl) (fun _ _ _ h => h) (Or.inl ⟨by rfl, fun W _ => by kernel_rfl⟩) hHeld ?_
  try simp only [Act.put, List.getElem_toArray, List.getElem_cons_zero, List.setIfInBounds_toArray, List.set_cons_zero, List.set_cons_succ]
  refine wpAnyH_take (i := 1) (v := .int .i64 op) rfl (by kernel_rfl) (by kernel_rfl) (by kernel_rfl) (fun _ _ _ h => h) (Or.inl ⟨by rfl, fun W hS => by (have k : W.cell? ⟨(w.heap.size + 1), 0, none⟩ = some (.int .i64 op) := (hS.c 0 (by decide))); go_simp⟩) hHeld ?_
  try simp only [Act.put, List.getElem_toArray, List.getElem_cons_succ, List.getElem_cons_zero, List.setIfInBounds_toArray, List.set_cons_zero, List.set_cons_succ]
  refine wpAnyH_take (i := 2) (v := .pointer (some ⟨(w.heap.size + 1), 2, none⟩)) rfl (by kernel_rfl) (by kernel_rfl) (by kernel_rfl) (fun _ _ _ h => h) (Or.inl ⟨by rfl, fun W _ => by kernel_rfl⟩) hHeld ?_
  try simp only [Act.put, List.getElem_toArray, List.getElem_cons_succ, List.getElem_cons_zero, List.setIfInBounds_toArray, List.set_cons_zero, List.set_cons_succ]
  refine wpAnyH_take (i := 3) (v := .int .i64 r1) rfl (by kernel_rfl) (by kernel_rfl) (by kernel_rfl) (fun _ _ _ h => h) (Or.inl ⟨by rfl, fun W hS => by (have k : W.cell? ⟨(w.heap.size + 1), 2, none⟩ = some (.int .i64 r1) := (hS.c 2 (by decide))); go_simp⟩) hHeld ?_
  try simp only [Act.put, List.getElem_toArray, List.getElem_cons_succ, List.getElem_cons_zero, List.setIfInBounds_toArray, List.set_cons_zero, List.set_cons_succ]
  refine wpAnyH_take (i := 4) (v := .pointer (some ⟨w.heap.size, 1, none⟩)) rfl (by kernel_rfl) (by kernel_rfl) (by kernel_rfl) (fun _ _ _ h => h) (Or.inl ⟨by rfl, fun W _ => by kernel_rfl⟩) hHeld ?_
  try simp only [Act.put, List.getElem_toArray, List.getElem_cons_succ, List.getElem_cons_zero, List.setIfInBounds_toArray, List.set_cons_zero, List.set_cons_succ]
  refine wpAnyH_take (i := 5) (v := .pointer (some ⟨w.heap.size, 1 + r1, none⟩)) rfl (by kernel_rfl) (by kernel_rfl) (by kernel_rfl) (fun _ _ _ h => h) (Or.inl ⟨by rfl, fun W _ => by go_simp⟩) hHeld ?_
  try simp only [Act.put, List.getElem_toArray, List.getElem_cons_succ, List.getElem_cons_zero, List.setIfInBounds_toArray, List.set_cons_zero, List.set_cons_succ]
  refine wpAnyH_take (i := 6) (v := .int .u64 (un (h.x r1))) rfl (by kernel_rfl) (by kernel_rfl) (by kernel_rfl) (fun _ _ _ h => h) (Or.inl ⟨by rfl, fun W hS => by (have k : W.cell? ⟨w.heap.size, 1 + r1, none⟩ = some (.int .u64 (un (h.x r1))) := (hS.h (1 + r1) (by omega)).trans (congrArg some (hartCell_x h r1 hr1))); go_simp⟩) hHeld ?_
  try simp only [Act.put, List.getElem_toArray, List.getElem_cons_succ, List.getElem_cons_zero, List.setIfInBounds_toArray, List.set_cons_zero, List.set_cons_succ]
  refine wpAnyH_take (i := 7) (v := .int .u64 (un (bv imm))) rfl (by kernel_rfl) (by kernel_rfl) (by kernel_rfl) (fun _ _ _ h => h) (Or.inl ⟨by rfl, fun W _ => by kernel_rfl⟩) hHeld ?_
  try simp only [Act.put, List.getElem_toArray, List.getElem_cons_succ, List.getElem_cons_zero, List.setIfInBounds_toArray, List.set_cons_zero, List.set_cons_succ]
  refine wpAnyH_ready (rs := [8]) (by kernel_rfl) (by simp) (AllReadyH.cons rfl (fun K hK2 => ?_) AllReadyH.nil)
  rw [if_pos (by rfl)]
  simp only [List.getElem_toArray, List.getElem_cons_succ, List.getElem_cons_zero]
  go_wp2_with (go_at_call 30; refine (hD.out _).mono ?_; rintro e wb ⟨rfl, hbb⟩)
  refine hK2.out _ _ (hHeld.keep hbb) (fun hHeld2 => ?_)
  clear hK2 K hHeld
  have hHeld := hHeld2
  clear hHeld2
  try simp only [Act.put, List.getElem_toArray, List.getElem_cons_succ, List.getElem_cons_zero, List.setIfInBounds_toArray, List.set_cons_zero, List.set_cons_succ]
  clear hbb
  refine wpAnyH_take (i := 9) (v := .tuple #[.int .u64 (un q), .int .i64 qe]) rfl (by kernel_rfl) (by kernel_rfl) (by kernel_rfl) (fun _ _ _ h => h) (Or.inl ⟨by rfl, fun W _ => by kernel_rfl⟩) hHeld ?_
  try simp only [Act.put, List.getElem_toArray, List.getElem_cons_succ, List.getElem_cons_zero, List.setIfInBounds_toArray, List.set_cons_zero, List.set_cons_succ]
  refine wpAnyH_take (i := 10) (v := .int .u64 (un q)) rfl (by kernel_rfl) (by kernel_rfl) (by kernel_rfl) (fun _ _ _ h => h) (Or.inl ⟨by rfl, fun W _ => by kernel_rfl⟩) hHeld ?_
  try simp only [Act.put, List.getElem_toArray, List.getElem_cons_succ, List.getElem_cons_zero, List.setIfInBounds_toArray, List.set_cons_zero, List.set_cons_succ]
  refine wpAnyH_take (i := 11) (v := .int .i64 qe) rfl (by kernel_rfl) (by kernel_rfl) (by kernel_rfl) (fun _ _ _ h => h) (Or.inl ⟨by rfl, fun W _ => by kernel_rfl⟩) hHeld ?_
  try simp only [Act.put, List.getElem_toArray, List.getElem_cons_succ, List.getElem_cons_zero, List.setIfInBounds_toArray, List.set_cons_zero, List.set_cons_succ]
  refine wpAnyH_take (i := 12) (v := .int .u64 (un q)) rfl (by kernel_rfl) (by kernel_rfl) (by kernel_rfl) (fun _ _ _ h => h) (Or.inl ⟨by rfl, fun W _ => by kernel_rfl⟩) hHeld ?_
  try simp only [Act.put, List.getElem_toArray, List.getElem_cons_succ, List.getElem_cons_zero, List.setIfInBounds_toArray, List.set_cons_zero, List.set_cons_succ]
  refine wpAnyH_take (i := 13) (v := .int .i64 qe) rfl (by kernel_rfl) (by kernel_rfl) (by kernel_rfl) (fun _ _ _ h => h) (Or.inl ⟨by rfl, fun W _ => by kernel_rfl⟩) hHeld ?_
  try simp only [Act.put, List.getElem_toArray, List.getElem_cons_succ, List.getElem_cons_zero, List.setIfInBounds_toArray, List.set_cons_zero, List.set_cons_succ]
  refine wpAnyH_done (by kernel_rfl) ?_ _
  have hE := hHeld
  clear hHeld hD
  skip
  obtain ⟨rh, c0, c1, c2, c3, c4, c5, c6, c7, c8⟩ := hE.facts
  have pc0 := hE.h 0 (by decide)
  rw [show hartCell h 0 = .int .u64 (un h.pc) from rfl] at pc0
  go_upto_region 28 with (first | (go_at_call 31; refine (hMem.out _).mono ?_; rintro e wk ⟨rfl, hbk⟩; have hE9 := hE.keep hbk; clear pc0; clear hbk hE rh c0 c1 c2 c3 c4 c5 c6 c7 c8; have hE := hE9; clear hE9; obtain ⟨rh, c0, c1, c2, c3, c4, c5, c6, c7, c8⟩ := hE.facts; have pc0 : wk.cell? ⟨w.heap.size, 0, none⟩ = some (.int .u64 (un h.pc)) := hE.h 0 (by decide)) | (go_at_call 30; refine (hD1.out _).mono ?_; rintro e wk ⟨rfl, hbk⟩; have hE9 := hE.keep hbk; clear pc0; clear hbk hE rh c0 c1 c2 c3 c4 c5 c6 c7 c8; have hE := hE9; clear hE9; obtain ⟨rh, c0, c1, c2, c3, c4, c5, c6, c7, c8⟩ := hE.facts; have pc0 : wk.cell? ⟨w.heap.size, 0, none⟩ = some (.int .u64 (un h.pc)) := hE.h 0 (by decide)))
  have z0 : wk.frozen? ⟨w.heap.size, 0, none⟩ = false := hE.hf 0 (by decide)
  go_upto_region 29 with (first | (refine wpList_load_mid rfl 25 _ rfl w.heap.size 0 rfl (hartL h) _ rh hu rfl (size_hart _) ?_) | (go_at_call 32; refine (hT.out _).mono ?_; rintro e wk ⟨rfl, hbk⟩; have hE9 := hE.keep hbk; clear pc0 z0; clear hbk hE rh c0 c1 c2 c3 c4 c5 c6 c7 c8; have hE := hE9; clear hE9; obtain ⟨rh, c0, c1, c2, c3, c4, c5, c6, c7, c8⟩ := hE.facts; have pc0 : wk.cell? ⟨w.heap.size, 0, none⟩ = some (.int .u64 (un h.pc)) := hE.h 0 (by decide); have z0 : wk.frozen? ⟨w.heap.size, 0, none⟩ = false := hE.hf 0 (by decide)))
  have hE9 := hE.put 0 (.int .u64 (un tn)) (hE.h.goes tn)
  clear hE pc0 z0 rh c0 c1 c2 c3 c4 c5 c6 c7 c8
  have hE := hE9
  clear hE9
  generalize World.setCell _ _ _ = u1 at hE ⊢
  obtain ⟨rh, c0, c1, c2, c3, c4, c5, c6, c7, c8⟩ := hE.facts
  go_upto_region 30 with (go_at_call 13; refine (hWr.out _).mono ?_; rintro e wk ⟨rfl, hbk⟩; have hE9 := hE.keep hbk; clear hbk hE rh c0 c1 c2 c3 c4 c5 c6 c7 c8; have hE := hE9; clear hE9; obtain ⟨rh, c0, c1, c2, c3, c4, c5, c6, c7, c8⟩ := hE.facts)
  by_cases hz : d = 0
  · have tz : decide (0 < (d : Int)) = false := by rw [decide_eq_false_iff_not]; omega
    have tz2 : decide (0 < d) = false := by rw [decide_eq_false_iff_not]; omega
    have hres : rgoneV h ⟨op, d, r1, r2, imm, aq, rl, pred, succ⟩ tn v = h.goes tn := if_pos (show (d : Int) = 0 by omega)
    replace hres := Lib.hid hres
    clear hz
    go_wp2_with (first | (refine wpList_load_mid rfl 25 _ rfl w.heap.size 0 rfl (hartL (h.goes tn)) _ rh hu rfl (size_hart _) ?_) | (refine wpList_store_mid rfl 25 _ _ rfl (w.heap.size + 2) 0 (hartL (h.goes tn)).toArray rfl rfl (there_hart hE.z _) (size_hartA _) (hartL_one _) ?_))
    have hr := World.rangeAt_setCells_same wk (w.heap.size + 2) 0 (hartL (h.goes tn)) (by rw [hartL_len]; exact hE.z)
    have hbl : Below w.heap.size w (World.setCells wk (w.heap.size + 2) 0 (hartL (h.goes tn))) := below_setCells (Nat.le_add_right _ _) (hartL (h.goes tn)) 0 wk hE.bl
    generalize World.setCells wk (w.heap.size + 2) 0 (hartL (h.goes tn)) = W5 at hr hbl ⊢
    have hlv := result_hart W5 (w.heap.size + 2) (h.goes tn) hr
    exact bodyPost_ret (v := .tuple #[.agg (hartL (h.goes tn)).toArray, .int .i64 0]) (by simp [results, Tryz.results15, asAddr, hlv]) rfl ⟨by rw [hres.out]; rfl, hbl⟩
  · have tz : decide (0 < (d : Int)) = true := by rw [decide_eq_true_iff]; omega
    have tz2 : decide (0 < d) = true := by rw [decide_eq_true_iff]; omega
    have hres : rgoneV h ⟨op, d, r1, r2, imm, aq, rl, pred, succ⟩ tn v = (h.goes tn).set d v := if_neg (show ¬ (d : Int) = 0 by omega)
    replace hres := Lib.hid hres
    clear hz
    have xd : wk.cell? ⟨w.heap.size, 1 + d, none⟩ = some (.int .u64 (un (h.x d))) := (hE.h (1 + d) (by omega)).trans (congrArg some (hartCell_x (h.goes tn) d hd))
    have zd : wk.frozen? ⟨w.heap.size, 1 + d, none⟩ = false := hE.hf (1 + d) (by omega)
    go_upto_region 32 with fail
    have hE9 := hE.put (h' := (h.goes tn).set d v) (1 + d) (.int .u64 (un (h.pc + 4#64))) (by have h9 := hE.h.setX d hd v; rw [hun.out] at h9; exact h9)
    clear hE xd zd rh c0 c1 c2 c3 c4 c5 c6 c7 c8
    have hE := hE9
    clear hE9
    generalize World.setCell _ _ _ = u2 at hE ⊢
    have rh := hE.h.range
    go_wp2_with (first | (refine wpList_load_mid rfl 25 _ rfl w.heap.size 0 rfl (hartL ((h.goes tn).set d v)) _ rh hu rfl (size_hart _) ?_) | (refine wpList_store_mid rfl 25 _ _ rfl (w.heap.size + 2) 0 (hartL ((h.goes tn).set d v)).toArray rfl rfl (there_hart hE.z _) (size_hartA _) (hartL_one _) ?_))
    have hr := World.rangeAt_setCells_same u2 (w.heap.size + 2) 0 (hartL ((h.goes tn).set d v)) (by rw [hartL_len]; exact hE.z)
    have hbl : Below w.heap.size w (World.setCells u2 (w.heap.size + 2) 0 (hartL ((h.goes tn).set d v))) := below_setCells (Nat.le_add_right _ _) (hartL ((h.goes tn).set d v)) 0 u2 hE.bl
    generalize World.setCells u2 (w.heap.size + 2) 0 (hartL ((h.goes tn).set d v)) = W5 at hr hbl ⊢
    have hlv := result_hart W5 (w.heap.size + 2) ((h.goes tn).set d v) hr
    exact bodyPost_ret (v := .tuple #[.agg (hartL ((h.goes tn).set d v)).toArray, .int .i64 0]) (by simp [results, Tryz.results15, asAddr, hlv]) rfl ⟨by rw [hres.out]; rfl, hbl⟩
set_option maxRecDepth 100000 in
set_option maxHeartbeats 8000000 in
theorem RGo_e (h : HartV) (op : Int) (d r1 r2 : Nat) (imm : Int) (aq rl : Bool) (pred succ : Int) (found : BitVec 64) (won : Bool) (w : World) (hr1 : r1 < 32) (hr2 : r2 < 32) (hd : d < 32) (hm : mayE h ⟨op, d, r1, r2, imm, aq, rl, pred, succ⟩ = 0) (he : rendV h ⟨op, d, r1, r2, imm, aq, rl, pred, succ⟩ = 0) (hc : checkE ⟨op, d, r1, r2, imm, aq, rl, pred, succ⟩ = 0) (t8 : (rform op != 8) = true) (t69 : (op == 69) = false) (tl : (opOf op).loads = false) (t3 : (op == 3) = false) (t4 : (op == 4) = true) :
    Calls Tryz.prog 15 #[.agg (hartArr h), .agg #[.int .i64 op, .int .i64 d, .int .i64 r1, .int .i64 r2, .int .i64 imm, .bool aq, .bool rl, .int .i64 pred, .int .i64 succ], .int .u64 (un found), .bool won] w fun e w' => e = .returned (.tuple #[.agg (hartArr (rgoneV h ⟨op, d, r1, r2, imm, aq, rl, pred, succ⟩ (tgtV h ⟨op, d, r1, r2, imm, aq, rl, pred, succ⟩).1 (h.pc + 4#64))), .int .i64 0]) ∧ Below w.heap.size w w' := by
  have hE := RK.start w h ⟨op, d, r1, r2, imm, aq, rl, pred, succ⟩ 25 27 25
  obtain ⟨rh, c0, c1, c2, c3, c4, c5, c6, c7, c8⟩ := hE.facts
  have hu := Tryz.underlying25
  have hM := Lib.hid (fun W => RMay_any h ⟨op, d, r1, r2, imm, aq, rl, pred, succ⟩ W)
  have hN := Lib.hid (fun W => REnd_any h op d r1 r2 imm aq rl pred succ W hr1 hr2)
  have hF := Lib.hid (fun W => R2Form_any op W)
  have hD := Lib.hid (fun W => RDo_any op (h.x r1) (bv imm) W)
  have hD1 : Hid (∀ W, Calls Tryz.prog 30 #[.int .i64 1, .int .u64 0, .int .u64 (un (bv imm))] W fun e w' => e = .returned (.tuple #[.int .u64 (un (doF 1 0#64 (bv imm))), .int .i64 (doE 1)]) ∧ Below W.heap.size W w') := Lib.hid fun W => by have h1 := RDo_any 1 0#64 (bv imm) W; rw [un_0] at h1; exact h1
  have hMem := Lib.hid (fun W => R2Mem_any op W)
  have hT := Lib.hid (fun W => RTgt_any h op d r1 r2 imm aq rl pred succ W hr1 hr2)
  have hWr := Lib.hid (fun W => R2Writes_ok ⟨op, d, r1, r2, imm, aq, rl, pred, succ⟩ hc W)
  unfold memV at hMem
  rw [hm] at hM
  rw [he] at hN
  generalize (tgtV h ⟨op, d, r1, r2, imm, aq, rl, pred, succ⟩).1 = tn at hT ⊢
  generalize (tgtV h ⟨op, d, r1, r2, imm, aq, rl, pred, succ⟩).2 = tv at hT
  obtain ⟨v, hv⟩ : ∃ v, v = (h.pc + 4#64) := ⟨_, rfl⟩
  rw [← hv]
  generalize rform op = ff at hF t8
  generalize hq : doF op (h.x r1) (bv imm) = q at hD
  clear hq
  generalize doE op = qe at hD
  generalize hlb : (opOf op).loads = lb at hMem tl
  subst tl
  clear hm he hc
  have hund : ∀ b : Bool, (some undef = some (Value.bool b)) = False := fun b => by simp [undef]
  have hl1 : 0 ≤ (r1 : Int) ∧ (r1 : Int) < 32 := by omega
  have hl2 : 0 ≤ (r2 : Int) ∧ (r2 : Int) < 32 := by omega
  have hld : 0 ≤ (d : Int) ∧ (d : Int) < 32 := by omega
  have hun : Hid (un v = un (h.pc + 4#64)) := Lib.hid (by rw [hv])
  clear hv
  go_enter Tryz.func15, Tryz.ntmps15
  go_upto_region 10 with (first | (refine wpList_load_mid rfl 25 _ rfl w.heap.size 0 rfl (hartL h) _ rh hu rfl (size_hart _) ?_) | (go_at_call 28; refine (hM.out _).mono ?_; rintro e wk ⟨rfl, hbk⟩; have hE9 := hE.keep hbk; clear hbk hE rh c0 c1 c2 c3 c4 c5 c6 c7 c8; have hE := hE9; clear hE9; obtain ⟨rh, c0, c1, c2, c3, c4, c5, c6, c7, c8⟩ := hE.facts) | (go_at_call 29; refine (hN.out _).mono ?_; rintro e wk ⟨rfl, hbk⟩; have hE9 := hE.keep hbk; clear hbk hE rh c0 c1 c2 c3 c4 c5 c6 c7 c8; have hE := hE9; clear hE9; obtain ⟨rh, c0, c1, c2, c3, c4, c5, c6, c7, c8⟩ := hE.facts))
  have x2 : wk.cell? ⟨w.heap.size, 1 + r2, none⟩ = some (.int .u64 (un (h.x r2))) := (hE.h (1 + r2) (by omega)).trans (congrArg some (hartCell_x h r2 hr2))
  go_upto_region 13 with (go_at_call 17; refine (hF.out _).mono ?_; rintro e wk ⟨rfl, rfl⟩; skip)
  clear x2 rh c0 c1 c2 c3 c4 c5 c6 c7 c8
  refine wp_region_held_drew (S := fun W => RK w h ⟨op, d, r1, r2, imm, aq, rl, pred, succ⟩ W) (by kernel_rfl) hE.drew (fun hHeld => ?_)
  refine wpAnyH_take (i := 0) (v := .pointer (some ⟨(w.heap.size + 1), 0, none⟩)) rfl (by kernel_rfl) (by kernel_rfl) (by kernel_rfl) (fun _ _ _ h => h) (Or.inl ⟨by rfl, fun W _ => by kernel_rfl⟩) hHeld ?_
  try simp only [Act.put, List.getElem_toArray, List.getElem_cons_zero, List.setIfInBounds_toArray, List.set_cons_zero, List.set_cons_succ]
  refine wpAnyH_take (i := 1) (v := .int .i64 op) rfl (by kernel_rfl) (by kernel_rfl) (by kernel_rfl) (fun _ _ _ h => h) (Or.inl ⟨by rfl, fun W hS => by (have k : W.cell? ⟨(w.heap.size + 1), 0, none⟩ = some (.int .i64 op) := (hS.c 0 (by decide))); go_simp⟩) hHeld ?_
  try simp only [Act.put, List.getElem_toArray, List.getElem_cons_succ, List.getElem_cons_zero, List.setIfInBounds_toArray, List.set_cons_zero, List.set_cons_succ]
  refine wpAnyH_take (i := 2) (v := .pointer (some ⟨(w.heap.size + 1), 2, none⟩)) rfl (by kernel_rfl) (by kernel_rfl) (by kernel_rfl) (fun _ _ _ h => h) (Or.inl ⟨by rfl, fun W _ => by kernel_rfl⟩) hHeld ?_
  try simp only [Act.put, List.getElem_toArray, List.getElem_cons_succ, List.getElem_cons_zero, List.setIfInBounds_toArray, List.set_cons_zero, List.set_cons_succ]
  refine wpAnyH_take (i := 3) (v := .int .i64 r1) rfl (by kernel_rfl) (by kernel_rfl) (by kernel_rfl) (fun _ _ _ h => h) (Or.inl ⟨by rfl, fun W hS => by (have k : W.cell? ⟨(w.heap.size + 1), 2, none⟩ = some (.int .i64 r1) := (hS.c 2 (by decide))); go_simp⟩) hHeld ?_
  try simp only [Act.put, List.getElem_toArray, List.getElem_cons_succ, List.getElem_cons_zero, List.setIfInBounds_toArray, List.set_cons_zero, List.set_cons_succ]
  refine wpAnyH_take (i := 4) (v := .pointer (some ⟨w.heap.size, 1, none⟩)) rfl (by kernel_rfl) (by kernel_rfl) (by kernel_rfl) (fun _ _ _ h => h) (Or.inl ⟨by rfl, fun W _ => by kernel_rfl⟩) hHeld ?_
  try simp only [Act.put, List.getElem_toArray, List.getElem_cons_succ, List.getElem_cons_zero, List.setIfInBounds_toArray, List.set_cons_zero, List.set_cons_succ]
  refine wpAnyH_take (i := 5) (v := .pointer (some ⟨w.heap.size, 1 + r1, none⟩)) rfl (by kernel_rfl) (by kernel_rfl) (by kernel_rfl) (fun _ _ _ h => h) (Or.inl ⟨by rfl, fun W _ => by go_simp⟩) hHeld ?_
  try simp only [Act.put, List.getElem_toArray, List.getElem_cons_succ, List.getElem_cons_zero, List.setIfInBounds_toArray, List.set_cons_zero, List.set_cons_succ]
  refine wpAnyH_take (i := 6) (v := .int .u64 (un (h.x r1))) rfl (by kernel_rfl) (by kernel_rfl) (by kernel_rfl) (fun _ _ _ h => h) (Or.inl ⟨by rfl, fun W hS => by (have k : W.cell? ⟨w.heap.size, 1 + r1, none⟩ = some (.int .u64 (un (h.x r1))) := (hS.h (1 + r1) (by omega)).trans (congrArg some (hartCell_x h r1 hr1))); go_simp⟩) hHeld ?_
  try simp only [Act.put, List.getElem_toArray, List.getElem_cons_succ, List.getElem_cons_zero, List.setIfInBounds_toArray, List.set_cons_zero, List.set_cons_succ]
  refine wpAnyH_take (i := 7) (v := .int .u64 (un (bv imm))) rfl (by kernel_rfl) (by kernel_rfl) (by kernel_rfl) (fun _ _ _ h => h) (Or.inl ⟨by rfl, fun W _ => by kernel_rfl⟩) hHeld ?_
  try simp only [Act.put, List.getElem_toArray, List.getElem_cons_succ, List.getElem_cons_zero, List.setIfInBounds_toArray, List.set_cons_zero, List.set_cons_succ]
  refine wpAnyH_ready (rs := [8]) (by kernel_rfl) (by simp) (AllReadyH.cons rfl (fun K hK2 => ?_) AllReadyH.nil)
  rw [if_pos (by rfl)]
  simp only [List.getElem_toArray, List.getElem_cons_succ, List.getElem_cons_zero]
  go_wp2_with (go_at_call 30; refine (hD.out _).mono ?_; rintro e wb ⟨rfl, hbb⟩)
  refine hK2.out _ _ (hHeld.keep hbb) (fun hHeld2 => ?_)
  clear hK2 K hHeld
  have hHeld := hHeld2
  clear hHeld2
  try simp only [Act.put, List.getElem_toArray, List.getElem_cons_succ, List.getElem_cons_zero, List.setIfInBounds_toArray, List.set_cons_zero, List.set_cons_succ]
  clear hbb
  refine wpAnyH_take (i := 9) (v := .tuple #[.int .u64 (un q), .int .i64 qe]) rfl (by kernel_rfl) (by kernel_rfl) (by kernel_rfl) (fun _ _ _ h => h) (Or.inl ⟨by rfl, fun W _ => by kernel_rfl⟩) hHeld ?_
  try simp only [Act.put, List.getElem_toArray, List.getElem_cons_succ, List.getElem_cons_zero, List.setIfInBounds_toArray, List.set_cons_zero, List.set_cons_succ]
  refine wpAnyH_take (i := 10) (v := .int .u64 (un q)) rfl (by kernel_rfl) (by kernel_rfl) (by kernel_rfl) (fun _ _ _ h => h) (Or.inl ⟨by rfl, fun W _ => by kernel_rfl⟩) hHeld ?_
  try simp only [Act.put, List.getElem_toArray, List.getElem_cons_succ, List.getElem_cons_zero, List.setIfInBounds_toArray, List.set_cons_zero, List.set_cons_succ]
  refine wpAnyH_take (i := 11) (v := .int .i64 qe) rfl (by kernel_rfl) (by kernel_rfl) (by kernel_rfl) (fun _ _ _ h => h) (Or.inl ⟨by rfl, fun W _ => by kernel_rfl⟩) hHeld ?_
  try simp only [Act.put, List.getElem_toArray, List.getElem_cons_succ, List.getElem_cons_zero, List.setIfInBounds_toArray, List.set_cons_zero, List.set_cons_succ]
  refine wpAnyH_take (i := 12) (v := .int .u64 (un q)) rfl (by kernel_rfl) (by kernel_rfl) (by kernel_rfl) (fun _ _ _ h => h) (Or.inl ⟨by rfl, fun W _ => by kernel_rfl⟩) hHeld ?_
  try simp only [Act.put, List.getElem_toArray, List.getElem_cons_succ, List.getElem_cons_zero, List.setIfInBounds_toArray, List.set_cons_zero, List.set_cons_succ]
  refine wpAnyH_take (i := 13) (v := .int .i64 qe) rfl (by kernel_rfl) (by kernel_rfl) (by kernel_rfl) (fun _ _ _ h => h) (Or.inl ⟨by rfl, fun W _ => by kernel_rfl⟩) hHeld ?_
  try simp only [Act.put, List.getElem_toArray, List.getElem_cons_succ, List.getElem_cons_zero, List.setIfInBounds_toArray, List.set_cons_zero, List.set_cons_succ]
  refine wpAnyH_done (by kernel_rfl) ?_ _
  have hE := hHeld
  clear hHeld hD
  skip
  obtain ⟨rh, c0, c1, c2, c3, c4, c5, c6, c7, c8⟩ := hE.facts
  have pc0 := hE.h 0 (by decide)
  rw [show hartCell h 0 = .int .u64 (un h.pc) from rfl] at pc0
  go_upto_region 28 with (first | (go_at_call 31; refine (hMem.out _).mono ?_; rintro e wk ⟨rfl, hbk⟩; have hE9 := hE.keep hbk; clear pc0; clear hbk hE rh c0 c1 c2 c3 c4 c5 c6 c7 c8; have hE := hE9; clear hE9; obtain ⟨rh, c0, c1, c2, c3, c4, c5, c6, c7, c8⟩ := hE.facts; have pc0 : wk.cell? ⟨w.heap.size, 0, none⟩ = some (.int .u64 (un h.pc)) := hE.h 0 (by decide)) | (go_at_call 30; refine (hD1.out _).mono ?_; rintro e wk ⟨rfl, hbk⟩; have hE9 := hE.keep hbk; clear pc0; clear hbk hE rh c0 c1 c2 c3 c4 c5 c6 c7 c8; have hE := hE9; clear hE9; obtain ⟨rh, c0, c1, c2, c3, c4, c5, c6, c7, c8⟩ := hE.facts; have pc0 : wk.cell? ⟨w.heap.size, 0, none⟩ = some (.int .u64 (un h.pc)) := hE.h 0 (by decide)))
  have z0 : wk.frozen? ⟨w.heap.size, 0, none⟩ = false := hE.hf 0 (by decide)
  go_upto_region 29 with (first | (refine wpList_load_mid rfl 25 _ rfl w.heap.size 0 rfl (hartL h) _ rh hu rfl (size_hart _) ?_) | (go_at_call 32; refine (hT.out _).mono ?_; rintro e wk ⟨rfl, hbk⟩; have hE9 := hE.keep hbk; clear pc0 z0; clear hbk hE rh c0 c1 c2 c3 c4 c5 c6 c7 c8; have hE := hE9; clear hE9; obtain ⟨rh, c0, c1, c2, c3, c4, c5, c6, c7, c8⟩ := hE.facts; have pc0 : wk.cell? ⟨w.heap.size, 0, none⟩ = some (.int .u64 (un h.pc)) := hE.h 0 (by decide); have z0 : wk.frozen? ⟨w.heap.size, 0, none⟩ = false := hE.hf 0 (by decide)))
  have hE9 := hE.put 0 (.int .u64 (un tn)) (hE.h.goes tn)
  clear hE pc0 z0 rh c0 c1 c2 c3 c4 c5 c6 c7 c8
  have hE := hE9
  clear hE9
  generalize World.setCell _ _ _ = u1 at hE ⊢
  obtain ⟨rh, c0, c1, c2, c3, c4, c5, c6, c7, c8⟩ := hE.facts
  go_upto_region 30 with (go_at_call 13; refine (hWr.out _).mono ?_; rintro e wk ⟨rfl, hbk⟩; have hE9 := hE.keep hbk; clear hbk hE rh c0 c1 c2 c3 c4 c5 c6 c7 c8; have hE := hE9; clear hE9; obtain ⟨rh, c0, c1, c2, c3, c4, c5, c6, c7, c8⟩ := hE.facts)
  by_cases hz : d = 0
  · have tz : decide (0 < (d : Int)) = false := by rw [decide_eq_false_iff_not]; omega
    have tz2 : decide (0 < d) = false := by rw [decide_eq_false_iff_not]; omega
    have hres : rgoneV h ⟨op, d, r1, r2, imm, aq, rl, pred, succ⟩ tn v = h.goes tn := if_pos (show (d : Int) = 0 by omega)
    replace hres := Lib.hid hres
    clear hz
    go_wp2_with (first | (refine wpList_load_mid rfl 25 _ rfl w.heap.size 0 rfl (hartL (h.goes tn)) _ rh hu rfl (size_hart _) ?_) | (refine wpList_store_mid rfl 25 _ _ rfl (w.heap.size + 2) 0 (hartL (h.goes tn)).toArray rfl rfl (there_hart hE.z _) (size_hartA _) (hartL_one _) ?_))
    have hr := World.rangeAt_setCells_same wk (w.heap.size + 2) 0 (hartL (h.goes tn)) (by rw [hartL_len]; exact hE.z)
    have hbl : Below w.heap.size w (World.setCells wk (w.heap.size + 2) 0 (hartL (h.goes tn))) := below_setCells (Nat.le_add_right _ _) (hartL (h.goes tn)) 0 wk hE.bl
    generalize World.setCells wk (w.heap.size + 2) 0 (hartL (h.goes tn)) = W5 at hr hbl ⊢
    have hlv := result_hart W5 (w.heap.size + 2) (h.goes tn) hr
    exact bodyPost_ret (v := .tuple #[.agg (hartL (h.goes tn)).toArray, .int .i64 0]) (by simp [results, Tryz.results15, asAddr, hlv]) rfl ⟨by rw [hres.out]; rfl, hbl⟩
  · have tz : decide (0 < (d : Int)) = true := by rw [decide_eq_true_iff]; omega
    have tz2 : decide (0 < d) = true := by rw [decide_eq_true_iff]; omega
    have hres : rgoneV h ⟨op, d, r1, r2, imm, aq, rl, pred, succ⟩ tn v = (h.goes tn).set d v := if_neg (show ¬ (d : Int) = 0 by omega)
    replace hres := Lib.hid hres
    clear hz
    have xd : wk.cell? ⟨w.heap.size, 1 + d, none⟩ = some (.int .u64 (un (h.x d))) := (hE.h (1 + d) (by omega)).trans (congrArg some (hartCell_x (h.goes tn) d hd))
    have zd : wk.frozen? ⟨w.heap.size, 1 + d, none⟩ = false := hE.hf (1 + d) (by omega)
    go_upto_region 32 with fail
    have hE9 := hE.put (h' := (h.goes tn).set d v) (1 + d) (.int .u64 (un (h.pc + 4#64))) (by have h9 := hE.h.setX d hd v; rw [hun.out] at h9; exact h9)
    clear hE xd zd rh c0 c1 c2 c3 c4 c5 c6 c7 c8
    have hE := hE9
    clear hE9
    generalize World.setCell _ _ _ = u2 at hE ⊢
    have rh := hE.h.range
    go_wp2_with (first | (refine wpList_load_mid rfl 25 _ rfl w.heap.size 0 rfl (hartL ((h.goes tn).set d v)) _ rh hu rfl (size_hart _) ?_) | (refine wpList_store_mid rfl 25 _ _ rfl (w.heap.size + 2) 0 (hartL ((h.goes tn).set d v)).toArray rfl rfl (there_hart hE.z _) (size_hartA _) (hartL_one _) ?_))
    have hr := World.rangeAt_setCells_same u2 (w.heap.size + 2) 0 (hartL ((h.goes tn).set d v)) (by rw [hartL_len]; exact hE.z)
    have hbl : Below w.heap.size w (World.setCells u2 (w.heap.size + 2) 0 (hartL ((h.goes tn).set d v))) := below_setCells (Nat.le_add_right _ _) (hartL ((h.goes tn).set d v)) 0 u2 hE.bl
    generalize World.setCells u2 (w.heap.size + 2) 0 (hartL ((h.goes tn).set d v)) = W5 at hr hbl ⊢
    have hlv := result_hart W5 (w.heap.size + 2) ((h.goes tn).set d v) hr
    exact bodyPost_ret (v := .tuple #[.agg (hartL ((h.goes tn).set d v)).toArray, .int .i64 0]) (by simp [results, Tryz.results15, asAddr, hlv]) rfl ⟨by rw [hres.out]; rfl, hbl⟩
set_option maxRecDepth 100000 in
set_option maxHeartbeats 8000000 in
theorem RGo_f (h : HartV) (op : Int) (d r1 r2 : Nat) (imm : Int) (aq rl : Bool) (pred succ : Int) (found : BitVec 64) (won : Bool) (w : World) (hr1 : r1 < 32) (hr2 : r2 < 32) (hd : d < 32) (hm : mayE h ⟨op, d, r1, r2, imm, aq, rl, pred, succ⟩ = 0) (he : rendV h ⟨op, d, r1, r2, imm, aq, rl, pred, succ⟩ = 0) (hc : checkE ⟨op, d, r1, r2, imm, aq, rl, pred, succ⟩ = 0) (t8 : (rform op != 8) = true) (t69 : (op == 69) = false) (tl : (opOf op).loads = false) (t3 : (op == 3) = false) (t4 : (op == 4) = false) (t2 : (op == 2) = true) :
    Calls Tryz.prog 15 #[.agg (hartArr h), .agg #[.int .i64 op, .int .i64 d, .int .i64 r1, .int .i64 r2, .int .i64 imm, .bool aq, .bool rl, .int .i64 pred, .int .i64 succ], .int .u64 (un found), .bool won] w fun e w' => e = .returned (.tuple #[.agg (hartArr (rgoneV h ⟨op, d, r1, r2, imm, aq, rl, pred, succ⟩ (tgtV h ⟨op, d, r1, r2, imm, aq, rl, pred, succ⟩).1 (h.pc + doF 1 0#64 (bv imm)))), .int .i64 0]) ∧ Below w.heap.size w w' := by
  have hE := RK.start w h ⟨op, d, r1, r2, imm, aq, rl, pred, succ⟩ 25 27 25
  obtain ⟨rh, c0, c1, c2, c3, c4, c5, c6, c7, c8⟩ := hE.facts
  have hu := Tryz.underlying25
  have hM := Lib.hid (fun W => RMay_any h ⟨op, d, r1, r2, imm, aq, rl, pred, succ⟩ W)
  have hN := Lib.hid (fun W => REnd_any h op d r1 r2 imm aq rl pred succ W hr1 hr2)
  have hF := Lib.hid (fun W => R2Form_any op W)
  have hD := Lib.hid (fun W => RDo_any op (h.x r1) (bv imm) W)
  have hD1 : Hid (∀ W, Calls Tryz.prog 30 #[.int .i64 1, .int .u64 0, .int .u64 (un (bv imm))] W fun e w' => e = .returned (.tuple #[.int .u64 (un (doF 1 0#64 (bv imm))), .int .i64 (doE 1)]) ∧ Below W.heap.size W w') := Lib.hid fun W => by have h1 := RDo_any 1 0#64 (bv imm) W; rw [un_0] at h1; exact h1
  have hMem := Lib.hid (fun W => R2Mem_any op W)
  have hT := Lib.hid (fun W => RTgt_any h op d r1 r2 imm aq rl pred succ W hr1 hr2)
  have hWr := Lib.hid (fun W => R2Writes_ok ⟨op, d, r1, r2, imm, aq, rl, pred, succ⟩ hc W)
  unfold memV at hMem
  rw [hm] at hM
  rw [he] at hN
  generalize (tgtV h ⟨op, d, r1, r2, imm, aq, rl, pred, succ⟩).1 = tn at hT ⊢
  generalize (tgtV h ⟨op, d, r1, r2, imm, aq, rl, pred, succ⟩).2 = tv at hT
  obtain ⟨v, hv⟩ : ∃ v, v = (h.pc + doF 1 0#64 (bv imm)) := ⟨_, rfl⟩
  rw [← hv]
  generalize rform op = ff at hF t8
  generalize hq : doF op (h.x r1) (bv imm) = q at hD
  clear hq
  generalize doE op = qe at hD
  generalize hlb : (opOf op).loads = lb at hMem tl
  subst tl
  clear hm he hc
  generalize hq1 : doF 1 0#64 (bv imm) = q1 at hD1 hv
  clear hq1
  have hund : ∀ b : Bool, (some undef = some (Value.bool b)) = False := fun b => by simp [undef]
  have hl1 : 0 ≤ (r1 : Int) ∧ (r1 : Int) < 32 := by omega
  have hl2 : 0 ≤ (r2 : Int) ∧ (r2 : Int) < 32 := by omega
  have hld : 0 ≤ (d : Int) ∧ (d : Int) < 32 := by omega
  have hun : Hid (un v = un (h.pc + q1)) := Lib.hid (by rw [hv])
  clear hv
  go_enter Tryz.func15, Tryz.ntmps15
  go_upto_region 10 with (first | (refine wpList_load_mid rfl 25 _ rfl w.heap.size 0 rfl (hartL h) _ rh hu rfl (size_hart _) ?_) | (go_at_call 28; refine (hM.out _).mono ?_; rintro e wk ⟨rfl, hbk⟩; have hE9 := hE.keep hbk; clear hbk hE rh c0 c1 c2 c3 c4 c5 c6 c7 c8; have hE := hE9; clear hE9; obtain ⟨rh, c0, c1, c2, c3, c4, c5, c6, c7, c8⟩ := hE.facts) | (go_at_call 29; refine (hN.out _).mono ?_; rintro e wk ⟨rfl, hbk⟩; have hE9 := hE.keep hbk; clear hbk hE rh c0 c1 c2 c3 c4 c5 c6 c7 c8; have hE := hE9; clear hE9; obtain ⟨rh, c0, c1, c2, c3, c4, c5, c6, c7, c8⟩ := hE.facts))
  have x2 : wk.cell? ⟨w.heap.size, 1 + r2, none⟩ = some (.int .u64 (un (h.x r2))) := (hE.h (1 + r2) (by omega)).trans (congrArg some (hartCell_x h r2 hr2))
  go_upto_region 13 with (go_at_call 17; refine (hF.out _).mono ?_; rintro e wk ⟨rfl, rfl⟩; skip)
  clear x2 rh c0 c1 c2 c3 c4 c5 c6 c7 c8
  refine wp_region_held_drew (S := fun W => RK w h ⟨op, d, r1, r2, imm, aq, rl, pred, succ⟩ W) (by kernel_rfl) hE.drew (fun hHeld => ?_)
  refine wpAnyH_take (i := 0) (v := .pointer (some ⟨(w.heap.size + 1), 0, none⟩)) rfl (by kernel_rfl) (by kernel_rfl) (by kernel_rfl) (fun _ _ _ h => h) (Or.inl ⟨by rfl, fun W _ => by kernel_rfl⟩) hHeld ?_
  try simp only [Act.put, List.getElem_toArray, List.getElem_cons_zero, List.setIfInBounds_toArray, List.set_cons_zero, List.set_cons_succ]
  refine wpAnyH_take (i := 1) (v := .int .i64 op) rfl (by kernel_rfl) (by kernel_rfl) (by kernel_rfl) (fun _ _ _ h => h) (Or.inl ⟨by rfl, fun W hS => by (have k : W.cell? ⟨(w.heap.size + 1), 0, none⟩ = some (.int .i64 op) := (hS.c 0 (by decide))); go_simp⟩) hHeld ?_
  try simp only [Act.put, List.getElem_toArray, List.getElem_cons_succ, List.getElem_cons_zero, List.setIfInBounds_toArray, List.set_cons_zero, List.set_cons_succ]
  refine wpAnyH_take (i := 2) (v := .pointer (some ⟨(w.heap.size + 1), 2, none⟩)) rfl (by kernel_rfl) (by kernel_rfl) (by kernel_rfl) (fun _ _ _ h => h) (Or.inl ⟨by rfl, fun W _ => by kernel_rfl⟩) hHeld ?_
  try simp only [Act.put, List.getElem_toArray, List.getElem_cons_succ, List.getElem_cons_zero, List.setIfInBounds_toArray, List.set_cons_zero, List.set_cons_succ]
  refine wpAnyH_take (i := 3) (v := .int .i64 r1) rfl (by kernel_rfl) (by kernel_rfl) (by kernel_rfl) (fun _ _ _ h => h) (Or.inl ⟨by rfl, fun W hS => by (have k : W.cell? ⟨(w.heap.size + 1), 2, none⟩ = some (.int .i64 r1) := (hS.c 2 (by decide))); go_simp⟩) hHeld ?_
  try simp only [Act.put, List.getElem_toArray, List.getElem_cons_succ, List.getElem_cons_zero, List.setIfInBounds_toArray, List.set_cons_zero, List.set_cons_succ]
  refine wpAnyH_take (i := 4) (v := .pointer (some ⟨w.heap.size, 1, none⟩)) rfl (by kernel_rfl) (by kernel_rfl) (by kernel_rfl) (fun _ _ _ h => h) (Or.inl ⟨by rfl, fun W _ => by kernel_rfl⟩) hHeld ?_
  try simp only [Act.put, List.getElem_toArray, List.getElem_cons_succ, List.getElem_cons_zero, List.setIfInBounds_toArray, List.set_cons_zero, List.set_cons_succ]
  refine wpAnyH_take (i := 5) (v := .pointer (some ⟨w.heap.size, 1 + r1, none⟩)) rfl (by kernel_rfl) (by kernel_rfl) (by kernel_rfl) (fun _ _ _ h => h) (Or.inl ⟨by rfl, fun W _ => by go_simp⟩) hHeld ?_
  try simp only [Act.put, List.getElem_toArray, List.getElem_cons_succ, List.getElem_cons_zero, List.setIfInBounds_toArray, List.set_cons_zero, List.set_cons_succ]
  refine wpAnyH_take (i := 6) (v := .int .u64 (un (h.x r1))) rfl (by kernel_rfl) (by kernel_rfl) (by kernel_rfl) (fun _ _ _ h => h) (Or.inl ⟨by rfl, fun W hS => by (have k : W.cell? ⟨w.heap.size, 1 + r1, none⟩ = some (.int .u64 (un (h.x r1))) := (hS.h (1 + r1) (by omega)).trans (congrArg some (hartCell_x h r1 hr1))); go_simp⟩) hHeld ?_
  try simp only [Act.put, List.getElem_toArray, List.getElem_cons_succ, List.getElem_cons_zero, List.setIfInBounds_toArray, List.set_cons_zero, List.set_cons_succ]
  refine wpAnyH_take (i := 7) (v := .int .u64 (un (bv imm))) rfl (by kernel_rfl) (by kernel_rfl) (by kernel_rfl) (fun _ _ _ h => h) (Or.inl ⟨by rfl, fun W _ => by kernel_rfl⟩) hHeld ?_
  try simp only [Act.put, List.getElem_toArray, List.getElem_cons_succ, List.getElem_cons_zero, List.setIfInBounds_toArray, List.set_cons_zero, List.set_cons_succ]
  refine wpAnyH_ready (rs := [8]) (by kernel_rfl) (by simp) (AllReadyH.cons rfl (fun K hK2 => ?_) AllReadyH.nil)
  rw [if_pos (by rfl)]
  simp only [List.getElem_toArray, List.getElem_cons_succ, List.getElem_cons_zero]
  go_wp2_with (go_at_call 30; refine (hD.out _).mono ?_; rintro e wb ⟨rfl, hbb⟩)
  refine hK2.out _ _ (hHeld.keep hbb) (fun hHeld2 => ?_)
  clear hK2 K hHeld
  have hHeld := hHeld2
  clear hHeld2
  try simp only [Act.put, List.getElem_toArray, List.getElem_cons_succ, List.getElem_cons_zero, List.setIfInBounds_toArray, List.set_cons_zero, List.set_cons_succ]
  clear hbb
  refine wpAnyH_take (i := 9) (v := .tuple #[.int .u64 (un q), .int .i64 qe]) rfl (by kernel_rfl) (by kernel_rfl) (by kernel_rfl) (fun _ _ _ h => h) (Or.inl ⟨by rfl, fun W _ => by kernel_rfl⟩) hHeld ?_
  try simp only [Act.put, List.getElem_toArray, List.getElem_cons_succ, List.getElem_cons_zero, List.setIfInBounds_toArray, List.set_cons_zero, List.set_cons_succ]
  refine wpAnyH_take (i := 10) (v := .int .u64 (un q)) rfl (by kernel_rfl) (by kernel_rfl) (by kernel_rfl) (fun _ _ _ h => h) (Or.inl ⟨by rfl, fun W _ => by kernel_rfl⟩) hHeld ?_
  try simp only [Act.put, List.getElem_toArray, List.getElem_cons_succ, List.getElem_cons_zero, List.setIfInBounds_toArray, List.set_cons_zero, List.set_cons_succ]
  refine wpAnyH_take (i := 11) (v := .int .i64 qe) rfl (by kernel_rfl) (by kernel_rfl) (by kernel_rfl) (fun _ _ _ h => h) (Or.inl ⟨by rfl, fun W _ => by kernel_rfl⟩) hHeld ?_
  try simp only [Act.put, List.getElem_toArray, List.getElem_cons_succ, List.getElem_cons_zero, List.setIfInBounds_toArray, List.set_cons_zero, List.set_cons_succ]
  refine wpAnyH_take (i := 12) (v := .int .u64 (un q)) rfl (by kernel_rfl) (by kernel_rfl) (by kernel_rfl) (fun _ _ _ h => h) (Or.inl ⟨by rfl, fun W _ => by kernel_rfl⟩) hHeld ?_
  try simp only [Act.put, List.getElem_toArray, List.getElem_cons_succ, List.getElem_cons_zero, List.setIfInBounds_toArray, List.set_cons_zero, List.set_cons_succ]
  refine wpAnyH_take (i := 13) (v := .int .i64 qe) rfl (by kernel_rfl) (by kernel_rfl) (by kernel_rfl) (fun _ _ _ h => h) (Or.inl ⟨by rfl, fun W _ => by kernel_rfl⟩) hHeld ?_
  try simp only [Act.put, List.getElem_toArray, List.getElem_cons_succ, List.getElem_cons_zero, List.setIfInBounds_toArray, List.set_cons_zero, List.set_cons_succ]
  refine wpAnyH_done (by kernel_rfl) ?_ _
  have hE := hHeld
  clear hHeld hD
  skip
  obtain ⟨rh, c0, c1, c2, c3, c4, c5, c6, c7, c8⟩ := hE.facts
  have pc0 := hE.h 0 (by decide)
  rw [show hartCell h 0 = .int .u64 (un h.pc) from rfl] at pc0
  go_upto_region 28 with (first | (go_at_call 31; refine (hMem.out _).mono ?_; rintro e wk ⟨rfl, hbk⟩; have hE9 := hE.keep hbk; clear pc0; clear hbk hE rh c0 c1 c2 c3 c4 c5 c6 c7 c8; have hE := hE9; clear hE9; obtain ⟨rh, c0, c1, c2, c3, c4, c5, c6, c7, c8⟩ := hE.facts; have pc0 : wk.cell? ⟨w.heap.size, 0, none⟩ = some (.int .u64 (un h.pc)) := hE.h 0 (by decide)) | (go_at_call 30; refine (hD1.out _).mono ?_; rintro e wk ⟨rfl, hbk⟩; have hE9 := hE.keep hbk; clear pc0; clear hbk hE rh c0 c1 c2 c3 c4 c5 c6 c7 c8; have hE := hE9; clear hE9; obtain ⟨rh, c0, c1, c2, c3, c4, c5, c6, c7, c8⟩ := hE.facts; have pc0 : wk.cell? ⟨w.heap.size, 0, none⟩ = some (.int .u64 (un h.pc)) := hE.h 0 (by decide)))
  have z0 : wk.frozen? ⟨w.heap.size, 0, none⟩ = false := hE.hf 0 (by decide)
  go_upto_region 29 with (first | (refine wpList_load_mid rfl 25 _ rfl w.heap.size 0 rfl (hartL h) _ rh hu rfl (size_hart _) ?_) | (go_at_call 32; refine (hT.out _).mono ?_; rintro e wk ⟨rfl, hbk⟩; have hE9 := hE.keep hbk; clear pc0 z0; clear hbk hE rh c0 c1 c2 c3 c4 c5 c6 c7 c8; have hE := hE9; clear hE9; obtain ⟨rh, c0, c1, c2, c3, c4, c5, c6, c7, c8⟩ := hE.facts; have pc0 : wk.cell? ⟨w.heap.size, 0, none⟩ = some (.int .u64 (un h.pc)) := hE.h 0 (by decide); have z0 : wk.frozen? ⟨w.heap.size, 0, none⟩ = false := hE.hf 0 (by decide)))
  have hE9 := hE.put 0 (.int .u64 (un tn)) (hE.h.goes tn)
  clear hE pc0 z0 rh c0 c1 c2 c3 c4 c5 c6 c7 c8
  have hE := hE9
  clear hE9
  generalize World.setCell _ _ _ = u1 at hE ⊢
  obtain ⟨rh, c0, c1, c2, c3, c4, c5, c6, c7, c8⟩ := hE.facts
  go_upto_region 30 with (go_at_call 13; refine (hWr.out _).mono ?_; rintro e wk ⟨rfl, hbk⟩; have hE9 := hE.keep hbk; clear hbk hE rh c0 c1 c2 c3 c4 c5 c6 c7 c8; have hE := hE9; clear hE9; obtain ⟨rh, c0, c1, c2, c3, c4, c5, c6, c7, c8⟩ := hE.facts)
  by_cases hz : d = 0
  · have tz : decide (0 < (d : Int)) = false := by rw [decide_eq_false_iff_not]; omega
    have tz2 : decide (0 < d) = false := by rw [decide_eq_false_iff_not]; omega
    have hres : rgoneV h ⟨op, d, r1, r2, imm, aq, rl, pred, succ⟩ tn v = h.goes tn := if_pos (show (d : Int) = 0 by omega)
    replace hres := Lib.hid hres
    clear hz
    go_wp2_with (first | (refine wpList_load_mid rfl 25 _ rfl w.heap.size 0 rfl (hartL (h.goes tn)) _ rh hu rfl (size_hart _) ?_) | (refine wpList_store_mid rfl 25 _ _ rfl (w.heap.size + 2) 0 (hartL (h.goes tn)).toArray rfl rfl (there_hart hE.z _) (size_hartA _) (hartL_one _) ?_))
    have hr := World.rangeAt_setCells_same wk (w.heap.size + 2) 0 (hartL (h.goes tn)) (by rw [hartL_len]; exact hE.z)
    have hbl : Below w.heap.size w (World.setCells wk (w.heap.size + 2) 0 (hartL (h.goes tn))) := below_setCells (Nat.le_add_right _ _) (hartL (h.goes tn)) 0 wk hE.bl
    generalize World.setCells wk (w.heap.size + 2) 0 (hartL (h.goes tn)) = W5 at hr hbl ⊢
    have hlv := result_hart W5 (w.heap.size + 2) (h.goes tn) hr
    exact bodyPost_ret (v := .tuple #[.agg (hartL (h.goes tn)).toArray, .int .i64 0]) (by simp [results, Tryz.results15, asAddr, hlv]) rfl ⟨by rw [hres.out]; rfl, hbl⟩
  · have tz : decide (0 < (d : Int)) = true := by rw [decide_eq_true_iff]; omega
    have tz2 : decide (0 < d) = true := by rw [decide_eq_true_iff]; omega
    have hres : rgoneV h ⟨op, d, r1, r2, imm, aq, rl, pred, succ⟩ tn v = (h.goes tn).set d v := if_neg (show ¬ (d : Int) = 0 by omega)
    replace hres := Lib.hid hres
    clear hz
    have xd : wk.cell? ⟨w.heap.size, 1 + d, none⟩ = some (.int .u64 (un (h.x d))) := (hE.h (1 + d) (by omega)).trans (congrArg some (hartCell_x (h.goes tn) d hd))
    have zd : wk.frozen? ⟨w.heap.size, 1 + d, none⟩ = false := hE.hf (1 + d) (by omega)
    go_upto_region 32 with fail
    have hE9 := hE.put (h' := (h.goes tn).set d v) (1 + d) (.int .u64 (un (h.pc + q1))) (by have h9 := hE.h.setX d hd v; rw [hun.out] at h9; exact h9)
    clear hE xd zd rh c0 c1 c2 c3 c4 c5 c6 c7 c8
    have hE := hE9
    clear hE9
    generalize World.setCell _ _ _ = u2 at hE ⊢
    have rh := hE.h.range
    go_wp2_with (first | (refine wpList_load_mid rfl 25 _ rfl w.heap.size 0 rfl (hartL ((h.goes tn).set d v)) _ rh hu rfl (size_hart _) ?_) | (refine wpList_store_mid rfl 25 _ _ rfl (w.heap.size + 2) 0 (hartL ((h.goes tn).set d v)).toArray rfl rfl (there_hart hE.z _) (size_hartA _) (hartL_one _) ?_))
    have hr := World.rangeAt_setCells_same u2 (w.heap.size + 2) 0 (hartL ((h.goes tn).set d v)) (by rw [hartL_len]; exact hE.z)
    have hbl : Below w.heap.size w (World.setCells u2 (w.heap.size + 2) 0 (hartL ((h.goes tn).set d v))) := below_setCells (Nat.le_add_right _ _) (hartL ((h.goes tn).set d v)) 0 u2 hE.bl
    generalize World.setCells u2 (w.heap.size + 2) 0 (hartL ((h.goes tn).set d v)) = W5 at hr hbl ⊢
    have hlv := result_hart W5 (w.heap.size + 2) ((h.goes tn).set d v) hr
    exact bodyPost_ret (v := .tuple #[.agg (hartL ((h.goes tn).set d v)).toArray, .int .i64 0]) (by simp [results, Tryz.results15, asAddr, hlv]) rfl ⟨by rw [hres.out]; rfl, hbl⟩
end
end Go.Proofs.YtbglinhglnbfmaaGreatDoor
namespace Go.Proofs.YtbglinhglnbfmaaGreatDoor
open Go.RowKit
attribute [local go_sem] wrap_u64_bv bv_un bv_sn bv_add bv_mul bv_neg bv_sub mul_bvpow shr_min shl_min sshr_min bv_lit bv_0 bv_1 un_shr sn_shr wrap_i64_un bits_u64_and bits_u64_or bits_u64_xor bits_u64_andNot bv_max u64_unsigned
section
attribute [local irreducible] un sn hartL
set_option maxRecDepth 100000 in
set_option maxHeartbeats 8000000 in
theorem RGo_g (h : HartV) (op : Int) (d r1 r2 : Nat) (imm : Int) (aq rl : Bool) (pred succ : Int) (found : BitVec 64) (won : Bool) (w : World) (hr1 : r1 < 32) (hr2 : r2 < 32) (hd : d < 32) (hm : mayE h ⟨op, d, r1, r2, imm, aq, rl, pred, succ⟩ = 0) (he : rendV h ⟨op, d, r1, r2, imm, aq, rl, pred, succ⟩ = 0) (hc : checkE ⟨op, d, r1, r2, imm, aq, rl, pred, succ⟩ = 0) (t8 : (rform op != 8) = true) (t69 : (op == 69) = false) (tl : (opOf op).loads = false) (t3 : (op == 3) = false) (t4 : (op == 4) = false) (t2 : (op == 2) = false) (tE : (doE op != 0) = true) :
    Calls Tryz.prog 15 #[.agg (hartArr h), .agg #[.int .i64 op, .int .i64 d, .int .i64 r1, .int .i64 r2, .int .i64 imm, .bool aq, .bool rl, .int .i64 pred, .int .i64 succ], .int .u64 (un found), .bool won] w fun e w' => e = .returned (.tuple #[.agg (hartArr (rgoneV h ⟨op, d, r1, r2, imm, aq, rl, pred, succ⟩ (tgtV h ⟨op, d, r1, r2, imm, aq, rl, pred, succ⟩).1 0#64)), .int .i64 0]) ∧ Below w.heap.size w w' := by
  have hE := RK.start w h ⟨op, d, r1, r2, imm, aq, rl, pred, succ⟩ 25 27 25
  obtain ⟨rh, c0, c1, c2, c3, c4, c5, c6, c7, c8⟩ := hE.facts
  have hu := Tryz.underlying25
  have hM := Lib.hid (fun W => RMay_any h ⟨op, d, r1, r2, imm, aq, rl, pred, succ⟩ W)
  have hN := Lib.hid (fun W => REnd_any h op d r1 r2 imm aq rl pred succ W hr1 hr2)
  have hF := Lib.hid (fun W => R2Form_any op W)
  have hD := Lib.hid (fun W => RDo_any op (h.x r1) (bv imm) W)
  have hD1 : Hid (∀ W, Calls Tryz.prog 30 #[.int .i64 1, .int .u64 0, .int .u64 (un (bv imm))] W fun e w' => e = .returned (.tuple #[.int .u64 (un (doF 1 0#64 (bv imm))), .int .i64 (doE 1)]) ∧ Below W.heap.size W w') := Lib.hid fun W => by have h1 := RDo_any 1 0#64 (bv imm) W; rw [un_0] at h1; exact h1
  have hMem := Lib.hid (fun W => R2Mem_any op W)
  have hT := Lib.hid (fun W => RTgt_any h op d r1 r2 imm aq rl pred succ W hr1 hr2)
  have hWr := Lib.hid (fun W => R2Writes_ok ⟨op, d, r1, r2, imm, aq, rl, pred, succ⟩ hc W)
  unfold memV at hMem
  rw [hm] at hM
  rw [he] at hN
  generalize (tgtV h ⟨op, d, r1, r2, imm, aq, rl, pred, succ⟩).1 = tn at hT ⊢
  generalize (tgtV h ⟨op, d, r1, r2, imm, aq, rl, pred, succ⟩).2 = tv at hT
  obtain ⟨v, hv⟩ : ∃ v, v = 0#64 := ⟨_, rfl⟩
  rw [← hv]
  generalize rform op = ff at hF t8
  generalize hq : doF op (h.x r1) (bv imm) = q at hD
  clear hq
  generalize doE op = qe at hD tE
  generalize hlb : (opOf op).loads = lb at hMem tl
  subst tl
  clear hm he hc
  have hund : ∀ b : Bool, (some undef = some (Value.bool b)) = False := fun b => by simp [undef]
  have hl1 : 0 ≤ (r1 : Int) ∧ (r1 : Int) < 32 := by omega
  have hl2 : 0 ≤ (r2 : Int) ∧ (r2 : Int) < 32 := by omega
  have hld : 0 ≤ (d : Int) ∧ (d : Int) < 32 := by omega
  have hun : Hid (un v = 0) := Lib.hid (by rw [hv]; exact un_0)
  clear hv
  go_enter Tryz.func15, Tryz.ntmps15
  go_upto_region 10 with (first | (refine wpList_load_mid rfl 25 _ rfl w.heap.size 0 rfl (hartL h) _ rh hu rfl (size_hart _) ?_) | (go_at_call 28; refine (hM.out _).mono ?_; rintro e wk ⟨rfl, hbk⟩; have hE9 := hE.keep hbk; clear hbk hE rh c0 c1 c2 c3 c4 c5 c6 c7 c8; have hE := hE9; clear hE9; obtain ⟨rh, c0, c1, c2, c3, c4, c5, c6, c7, c8⟩ := hE.facts) | (go_at_call 29; refine (hN.out _).mono ?_; rintro e wk ⟨rfl, hbk⟩; have hE9 := hE.keep hbk; clear hbk hE rh c0 c1 c2 c3 c4 c5 c6 c7 c8; have hE := hE9; clear hE9; obtain ⟨rh, c0, c1, c2, c3, c4, c5, c6, c7, c8⟩ := hE.facts))
  have x2 : wk.cell? ⟨w.heap.size, 1 + r2, none⟩ = some (.int .u64 (un (h.x r2))) := (hE.h (1 + r2) (by omega)).trans (congrArg some (hartCell_x h r2 hr2))
  go_upto_region 13 with (go_at_call 17; refine (hF.out _).mono ?_; rintro e wk ⟨rfl, rfl⟩; skip)
  clear x2 rh c0 c1 c2 c3 c4 c5 c6 c7 c8
  refine wp_region_held_drew (S := fun W => RK w h ⟨op, d, r1, r2, imm, aq, rl, pred, succ⟩ W) (by kernel_rfl) hE.drew (fun hHeld => ?_)
  refine wpAnyH_take (i := 0) (v := .pointer (some ⟨(w.heap.size + 1), 0, none⟩)) rfl (by kernel_rfl) (by kernel_rfl) (by kernel_rfl) (fun _ _ _ h => h) (Or.inl ⟨by rfl, fun W _ => by kernel_rfl⟩) hHeld ?_
  try simp only [Act.put, List.getElem_toArray, List.getElem_cons_zero, List.setIfInBounds_toArray, List.set_cons_zero, List.set_cons_succ]
  refine wpAnyH_take (i := 1) (v := .int .i64 op) rfl (by kernel_rfl) (by kernel_rfl) (by kernel_rfl) (fun _ _ _ h => h) (Or.inl ⟨by rfl, fun W hS => by (have k : W.cell? ⟨(w.heap.size + 1), 0, none⟩ = some (.int .i64 op) := (hS.c 0 (by decide))); go_simp⟩) hHeld ?_
  try simp only [Act.put, List.getElem_toArray, List.getElem_cons_succ, List.getElem_cons_zero, List.setIfInBounds_toArray, List.set_cons_zero, List.set_cons_succ]
  refine wpAnyH_take (i := 2) (v := .pointer (some ⟨(w.heap.size + 1), 2, none⟩)) rfl (by kernel_rfl) (by kernel_rfl) (by kernel_rfl) (fun _ _ _ h => h) (Or.inl ⟨by rfl, fun W _ => by kernel_rfl⟩) hHeld ?_
  try simp only [Act.put, List.getElem_toArray, List.getElem_cons_succ, List.getElem_cons_zero, List.setIfInBounds_toArray, List.set_cons_zero, List.set_cons_succ]
  refine wpAnyH_take (i := 3) (v := .int .i64 r1) rfl (by kernel_rfl) (by kernel_rfl) (by kernel_rfl) (fun _ _ _ h => h) (Or.inl ⟨by rfl, fun W hS => by (have k : W.cell? ⟨(w.heap.size + 1), 2, none⟩ = some (.int .i64 r1) := (hS.c 2 (by decide))); go_simp⟩) hHeld ?_
  try simp only [Act.put, List.getElem_toArray, List.getElem_cons_succ, List.getElem_cons_zero, List.setIfInBounds_toArray, List.set_cons_zero, List.set_cons_succ]
  refine wpAnyH_take (i := 4) (v := .pointer (some ⟨w.heap.size, 1, none⟩)) rfl (by kernel_rfl) (by kernel_rfl) (by kernel_rfl) (fun _ _ _ h => h) (Or.inl ⟨by rfl, fun W _ => by kernel_rfl⟩) hHeld ?_
  try simp only [Act.put, List.getElem_toArray, List.getElem_cons_succ, List.getElem_cons_zero, List.setIfInBounds_toArray, List.set_cons_zero, List.set_cons_succ]
  refine wpAnyH_take (i := 5) (v := .pointer (some ⟨w.heap.size, 1 + r1, none⟩)) rfl (by kernel_rfl) (by kernel_rfl) (by kernel_rfl) (fun _ _ _ h => h) (Or.inl ⟨by rfl, fun W _ => by go_simp⟩) hHeld ?_
  try simp only [Act.put, List.getElem_toArray, List.getElem_cons_succ, List.getElem_cons_zero, List.setIfInBounds_toArray, List.set_cons_zero, List.set_cons_succ]
  refine wpAnyH_take (i := 6) (v := .int .u64 (un (h.x r1))) rfl (by kernel_rfl) (by kernel_rfl) (by kernel_rfl) (fun _ _ _ h => h) (Or.inl ⟨by rfl, fun W hS => by (have k : W.cell? ⟨w.heap.size, 1 + r1, none⟩ = some (.int .u64 (un (h.x r1))) := (hS.h (1 + r1) (by omega)).trans (congrArg some (hartCell_x h r1 hr1))); go_simp⟩) hHeld ?_
  try simp only [Act.put, List.getElem_toArray, List.getElem_cons_succ, List.getElem_cons_zero, List.setIfInBounds_toArray, List.set_cons_zero, List.set_cons_succ]
  refine wpAnyH_take (i := 7) (v := .int .u64 (un (bv imm))) rfl (by kernel_rfl) (by kernel_rfl) (by kernel_rfl) (fun _ _ _ h => h) (Or.inl ⟨by rfl, fun W _ => by kernel_rfl⟩) hHeld ?_
  try simp only [Act.put, List.getElem_toArray, List.getElem_cons_succ, List.getElem_cons_zero, List.setIfInBounds_toArray, List.set_cons_zero, List.set_cons_succ]
  refine wpAnyH_ready (rs := [8]) (by kernel_rfl) (by simp) (AllReadyH.cons rfl (fun K hK2 => ?_) AllReadyH.nil)
  rw [if_pos (by rfl)]
  simp only [List.getElem_toArray, List.getElem_cons_succ, List.getElem_cons_zero]
  go_wp2_with (go_at_call 30; refine (hD.out _).mono ?_; rintro e wb ⟨rfl, hbb⟩)
  refine hK2.out _ _ (hHeld.keep hbb) (fun hHeld2 => ?_)
  clear hK2 K hHeld
  have hHeld := hHeld2
  clear hHeld2
  try simp only [Act.put, List.getElem_toArray, List.getElem_cons_succ, List.getElem_cons_zero, List.setIfInBounds_toArray, List.set_cons_zero, List.set_cons_succ]
  clear hbb
  refine wpAnyH_take (i := 9) (v := .tuple #[.int .u64 (un q), .int .i64 qe]) rfl (by kernel_rfl) (by kernel_rfl) (by kernel_rfl) (fun _ _ _ h => h) (Or.inl ⟨by rfl, fun W _ => by kernel_rfl⟩) hHeld ?_
  try simp only [Act.put, List.getElem_toArray, List.getElem_cons_succ, List.getElem_cons_zero, List.setIfInBounds_toArray, List.set_cons_zero, List.set_cons_succ]
  refine wpAnyH_take (i := 10) (v := .int .u64 (un q)) rfl (by kernel_rfl) (by kernel_rfl) (by kernel_rfl) (fun _ _ _ h => h) (Or.inl ⟨by rfl, fun W _ => by kernel_rfl⟩) hHeld ?_
  try simp only [Act.put, List.getElem_toArray, List.getElem_cons_succ, List.getElem_cons_zero, List.setIfInBounds_toArray, List.set_cons_zero, List.set_cons_succ]
  refine wpAnyH_take (i := 11) (v := .int .i64 qe) rfl (by kernel_rfl) (by kernel_rfl) (by kernel_rfl) (fun _ _ _ h => h) (Or.inl ⟨by rfl, fun W _ => by kernel_rfl⟩) hHeld ?_
  try simp only [Act.put, List.getElem_toArray, List.getElem_cons_succ, List.getElem_cons_zero, List.setIfInBounds_toArray, List.set_cons_zero, List.set_cons_succ]
  refine wpAnyH_take (i := 12) (v := .int .u64 (un q)) rfl (by kernel_rfl) (by kernel_rfl) (by kernel_rfl) (fun _ _ _ h => h) (Or.inl ⟨by rfl, fun W _ => by kernel_rfl⟩) hHeld ?_
  try simp only [Act.put, List.getElem_toArray, List.getElem_cons_succ, List.getElem_cons_zero, List.setIfInBounds_toArray, List.set_cons_zero, List.set_cons_succ]
  refine wpAnyH_take (i := 13) (v := .int .i64 qe) rfl (by kernel_rfl) (by kernel_rfl) (by kernel_rfl) (fun _ _ _ h => h) (Or.inl ⟨by rfl, fun W _ => by kernel_rfl⟩) hHeld ?_
  try simp only [Act.put, List.getElem_toArray, List.getElem_cons_succ, List.getElem_cons_zero, List.setIfInBounds_toArray, List.set_cons_zero, List.set_cons_succ]
  refine wpAnyH_done (by kernel_rfl) ?_ _
  have hE := hHeld
  clear hHeld hD
  skip
  obtain ⟨rh, c0, c1, c2, c3, c4, c5, c6, c7, c8⟩ := hE.facts
  have pc0 := hE.h 0 (by decide)
  rw [show hartCell h 0 = .int .u64 (un h.pc) from rfl] at pc0
  go_upto_region 28 with (first | (go_at_call 31; refine (hMem.out _).mono ?_; rintro e wk ⟨rfl, hbk⟩; have hE9 := hE.keep hbk; clear pc0; clear hbk hE rh c0 c1 c2 c3 c4 c5 c6 c7 c8; have hE := hE9; clear hE9; obtain ⟨rh, c0, c1, c2, c3, c4, c5, c6, c7, c8⟩ := hE.facts; have pc0 : wk.cell? ⟨w.heap.size, 0, none⟩ = some (.int .u64 (un h.pc)) := hE.h 0 (by decide)) | (go_at_call 30; refine (hD1.out _).mono ?_; rintro e wk ⟨rfl, hbk⟩; have hE9 := hE.keep hbk; clear pc0; clear hbk hE rh c0 c1 c2 c3 c4 c5 c6 c7 c8; have hE := hE9; clear hE9; obtain ⟨rh, c0, c1, c2, c3, c4, c5, c6, c7, c8⟩ := hE.facts; have pc0 : wk.cell? ⟨w.heap.size, 0, none⟩ = some (.int .u64 (un h.pc)) := hE.h 0 (by decide)))
  have z0 : wk.frozen? ⟨w.heap.size, 0, none⟩ = false := hE.hf 0 (by decide)
  go_upto_region 29 with (first | (refine wpList_load_mid rfl 25 _ rfl w.heap.size 0 rfl (hartL h) _ rh hu rfl (size_hart _) ?_) | (go_at_call 32; refine (hT.out _).mono ?_; rintro e wk ⟨rfl, hbk⟩; have hE9 := hE.keep hbk; clear pc0 z0; clear hbk hE rh c0 c1 c2 c3 c4 c5 c6 c7 c8; have hE := hE9; clear hE9; obtain ⟨rh, c0, c1, c2, c3, c4, c5, c6, c7, c8⟩ := hE.facts; have pc0 : wk.cell? ⟨w.heap.size, 0, none⟩ = some (.int .u64 (un h.pc)) := hE.h 0 (by decide); have z0 : wk.frozen? ⟨w.heap.size, 0, none⟩ = false := hE.hf 0 (by decide)))
  have hE9 := hE.put 0 (.int .u64 (un tn)) (hE.h.goes tn)
  clear hE pc0 z0 rh c0 c1 c2 c3 c4 c5 c6 c7 c8
  have hE := hE9
  clear hE9
  generalize World.setCell _ _ _ = u1 at hE ⊢
  obtain ⟨rh, c0, c1, c2, c3, c4, c5, c6, c7, c8⟩ := hE.facts
  go_upto_region 30 with (go_at_call 13; refine (hWr.out _).mono ?_; rintro e wk ⟨rfl, hbk⟩; have hE9 := hE.keep hbk; clear hbk hE rh c0 c1 c2 c3 c4 c5 c6 c7 c8; have hE := hE9; clear hE9; obtain ⟨rh, c0, c1, c2, c3, c4, c5, c6, c7, c8⟩ := hE.facts)
  by_cases hz : d = 0
  · have tz : decide (0 < (d : Int)) = false := by rw [decide_eq_false_iff_not]; omega
    have tz2 : decide (0 < d) = false := by rw [decide_eq_false_iff_not]; omega
    have hres : rgoneV h ⟨op, d, r1, r2, imm, aq, rl, pred, succ⟩ tn v = h.goes tn := if_pos (show (d : Int) = 0 by omega)
    replace hres := Lib.hid hres
    clear hz
    go_wp2_with (first | (refine wpList_load_mid rfl 25 _ rfl w.heap.size 0 rfl (hartL (h.goes tn)) _ rh hu rfl (size_hart _) ?_) | (refine wpList_store_mid rfl 25 _ _ rfl (w.heap.size + 2) 0 (hartL (h.goes tn)).toArray rfl rfl (there_hart hE.z _) (size_hartA _) (hartL_one _) ?_))
    have hr := World.rangeAt_setCells_same wk (w.heap.size + 2) 0 (hartL (h.goes tn)) (by rw [hartL_len]; exact hE.z)
    have hbl : Below w.heap.size w (World.setCells wk (w.heap.size + 2) 0 (hartL (h.goes tn))) := below_setCells (Nat.le_add_right _ _) (hartL (h.goes tn)) 0 wk hE.bl
    generalize World.setCells wk (w.heap.size + 2) 0 (hartL (h.goes tn)) = W5 at hr hbl ⊢
    have hlv := result_hart W5 (w.heap.size + 2) (h.goes tn) hr
    exact bodyPost_ret (v := .tuple #[.agg (hartL (h.goes tn)).toArray, .int .i64 0]) (by simp [results, Tryz.results15, asAddr, hlv]) rfl ⟨by rw [hres.out]; rfl, hbl⟩
  · have tz : decide (0 < (d : Int)) = true := by rw [decide_eq_true_iff]; omega
    have tz2 : decide (0 < d) = true := by rw [decide_eq_true_iff]; omega
    have hres : rgoneV h ⟨op, d, r1, r2, imm, aq, rl, pred, succ⟩ tn v = (h.goes tn).set d v := if_neg (show ¬ (d : Int) = 0 by omega)
    replace hres := Lib.hid hres
    clear hz
    have xd : wk.cell? ⟨w.heap.size, 1 + d, none⟩ = some (.int .u64 (un (h.x d))) := (hE.h (1 + d) (by omega)).trans (congrArg some (hartCell_x (h.goes tn) d hd))
    have zd : wk.frozen? ⟨w.heap.size, 1 + d, none⟩ = false := hE.hf (1 + d) (by omega)
    go_upto_region 32 with fail
    have hE9 := hE.put (h' := (h.goes tn).set d v) (1 + d) (.int .u64 0) (by have h9 := hE.h.setX d hd v; rw [hun.out] at h9; exact h9)
    clear hE xd zd rh c0 c1 c2 c3 c4 c5 c6 c7 c8
    have hE := hE9
    clear hE9
    generalize World.setCell _ _ _ = u2 at hE ⊢
    have rh := hE.h.range
    go_wp2_with (first | (refine wpList_load_mid rfl 25 _ rfl w.heap.size 0 rfl (hartL ((h.goes tn).set d v)) _ rh hu rfl (size_hart _) ?_) | (refine wpList_store_mid rfl 25 _ _ rfl (w.heap.size + 2) 0 (hartL ((h.goes tn).set d v)).toArray rfl rfl (there_hart hE.z _) (size_hartA _) (hartL_one _) ?_))
    have hr := World.rangeAt_setCells_same u2 (w.heap.size + 2) 0 (hartL ((h.goes tn).set d v)) (by rw [hartL_len]; exact hE.z)
    have hbl : Below w.heap.size w (World.setCells u2 (w.heap.size + 2) 0 (hartL ((h.goes tn).set d v))) := below_setCells (Nat.le_add_right _ _) (hartL ((h.goes tn).set d v)) 0 u2 hE.bl
    generalize World.setCells u2 (w.heap.size + 2) 0 (hartL ((h.goes tn).set d v)) = W5 at hr hbl ⊢
    have hlv := result_hart W5 (w.heap.size + 2) ((h.goes tn).set d v) hr
    exact bodyPost_ret (v := .tuple #[.agg (hartL ((h.goes tn).set d v)).toArray, .int .i64 0]) (by simp [results, Tryz.results15, asAddr, hlv]) rfl ⟨by rw [hres.out]; rfl, hbl⟩
set_option maxRecDepth 100000 in
set_option maxHeartbeats 8000000 in
theorem RGo_h (h : HartV) (op : Int) (d r1 r2 : Nat) (imm : Int) (aq rl : Bool) (pred succ : Int) (found : BitVec 64) (won : Bool) (w : World) (hr1 : r1 < 32) (hr2 : r2 < 32) (hd : d < 32) (hm : mayE h ⟨op, d, r1, r2, imm, aq, rl, pred, succ⟩ = 0) (he : rendV h ⟨op, d, r1, r2, imm, aq, rl, pred, succ⟩ = 0) (hc : checkE ⟨op, d, r1, r2, imm, aq, rl, pred, succ⟩ = 0) (t8 : (rform op != 8) = true) (t69 : (op == 69) = false) (tl : (opOf op).loads = false) (t3 : (op == 3) = false) (t4 : (op == 4) = false) (t2 : (op == 2) = false) (tE : (doE op != 0) = false) :
    Calls Tryz.prog 15 #[.agg (hartArr h), .agg #[.int .i64 op, .int .i64 d, .int .i64 r1, .int .i64 r2, .int .i64 imm, .bool aq, .bool rl, .int .i64 pred, .int .i64 succ], .int .u64 (un found), .bool won] w fun e w' => e = .returned (.tuple #[.agg (hartArr (rgoneV h ⟨op, d, r1, r2, imm, aq, rl, pred, succ⟩ (tgtV h ⟨op, d, r1, r2, imm, aq, rl, pred, succ⟩).1 (doF op (h.x r1) (bv imm)))), .int .i64 0]) ∧ Below w.heap.size w w' := by
  have hE := RK.start w h ⟨op, d, r1, r2, imm, aq, rl, pred, succ⟩ 25 27 25
  obtain ⟨rh, c0, c1, c2, c3, c4, c5, c6, c7, c8⟩ := hE.facts
  have hu := Tryz.underlying25
  have hM := Lib.hid (fun W => RMay_any h ⟨op, d, r1, r2, imm, aq, rl, pred, succ⟩ W)
  have hN := Lib.hid (fun W => REnd_any h op d r1 r2 imm aq rl pred succ W hr1 hr2)
  have hF := Lib.hid (fun W => R2Form_any op W)
  have hD := Lib.hid (fun W => RDo_any op (h.x r1) (bv imm) W)
  have hD1 : Hid (∀ W, Calls Tryz.prog 30 #[.int .i64 1, .int .u64 0, .int .u64 (un (bv imm))] W fun e w' => e = .returned (.tuple #[.int .u64 (un (doF 1 0#64 (bv imm))), .int .i64 (doE 1)]) ∧ Below W.heap.size W w') := Lib.hid fun W => by have h1 := RDo_any 1 0#64 (bv imm) W; rw [un_0] at h1; exact h1
  have hMem := Lib.hid (fun W => R2Mem_any op W)
  have hT := Lib.hid (fun W => RTgt_any h op d r1 r2 imm aq rl pred succ W hr1 hr2)
  have hWr := Lib.hid (fun W => R2Writes_ok ⟨op, d, r1, r2, imm, aq, rl, pred, succ⟩ hc W)
  unfold memV at hMem
  rw [hm] at hM
  rw [he] at hN
  generalize (tgtV h ⟨op, d, r1, r2, imm, aq, rl, pred, succ⟩).1 = tn at hT ⊢
  generalize (tgtV h ⟨op, d, r1, r2, imm, aq, rl, pred, succ⟩).2 = tv at hT
  obtain ⟨v, hv⟩ : ∃ v, v = (doF op (h.x r1) (bv imm)) := ⟨_, rfl⟩
  rw [← hv]
  generalize rform op = ff at hF t8
  rw [← hv] at hD
  generalize doE op = qe at hD tE
  generalize hlb : (opOf op).loads = lb at hMem tl
  subst tl
  clear hm he hc
  have hund : ∀ b : Bool, (some undef = some (Value.bool b)) = False := fun b => by simp [undef]
  have hl1 : 0 ≤ (r1 : Int) ∧ (r1 : Int) < 32 := by omega
  have hl2 : 0 ≤ (r2 : Int) ∧ (r2 : Int) < 32 := by omega
  have hld : 0 ≤ (d : Int) ∧ (d : Int) < 32 := by omega
  clear hv
  go_enter Tryz.func15, Tryz.ntmps15
  go_upto_region 10 with (first | (refine wpList_load_mid rfl 25 _ rfl w.heap.size 0 rfl (hartL h) _ rh hu rfl (size_hart _) ?_) | (go_at_call 28; refine (hM.out _).mono ?_; rintro e wk ⟨rfl, hbk⟩; have hE9 := hE.keep hbk; clear hbk hE rh c0 c1 c2 c3 c4 c5 c6 c7 c8; have hE := hE9; clear hE9; obtain ⟨rh, c0, c1, c2, c3, c4, c5, c6, c7, c8⟩ := hE.facts) | (go_at_call 29; refine (hN.out _).mono ?_; rintro e wk ⟨rfl, hbk⟩; have hE9 := hE.keep hbk; clear hbk hE rh c0 c1 c2 c3 c4 c5 c6 c7 c8; have hE := hE9; clear hE9; obtain ⟨rh, c0, c1, c2, c3, c4, c5, c6, c7, c8⟩ := hE.facts))
  have x2 : wk.cell? ⟨w.heap.size, 1 + r2, none⟩ = some (.int .u64 (un (h.x r2))) := (hE.h (1 + r2) (by omega)).trans (congrArg some (hartCell_x h r2 hr2))
  go_upto_region 13 with (go_at_call 17; refine (hF.out _).mono ?_; rintro e wk ⟨rfl, rfl⟩; skip)
  clear x2 rh c0 c1 c2 c3 c4 c5 c6 c7 c8
  refine wp_region_held_drew (S := fun W => RK w h ⟨op, d, r1, r2, imm, aq, rl, pred, succ⟩ W) (by kernel_rfl) hE.drew (fun hHeld => ?_)
  refine wpAnyH_take (i := 0) (v := .pointer (some ⟨(w.heap.size + 1), 0, none⟩)) rfl (by kernel_rfl) (by kernel_rfl) (by kernel_rfl) (fun _ _ _ h => h) (Or.inl ⟨by rfl, fun W _ => by kernel_rfl⟩) hHeld ?_
  try simp only [Act.put, List.getElem_toArray, List.getElem_cons_zero, List.setIfInBounds_toArray, List.set_cons_zero, List.set_cons_succ]
  refine wpAnyH_take (i := 1) (v := .int .i64 op) rfl (by kernel_rfl) (by kernel_rfl) (by kernel_rfl) (fun _ _ _ h => h) (Or.inl ⟨by rfl, fun W hS => by (have k : W.cell? ⟨(w.heap.size + 1), 0, none⟩ = some (.int .i64 op) := (hS.c 0 (by decide))); go_simp⟩) hHeld ?_
  try simp only [Act.put, List.getElem_toArray, List.getElem_cons_succ, List.getElem_cons_zero, List.setIfInBounds_toArray, List.set_cons_zero, List.set_cons_succ]
  refine wpAnyH_take (i := 2) (v := .pointer (some ⟨(w.heap.size + 1), 2, none⟩)) rfl (by kernel_rfl) (by kernel_rfl) (by kernel_rfl) (fun _ _ _ h => h) (Or.inl ⟨by rfl, fun W _ => by kernel_rfl⟩) hHeld ?_
  try simp only [Act.put, List.getElem_toArray, List.getElem_cons_succ, List.getElem_cons_zero, List.setIfInBounds_toArray, List.set_cons_zero, List.set_cons_succ]
  refine wpAnyH_take (i := 3) (v := .int .i64 r1) rfl (by kernel_rfl) (by kernel_rfl) (by kernel_rfl) (fun _ _ _ h => h) (Or.inl ⟨by rfl, fun W hS => by (have k : W.cell? ⟨(w.heap.size + 1), 2, none⟩ = some (.int .i64 r1) := (hS.c 2 (by decide))); go_simp⟩) hHeld ?_
  try simp only [Act.put, List.getElem_toArray, List.getElem_cons_succ, List.getElem_cons_zero, List.setIfInBounds_toArray, List.set_cons_zero, List.set_cons_succ]
  refine wpAnyH_take (i := 4) (v := .pointer (some ⟨w.heap.size, 1, none⟩)) rfl (by kernel_rfl) (by kernel_rfl) (by kernel_rfl) (fun _ _ _ h => h) (Or.inl ⟨by rfl, fun W _ => by kernel_rfl⟩) hHeld ?_
  try simp only [Act.put, List.getElem_toArray, List.getElem_cons_succ, List.getElem_cons_zero, List.setIfInBounds_toArray, List.set_cons_zero, List.set_cons_succ]
  refine wpAnyH_take (i := 5) (v := .pointer (some ⟨w.heap.size, 1 + r1, none⟩)) rfl (by kernel_rfl) (by kernel_rfl) (by kernel_rfl) (fun _ _ _ h => h) (Or.inl ⟨by rfl, fun W _ => by go_simp⟩) hHeld ?_
  try simp only [Act.put, List.getElem_toArray, List.getElem_cons_succ, List.getElem_cons_zero, List.setIfInBounds_toArray, List.set_cons_zero, List.set_cons_succ]
  refine wpAnyH_take (i := 6) (v := .int .u64 (un (h.x r1))) rfl (by kernel_rfl) (by kernel_rfl) (by kernel_rfl) (fun _ _ _ h => h) (Or.inl ⟨by rfl, fun W hS => by (have k : W.cell? ⟨w.heap.size, 1 + r1, none⟩ = some (.int .u64 (un (h.x r1))) := (hS.h (1 + r1) (by omega)).trans (congrArg some (hartCell_x h r1 hr1))); go_simp⟩) hHeld ?_
  try simp only [Act.put, List.getElem_toArray, List.getElem_cons_succ, List.getElem_cons_zero, List.setIfInBounds_toArray, List.set_cons_zero, List.set_cons_succ]
  refine wpAnyH_take (i := 7) (v := .int .u64 (un (bv imm))) rfl (by kernel_rfl) (by kernel_rfl) (by kernel_rfl) (fun _ _ _ h => h) (Or.inl ⟨by rfl, fun W _ => by kernel_rfl⟩) hHeld ?_
  try simp only [Act.put, List.getElem_toArray, List.getElem_cons_succ, List.getElem_cons_zero, List.setIfInBounds_toArray, List.set_cons_zero, List.set_cons_succ]
  refine wpAnyH_ready (rs := [8]) (by kernel_rfl) (by simp) (AllReadyH.cons rfl (fun K hK2 => ?_) AllReadyH.nil)
  rw [if_pos (by rfl)]
  simp only [List.getElem_toArray, List.getElem_cons_succ, List.getElem_cons_zero]
  go_wp2_with (go_at_call 30; refine (hD.out _).mono ?_; rintro e wb ⟨rfl, hbb⟩)
  refine hK2.out _ _ (hHeld.keep hbb) (fun hHeld2 => ?_)
  clear hK2 K hHeld
  have hHeld := hHeld2
  clear hHeld2
  try simp only [Act.put, List.getElem_toArray, List.getElem_cons_succ, List.getElem_cons_zero, List.setIfInBounds_toArray, List.set_cons_zero, List.set_cons_succ]
  clear hbb
  refine wpAnyH_take (i := 9) (v := .tuple #[.int .u64 (un v), .int .i64 qe]) rfl (by kernel_rfl) (by kernel_rfl) (by kernel_rfl) (fun _ _ _ h => h) (Or.inl ⟨by rfl, fun W _ => by kernel_rfl⟩) hHeld ?_
  try simp only [Act.put, List.getElem_toArray, List.getElem_cons_succ, List.getElem_cons_zero, List.setIfInBounds_toArray, List.set_cons_zero, List.set_cons_succ]
  refine wpAnyH_take (i := 10) (v := .int .u64 (un v)) rfl (by kernel_rfl) (by kernel_rfl) (by kernel_rfl) (fun _ _ _ h => h) (Or.inl ⟨by rfl, fun W _ => by kernel_rfl⟩) hHeld ?_
  try simp only [Act.put, List.getElem_toArray, List.getElem_cons_succ, List.getElem_cons_zero, List.setIfInBounds_toArray, List.set_cons_zero, List.set_cons_succ]
  refine wpAnyH_take (i := 11) (v := .int .i64 qe) rfl (by kernel_rfl) (by kernel_rfl) (by kernel_rfl) (fun _ _ _ h => h) (Or.inl ⟨by rfl, fun W _ => by kernel_rfl⟩) hHeld ?_
  try simp only [Act.put, List.getElem_toArray, List.getElem_cons_succ, List.getElem_cons_zero, List.setIfInBounds_toArray, List.set_cons_zero, List.set_cons_succ]
  refine wpAnyH_take (i := 12) (v := .int .u64 (un v)) rfl (by kernel_rfl) (by kernel_rfl) (by kernel_rfl) (fun _ _ _ h => h) (Or.inl ⟨by rfl, fun W _ => by kernel_rfl⟩) hHeld ?_
  try simp only [Act.put, List.getElem_toArray, List.getElem_cons_succ, List.getElem_cons_zero, List.setIfInBounds_toArray, List.set_cons_zero, List.set_cons_succ]
  refine wpAnyH_take (i := 13) (v := .int .i64 qe) rfl (by kernel_rfl) (by kernel_rfl) (by kernel_rfl) (fun _ _ _ h => h) (Or.inl ⟨by rfl, fun W _ => by kernel_rfl⟩) hHeld ?_
  try simp only [Act.put, List.getElem_toArray, List.getElem_cons_succ, List.getElem_cons_zero, List.setIfInBounds_toArray, List.set_cons_zero, List.set_cons_succ]
  refine wpAnyH_done (by kernel_rfl) ?_ _
  have hE := hHeld
  clear hHeld hD
  skip
  obtain ⟨rh, c0, c1, c2, c3, c4, c5, c6, c7, c8⟩ := hE.facts
  have pc0 := hE.h 0 (by decide)
  rw [show hartCell h 0 = .int .u64 (un h.pc) from rfl] at pc0
  go_upto_region 28 with (first | (go_at_call 31; refine (hMem.out _).mono ?_; rintro e wk ⟨rfl, hbk⟩; have hE9 := hE.keep hbk; clear pc0; clear hbk hE rh c0 c1 c2 c3 c4 c5 c6 c7 c8; have hE := hE9; clear hE9; obtain ⟨rh, c0, c1, c2, c3, c4, c5, c6, c7, c8⟩ := hE.facts; have pc0 : wk.cell? ⟨w.heap.size, 0, none⟩ = some (.int .u64 (un h.pc)) := hE.h 0 (by decide)) | (go_at_call 30; refine (hD1.out _).mono ?_; rintro e wk ⟨rfl, hbk⟩; have hE9 := hE.keep hbk; clear pc0; clear hbk hE rh c0 c1 c2 c3 c4 c5 c6 c7 c8; have hE := hE9; clear hE9; obtain ⟨rh, c0, c1, c2, c3, c4, c5, c6, c7, c8⟩ := hE.facts; have pc0 : wk.cell? ⟨w.heap.size, 0, none⟩ = some (.int .u64 (un h.pc)) := hE.h 0 (by decide)))
  have z0 : wk.frozen? ⟨w.heap.size, 0, none⟩ = false := hE.hf 0 (by decide)
  go_upto_region 29 with (first | (refine wpList_load_mid rfl 25 _ rfl w.heap.size 0 rfl (hartL h) _ rh hu rfl (size_hart _) ?_) | (go_at_call 32; refine (hT.out _).mono ?_; rintro e wk ⟨rfl, hbk⟩; have hE9 := hE.keep hbk; clear pc0 z0; clear hbk hE rh c0 c1 c2 c3 c4 c5 c6 c7 c8; have hE := hE9; clear hE9; obtain ⟨rh, c0, c1, c2, c3, c4, c5, c6, c7, c8⟩ := hE.facts; have pc0 : wk.cell? ⟨w.heap.size, 0, none⟩ = some (.int .u64 (un h.pc)) := hE.h 0 (by decide); have z0 : wk.frozen? ⟨w.heap.size, 0, none⟩ = false := hE.hf 0 (by decide)))
  have hE9 := hE.put 0 (.int .u64 (un tn)) (hE.h.goes tn)
  clear hE pc0 z0 rh c0 c1 c2 c3 c4 c5 c6 c7 c8
  have hE := hE9
  clear hE9
  generalize World.setCell _ _ _ = u1 at hE ⊢
  obtain ⟨rh, c0, c1, c2, c3, c4, c5, c6, c7, c8⟩ := hE.facts
  go_upto_region 30 with (go_at_call 13; refine (hWr.out _).mono ?_; rintro e wk ⟨rfl, hbk⟩; have hE9 := hE.keep hbk; clear hbk hE rh c0 c1 c2 c3 c4 c5 c6 c7 c8; have hE := hE9; clear hE9; obtain ⟨rh, c0, c1, c2, c3, c4, c5, c6, c7, c8⟩ := hE.facts)
  by_cases hz : d = 0
  · have tz : decide (0 < (d : Int)) = false := by rw [decide_eq_false_iff_not]; omega
    have tz2 : decide (0 < d) = false := by rw [decide_eq_false_iff_not]; omega
    have hres : rgoneV h ⟨op, d, r1, r2, imm, aq, rl, pred, succ⟩ tn v = h.goes tn := if_pos (show (d : Int) = 0 by omega)
    replace hres := Lib.hid hres
    clear hz
    go_wp2_with (first | (refine wpList_load_mid rfl 25 _ rfl w.heap.size 0 rfl (hartL (h.goes tn)) _ rh hu rfl (size_hart _) ?_) | (refine wpList_store_mid rfl 25 _ _ rfl (w.heap.size + 2) 0 (hartL (h.goes tn)).toArray rfl rfl (there_hart hE.z _) (size_hartA _) (hartL_one _) ?_))
    have hr := World.rangeAt_setCells_same wk (w.heap.size + 2) 0 (hartL (h.goes tn)) (by rw [hartL_len]; exact hE.z)
    have hbl : Below w.heap.size w (World.setCells wk (w.heap.size + 2) 0 (hartL (h.goes tn))) := below_setCells (Nat.le_add_right _ _) (hartL (h.goes tn)) 0 wk hE.bl
    generalize World.setCells wk (w.heap.size + 2) 0 (hartL (h.goes tn)) = W5 at hr hbl ⊢
    have hlv := result_hart W5 (w.heap.size + 2) (h.goes tn) hr
    exact bodyPost_ret (v := .tuple #[.agg (hartL (h.goes tn)).toArray, .int .i64 0]) (by simp [results, Tryz.results15, asAddr, hlv]) rfl ⟨by rw [hres.out]; rfl, hbl⟩
  · have tz : decide (0 < (d : Int)) = true := by rw [decide_eq_true_iff]; omega
    have tz2 : decide (0 < d) = true := by rw [decide_eq_true_iff]; omega
    have hres : rgoneV h ⟨op, d, r1, r2, imm, aq, rl, pred, succ⟩ tn v = (h.goes tn).set d v := if_neg (show ¬ (d : Int) = 0 by omega)
    replace hres := Lib.hid hres
    clear hz
    have xd : wk.cell? ⟨w.heap.size, 1 + d, none⟩ = some (.int .u64 (un (h.x d))) := (hE.h (1 + d) (by omega)).trans (congrArg some (hartCell_x (h.goes tn) d hd))
    have zd : wk.frozen? ⟨w.heap.size, 1 + d, none⟩ = false := hE.hf (1 + d) (by omega)
    go_upto_region 32 with fail
    have hE9 := hE.put (1 + d) (.int .u64 (un v)) (hE.h.setX d hd v)
    clear hE xd zd rh c0 c1 c2 c3 c4 c5 c6 c7 c8
    have hE := hE9
    clear hE9
    generalize World.setCell _ _ _ = u2 at hE ⊢
    have rh := hE.h.range
    go_wp2_with (first | (refine wpList_load_mid rfl 25 _ rfl w.heap.size 0 rfl (hartL ((h.goes tn).set d v)) _ rh hu rfl (size_hart _) ?_) | (refine wpList_store_mid rfl 25 _ _ rfl (w.heap.size + 2) 0 (hartL ((h.goes tn).set d v)).toArray rfl rfl (there_hart hE.z _) (size_hartA _) (hartL_one _) ?_))
    have hr := World.rangeAt_setCells_same u2 (w.heap.size + 2) 0 (hartL ((h.goes tn).set d v)) (by rw [hartL_len]; exact hE.z)
    have hbl : Below w.heap.size w (World.setCells u2 (w.heap.size + 2) 0 (hartL ((h.goes tn).set d v))) := below_setCells (Nat.le_add_right _ _) (hartL ((h.goes tn).set d v)) 0 u2 hE.bl
    generalize World.setCells u2 (w.heap.size + 2) 0 (hartL ((h.goes tn).set d v)) = W5 at hr hbl ⊢
    have hlv := result_hart W5 (w.heap.size + 2) ((h.goes tn).set d v) hr
    exact bodyPost_ret (v := .tuple #[.agg (hartL ((h.goes tn).set d v)).toArray, .int .i64 0]) (by simp [results, Tryz.results15, asAddr, hlv]) rfl ⟨by rw [hres.out]; rfl, hbl⟩
set_option maxRecDepth 100000 in
set_option maxHeartbeats 8000000 in
theorem RGo_i (h : HartV) (op : Int) (d r1 r2 : Nat) (imm : Int) (aq rl : Bool) (pred succ : Int) (found : BitVec 64) (won : Bool) (w : World) (hr1 : r1 < 32) (hr2 : r2 < 32) (hd : d < 32) (hm : mayE h ⟨op, d, r1, r2, imm, aq, rl, pred, succ⟩ = 0) (he : rendV h ⟨op, d, r1, r2, imm, aq, rl, pred, succ⟩ = 0) (hc : checkE ⟨op, d, r1, r2, imm, aq, rl, pred, succ⟩ = 0) (t8 : (rform op != 8) = false) (t69 : (op == 69) = false) (tl : (opOf op).loads = false) (t3 : (op == 3) = false) (t4 : (op == 4) = false) (t2 : (op == 2) = false) (tE : (doE op != 0) = false) :
    Calls Tryz.prog 15 #[.agg (hartArr h), .agg #[.int .i64 op, .int .i64 d, .int .i64 r1, .int .i64 r2, .int .i64 imm, .bool aq, .bool rl, .int .i64 pred, .int .i64 succ], .int .u64 (un found), .bool won] w fun e w' => e = .returned (.tuple #[.agg (hartArr (rgoneV h ⟨op, d, r1, r2, imm, aq, rl, pred, succ⟩ (tgtV h ⟨op, d, r1, r2, imm, aq, rl, pred, succ⟩).1 (doF op (h.x r1) (h.x r2)))), .int .i64 0]) ∧ Below w.heap.size w w' := by
  have hE := RK.start w h ⟨op, d, r1, r2, imm, aq, rl, pred, succ⟩ 25 27 25
  obtain ⟨rh, c0, c1, c2, c3, c4, c5, c6, c7, c8⟩ := hE.facts
  have hu := Tryz.underlying25
  have hM := Lib.hid (fun W => RMay_any h ⟨op, d, r1, r2, imm, aq, rl, pred, succ⟩ W)
  have hN := Lib.hid (fun W => REnd_any h op d r1 r2 imm aq rl pred succ W hr1 hr2)
  have hF := Lib.hid (fun W => R2Form_any op W)
  have hD := Lib.hid (fun W => RDo_any op (h.x r1) (h.x r2) W)
  have hD1 : Hid (∀ W, Calls Tryz.prog 30 #[.int .i64 1, .int .u64 0, .int .u64 (un (bv imm))] W fun e w' => e = .returned (.tuple #[.int .u64 (un (doF 1 0#64 (bv imm))), .int .i64 (doE 1)]) ∧ Below W.heap.size W w') := Lib.hid fun W => by have h1 := RDo_any 1 0#64 (bv imm) W; rw [un_0] at h1; exact h1
  have hMem := Lib.hid (fun W => R2Mem_any op W)
  have hT := Lib.hid (fun W => RTgt_any h op d r1 r2 imm aq rl pred succ W hr1 hr2)
  have hWr := Lib.hid (fun W => R2Writes_ok ⟨op, d, r1, r2, imm, aq, rl, pred, succ⟩ hc W)
  unfold memV at hMem
  rw [hm] at hM
  rw [he] at hN
  generalize (tgtV h ⟨op, d, r1, r2, imm, aq, rl, pred, succ⟩).1 = tn at hT ⊢
  generalize (tgtV h ⟨op, d, r1, r2, imm, aq, rl, pred, succ⟩).2 = tv at hT
  obtain ⟨v, hv⟩ : ∃ v, v = (doF op (h.x r1) (h.x r2)) := ⟨_, rfl⟩
  rw [← hv]
  generalize rform op = ff at hF t8
  rw [← hv] at hD
  generalize doE op = qe at hD tE
  generalize hlb : (opOf op).loads = lb at hMem tl
  subst tl
  clear hm he hc
  have hund : ∀ b : Bool, (some undef = some (Value.bool b)) = False := fun b => by simp [undef]
  have hl1 : 0 ≤ (r1 : Int) ∧ (r1 : Int) < 32 := by omega
  have hl2 : 0 ≤ (r2 : Int) ∧ (r2 : Int) < 32 := by omega
  have hld : 0 ≤ (d : Int) ∧ (d : Int) < 32 := by omega
  clear hv
  go_enter Tryz.func15, Tryz.ntmps15
  go_upto_region 10 with (first | (refine wpList_load_mid rfl 25 _ rfl w.heap.size 0 rfl (hartL h) _ rh hu rfl (size_hart _) ?_) | (go_at_call 28; refine (hM.out _).mono ?_; rintro e wk ⟨rfl, hbk⟩; have hE9 := hE.keep hbk; clear hbk hE rh c0 c1 c2 c3 c4 c5 c6 c7 c8; have hE := hE9; clear hE9; obtain ⟨rh, c0, c1, c2, c3, c4, c5, c6, c7, c8⟩ := hE.facts) | (go_at_call 29; refine (hN.out _).mono ?_; rintro e wk ⟨rfl, hbk⟩; have hE9 := hE.keep hbk; clear hbk hE rh c0 c1 c2 c3 c4 c5 c6 c7 c8; have hE := hE9; clear hE9; obtain ⟨rh, c0, c1, c2, c3, c4, c5, c6, c7, c8⟩ := hE.facts))
  have x2 : wk.cell? ⟨w.heap.size, 1 + r2, none⟩ = some (.int .u64 (un (h.x r2))) := (hE.h (1 + r2) (by omega)).trans (congrArg some (hartCell_x h r2 hr2))
  go_upto_region 13 with (go_at_call 17; refine (hF.out _).mono ?_; rintro e wk ⟨rfl, rfl⟩; skip)
  clear x2 rh c0 c1 c2 c3 c4 c5 c6 c7 c8
  refine wp_region_held_drew (S := fun W => RK w h ⟨op, d, r1, r2, imm, aq, rl, pred, succ⟩ W) (by kernel_rfl) hE.drew (fun hHeld => ?_)
  refine wpAnyH_take (i := 0) (v := .pointer (some ⟨(w.heap.size + 1), 0, none⟩)) rfl (by kernel_rfl) (by kernel_rfl) (by kernel_rfl) (fun _ _ _ h => h) (Or.inl ⟨by rfl, fun W _ => by kernel_rfl⟩) hHeld ?_
  try simp only [Act.put, List.getElem_toArray, List.getElem_cons_zero, List.setIfInBounds_toArray, List.set_cons_zero, List.set_cons_succ]
  refine wpAnyH_take (i := 1) (v := .int .i64 op) rfl (by kernel_rfl) (by kernel_rfl) (by kernel_rfl) (fun _ _ _ h => h) (Or.inl ⟨by rfl, fun W hS => by (have k : W.cell? ⟨(w.heap.size + 1), 0, none⟩ = some (.int .i64 op) := (hS.c 0 (by decide))); go_simp⟩) hHeld ?_
  try simp only [Act.put, List.getElem_toArray, List.getElem_cons_succ, List.getElem_cons_zero, List.setIfInBounds_toArray, List.set_cons_zero, List.set_cons_succ]
  refine wpAnyH_take (i := 2) (v := .pointer (some ⟨(w.heap.size + 1), 2, none⟩)) rfl (by kernel_rfl) (by kernel_rfl) (by kernel_rfl) (fun _ _ _ h => h) (Or.inl ⟨by rfl, fun W _ => by kernel_rfl⟩) hHeld ?_
  try simp only [Act.put, List.getElem_toArray, List.getElem_cons_succ, List.getElem_cons_zero, List.setIfInBounds_toArray, List.set_cons_zero, List.set_cons_succ]
  refine wpAnyH_take (i := 3) (v := .int .i64 r1) rfl (by kernel_rfl) (by kernel_rfl) (by kernel_rfl) (fun _ _ _ h => h) (Or.inl ⟨by rfl, fun W hS => by (have k : W.cell? ⟨(w.heap.size + 1), 2, none⟩ = some (.int .i64 r1) := (hS.c 2 (by decide))); go_simp⟩) hHeld ?_
  try simp only [Act.put, List.getElem_toArray, List.getElem_cons_succ, List.getElem_cons_zero, List.setIfInBounds_toArray, List.set_cons_zero, List.set_cons_succ]
  refine wpAnyH_take (i := 4) (v := .pointer (some ⟨w.heap.size, 1, none⟩)) rfl (by kernel_rfl) (by kernel_rfl) (by kernel_rfl) (fun _ _ _ h => h) (Or.inl ⟨by rfl, fun W _ => by kernel_rfl⟩) hHeld ?_
  try simp only [Act.put, List.getElem_toArray, List.getElem_cons_succ, List.getElem_cons_zero, List.setIfInBounds_toArray, List.set_cons_zero, List.set_cons_succ]
  refine wpAnyH_take (i := 5) (v := .pointer (some ⟨w.heap.size, 1 + r1, none⟩)) rfl (by kernel_rfl) (by kernel_rfl) (by kernel_rfl) (fun _ _ _ h => h) (Or.inl ⟨by rfl, fun W _ => by go_simp⟩) hHeld ?_
  try simp only [Act.put, List.getElem_toArray, List.getElem_cons_succ, List.getElem_cons_zero, List.setIfInBounds_toArray, List.set_cons_zero, List.set_cons_succ]
  refine wpAnyH_take (i := 6) (v := .int .u64 (un (h.x r1))) rfl (by kernel_rfl) (by kernel_rfl) (by kernel_rfl) (fun _ _ _ h => h) (Or.inl ⟨by rfl, fun W hS => by (have k : W.cell? ⟨w.heap.size, 1 + r1, none⟩ = some (.int .u64 (un (h.x r1))) := (hS.h (1 + r1) (by omega)).trans (congrArg some (hartCell_x h r1 hr1))); go_simp⟩) hHeld ?_
  try simp only [Act.put, List.getElem_toArray, List.getElem_cons_succ, List.getElem_cons_zero, List.setIfInBounds_toArray, List.set_cons_zero, List.set_cons_succ]
  refine wpAnyH_take (i := 7) (v := .int .u64 (un (h.x r2))) rfl (by kernel_rfl) (by kernel_rfl) (by kernel_rfl) (fun _ _ _ h => h) (Or.inl ⟨by rfl, fun W _ => by kernel_rfl⟩) hHeld ?_
  try simp only [Act.put, List.getElem_toArray, List.getElem_cons_succ, List.getElem_cons_zero, List.setIfInBounds_toArray, List.set_cons_zero, List.set_cons_succ]
  refine wpAnyH_ready (rs := [8]) (by kernel_rfl) (by simp) (AllReadyH.cons rfl (fun K hK2 => ?_) AllReadyH.nil)
  rw [if_pos (by rfl)]
  simp only [List.getElem_toArray, List.getElem_cons_succ, List.getElem_cons_zero]
  go_wp2_with (go_at_call 30; refine (hD.out _).mono ?_; rintro e wb ⟨rfl, hbb⟩)
  refine hK2.out _ _ (hHeld.keep hbb) (fun hHeld2 => ?_)
  clear hK2 K hHeld
  have hHeld := hHeld2
  clear hHeld2
  try simp only [Act.put, List.getElem_toArray, List.getElem_cons_succ, List.getElem_cons_zero, List.setIfInBounds_toArray, List.set_cons_zero, List.set_cons_succ]
  clear hbb
  refine wpAnyH_take (i := 9) (v := .tuple #[.int .u64 (un v), .int .i64 qe]) rfl (by kernel_rfl) (by kernel_rfl) (by kernel_rfl) (fun _ _ _ h => h) (Or.inl ⟨by rfl, fun W _ => by kernel_rfl⟩) hHeld ?_
  try simp only [Act.put, List.getElem_toArray, List.getElem_cons_succ, List.getElem_cons_zero, List.setIfInBounds_toArray, List.set_cons_zero, List.set_cons_succ]
  refine wpAnyH_take (i := 10) (v := .int .u64 (un v)) rfl (by kernel_rfl) (by kernel_rfl) (by kernel_rfl) (fun _ _ _ h => h) (Or.inl ⟨by rfl, fun W _ => by kernel_rfl⟩) hHeld ?_
  try simp only [Act.put, List.getElem_toArray, List.getElem_cons_succ, List.getElem_cons_zero, List.setIfInBounds_toArray, List.set_cons_zero, List.set_cons_succ]
  refine wpAnyH_take (i := 11) (v := .int .i64 qe) rfl (by kernel_rfl) (by kernel_rfl) (by kernel_rfl) (fun _ _ _ h => h) (Or.inl ⟨by rfl, fun W _ => by kernel_rfl⟩) hHeld ?_
  try simp only [Act.put, List.getElem_toArray, List.getElem_cons_succ, List.getElem_cons_zero, List.setIfInBounds_toArray, List.set_cons_zero, List.set_cons_succ]
  refine wpAnyH_take (i := 12) (v := .int .u64 (un v)) rfl (by kernel_rfl) (by kernel_rfl) (by kernel_rfl) (fun _ _ _ h => h) (Or.inl ⟨by rfl, fun W _ => by kernel_rfl⟩) hHeld ?_
  try simp only [Act.put, List.getElem_toArray, List.getElem_cons_succ, List.getElem_cons_zero, List.setIfInBounds_toArray, List.set_cons_zero, List.set_cons_succ]
  refine wpAnyH_take (i := 13) (v := .int .i64 qe) rfl (by kernel_rfl) (by kernel_rfl) (by kernel_rfl) (fun _ _ _ h => h) (Or.inl ⟨by rfl, fun W _ => by kernel_rfl⟩) hHeld ?_
  try simp only [Act.put, List.getElem_toArray, List.getElem_cons_succ, List.getElem_cons_zero, List.setIfInBounds_toArray, List.set_cons_zero, List.set_cons_succ]
  refine wpAnyH_done (by kernel_rfl) ?_ _
  have hE := hHeld
  clear hHeld hD
  skip
  obtain ⟨rh, c0, c1, c2, c3, c4, c5, c6, c7, c8⟩ := hE.facts
  have pc0 := hE.h 0 (by decide)
  rw [show hartCell h 0 = .int .u64 (un h.pc) from rfl] at pc0
  go_upto_region 28 with (first | (go_at_call 31; refine (hMem.out _).mono ?_; rintro e wk ⟨rfl, hbk⟩; have hE9 := hE.keep hbk; clear pc0; clear hbk hE rh c0 c1 c2 c3 c4 c5 c6 c7 c8; have hE := hE9; clear hE9; obtain ⟨rh, c0, c1, c2, c3, c4, c5, c6, c7, c8⟩ := hE.facts; have pc0 : wk.cell? ⟨w.heap.size, 0, none⟩ = some (.int .u64 (un h.pc)) := hE.h 0 (by decide)) | (go_at_call 30; refine (hD1.out _).mono ?_; rintro e wk ⟨rfl, hbk⟩; have hE9 := hE.keep hbk; clear pc0; clear hbk hE rh c0 c1 c2 c3 c4 c5 c6 c7 c8; have hE := hE9; clear hE9; obtain ⟨rh, c0, c1, c2, c3, c4, c5, c6, c7, c8⟩ := hE.facts; have pc0 : wk.cell? ⟨w.heap.size, 0, none⟩ = some (.int .u64 (un h.pc)) := hE.h 0 (by decide)))
  have z0 : wk.frozen? ⟨w.heap.size, 0, none⟩ = false := hE.hf 0 (by decide)
  go_upto_region 29 with (first | (refine wpList_load_mid rfl 25 _ rfl w.heap.size 0 rfl (hartL h) _ rh hu rfl (size_hart _) ?_) | (go_at_call 32; refine (hT.out _).mono ?_; rintro e wk ⟨rfl, hbk⟩; have hE9 := hE.keep hbk; clear pc0 z0; clear hbk hE rh c0 c1 c2 c3 c4 c5 c6 c7 c8; have hE := hE9; clear hE9; obtain ⟨rh, c0, c1, c2, c3, c4, c5, c6, c7, c8⟩ := hE.facts; have pc0 : wk.cell? ⟨w.heap.size, 0, none⟩ = some (.int .u64 (un h.pc)) := hE.h 0 (by decide); have z0 : wk.frozen? ⟨w.heap.size, 0, none⟩ = false := hE.hf 0 (by decide)))
  have hE9 := hE.put 0 (.int .u64 (un tn)) (hE.h.goes tn)
  clear hE pc0 z0 rh c0 c1 c2 c3 c4 c5 c6 c7 c8
  have hE := hE9
  clear hE9
  generalize World.setCell _ _ _ = u1 at hE ⊢
  obtain ⟨rh, c0, c1, c2, c3, c4, c5, c6, c7, c8⟩ := hE.facts
  go_upto_region 30 with (go_at_call 13; refine (hWr.out _).mono ?_; rintro e wk ⟨rfl, hbk⟩; have hE9 := hE.keep hbk; clear hbk hE rh c0 c1 c2 c3 c4 c5 c6 c7 c8; have hE := hE9; clear hE9; obtain ⟨rh, c0, c1, c2, c3, c4, c5, c6, c7, c8⟩ := hE.facts)
  by_cases hz : d = 0
  · have tz : decide (0 < (d : Int)) = false := by rw [decide_eq_false_iff_not]; omega
    have tz2 : decide (0 < d) = false := by rw [decide_eq_false_iff_not]; omega
    have hres : rgoneV h ⟨op, d, r1, r2, imm, aq, rl, pred, succ⟩ tn v = h.goes tn := if_pos (show (d : Int) = 0 by omega)
    replace hres := Lib.hid hres
    clear hz
    go_wp2_with (first | (refine wpList_load_mid rfl 25 _ rfl w.heap.size 0 rfl (hartL (h.goes tn)) _ rh hu rfl (size_hart _) ?_) | (refine wpList_store_mid rfl 25 _ _ rfl (w.heap.size + 2) 0 (hartL (h.goes tn)).toArray rfl rfl (there_hart hE.z _) (size_hartA _) (hartL_one _) ?_))
    have hr := World.rangeAt_setCells_same wk (w.heap.size + 2) 0 (hartL (h.goes tn)) (by rw [hartL_len]; exact hE.z)
    have hbl : Below w.heap.size w (World.setCells wk (w.heap.size + 2) 0 (hartL (h.goes tn))) := below_setCells (Nat.le_add_right _ _) (hartL (h.goes tn)) 0 wk hE.bl
    generalize World.setCells wk (w.heap.size + 2) 0 (hartL (h.goes tn)) = W5 at hr hbl ⊢
    have hlv := result_hart W5 (w.heap.size + 2) (h.goes tn) hr
    exact bodyPost_ret (v := .tuple #[.agg (hartL (h.goes tn)).toArray, .int .i64 0]) (by simp [results, Tryz.results15, asAddr, hlv]) rfl ⟨by rw [hres.out]; rfl, hbl⟩
  · have tz : decide (0 < (d : Int)) = true := by rw [decide_eq_true_iff]; omega
    have tz2 : decide (0 < d) = true := by rw [decide_eq_true_iff]; omega
    have hres : rgoneV h ⟨op, d, r1, r2, imm, aq, rl, pred, succ⟩ tn v = (h.goes tn).set d v := if_neg (show ¬ (d : Int) = 0 by omega)
    replace hres := Lib.hid hres
    clear hz
    have xd : wk.cell? ⟨w.heap.size, 1 + d, none⟩ = some (.int .u64 (un (h.x d))) := (hE.h (1 + d) (by omega)).trans (congrArg some (hartCell_x (h.goes tn) d hd))
    have zd : wk.frozen? ⟨w.heap.size, 1 + d, none⟩ = false := hE.hf (1 + d) (by omega)
    go_upto_region 32 with fail
    have hE9 := hE.put (1 + d) (.int .u64 (un v)) (hE.h.setX d hd v)
    clear hE xd zd rh c0 c1 c2 c3 c4 c5 c6 c7 c8
    have hE := hE9
    clear hE9
    generalize World.setCell _ _ _ = u2 at hE ⊢
    have rh := hE.h.range
    go_wp2_with (first | (refine wpList_load_mid rfl 25 _ rfl w.heap.size 0 rfl (hartL ((h.goes tn).set d v)) _ rh hu rfl (size_hart _) ?_) | (refine wpList_store_mid rfl 25 _ _ rfl (w.heap.size + 2) 0 (hartL ((h.goes tn).set d v)).toArray rfl rfl (there_hart hE.z _) (size_hartA _) (hartL_one _) ?_))
    have hr := World.rangeAt_setCells_same u2 (w.heap.size + 2) 0 (hartL ((h.goes tn).set d v)) (by rw [hartL_len]; exact hE.z)
    have hbl : Below w.heap.size w (World.setCells u2 (w.heap.size + 2) 0 (hartL ((h.goes tn).set d v))) := below_setCells (Nat.le_add_right _ _) (hartL ((h.goes tn).set d v)) 0 u2 hE.bl
    generalize World.setCells u2 (w.heap.size + 2) 0 (hartL ((h.goes tn).set d v)) = W5 at hr hbl ⊢
    have hlv := result_hart W5 (w.heap.size + 2) ((h.goes tn).set d v) hr
    exact bodyPost_ret (v := .tuple #[.agg (hartL ((h.goes tn).set d v)).toArray, .int .i64 0]) (by simp [results, Tryz.results15, asAddr, hlv]) rfl ⟨by rw [hres.out]; rfl, hbl⟩
end
end Go.Proofs.YtbglinhglnbfmaaGreatDoor
