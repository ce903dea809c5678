/- Registers by which a branch is taken, or not. Conditions: as each theorem says. -/
import Derived.Test.YtcgflnkgekkidaaGreatDoorAsmSU
import Derived.BigQuiet
import Derived.Deep.DeepCutAuto
set_option linter.unusedSimpArgs false
set_option linter.unusedVariables false
namespace Go.Proofs.YtcgflnkgekkidaaGreatDoor
open Go.RowKit
def pA (k : Nat) : BitVec 64 := if k = 2 then 1#64 else if k = 3 then 9223372036854775808#64 else 0#64
def pB (k : Nat) : BitVec 64 := if k = 1 then 1#64 else if k = 4 then 9223372036854775808#64 else 0#64
def pairsL : List Value := [.int .u64 0, .int .u64 0, .int .u64 0, .int .u64 1, .int .u64 1, .int .u64 0, .int .u64 9223372036854775808, .int .u64 0, .int .u64 0, .int .u64 9223372036854775808]
theorem pairs_at (k : Nat) (hk : k < 5) : pairsL[k * 2]? = some (.int .u64 (un (pA k))) ∧ pairsL[k * 2 + 1]? = some (.int .u64 (un (pB k))) := by
  have : k = 0 ∨ k = 1 ∨ k = 2 ∨ k = 3 ∨ k = 4 := by omega
  rcases this with rfl | rfl | rfl | rfl | rfl <;> exact ⟨by kernel_rfl, by kernel_rfl⟩
theorem range_pair {W : World} {b : Nat} (h : W.rangeAt b 0 pairsL) (k : Nat) (hk : k < 5) : W.rangeAt b (k * 2) [.int .u64 (un (pA k)), .int .u64 (un (pB k))] := fun j v hv => by
  obtain ⟨h1, h2⟩ := pairs_at k hk
  match j, hv with
  | 0, hv => have := h (k * 2) _ h1; rw [Nat.zero_add] at this; rw [Nat.add_zero, this]; exact hv
  | 1, hv => have := h (k * 2 + 1) _ h2; rw [Nat.zero_add] at this; rw [this]; exact hv
  | j + 2, hv => simp at hv
/-- What set's frame holds: the hart's box, the instruction's, the pairs. -/
structure SB (w : World) (H : Nat) (h : HartV) (i : InsnV) (W : World) : Prop where
  hc : HC H h W
  hz : ∀ j, j < 35 → W.frozen? ⟨H, j, none⟩ = false
  ic : ∀ j, j < 9 → W.cell? ⟨w.heap.size, j, none⟩ = some (insnCell i j)
  pr : W.rangeAt (w.heap.size + 1) 0 pairsL
  bl : Below H w W
  hl : H < w.heap.size
  sz : w.heap.size + 2 ≤ W.heap.size
theorem SB.keep {w W W' : World} {H : Nat} {h : HartV} {i : InsnV} (hB : SB w H h i W) (hb : Below W.heap.size W W') : SB w H h i W' := by
  have hs := hB.sz
  have hl := hB.hl
  exact ⟨fun j hj => (hb.cell (p := ⟨H, j, none⟩) (by show H < W.heap.size; omega)).trans (hB.hc j hj), fun j hj => (hb.frozen (p := ⟨H, j, none⟩) (by show H < W.heap.size; omega)).trans (hB.hz j hj),
    fun j hj => (hb.cell (p := ⟨w.heap.size, j, none⟩) (by show w.heap.size < W.heap.size; omega)).trans (hB.ic j hj), fun j v hv => (hb.cell (p := ⟨w.heap.size + 1, 0 + j, none⟩) (by show w.heap.size + 1 < W.heap.size; omega)).trans (hB.pr j v hv),
    hB.bl.trans (hb.mono (by omega)), hl, Nat.le_trans hs hb.size⟩
theorem SB.drew {w W : World} {H : Nat} {h : HartV} {i : InsnV} (hB : SB w H h i W) : SB w H h i W.drew := hB.keep (Below.refl _ _).drew
/-- A register is written. -/
theorem SB.setX {w W : World} {H : Nat} {h : HartV} {i : InsnV} (hB : SB w H h i W) (r : Nat) (hr : r < 32) (v : BitVec 64) : SB w H (h.set r v) i (W.setCell ⟨H, 1 + r, none⟩ (.int .u64 (un v))) := by
  have hl := hB.hl
  refine ⟨hB.hc.setX r hr v, fun j hj => by rw [World.frozen?_setCell]; exact hB.hz j hj, fun j hj => ?_, fun j u hu => ?_, hB.bl.setCell (p := ⟨H, 1 + r, none⟩) (Nat.le_refl _) _, hl, Nat.le_trans hB.sz (setCell_size _ _ _)⟩
  · rw [World.cell?_setCell_far _ _ _ _ (show H ≠ w.heap.size by omega)]; exact hB.ic j hj
  · rw [World.cell?_setCell_far _ _ _ _ (show H ≠ w.heap.size + 1 by omega)]; exact hB.pr j u hu
theorem SB.facts {w W : World} {H : Nat} {h : HartV} {op rd r1 r2 imm : Int} {aq rl : Bool} {pred succ : Int} (hB : SB w H h ⟨op, rd, r1, r2, imm, aq, rl, pred, succ⟩ W) :
    W.cell? ⟨w.heap.size, 0, none⟩ = some (.int .i64 op) ∧ W.cell? ⟨w.heap.size, 2, none⟩ = some (.int .i64 r1) ∧ W.cell? ⟨w.heap.size, 3, none⟩ = some (.int .i64 r2) := ⟨hB.ic 0 (by decide), hB.ic 2 (by decide), hB.ic 3 (by decide)⟩
theorem SB.start (H : Nat) (h : HartV) (i : InsnV) (w : World) (t1 t2 : TypeId) (hH : H < w.heap.size) (hc : HC H h w) (hz : ∀ j, j < 35 → w.frozen? ⟨H, j, none⟩ = false) : SB w H h i ((w.alloc (.cells i.cells t1)).alloc (.cells pairsL.toArray t2)) := by
  have hb : Below w.heap.size w ((w.alloc (.cells i.cells t1)).alloc (.cells pairsL.toArray t2)) := ((Below.refl _ _).alloc (Nat.le_refl _) _).alloc (by simp) _
  refine ⟨fun j hj => (hb.cell (p := ⟨H, j, none⟩) hH).trans (hc j hj), fun j hj => (hb.frozen (p := ⟨H, j, none⟩) hH).trans (hz j hj), fun j hj => ?_, fun j v hv => ?_, hb.mono (Nat.le_of_lt hH), hH, by simp⟩
  · have s1 : (w.alloc (.cells i.cells t1)).heap.size = w.heap.size + 1 := by simp
    rw [((Below.refl _ _).alloc (Nat.le_refl _) _ : Below _ (w.alloc (.cells i.cells t1)) _).cell (p := ⟨w.heap.size, j, none⟩) (by rw [s1]; show w.heap.size < _; omega), World.cell?_alloc_new]
    rcases (show j = 0 ∨ j = 1 ∨ j = 2 ∨ j = 3 ∨ j = 4 ∨ j = 5 ∨ j = 6 ∨ j = 7 ∨ j = 8 by omega) with rfl | rfl | rfl | rfl | rfl | rfl | rfl | rfl | rfl <;> rfl
  · rw [show (⟨w.heap.size + 1, 0 + j, none⟩ : Addr) = ⟨(w.alloc (.cells i.cells t1)).heap.size, j, none⟩ by simp, World.cell?_alloc_new]
    simpa using hv
attribute [local go_sem] wrap_u64_bv bv_un bv_sn bv_add bv_mul bv_neg bv_sub mul_bvpow shr_min shl_min sshr_min bv_lit bv_0 bv_1 un_shr sn_shr wrap_i64_un bits_u64_and bits_u64_or bits_u64_xor bits_u64_andNot bv_max u64_unsigned
section
attribute [local irreducible] un sn hartL
set_option maxRecDepth 100000 in
set_option maxHeartbeats 4000000 in
/-- fencepostlaw15.set. -/
theorem Set_any (H : Nat) (pc : BitVec 64) (op rd : Int) (r1 r2 : Nat) (imm : Int) (aq rl : Bool) (pred succ : Int) (tk : Bool) (w : World) (hr1 : r1 < 32) (hr2 : r2 < 32) (ho : 5 ≤ op ∧ op ≤ 10) (hH : H < w.heap.size) (hc : HC H (newV pc) w) (hz : ∀ j, j < 35 → w.frozen? ⟨H, j, none⟩ = false) :
    Calls Tryz.prog 51 #[.pointer (some ⟨H, 0, none⟩), .agg #[.int .i64 op, .int .i64 rd, .int .i64 r1, .int .i64 r2, .int .i64 imm, .bool aq, .bool rl, .int .i64 pred, .int .i64 succ], .bool tk] w fun e w' => ∃ (b : Bool) (h' : HartV), e = .returned (.bool b) ∧ HC H h' w' ∧ (∀ j, j < 35 → w'.frozen? ⟨H, j, none⟩ = false) ∧ h'.pc = pc ∧ h'.fin = 0 ∧ h'.code = 0#64 ∧ h'.x 0 = 0#64 ∧ (b = true → takesF op (h'.x r1) (h'.x r2) = tk) ∧ Below H w w' := by
  have hu := Tryz.underlying122
  have hsz : (Tryz.prog.info? 122).map (·.size) = some 2 := by kernel_rfl
  have hT := Lib.hid (fun (a b : BitVec 64) (W : World) => (show takesE op = 0 from if_pos ho) ▸ RTakes_any op a b W)
  have hund : ∀ b : Bool, (some undef = some (Value.bool b)) = False := fun b => by simp [undef]
  have hpl : Hid (pairsL = [.int .u64 0, .int .u64 0, .int .u64 0, .int .u64 1, .int .u64 1, .int .u64 0, .int .u64 9223372036854775808, .int .u64 0, .int .u64 0, .int .u64 9223372036854775808]) := Lib.hid rfl
  have hB0 := SB.start H (newV pc) ⟨op, rd, r1, r2, imm, aq, rl, pred, succ⟩ w 26 122 hH hc hz
  go_enter Tryz.func51, Tryz.ntmps51
  go_upto_region 2 with fail
  change SB w H (newV pc) ⟨op, rd, r1, r2, imm, aq, rl, pred, succ⟩ ((w.alloc (.cells #[.int .i64 op, .int .i64 rd, .int .i64 r1, .int .i64 r2, .int .i64 imm, .bool aq, .bool rl, .int .i64 pred, .int .i64 succ] 26)).alloc (.cells #[.int .u64 0, .int .u64 0, .int .u64 0, .int .u64 1, .int .u64 1, .int .u64 0, .int .u64 9223372036854775808, .int .u64 0, .int .u64 0, .int .u64 9223372036854775808] 122)) at hB0
  generalize World.alloc _ _ = w1 at hB0 ⊢
  go_loopw [6, 8, 9, 10, 11, 12, 20] (fun s6 s8 s9 s10 s11 s12 s20 wr => ∃ k : Nat, k ≤ 5 ∧ s20 = .int .i64 k ∧ SB w H (newV pc) ⟨op, rd, r1, r2, imm, aq, rl, pred, succ⟩ wr) (fun _ _ _ _ _ _ s20 _ => 5 - (intOf s20).toNat)
  case atStart => exact ⟨0, by decide, rfl, hB0⟩
  case round =>
    obtain ⟨k, hk, rfl, hB⟩ := hrel
    clear hB0
    by_cases hlt : k < 5
    · have hR := Lib.hid (range_pair hB.pr k hlt)
      have ha0 := Lib.hid (rfl : pA k = pA k)
      generalize pA k = a at hR
      generalize pB k = b at hR
      have m1 : (0 : Int) ≤ (k : Int) := Int.natCast_nonneg k
      have m2 : (k : Int) < 5 := by omega
      obtain ⟨c0, c2, c3⟩ := hB.facts
      go_upto_region 4 with (refine wpList_load_mid rfl 122 _ rfl (w.heap.size + 1) (k * 2) (by first | rfl | simp) [.int .u64 (un a), .int .u64 (un b)] _ hR.out hu rfl hsz ?_)
      have hB1 := hB.keep (W' := wr.alloc (.cells #[.int .u64 (un a), .int .u64 (un b)] 122)) ((Below.refl _ _).alloc (Nat.le_refl _) _)
      have ca : (wr.alloc (.cells #[.int .u64 (un a), .int .u64 (un b)] 122)).cell? ⟨wr.heap.size, 0, none⟩ = some (.int .u64 (un a)) := by rw [World.cell?_alloc_new]; rfl
      have cb : (wr.alloc (.cells #[.int .u64 (un a), .int .u64 (un b)] 122)).cell? ⟨wr.heap.size, 1, none⟩ = some (.int .u64 (un b)) := by rw [World.cell?_alloc_new]; rfl
      clear c0 c2 c3 hB hR
      generalize World.alloc _ _ = w2 at hB1 ca cb ⊢
      generalize wr.heap.size = X at ca cb ⊢
      obtain ⟨c0, c2, c3⟩ := hB1.facts
      have hx : ((r1 : Int) = 0 ∧ (r2 : Int) = 0) ∨ ((r1 : Int) = 0 ∧ (r2 : Int) ≠ 0) ∨ ((r1 : Int) ≠ 0 ∧ (r2 : Int) = 0) ∨ ((r1 : Int) ≠ 0 ∧ (r2 : Int) ≠ 0 ∧ (r1 : Int) = (r2 : Int)) ∨ ((r1 : Int) ≠ 0 ∧ (r2 : Int) ≠ 0 ∧ (r1 : Int) ≠ (r2 : Int)) := by omega
      have l1 : 0 ≤ (r1 : Int) ∧ (r1 : Int) < 32 := by omega
      have l2 : 0 ≤ (r2 : Int) ∧ (r2 : Int) < 32 := by omega
      go_quiet (fail)
      clear ca cb c0 c2 c3
      replace hB1 := hB1.keep (bl_drewN (Below.refl _ _) nq)
      generalize w2.drewN nq = w3 at hB1 ⊢
      obtain ⟨c0, c2, c3⟩ := hB1.facts
      rcases hx with hx | hx | hx | hx | hx
      · obtain ⟨hA, hB⟩ := hx
        have e1 : ((r1 : Int) == 0) = true := by rw [beq_iff_eq]; omega
        have e2 : ((r2 : Int) == 0) = true := by rw [beq_iff_eq]; omega
        have e3 : ((r1 : Int) == (r2 : Int)) = true := by rw [beq_iff_eq]; omega
        replace hA := Lib.hid hA
        replace hB := Lib.hid hB
        have hTk : Hid (∀ W, Calls Tryz.prog 85 #[.int .i64 op, .int .u64 0, .int .u64 0] W fun e w' => e = .returned (.tuple #[.bool (takesF op (0#64) (0#64)), .int .i64 0]) ∧ W = w') := Lib.hid fun W => by
          have := hT.out (0#64) (0#64) W
          first | rwa [un_0] at this | exact this
        obtain ⟨tt, htt⟩ : ∃ tt, tt = takesF op (0#64) (0#64) := ⟨_, rfl⟩
        rw [← htt] at hTk
        by_cases hte : tt = tk
        · have e4 : (tt == tk) = true := by rw [hte]; exact beq_self_eq_true tk
          replace hte := Lib.hid hte
          replace htt := Lib.hid htt
          go_upto_region 13 with (go_at_call 85; refine (hTk.out _).mono ?_; rintro e w4 ⟨rfl, rfl⟩)
          clear c0 c2 c3
          refine wp_region_held_drew (S := fun W => ∃ g, SB w H g ⟨op, rd, r1, r2, imm, aq, rl, pred, succ⟩ W) (by kernel_rfl) ⟨_, hB1.drew⟩ (fun hHeld => ?_)
          refine wpAnyH_take (i := 0) (v := .pointer (some ⟨H, 0, none⟩)) rfl (by kernel_rfl) (by kernel_rfl) (by kernel_rfl) (fun _ _ _ h => h) (Or.inl ⟨by rfl, fun W _ => by kernel_rfl⟩) hHeld ?_
          try simp only [Act.put, List.getElem_toArray, List.getElem_cons_zero, List.setIfInBounds_toArray, List.set_cons_zero, List.set_cons_succ]
          refine wpAnyH_take (i := 1) (v := .pointer (some ⟨w.heap.size, 2, none⟩)) rfl (by kernel_rfl) (by kernel_rfl) (by kernel_rfl) (fun _ _ _ h => h) (Or.inl ⟨by rfl, fun W _ => by kernel_rfl⟩) hHeld ?_
          try simp only [Act.put, List.getElem_toArray, List.getElem_cons_succ, List.getElem_cons_zero, List.setIfInBounds_toArray, List.set_cons_zero, List.set_cons_succ]
          refine wpAnyH_take (i := 2) (v := .int .i64 r1) rfl (by kernel_rfl) (by kernel_rfl) (by kernel_rfl) (fun _ _ _ h => h) (Or.inl ⟨by rfl, fun W hS => by (have k : W.cell? ⟨w.heap.size, 2, none⟩ = some (.int .i64 r1) := hS.choose_spec.facts.2.1); go_simp⟩) hHeld ?_
          try simp only [Act.put, List.getElem_toArray, List.getElem_cons_succ, List.getElem_cons_zero, List.setIfInBounds_toArray, List.set_cons_zero, List.set_cons_succ]
          refine wpAnyH_take (i := 3) (v := .pointer (some ⟨H, 0, none⟩)) rfl (by kernel_rfl) (by kernel_rfl) (by kernel_rfl) (fun _ _ _ h => h) (Or.inl ⟨by rfl, fun W _ => by kernel_rfl⟩) hHeld ?_
          try simp only [Act.put, List.getElem_toArray, List.getElem_cons_succ, List.getElem_cons_zero, List.setIfInBounds_toArray, List.set_cons_zero, List.set_cons_succ]
          refine wpAnyH_take (i := 4) (v := .pointer (some ⟨w.heap.size, 3, none⟩)) rfl (by kernel_rfl) (by kernel_rfl) (by kernel_rfl) (fun _ _ _ h => h) (Or.inl ⟨by rfl, fun W _ => by kernel_rfl⟩) hHeld ?_
          try simp only [Act.put, List.getElem_toArray, List.getElem_cons_succ, List.getElem_cons_zero, List.setIfInBounds_toArray, List.set_cons_zero, List.set_cons_succ]
          refine wpAnyH_take (i := 5) (v := .int .i64 r2) rfl (by kernel_rfl) (by kernel_rfl) (by kernel_rfl) (fun _ _ _ h => h) (Or.inl ⟨by rfl, fun W hS => by (have k : W.cell? ⟨w.heap.size, 3, none⟩ = some (.int .i64 r2) := hS.choose_spec.facts.2.2); go_simp⟩) hHeld ?_
          try simp only [Act.put, List.getElem_toArray, List.getElem_cons_succ, List.getElem_cons_zero, List.setIfInBounds_toArray, List.set_cons_zero, List.set_cons_succ]
          refine wpAnyH_take (i := 6) (v := .int .u64 0) rfl (by kernel_rfl) (by kernel_rfl) (by kernel_rfl) (fun _ _ _ h => h) (Or.inl ⟨by rfl, fun W _ => by kernel_rfl⟩) hHeld ?_
          try simp only [Act.put, List.getElem_toArray, List.getElem_cons_succ, List.getElem_cons_zero, List.setIfInBounds_toArray, List.set_cons_zero, List.set_cons_succ]
          refine wpAnyH_take (i := 7) (v := .int .u64 0) rfl (by kernel_rfl) (by kernel_rfl) (by kernel_rfl) (fun _ _ _ h => h) (Or.inl ⟨by rfl, fun W _ => by kernel_rfl⟩) hHeld ?_
          try simp only [Act.put, List.getElem_toArray, List.getElem_cons_succ, List.getElem_cons_zero, List.setIfInBounds_toArray, List.set_cons_zero, List.set_cons_succ]
          refine wpAnyH_take (i := 8) (v := .pointer (some ⟨H, 0, none⟩)) rfl (by kernel_rfl) (by kernel_rfl) (by kernel_rfl) (fun _ _ _ h => h) (Or.inl ⟨by rfl, fun W _ => by kernel_rfl⟩) hHeld ?_
          try simp only [Act.put, List.getElem_toArray, List.getElem_cons_succ, List.getElem_cons_zero, List.setIfInBounds_toArray, List.set_cons_zero, List.set_cons_succ]
          refine wpAnyH_take (i := 9) (v := .pointer (some ⟨H, 1, none⟩)) rfl (by kernel_rfl) (by kernel_rfl) (by kernel_rfl) (fun _ _ _ h => h) (Or.inl ⟨by rfl, fun W _ => by kernel_rfl⟩) hHeld ?_
          try simp only [Act.put, List.getElem_toArray, List.getElem_cons_succ, List.getElem_cons_zero, List.setIfInBounds_toArray, List.set_cons_zero, List.set_cons_succ]
          refine wpAnyH_take (i := 10) (v := .pointer (some ⟨H, 1 + r1, none⟩)) rfl (by kernel_rfl) (by kernel_rfl) (by kernel_rfl) (fun _ _ _ h => h) (Or.inl ⟨by rfl, fun W _ => by go_simp⟩) hHeld ?_
          try simp only [Act.put, List.getElem_toArray, List.getElem_cons_succ, List.getElem_cons_zero, List.setIfInBounds_toArray, List.set_cons_zero, List.set_cons_succ]
          refine wpAnyH_take (i := 12) (v := .pointer (some ⟨H, 0, none⟩)) rfl (by kernel_rfl) (by kernel_rfl) (by kernel_rfl) (fun _ _ _ h => h) (Or.inl ⟨by rfl, fun W _ => by kernel_rfl⟩) hHeld ?_
          try simp only [Act.put, List.getElem_toArray, List.getElem_cons_succ, List.getElem_cons_zero, List.setIfInBounds_toArray, List.set_cons_zero, List.set_cons_succ]
          refine wpAnyH_take (i := 13) (v := .pointer (some ⟨H, 1, none⟩)) rfl (by kernel_rfl) (by kernel_rfl) (by kernel_rfl) (fun _ _ _ h => h) (Or.inl ⟨by rfl, fun W _ => by kernel_rfl⟩) hHeld ?_
          try simp only [Act.put, List.getElem_toArray, List.getElem_cons_succ, List.getElem_cons_zero, List.setIfInBounds_toArray, List.set_cons_zero, List.set_cons_succ]
          have hS5 := hB1.drew
          generalize World.drew _ = w5 at hHeld hS5 ⊢
          have x5 : w5.cell? ⟨H, 1 + r1, none⟩ = some (.int .u64 0) := by have := hS5.hc (1 + r1) (by omega); rwa [hartCell_x _ r1 hr1, show (newV pc).x r1 = 0#64 from rfl, un_0] at this
          have z5 : w5.frozen? ⟨H, 1 + r1, none⟩ = false := hS5.hz (1 + r1) (by omega)
          refine wpAnyH_ready (rs := [11]) (by kernel_rfl) (by simp) (AllReadyH.cons rfl (fun K hK2 => ?_) AllReadyH.nil)
          rw [if_pos (by rfl)]
          simp only [List.getElem_toArray, List.getElem_cons_succ, List.getElem_cons_zero]
          go_simp
          have hS6 := hS5.setX r1 hr1 (0#64)
          rw [un_0] at hS6
          generalize World.setCell _ _ _ = w6 at hS6 ⊢
          refine hK2.out _ _ (⟨_, hS6⟩) (fun hHeld2 => ?_)
          clear hK2 K hHeld
          have hHeld := hHeld2
          clear hHeld2
          try simp only [Act.put, List.getElem_toArray, List.getElem_cons_succ, List.getElem_cons_zero, List.setIfInBounds_toArray, List.set_cons_zero, List.set_cons_succ]
          clear x5 z5 hS5
          refine wpAnyH_take (i := 14) (v := .pointer (some ⟨H, 1 + r2, none⟩)) rfl (by kernel_rfl) (by kernel_rfl) (by kernel_rfl) (fun _ _ _ h => h) (Or.inl ⟨by rfl, fun W _ => by go_simp⟩) hHeld ?_
          try simp only [Act.put, List.getElem_toArray, List.getElem_cons_succ, List.getElem_cons_zero, List.setIfInBounds_toArray, List.set_cons_zero, List.set_cons_succ]
          have x6 : w6.cell? ⟨H, 1 + r2, none⟩ = some (.int .u64 (un (((newV pc).set r1 (0#64)).x r2))) := by have := hS6.hc (1 + r2) (by omega); rwa [hartCell_x _ r2 hr2] at this
          have z6 : w6.frozen? ⟨H, 1 + r2, none⟩ = false := hS6.hz (1 + r2) (by omega)
          refine wpAnyH_ready (rs := [15]) (by kernel_rfl) (by simp) (AllReadyH.cons rfl (fun K hK2 => ?_) AllReadyH.nil)
          rw [if_pos (by rfl)]
          simp only [List.getElem_toArray, List.getElem_cons_succ, List.getElem_cons_zero]
          go_simp
          have hS7 := hS6.setX r2 hr2 (0#64)
          rw [un_0] at hS7
          generalize World.setCell _ _ _ = w7 at hS7 ⊢
          refine hK2.out _ _ (⟨_, hS7⟩) (fun hHeld2 => ?_)
          clear hK2 K hHeld
          have hHeld := hHeld2
          clear hHeld2
          try simp only [Act.put, List.getElem_toArray, List.getElem_cons_succ, List.getElem_cons_zero, List.setIfInBounds_toArray, List.set_cons_zero, List.set_cons_succ]
          clear x6 z6 hS6
          refine wpAnyH_done (by kernel_rfl) ?_ _
          go_wp2_with fail
          go_ret
          refine ⟨true, _, rfl, hS7.hc, hS7.hz, rfl, rfl, rfl, ?_, fun _ => ?_, hS7.bl⟩
          · have hA := hA.out
            have hB := hB.out
            by_cases i2 : (0 : Nat) = r2
            · subst i2
              refine (show (((newV pc).set r1 (0#64)).set 0 (0#64)).x 0 = 0#64 from by simp [HartV.set]).trans ?_
              first | rfl | (exfalso; omega)
            · refine (if_neg i2).trans ?_
              by_cases i1 : (0 : Nat) = r1
              · subst i1
                refine (show ((newV pc).set 0 (0#64)).x 0 = 0#64 from by simp [HartV.set]).trans ?_
                first | rfl | (exfalso; omega)
              · exact if_neg i1
          · rw [show (((newV pc).set r1 (0#64)).set r2 (0#64)).x r2 = 0#64 from if_pos rfl, show (((newV pc).set r1 (0#64)).set r2 (0#64)).x r1 = 0#64 from ?_]
            · rw [← htt.out]; exact hte.out
            · by_cases i3 : r1 = r2
              · refine (if_pos i3).trans ?_
                have hA := hA.out
                have hB := hB.out
                first | rfl | (exfalso; omega)
              · exact (if_neg i3).trans (if_pos rfl)
        · have e4 : (tt == tk) = false := by rw [beq_eq_false_iff_ne]; exact hte
          replace htt := Lib.hid htt
          replace hte := Lib.hid hte
          go_wp2_with (go_at_call 85; refine (hTk.out _).mono ?_; rintro e w4 ⟨rfl, rfl⟩)
          go_roundw
          case rel => exact ⟨k + 1, by omega, by go_num, hB1⟩
          case measure => simp [intOf]; omega
      · obtain ⟨hA, hB⟩ := hx
        have e1 : ((r1 : Int) == 0) = true := by rw [beq_iff_eq]; omega
        have e2 : ((r2 : Int) == 0) = false := by rw [beq_eq_false_iff_ne, ne_eq]; omega
        have e3 : ((r1 : Int) == (r2 : Int)) = false := by rw [beq_eq_false_iff_ne, ne_eq]; omega
        replace hA := Lib.hid hA
        replace hB := Lib.hid hB
        have hTk : Hid (∀ W, Calls Tryz.prog 85 #[.int .i64 op, .int .u64 0, .int .u64 (un b)] W fun e w' => e = .returned (.tuple #[.bool (takesF op (0#64) (b)), .int .i64 0]) ∧ W = w') := Lib.hid fun W => by
          have := hT.out (0#64) (b) W
          first | rwa [un_0] at this | exact this
        obtain ⟨tt, htt⟩ : ∃ tt, tt = takesF op (0#64) (b) := ⟨_, rfl⟩
        rw [← htt] at hTk
        by_cases hte : tt = tk
        · have e4 : (tt == tk) = true := by rw [hte]; exact beq_self_eq_true tk
          replace hte := Lib.hid hte
          replace htt := Lib.hid htt
          go_upto_region 13 with (go_at_call 85; refine (hTk.out _).mono ?_; rintro e w4 ⟨rfl, rfl⟩)
          clear c0 c2 c3
          refine wp_region_held_drew (S := fun W => ∃ g, SB w H g ⟨op, rd, r1, r2, imm, aq, rl, pred, succ⟩ W) (by kernel_rfl) ⟨_, hB1.drew⟩ (fun hHeld => ?_)
          refine wpAnyH_take (i := 0) (v := .pointer (some ⟨H, 0, none⟩)) rfl (by kernel_rfl) (by kernel_rfl) (by kernel_rfl) (fun _ _ _ h => h) (Or.inl ⟨by rfl, fun W _ => by kernel_rfl⟩) hHeld ?_
          try simp only [Act.put, List.getElem_toArray, List.getElem_cons_zero, List.setIfInBounds_toArray, List.set_cons_zero, List.set_cons_succ]
          refine wpAnyH_take (i := 1) (v := .pointer (some ⟨w.heap.size, 2, none⟩)) rfl (by kernel_rfl) (by kernel_rfl) (by kernel_rfl) (fun _ _ _ h => h) (Or.inl ⟨by rfl, fun W _ => by kernel_rfl⟩) hHeld ?_
          try simp only [Act.put, List.getElem_toArray, List.getElem_cons_succ, List.getElem_cons_zero, List.setIfInBounds_toArray, List.set_cons_zero, List.set_cons_succ]
          refine wpAnyH_take (i := 2) (v := .int .i64 r1) rfl (by kernel_rfl) (by kernel_rfl) (by kernel_rfl) (fun _ _ _ h => h) (Or.inl ⟨by rfl, fun W hS => by (have k : W.cell? ⟨w.heap.size, 2, none⟩ = some (.int .i64 r1) := hS.choose_spec.facts.2.1); go_simp⟩) hHeld ?_
          try simp only [Act.put, List.getElem_toArray, List.getElem_cons_succ, List.getElem_cons_zero, List.setIfInBounds_toArray, List.set_cons_zero, List.set_cons_succ]
          refine wpAnyH_take (i := 3) (v := .pointer (some ⟨H, 0, none⟩)) rfl (by kernel_rfl) (by kernel_rfl) (by kernel_rfl) (fun _ _ _ h => h) (Or.inl ⟨by rfl, fun W _ => by kernel_rfl⟩) hHeld ?_
          try simp only [Act.put, List.getElem_toArray, List.getElem_cons_succ, List.getElem_cons_zero, List.setIfInBounds_toArray, List.set_cons_zero, List.set_cons_succ]
          refine wpAnyH_take (i := 4) (v := .pointer (some ⟨w.heap.size, 3, none⟩)) rfl (by kernel_rfl) (by kernel_rfl) (by kernel_rfl) (fun _ _ _ h => h) (Or.inl ⟨by rfl, fun W _ => by kernel_rfl⟩) hHeld ?_
          try simp only [Act.put, List.getElem_toArray, List.getElem_cons_succ, List.getElem_cons_zero, List.setIfInBounds_toArray, List.set_cons_zero, List.set_cons_succ]
          refine wpAnyH_take (i := 5) (v := .int .i64 r2) rfl (by kernel_rfl) (by kernel_rfl) (by kernel_rfl) (fun _ _ _ h => h) (Or.inl ⟨by rfl, fun W hS => by (have k : W.cell? ⟨w.heap.size, 3, none⟩ = some (.int .i64 r2) := hS.choose_spec.facts.2.2); go_simp⟩) hHeld ?_
          try simp only [Act.put, List.getElem_toArray, List.getElem_cons_succ, List.getElem_cons_zero, List.setIfInBounds_toArray, List.set_cons_zero, List.set_cons_succ]
          refine wpAnyH_take (i := 6) (v := .int .u64 0) rfl (by kernel_rfl) (by kernel_rfl) (by kernel_rfl) (fun _ _ _ h => h) (Or.inl ⟨by rfl, fun W _ => by kernel_rfl⟩) hHeld ?_
          try simp only [Act.put, List.getElem_toArray, List.getElem_cons_succ, List.getElem_cons_zero, List.setIfInBounds_toArray, List.set_cons_zero, List.set_cons_succ]
          refine wpAnyH_take (i := 7) (v := .int .u64 (un b)) rfl (by kernel_rfl) (by kernel_rfl) (by kernel_rfl) (fun _ _ _ h => h) (Or.inl ⟨by rfl, fun W _ => by kernel_rfl⟩) hHeld ?_
          try simp only [Act.put, List.getElem_toArray, List.getElem_cons_succ, List.getElem_cons_zero, List.setIfInBounds_toArray, List.set_cons_zero, List.set_cons_succ]
          refine wpAnyH_take (i := 8) (v := .pointer (some ⟨H, 0, none⟩)) rfl (by kernel_rfl) (by kernel_rfl) (by kernel_rfl) (fun _ _ _ h => h) (Or.inl ⟨by rfl, fun W _ => by kernel_rfl⟩) hHeld ?_
          try simp only [Act.put, List.getElem_toArray, List.getElem_cons_succ, List.getElem_cons_zero, List.setIfInBounds_toArray, List.set_cons_zero, List.set_cons_succ]
          refine wpAnyH_take (i := 9) (v := .pointer (some ⟨H, 1, none⟩)) rfl (by kernel_rfl) (by kernel_rfl) (by kernel_rfl) (fun _ _ _ h => h) (Or.inl ⟨by rfl, fun W _ => by kernel_rfl⟩) hHeld ?_
          try simp only [Act.put, List.getElem_toArray, List.getElem_cons_succ, List.getElem_cons_zero, List.setIfInBounds_toArray, List.set_cons_zero, List.set_cons_succ]
          refine wpAnyH_take (i := 10) (v := .pointer (some ⟨H, 1 + r1, none⟩)) rfl (by kernel_rfl) (by kernel_rfl) (by kernel_rfl) (fun _ _ _ h => h) (Or.inl ⟨by rfl, fun W _ => by go_simp⟩) hHeld ?_
          try simp only [Act.put, List.getElem_toArray, List.getElem_cons_succ, List.getElem_cons_zero, List.setIfInBounds_toArray, List.set_cons_zero, List.set_cons_succ]
          refine wpAnyH_take (i := 12) (v := .pointer (some ⟨H, 0, none⟩)) rfl (by kernel_rfl) (by kernel_rfl) (by kernel_rfl) (fun _ _ _ h => h) (Or.inl ⟨by rfl, fun W _ => by kernel_rfl⟩) hHeld ?_
          try simp only [Act.put, List.getElem_toArray, List.getElem_cons_succ, List.getElem_cons_zero, List.setIfInBounds_toArray, List.set_cons_zero, List.set_cons_succ]
          refine wpAnyH_take (i := 13) (v := .pointer (some ⟨H, 1, none⟩)) rfl (by kernel_rfl) (by kernel_rfl) (by kernel_rfl) (fun _ _ _ h => h) (Or.inl ⟨by rfl, fun W _ => by kernel_rfl⟩) hHeld ?_
          try simp only [Act.put, List.getElem_toArray, List.getElem_cons_succ, List.getElem_cons_zero, List.setIfInBounds_toArray, List.set_cons_zero, List.set_cons_succ]
          have hS5 := hB1.drew
          generalize World.drew _ = w5 at hHeld hS5 ⊢
          have x5 : w5.cell? ⟨H, 1 + r1, none⟩ = some (.int .u64 0) := by have := hS5.hc (1 + r1) (by omega); rwa [hartCell_x _ r1 hr1, show (newV pc).x r1 = 0#64 from rfl, un_0] at this
          have z5 : w5.frozen? ⟨H, 1 + r1, none⟩ = false := hS5.hz (1 + r1) (by omega)
          refine wpAnyH_ready (rs := [11]) (by kernel_rfl) (by simp) (AllReadyH.cons rfl (fun K hK2 => ?_) AllReadyH.nil)
          rw [if_pos (by rfl)]
          simp only [List.getElem_toArray, List.getElem_cons_succ, List.getElem_cons_zero]
          go_simp
          have hS6 := hS5.setX r1 hr1 (0#64)
          rw [un_0] at hS6
          generalize World.setCell _ _ _ = w6 at hS6 ⊢
          refine hK2.out _ _ (⟨_, hS6⟩) (fun hHeld2 => ?_)
          clear hK2 K hHeld
          have hHeld := hHeld2
          clear hHeld2
          try simp only [Act.put, List.getElem_toArray, List.getElem_cons_succ, List.getElem_cons_zero, List.setIfInBounds_toArray, List.set_cons_zero, List.set_cons_succ]
          clear x5 z5 hS5
          refine wpAnyH_take (i := 14) (v := .pointer (some ⟨H, 1 + r2, none⟩)) rfl (by kernel_rfl) (by kernel_rfl) (by kernel_rfl) (fun _ _ _ h => h) (Or.inl ⟨by rfl, fun W _ => by go_simp⟩) hHeld ?_
          try simp only [Act.put, List.getElem_toArray, List.getElem_cons_succ, List.getElem_cons_zero, List.setIfInBounds_toArray, List.set_cons_zero, List.set_cons_succ]
          have x6 : w6.cell? ⟨H, 1 + r2, none⟩ = some (.int .u64 (un (((newV pc).set r1 (0#64)).x r2))) := by have := hS6.hc (1 + r2) (by omega); rwa [hartCell_x _ r2 hr2] at this
          have z6 : w6.frozen? ⟨H, 1 + r2, none⟩ = false := hS6.hz (1 + r2) (by omega)
          refine wpAnyH_ready (rs := [15]) (by kernel_rfl) (by simp) (AllReadyH.cons rfl (fun K hK2 => ?_) AllReadyH.nil)
          rw [if_pos (by rfl)]
          simp only [List.getElem_toArray, List.getElem_cons_succ, List.getElem_cons_zero]
          go_simp
          have hS7 := hS6.setX r2 hr2 (b)
          generalize World.setCell _ _ _ = w7 at hS7 ⊢
          refine hK2.out _ _ (⟨_, hS7⟩) (fun hHeld2 => ?_)
          clear hK2 K hHeld
          have hHeld := hHeld2
          clear hHeld2
          try simp only [Act.put, List.getElem_toArray, List.getElem_cons_succ, List.getElem_cons_zero, List.setIfInBounds_toArray, List.set_cons_zero, List.set_cons_succ]
          clear x6 z6 hS6
          refine wpAnyH_done (by kernel_rfl) ?_ _
          go_wp2_with fail
          go_ret
          refine ⟨true, _, rfl, hS7.hc, hS7.hz, rfl, rfl, rfl, ?_, fun _ => ?_, hS7.bl⟩
          · have hA := hA.out
            have hB := hB.out
            by_cases i2 : (0 : Nat) = r2
            · subst i2
              refine (show (((newV pc).set r1 (0#64)).set 0 (b)).x 0 = b from by simp [HartV.set]).trans ?_
              first | rfl | (exfalso; omega)
            · refine (if_neg i2).trans ?_
              by_cases i1 : (0 : Nat) = r1
              · subst i1
                refine (show ((newV pc).set 0 (0#64)).x 0 = 0#64 from by simp [HartV.set]).trans ?_
                first | rfl | (exfalso; omega)
              · exact if_neg i1
          · rw [show (((newV pc).set r1 (0#64)).set r2 (b)).x r2 = b from if_pos rfl, show (((newV pc).set r1 (0#64)).set r2 (b)).x r1 = 0#64 from ?_]
            · rw [← htt.out]; exact hte.out
            · by_cases i3 : r1 = r2
              · refine (if_pos i3).trans ?_
                have hA := hA.out
                have hB := hB.out
                first | rfl | (exfalso; omega)
              · exact (if_neg i3).trans (if_pos rfl)
        · have e4 : (tt == tk) = false := by rw [beq_eq_false_iff_ne]; exact hte
          replace htt := Lib.hid htt
          replace hte := Lib.hid hte
          go_wp2_with (go_at_call 85; refine (hTk.out _).mono ?_; rintro e w4 ⟨rfl, rfl⟩)
          go_roundw
          case rel => exact ⟨k + 1, by omega, by go_num, hB1⟩
          case measure => simp [intOf]; omega
      · obtain ⟨hA, hB⟩ := hx
        have e1 : ((r1 : Int) == 0) = false := by rw [beq_eq_false_iff_ne, ne_eq]; omega
        have e2 : ((r2 : Int) == 0) = true := by rw [beq_iff_eq]; omega
        have e3 : ((r1 : Int) == (r2 : Int)) = false := by rw [beq_eq_false_iff_ne, ne_eq]; omega
        replace hA := Lib.hid hA
        replace hB := Lib.hid hB
        have hTk : Hid (∀ W, Calls Tryz.prog 85 #[.int .i64 op, .int .u64 (un a), .int .u64 0] W fun e w' => e = .returned (.tuple #[.bool (takesF op (a) (0#64)), .int .i64 0]) ∧ W = w') := Lib.hid fun W => by
          have := hT.out (a) (0#64) W
          first | rwa [un_0] at this | exact this
        obtain ⟨tt, htt⟩ : ∃ tt, tt = takesF op (a) (0#64) := ⟨_, rfl⟩
        rw [← htt] at hTk
        by_cases hte : tt = tk
        · have e4 : (tt == tk) = true := by rw [hte]; exact beq_self_eq_true tk
          replace hte := Lib.hid hte
          replace htt := Lib.hid htt
          go_upto_region 13 with (go_at_call 85; refine (hTk.out _).mono ?_; rintro e w4 ⟨rfl, rfl⟩)
          clear c0 c2 c3
          refine wp_region_held_drew (S := fun W => ∃ g, SB w H g ⟨op, rd, r1, r2, imm, aq, rl, pred, succ⟩ W) (by kernel_rfl) ⟨_, hB1.drew⟩ (fun hHeld => ?_)
          refine wpAnyH_take (i := 0) (v := .pointer (some ⟨H, 0, none⟩)) rfl (by kernel_rfl) (by kernel_rfl) (by kernel_rfl) (fun _ _ _ h => h) (Or.inl ⟨by rfl, fun W _ => by kernel_rfl⟩) hHeld ?_
          try simp only [Act.put, List.getElem_toArray, List.getElem_cons_zero, List.setIfInBounds_toArray, List.set_cons_zero, List.set_cons_succ]
          refine wpAnyH_take (i := 1) (v := .pointer (some ⟨w.heap.size, 2, none⟩)) rfl (by kernel_rfl) (by kernel_rfl) (by kernel_rfl) (fun _ _ _ h => h) (Or.inl ⟨by rfl, fun W _ => by kernel_rfl⟩) hHeld ?_
          try simp only [Act.put, List.getElem_toArray, List.getElem_cons_succ, List.getElem_cons_zero, List.setIfInBounds_toArray, List.set_cons_zero, List.set_cons_succ]
          refine wpAnyH_take (i := 2) (v := .int .i64 r1) rfl (by kernel_rfl) (by kernel_rfl) (by kernel_rfl) (fun _ _ _ h => h) (Or.inl ⟨by rfl, fun W hS => by (have k : W.cell? ⟨w.heap.size, 2, none⟩ = some (.int .i64 r1) := hS.choose_spec.facts.2.1); go_simp⟩) hHeld ?_
          try simp only [Act.put, List.getElem_toArray, List.getElem_cons_succ, List.getElem_cons_zero, List.setIfInBounds_toArray, List.set_cons_zero, List.set_cons_succ]
          refine wpAnyH_take (i := 3) (v := .pointer (some ⟨H, 0, none⟩)) rfl (by kernel_rfl) (by kernel_rfl) (by kernel_rfl) (fun _ _ _ h => h) (Or.inl ⟨by rfl, fun W _ => by kernel_rfl⟩) hHeld ?_
          try simp only [Act.put, List.getElem_toArray, List.getElem_cons_succ, List.getElem_cons_zero, List.setIfInBounds_toArray, List.set_cons_zero, List.set_cons_succ]
          refine wpAnyH_take (i := 4) (v := .pointer (some ⟨w.heap.size, 3, none⟩)) rfl (by kernel_rfl) (by kernel_rfl) (by kernel_rfl) (fun _ _ _ h => h) (Or.inl ⟨by rfl, fun W _ => by kernel_rfl⟩) hHeld ?_
          try simp only [Act.put, List.getElem_toArray, List.getElem_cons_succ, List.getElem_cons_zero, List.setIfInBounds_toArray, List.set_cons_zero, List.set_cons_succ]
          refine wpAnyH_take (i := 5) (v := .int .i64 r2) rfl (by kernel_rfl) (by kernel_rfl) (by kernel_rfl) (fun _ _ _ h => h) (Or.inl ⟨by rfl, fun W hS => by (have k : W.cell? ⟨w.heap.size, 3, none⟩ = some (.int .i64 r2) := hS.choose_spec.facts.2.2); go_simp⟩) hHeld ?_
          try simp only [Act.put, List.getElem_toArray, List.getElem_cons_succ, List.getElem_cons_zero, List.setIfInBounds_toArray, List.set_cons_zero, List.set_cons_succ]
          refine wpAnyH_take (i := 6) (v := .int .u64 (un a)) rfl (by kernel_rfl) (by kernel_rfl) (by kernel_rfl) (fun _ _ _ h => h) (Or.inl ⟨by rfl, fun W _ => by kernel_rfl⟩) hHeld ?_
          try simp only [Act.put, List.getElem_toArray, List.getElem_cons_succ, List.getElem_cons_zero, List.setIfInBounds_toArray, List.set_cons_zero, List.set_cons_succ]
          refine wpAnyH_take (i := 7) (v := .int .u64 0) rfl (by kernel_rfl) (by kernel_rfl) (by kernel_rfl) (fun _ _ _ h => h) (Or.inl ⟨by rfl, fun W _ => by kernel_rfl⟩) hHeld ?_
          try simp only [Act.put, List.getElem_toArray, List.getElem_cons_succ, List.getElem_cons_zero, List.setIfInBounds_toArray, List.set_cons_zero, List.set_cons_succ]
          refine wpAnyH_take (i := 8) (v := .pointer (some ⟨H, 0, none⟩)) rfl (by kernel_rfl) (by kernel_rfl) (by kernel_rfl) (fun _ _ _ h => h) (Or.inl ⟨by rfl, fun W _ => by kernel_rfl⟩) hHeld ?_
          try simp only [Act.put, List.getElem_toArray, List.getElem_cons_succ, List.getElem_cons_zero, List.setIfInBounds_toArray, List.set_cons_zero, List.set_cons_succ]
          refine wpAnyH_take (i := 9) (v := .pointer (some ⟨H, 1, none⟩)) rfl (by kernel_rfl) (by kernel_rfl) (by kernel_rfl) (fun _ _ _ h => h) (Or.inl ⟨by rfl, fun W _ => by kernel_rfl⟩) hHeld ?_
          try simp only [Act.put, List.getElem_toArray, List.getElem_cons_succ, List.getElem_cons_zero, List.setIfInBounds_toArray, List.set_cons_zero, List.set_cons_succ]
          refine wpAnyH_take (i := 10) (v := .pointer (some ⟨H, 1 + r1, none⟩)) rfl (by kernel_rfl) (by kernel_rfl) (by kernel_rfl) (fun _ _ _ h => h) (Or.inl ⟨by rfl, fun W _ => by go_simp⟩) hHeld ?_
          try simp only [Act.put, List.getElem_toArray, List.getElem_cons_succ, List.getElem_cons_zero, List.setIfInBounds_toArray, List.set_cons_zero, List.set_cons_succ]
          refine wpAnyH_take (i := 12) (v := .pointer (some ⟨H, 0, none⟩)) rfl (by kernel_rfl) (by kernel_rfl) (by kernel_rfl) (fun _ _ _ h => h) (Or.inl ⟨by rfl, fun W _ => by kernel_rfl⟩) hHeld ?_
          try simp only [Act.put, List.getElem_toArray, List.getElem_cons_succ, List.getElem_cons_zero, List.setIfInBounds_toArray, List.set_cons_zero, List.set_cons_succ]
          refine wpAnyH_take (i := 13) (v := .pointer (some ⟨H, 1, none⟩)) rfl (by kernel_rfl) (by kernel_rfl) (by kernel_rfl) (fun _ _ _ h => h) (Or.inl ⟨by rfl, fun W _ => by kernel_rfl⟩) hHeld ?_
          try simp only [Act.put, List.getElem_toArray, List.getElem_cons_succ, List.getElem_cons_zero, List.setIfInBounds_toArray, List.set_cons_zero, List.set_cons_succ]
          have hS5 := hB1.drew
          generalize World.drew _ = w5 at hHeld hS5 ⊢
          have x5 : w5.cell? ⟨H, 1 + r1, none⟩ = some (.int .u64 0) := by have := hS5.hc (1 + r1) (by omega); rwa [hartCell_x _ r1 hr1, show (newV pc).x r1 = 0#64 from rfl, un_0] at this
          have z5 : w5.frozen? ⟨H, 1 + r1, none⟩ = false := hS5.hz (1 + r1) (by omega)
          refine wpAnyH_ready (rs := [11]) (by kernel_rfl) (by simp) (AllReadyH.cons rfl (fun K hK2 => ?_) AllReadyH.nil)
          rw [if_pos (by rfl)]
          simp only [List.getElem_toArray, List.getElem_cons_succ, List.getElem_cons_zero]
          go_simp
          have hS6 := hS5.setX r1 hr1 (a)
          generalize World.setCell _ _ _ = w6 at hS6 ⊢
          refine hK2.out _ _ (⟨_, hS6⟩) (fun hHeld2 => ?_)
          clear hK2 K hHeld
          have hHeld := hHeld2
          clear hHeld2
          try simp only [Act.put, List.getElem_toArray, List.getElem_cons_succ, List.getElem_cons_zero, List.setIfInBounds_toArray, List.set_cons_zero, List.set_cons_succ]
          clear x5 z5 hS5
          refine wpAnyH_take (i := 14) (v := .pointer (some ⟨H, 1 + r2, none⟩)) rfl (by kernel_rfl) (by kernel_rfl) (by kernel_rfl) (fun _ _ _ h => h) (Or.inl ⟨by rfl, fun W _ => by go_simp⟩) hHeld ?_
          try simp only [Act.put, List.getElem_toArray, List.getElem_cons_succ, List.getElem_cons_zero, List.setIfInBounds_toArray, List.set_cons_zero, List.set_cons_succ]
          have x6 : w6.cell? ⟨H, 1 + r2, none⟩ = some (.int .u64 (un (((newV pc).set r1 (a)).x r2))) := by have := hS6.hc (1 + r2) (by omega); rwa [hartCell_x _ r2 hr2] at this
          have z6 : w6.frozen? ⟨H, 1 + r2, none⟩ = false := hS6.hz (1 + r2) (by omega)
          refine wpAnyH_ready (rs := [15]) (by kernel_rfl) (by simp) (AllReadyH.cons rfl (fun K hK2 => ?_) AllReadyH.nil)
          rw [if_pos (by rfl)]
          simp only [List.getElem_toArray, List.getElem_cons_succ, List.getElem_cons_zero]
          go_simp
          have hS7 := hS6.setX r2 hr2 (0#64)
          rw [un_0] at hS7
          generalize World.setCell _ _ _ = w7 at hS7 ⊢
          refine hK2.out _ _ (⟨_, hS7⟩) (fun hHeld2 => ?_)
          clear hK2 K hHeld
          have hHeld := hHeld2
          clear hHeld2
          try simp only [Act.put, List.getElem_toArray, List.getElem_cons_succ, List.getElem_cons_zero, List.setIfInBounds_toArray, List.set_cons_zero, List.set_cons_succ]
          clear x6 z6 hS6
          refine wpAnyH_done (by kernel_rfl) ?_ _
          go_wp2_with fail
          go_ret
          refine ⟨true, _, rfl, hS7.hc, hS7.hz, rfl, rfl, rfl, ?_, fun _ => ?_, hS7.bl⟩
          · have hA := hA.out
            have hB := hB.out
            by_cases i2 : (0 : Nat) = r2
            · subst i2
              refine (show (((newV pc).set r1 (a)).set 0 (0#64)).x 0 = 0#64 from by simp [HartV.set]).trans ?_
              first | rfl | (exfalso; omega)
            · refine (if_neg i2).trans ?_
              by_cases i1 : (0 : Nat) = r1
              · subst i1
                refine (show ((newV pc).set 0 (a)).x 0 = a from by simp [HartV.set]).trans ?_
                first | rfl | (exfalso; omega)
              · exact if_neg i1
          · rw [show (((newV pc).set r1 (a)).set r2 (0#64)).x r2 = 0#64 from if_pos rfl, show (((newV pc).set r1 (a)).set r2 (0#64)).x r1 = a from ?_]
            · rw [← htt.out]; exact hte.out
            · by_cases i3 : r1 = r2
              · refine (if_pos i3).trans ?_
                have hA := hA.out
                have hB := hB.out
                first | rfl | (exfalso; omega)
              · exact (if_neg i3).trans (if_pos rfl)
        · have e4 : (tt == tk) = false := by rw [beq_eq_false_iff_ne]; exact hte
          replace htt := Lib.hid htt
          replace hte := Lib.hid hte
          go_wp2_with (go_at_call 85; refine (hTk.out _).mono ?_; rintro e w4 ⟨rfl, rfl⟩)
          go_roundw
          case rel => exact ⟨k + 1, by omega, by go_num, hB1⟩
          case measure => simp [intOf]; omega
      · obtain ⟨hA, hB, hC⟩ := hx
        have e1 : ((r1 : Int) == 0) = false := by rw [beq_eq_false_iff_ne, ne_eq]; omega
        have e2 : ((r2 : Int) == 0) = false := by rw [beq_eq_false_iff_ne, ne_eq]; omega
        have e3 : ((r1 : Int) == (r2 : Int)) = true := by rw [beq_iff_eq]; omega
        replace hA := Lib.hid hA
        replace hB := Lib.hid hB
        replace hC := Lib.hid hC
        have hTk : Hid (∀ W, Calls Tryz.prog 85 #[.int .i64 op, .int .u64 (un a), .int .u64 (un a)] W fun e w' => e = .returned (.tuple #[.bool (takesF op (a) (a)), .int .i64 0]) ∧ W = w') := Lib.hid fun W => by
          have := hT.out (a) (a) W
          first | rwa [un_0] at this | exact this
        obtain ⟨tt, htt⟩ : ∃ tt, tt = takesF op (a) (a) := ⟨_, rfl⟩
        rw [← htt] at hTk
        by_cases hte : tt = tk
        · have e4 : (tt == tk) = true := by rw [hte]; exact beq_self_eq_true tk
          replace hte := Lib.hid hte
          replace htt := Lib.hid htt
          go_upto_region 13 with (go_at_call 85; refine (hTk.out _).mono ?_; rintro e w4 ⟨rfl, rfl⟩)
          clear c0 c2 c3
          refine wp_region_held_drew (S := fun W => ∃ g, SB w H g ⟨op, rd, r1, r2, imm, aq, rl, pred, succ⟩ W) (by kernel_rfl) ⟨_, hB1.drew⟩ (fun hHeld => ?_)
          refine wpAnyH_take (i := 0) (v := .pointer (some ⟨H, 0, none⟩)) rfl (by kernel_rfl) (by kernel_rfl) (by kernel_rfl) (fun _ _ _ h => h) (Or.inl ⟨by rfl, fun W _ => by kernel_rfl⟩) hHeld ?_
          try simp only [Act.put, List.getElem_toArray, List.getElem_cons_zero, List.setIfInBounds_toArray, List.set_cons_zero, List.set_cons_succ]
          refine wpAnyH_take (i := 1) (v := .pointer (some ⟨w.heap.size, 2, none⟩)) rfl (by kernel_rfl) (by kernel_rfl) (by kernel_rfl) (fun _ _ _ h => h) (Or.inl ⟨by rfl, fun W _ => by kernel_rfl⟩) hHeld ?_
          try simp only [Act.put, List.getElem_toArray, List.getElem_cons_succ, List.getElem_cons_zero, List.setIfInBounds_toArray, List.set_cons_zero, List.set_cons_succ]
          refine wpAnyH_take (i := 2) (v := .int .i64 r1) rfl (by kernel_rfl) (by kernel_rfl) (by kernel_rfl) (fun _ _ _ h => h) (Or.inl ⟨by rfl, fun W hS => by (have k : W.cell? ⟨w.heap.size, 2, none⟩ = some (.int .i64 r1) := hS.choose_spec.facts.2.1); go_simp⟩) hHeld ?_
          try simp only [Act.put, List.getElem_toArray, List.getElem_cons_succ, List.getElem_cons_zero, List.setIfInBounds_toArray, List.set_cons_zero, List.set_cons_succ]
          refine wpAnyH_take (i := 3) (v := .pointer (some ⟨H, 0, none⟩)) rfl (by kernel_rfl) (by kernel_rfl) (by kernel_rfl) (fun _ _ _ h => h) (Or.inl ⟨by rfl, fun W _ => by kernel_rfl⟩) hHeld ?_
          try simp only [Act.put, List.getElem_toArray, List.getElem_cons_succ, List.getElem_cons_zero, List.setIfInBounds_toArray, List.set_cons_zero, List.set_cons_succ]
          refine wpAnyH_take (i := 4) (v := .pointer (some ⟨w.heap.size, 3, none⟩)) rfl (by kernel_rfl) (by kernel_rfl) (by kernel_rfl) (fun _ _ _ h => h) (Or.inl ⟨by rfl, fun W _ => by kernel_rfl⟩) hHeld ?_
          try simp only [Act.put, List.getElem_toArray, List.getElem_cons_succ, List.getElem_cons_zero, List.setIfInBounds_toArray, List.set_cons_zero, List.set_cons_succ]
          refine wpAnyH_take (i := 5) (v := .int .i64 r2) rfl (by kernel_rfl) (by kernel_rfl) (by kernel_rfl) (fun _ _ _ h => h) (Or.inl ⟨by rfl, fun W hS => by (have k : W.cell? ⟨w.heap.size, 3, none⟩ = some (.int .i64 r2) := hS.choose_spec.facts.2.2); go_simp⟩) hHeld ?_
          try simp only [Act.put, List.getElem_toArray, List.getElem_cons_succ, List.getElem_cons_zero, List.setIfInBounds_toArray, List.set_cons_zero, List.set_cons_succ]
          refine wpAnyH_take (i := 6) (v := .int .u64 (un a)) rfl (by kernel_rfl) (by kernel_rfl) (by kernel_rfl) (fun _ _ _ h => h) (Or.inl ⟨by rfl, fun W _ => by kernel_rfl⟩) hHeld ?_
          try simp only [Act.put, List.getElem_toArray, List.getElem_cons_succ, List.getElem_cons_zero, List.setIfInBounds_toArray, List.set_cons_zero, List.set_cons_succ]
          refine wpAnyH_take (i := 7) (v := .int .u64 (un a)) rfl (by kernel_rfl) (by kernel_rfl) (by kernel_rfl) (fun _ _ _ h => h) (Or.inl ⟨by rfl, fun W _ => by kernel_rfl⟩) hHeld ?_
          try simp only [Act.put, List.getElem_toArray, List.getElem_cons_succ, List.getElem_cons_zero, List.setIfInBounds_toArray, List.set_cons_zero, List.set_cons_succ]
          refine wpAnyH_take (i := 8) (v := .pointer (some ⟨H, 0, none⟩)) rfl (by kernel_rfl) (by kernel_rfl) (by kernel_rfl) (fun _ _ _ h => h) (Or.inl ⟨by rfl, fun W _ => by kernel_rfl⟩) hHeld ?_
          try simp only [Act.put, List.getElem_toArray, List.getElem_cons_succ, List.getElem_cons_zero, List.setIfInBounds_toArray, List.set_cons_zero, List.set_cons_succ]
          refine wpAnyH_take (i := 9) (v := .pointer (some ⟨H, 1, none⟩)) rfl (by kernel_rfl) (by kernel_rfl) (by kernel_rfl) (fun _ _ _ h => h) (Or.inl ⟨by rfl, fun W _ => by kernel_rfl⟩) hHeld ?_
          try simp only [Act.put, List.getElem_toArray, List.getElem_cons_succ, List.getElem_cons_zero, List.setIfInBounds_toArray, List.set_cons_zero, List.set_cons_succ]
          refine wpAnyH_take (i := 10) (v := .pointer (some ⟨H, 1 + r1, none⟩)) rfl (by kernel_rfl) (by kernel_rfl) (by kernel_rfl) (fun _ _ _ h => h) (Or.inl ⟨by rfl, fun W _ => by go_simp⟩) hHeld ?_
          try simp only [Act.put, List.getElem_toArray, List.getElem_cons_succ, List.getElem_cons_zero, List.setIfInBounds_toArray, List.set_cons_zero, List.set_cons_succ]
          refine wpAnyH_take (i := 12) (v := .pointer (some ⟨H, 0, none⟩)) rfl (by kernel_rfl) (by kernel_rfl) (by kernel_rfl) (fun _ _ _ h => h) (Or.inl ⟨by rfl, fun W _ => by kernel_rfl⟩) hHeld ?_
          try simp only [Act.put, List.getElem_toArray, List.getElem_cons_succ, List.getElem_cons_zero, List.setIfInBounds_toArray, List.set_cons_zero, List.set_cons_succ]
          refine wpAnyH_take (i := 13) (v := .pointer (some ⟨H, 1, none⟩)) rfl (by kernel_rfl) (by kernel_rfl) (by kernel_rfl) (fun _ _ _ h => h) (Or.inl ⟨by rfl, fun W _ => by kernel_rfl⟩) hHeld ?_
          try simp only [Act.put, List.getElem_toArray, List.getElem_cons_succ, List.getElem_cons_zero, List.setIfInBounds_toArray, List.set_cons_zero, List.set_cons_succ]
          have hS5 := hB1.drew
          generalize World.drew _ = w5 at hHeld hS5 ⊢
          have x5 : w5.cell? ⟨H, 1 + r1, none⟩ = some (.int .u64 0) := by have := hS5.hc (1 + r1) (by omega); rwa [hartCell_x _ r1 hr1, show (newV pc).x r1 = 0#64 from rfl, un_0] at this
          have z5 : w5.frozen? ⟨H, 1 + r1, none⟩ = false := hS5.hz (1 + r1) (by omega)
          refine wpAnyH_ready (rs := [11]) (by kernel_rfl) (by simp) (AllReadyH.cons rfl (fun K hK2 => ?_) AllReadyH.nil)
          rw [if_pos (by rfl)]
          simp only [List.getElem_toArray, List.getElem_cons_succ, List.getElem_cons_zero]
          go_simp
          have hS6 := hS5.setX r1 hr1 (a)
          generalize World.setCell _ _ _ = w6 at hS6 ⊢
          refine hK2.out _ _ (⟨_, hS6⟩) (fun hHeld2 => ?_)
          clear hK2 K hHeld
          have hHeld := hHeld2
          clear hHeld2
          try simp only [Act.put, List.getElem_toArray, List.getElem_cons_succ, List.getElem_cons_zero, List.setIfInBounds_toArray, List.set_cons_zero, List.set_cons_succ]
          clear x5 z5 hS5
          refine wpAnyH_take (i := 14) (v := .pointer (some ⟨H, 1 + r2, none⟩)) rfl (by kernel_rfl) (by kernel_rfl) (by kernel_rfl) (fun _ _ _ h => h) (Or.inl ⟨by rfl, fun W _ => by go_simp⟩) hHeld ?_
          try simp only [Act.put, List.getElem_toArray, List.getElem_cons_succ, List.getElem_cons_zero, List.setIfInBounds_toArray, List.set_cons_zero, List.set_cons_succ]
          have x6 : w6.cell? ⟨H, 1 + r2, none⟩ = some (.int .u64 (un (((newV pc).set r1 (a)).x r2))) := by have := hS6.hc (1 + r2) (by omega); rwa [hartCell_x _ r2 hr2] at this
          have z6 : w6.frozen? ⟨H, 1 + r2, none⟩ = false := hS6.hz (1 + r2) (by omega)
          refine wpAnyH_ready (rs := [15]) (by kernel_rfl) (by simp) (AllReadyH.cons rfl (fun K hK2 => ?_) AllReadyH.nil)
          rw [if_pos (by rfl)]
          simp only [List.getElem_toArray, List.getElem_cons_succ, List.getElem_cons_zero]
          go_simp
          have hS7 := hS6.setX r2 hr2 (a)
          generalize World.setCell _ _ _ = w7 at hS7 ⊢
          refine hK2.out _ _ (⟨_, hS7⟩) (fun hHeld2 => ?_)
          clear hK2 K hHeld
          have hHeld := hHeld2
          clear hHeld2
          try simp only [Act.put, List.getElem_toArray, List.getElem_cons_succ, List.getElem_cons_zero, List.setIfInBounds_toArray, List.set_cons_zero, List.set_cons_succ]
          clear x6 z6 hS6
          refine wpAnyH_done (by kernel_rfl) ?_ _
          go_wp2_with fail
          go_ret
          refine ⟨true, _, rfl, hS7.hc, hS7.hz, rfl, rfl, rfl, ?_, fun _ => ?_, hS7.bl⟩
          · have hA := hA.out
            have hB := hB.out
            by_cases i2 : (0 : Nat) = r2
            · subst i2
              refine (show (((newV pc).set r1 (a)).set 0 (a)).x 0 = a from by simp [HartV.set]).trans ?_
              first | rfl | (exfalso; omega)
            · refine (if_neg i2).trans ?_
              by_cases i1 : (0 : Nat) = r1
              · subst i1
                refine (show ((newV pc).set 0 (a)).x 0 = a from by simp [HartV.set]).trans ?_
                first | rfl | (exfalso; omega)
              · exact if_neg i1
          · rw [show (((newV pc).set r1 (a)).set r2 (a)).x r2 = a from if_pos rfl, show (((newV pc).set r1 (a)).set r2 (a)).x r1 = a from ?_]
            · rw [← htt.out]; exact hte.out
            · by_cases i3 : r1 = r2
              · refine (if_pos i3).trans ?_
                have hA := hA.out
                have hB := hB.out
                have hC := hC.out
                first | rfl | (exfalso; omega)
              · exact (if_neg i3).trans (if_pos rfl)
        · have e4 : (tt == tk) = false := by rw [beq_eq_false_iff_ne]; exact hte
          replace htt := Lib.hid htt
          replace hte := Lib.hid hte
          go_wp2_with (go_at_call 85; refine (hTk.out _).mono ?_; rintro e w4 ⟨rfl, rfl⟩)
          go_roundw
          case rel => exact ⟨k + 1, by omega, by go_num, hB1⟩
          case measure => simp [intOf]; omega
      · obtain ⟨hA, hB, hC⟩ := hx
        have e1 : ((r1 : Int) == 0) = false := by rw [beq_eq_false_iff_ne, ne_eq]; omega
        have e2 : ((r2 : Int) == 0) = false := by rw [beq_eq_false_iff_ne, ne_eq]; omega
        have e3 : ((r1 : Int) == (r2 : Int)) = false := by rw [beq_eq_false_iff_ne, ne_eq]; omega
        replace hA := Lib.hid hA
        replace hB := Lib.hid hB
        replace hC := Lib.hid hC
        have hTk : Hid (∀ W, Calls Tryz.prog 85 #[.int .i64 op, .int .u64 (un a), .int .u64 (un b)] W fun e w' => e = .returned (.tuple #[.bool (takesF op (a) (b)), .int .i64 0]) ∧ W = w') := Lib.hid fun W => by
          have := hT.out (a) (b) W
          first | rwa [un_0] at this | exact this
        obtain ⟨tt, htt⟩ : ∃ tt, tt = takesF op (a) (b) := ⟨_, rfl⟩
        rw [← htt] at hTk
        by_cases hte : tt = tk
        · have e4 : (tt == tk) = true := by rw [hte]; exact beq_self_eq_true tk
          replace hte := Lib.hid hte
          replace htt := Lib.hid htt
          go_upto_region 13 with (go_at_call 85; refine (hTk.out _).mono ?_; rintro e w4 ⟨rfl, rfl⟩)
          clear c0 c2 c3
          refine wp_region_held_drew (S := fun W => ∃ g, SB w H g ⟨op, rd, r1, r2, imm, aq, rl, pred, succ⟩ W) (by kernel_rfl) ⟨_, hB1.drew⟩ (fun hHeld => ?_)
          refine wpAnyH_take (i := 0) (v := .pointer (some ⟨H, 0, none⟩)) rfl (by kernel_rfl) (by kernel_rfl) (by kernel_rfl) (fun _ _ _ h => h) (Or.inl ⟨by rfl, fun W _ => by kernel_rfl⟩) hHeld ?_
          try simp only [Act.put, List.getElem_toArray, List.getElem_cons_zero, List.setIfInBounds_toArray, List.set_cons_zero, List.set_cons_succ]
          refine wpAnyH_take (i := 1) (v := .pointer (some ⟨w.heap.size, 2, none⟩)) rfl (by kernel_rfl) (by kernel_rfl) (by kernel_rfl) (fun _ _ _ h => h) (Or.inl ⟨by rfl, fun W _ => by kernel_rfl⟩) hHeld ?_
          try simp only [Act.put, List.getElem_toArray, List.getElem_cons_succ, List.getElem_cons_zero, List.setIfInBounds_toArray, List.set_cons_zero, List.set_cons_succ]
          refine wpAnyH_take (i := 2) (v := .int .i64 r1) rfl (by kernel_rfl) (by kernel_rfl) (by kernel_rfl) (fun _ _ _ h => h) (Or.inl ⟨by rfl, fun W hS => by (have k : W.cell? ⟨w.heap.size, 2, none⟩ = some (.int .i64 r1) := hS.choose_spec.facts.2.1); go_simp⟩) hHeld ?_
          try simp only [Act.put, List.getElem_toArray, List.getElem_cons_succ, List.getElem_cons_zero, List.setIfInBounds_toArray, List.set_cons_zero, List.set_cons_succ]
          refine wpAnyH_take (i := 3) (v := .pointer (some ⟨H, 0, none⟩)) rfl (by kernel_rfl) (by kernel_rfl) (by kernel_rfl) (fun _ _ _ h => h) (Or.inl ⟨by rfl, fun W _ => by kernel_rfl⟩) hHeld ?_
          try simp only [Act.put, List.getElem_toArray, List.getElem_cons_succ, List.getElem_cons_zero, List.setIfInBounds_toArray, List.set_cons_zero, List.set_cons_succ]
          refine wpAnyH_take (i := 4) (v := .pointer (some ⟨w.heap.size, 3, none⟩)) rfl (by kernel_rfl) (by kernel_rfl) (by kernel_rfl) (fun _ _ _ h => h) (Or.inl ⟨by rfl, fun W _ => by kernel_rfl⟩) hHeld ?_
          try simp only [Act.put, List.getElem_toArray, List.getElem_cons_succ, List.getElem_cons_zero, List.setIfInBounds_toArray, List.set_cons_zero, List.set_cons_succ]
          refine wpAnyH_take (i := 5) (v := .int .i64 r2) rfl (by kernel_rfl) (by kernel_rfl) (by kernel_rfl) (fun _ _ _ h => h) (Or.inl ⟨by rfl, fun W hS => by (have k : W.cell? ⟨w.heap.size, 3, none⟩ = some (.int .i64 r2) := hS.choose_spec.facts.2.2); go_simp⟩) hHeld ?_
          try simp only [Act.put, List.getElem_toArray, List.getElem_cons_succ, List.getElem_cons_zero, List.setIfInBounds_toArray, List.set_cons_zero, List.set_cons_succ]
          refine wpAnyH_take (i := 6) (v := .int .u64 (un a)) rfl (by kernel_rfl) (by kernel_rfl) (by kernel_rfl) (fun _ _ _ h => h) (Or.inl ⟨by rfl, fun W _ => by kernel_rfl⟩) hHeld ?_
          try simp only [Act.put, List.getElem_toArray, List.getElem_cons_succ, List.getElem_cons_zero, List.setIfInBounds_toArray, List.set_cons_zero, List.set_cons_succ]
          refine wpAnyH_take (i := 7) (v := .int .u64 (un b)) rfl (by kernel_rfl) (by kernel_rfl) (by kernel_rfl) (fun _ _ _ h => h) (Or.inl ⟨by rfl, fun W _ => by kernel_rfl⟩) hHeld ?_
          try simp only [Act.put, List.getElem_toArray, List.getElem_cons_succ, List.getElem_cons_zero, List.setIfInBounds_toArray, List.set_cons_zero, List.set_cons_succ]
          refine wpAnyH_take (i := 8) (v := .pointer (some ⟨H, 0, none⟩)) rfl (by kernel_rfl) (by kernel_rfl) (by kernel_rfl) (fun _ _ _ h => h) (Or.inl ⟨by rfl, fun W _ => by kernel_rfl⟩) hHeld ?_
          try simp only [Act.put, List.getElem_toArray, List.getElem_cons_succ, List.getElem_cons_zero, List.setIfInBounds_toArray, List.set_cons_zero, List.set_cons_succ]
          refine wpAnyH_take (i := 9) (v := .pointer (some ⟨H, 1, none⟩)) rfl (by kernel_rfl) (by kernel_rfl) (by kernel_rfl) (fun _ _ _ h => h) (Or.inl ⟨by rfl, fun W _ => by kernel_rfl⟩) hHeld ?_
          try simp only [Act.put, List.getElem_toArray, List.getElem_cons_succ, List.getElem_cons_zero, List.setIfInBounds_toArray, List.set_cons_zero, List.set_cons_succ]
          refine wpAnyH_take (i := 10) (v := .pointer (some ⟨H, 1 + r1, none⟩)) rfl (by kernel_rfl) (by kernel_rfl) (by kernel_rfl) (fun _ _ _ h => h) (Or.inl ⟨by rfl, fun W _ => by go_simp⟩) hHeld ?_
          try simp only [Act.put, List.getElem_toArray, List.getElem_cons_succ, List.getElem_cons_zero, List.setIfInBounds_toArray, List.set_cons_zero, List.set_cons_succ]
          refine wpAnyH_take (i := 12) (v := .pointer (some ⟨H, 0, none⟩)) rfl (by kernel_rfl) (by kernel_rfl) (by kernel_rfl) (fun _ _ _ h => h) (Or.inl ⟨by rfl, fun W _ => by kernel_rfl⟩) hHeld ?_
          try simp only [Act.put, List.getElem_toArray, List.getElem_cons_succ, List.getElem_cons_zero, List.setIfInBounds_toArray, List.set_cons_zero, List.set_cons_succ]
          refine wpAnyH_take (i := 13) (v := .pointer (some ⟨H, 1, none⟩)) rfl (by kernel_rfl) (by kernel_rfl) (by kernel_rfl) (fun _ _ _ h => h) (Or.inl ⟨by rfl, fun W _ => by kernel_rfl⟩) hHeld ?_
          try simp only [Act.put, List.getElem_toArray, List.getElem_cons_succ, List.getElem_cons_zero, List.setIfInBounds_toArray, List.set_cons_zero, List.set_cons_succ]
          have hS5 := hB1.drew
          generalize World.drew _ = w5 at hHeld hS5 ⊢
          have x5 : w5.cell? ⟨H, 1 + r1, none⟩ = some (.int .u64 0) := by have := hS5.hc (1 + r1) (by omega); rwa [hartCell_x _ r1 hr1, show (newV pc).x r1 = 0#64 from rfl, un_0] at this
          have z5 : w5.frozen? ⟨H, 1 + r1, none⟩ = false := hS5.hz (1 + r1) (by omega)
          refine wpAnyH_ready (rs := [11]) (by kernel_rfl) (by simp) (AllReadyH.cons rfl (fun K hK2 => ?_) AllReadyH.nil)
          rw [if_pos (by rfl)]
          simp only [List.getElem_toArray, List.getElem_cons_succ, List.getElem_cons_zero]
          go_simp
          have hS6 := hS5.setX r1 hr1 (a)
          generalize World.setCell _ _ _ = w6 at hS6 ⊢
          refine hK2.out _ _ (⟨_, hS6⟩) (fun hHeld2 => ?_)
          clear hK2 K hHeld
          have hHeld := hHeld2
          clear hHeld2
          try simp only [Act.put, List.getElem_toArray, List.getElem_cons_succ, List.getElem_cons_zero, List.setIfInBounds_toArray, List.set_cons_zero, List.set_cons_succ]
          clear x5 z5 hS5
          refine wpAnyH_take (i := 14) (v := .pointer (some ⟨H, 1 + r2, none⟩)) rfl (by kernel_rfl) (by kernel_rfl) (by kernel_rfl) (fun _ _ _ h => h) (Or.inl ⟨by rfl, fun W _ => by go_simp⟩) hHeld ?_
          try simp only [Act.put, List.getElem_toArray, List.getElem_cons_succ, List.getElem_cons_zero, List.setIfInBounds_toArray, List.set_cons_zero, List.set_cons_succ]
          have x6 : w6.cell? ⟨H, 1 + r2, none⟩ = some (.int .u64 (un (((newV pc).set r1 (a)).x r2))) := by have := hS6.hc (1 + r2) (by omega); rwa [hartCell_x _ r2 hr2] at this
          have z6 : w6.frozen? ⟨H, 1 + r2, none⟩ = false := hS6.hz (1 + r2) (by omega)
          refine wpAnyH_ready (rs := [15]) (by kernel_rfl) (by simp) (AllReadyH.cons rfl (fun K hK2 => ?_) AllReadyH.nil)
          rw [if_pos (by rfl)]
          simp only [List.getElem_toArray, List.getElem_cons_succ, List.getElem_cons_zero]
          go_simp
          have hS7 := hS6.setX r2 hr2 (b)
          generalize World.setCell _ _ _ = w7 at hS7 ⊢
          refine hK2.out _ _ (⟨_, hS7⟩) (fun hHeld2 => ?_)
          clear hK2 K hHeld
          have hHeld := hHeld2
          clear hHeld2
          try simp only [Act.put, List.getElem_toArray, List.getElem_cons_succ, List.getElem_cons_zero, List.setIfInBounds_toArray, List.set_cons_zero, List.set_cons_succ]
          clear x6 z6 hS6
          refine wpAnyH_done (by kernel_rfl) ?_ _
          go_wp2_with fail
          go_ret
          refine ⟨true, _, rfl, hS7.hc, hS7.hz, rfl, rfl, rfl, ?_, fun _ => ?_, hS7.bl⟩
          · have hA := hA.out
            have hB := hB.out
            by_cases i2 : (0 : Nat) = r2
            · subst i2
              refine (show (((newV pc).set r1 (a)).set 0 (b)).x 0 = b from by simp [HartV.set]).trans ?_
              first | rfl | (exfalso; omega)
            · refine (if_neg i2).trans ?_
              by_cases i1 : (0 : Nat) = r1
              · subst i1
                refine (show ((newV pc).set 0 (a)).x 0 = a from by simp [HartV.set]).trans ?_
                first | rfl | (exfalso; omega)
              · exact if_neg i1
          · rw [show (((newV pc).set r1 (a)).set r2 (b)).x r2 = b from if_pos rfl, show (((newV pc).set r1 (a)).set r2 (b)).x r1 = a from ?_]
            · rw [← htt.out]; exact hte.out
            · by_cases i3 : r1 = r2
              · refine (if_pos i3).trans ?_
                have hA := hA.out
                have hB := hB.out
                have hC := hC.out
                first | rfl | (exfalso; omega)
              · exact (if_neg i3).trans (if_pos rfl)
        · have e4 : (tt == tk) = false := by rw [beq_eq_false_iff_ne]; exact hte
          replace htt := Lib.hid htt
          replace hte := Lib.hid hte
          go_wp2_with (go_at_call 85; refine (hTk.out _).mono ?_; rintro e w4 ⟨rfl, rfl⟩)
          go_roundw
          case rel => exact ⟨k + 1, by omega, by go_num, hB1⟩
          case measure => simp [intOf]; omega
    · obtain rfl : k = 5 := by omega
      go_wp2_with fail
      go_ret
      exact ⟨false, newV pc, rfl, hB.hc, hB.hz, rfl, rfl, rfl, rfl, (fun h => absurd h (by decide)), hB.bl⟩
end
end Go.Proofs.YtcgflnkgekkidaaGreatDoor
