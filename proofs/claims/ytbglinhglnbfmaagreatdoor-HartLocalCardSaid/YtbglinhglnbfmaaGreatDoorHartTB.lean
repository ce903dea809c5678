/- The walk of the law HartLocal where the hart ends. Conditions: the library's table of ASCII spaces lies as its initialiser lays it. -/
import Derived.Test.YtbglinhglnbfmaaGreatDoorHartT
set_option linter.unusedVariables false
namespace Go.Proofs.YtbglinhglnbfmaaGreatDoor
open Go.RowKit
attribute [local go_sem] wrap_u64_bv bv_un bv_sn bv_add bv_mul bv_neg bv_sub mul_bvpow shr_min shl_min sshr_min bv_lit bv_0 bv_1 un_shr sn_shr wrap_i64_un bits_u64_and bits_u64_or bits_u64_xor bits_u64_andNot bv_max u64_unsigned
section
attribute [local irreducible] un sn hartL AskV.cells
set_option maxRecDepth 100000 in
set_option maxHeartbeats 16000000 in
theorem Local_run1 (h : HartV) (op : Int) (d r1 r2 : Nat) (imm : Int) (aq rl : Bool) (pred succ : Int) (found : BitVec 64) (won : Bool) (r0 : Int) (v : BitVec 64) (w : World) (ht : Tabs w) (hop : op ≤ 9223372036854775807) (hd : d < 32) (hr1 : r1 < 32) (hr2 : r2 < 32) (hb : hartE h = 0) (hf : h.fin = 0) (hc : checkE ⟨op, d, r1, r2, imm, aq, rl, pred, succ⟩ = 0) (r : Nat) (hr1' : 1 ≤ r) (hr32 : r < 32) (hPk : Hid (∀ w : World, Calls Tryz.prog 11 #[.int .i64 r0, .int .i64 31] w fun e w' => e = .returned (.int .i64 ((r : Int) - 1)) ∧ w = w')) (hfin : ∀ x, stepV h ⟨op, d, r1, r2, imm, aq, rl, pred, succ⟩ found won = x → x.fin ≠ 0) :
    Calls Tryz.prog 4 #[.agg (hartArr h), .agg #[.int .i64 op, .int .i64 d, .int .i64 r1, .int .i64 r2, .int .i64 imm, .bool aq, .bool rl, .int .i64 pred, .int .i64 succ], .int .u64 (un found), .bool won, .int .i64 r0, .int .u64 (un v)] w fun e w' => e = .returned (.bool true) ∧ Below w.heap.size w w' := by
  have hund : ∀ b : Bool, (some undef = some (Value.bool b)) = False := fun b => by simp [undef]
  have hB0 := BK.start w h ⟨op, d, r1, r2, imm, aq, rl, pred, succ⟩ 25 27
  have hu := Tryz.underlying25
  have hE := Lib.hid (fun W => HCheck_any h W)
  have hR := Lib.hid (fun W => R2Check_any ⟨op, d, r1, r2, imm, aq, rl, pred, succ⟩ W)
  have hb0 := hb
  have hf0 := hf
  have hc0 := hc
  rw [hb] at hE
  rw [hc] at hR
  have tf : (h.fin != 0) = false := by rw [hf]; rfl
  have hwr : 1 + ((r : Int) - 1) = r := by omega
  have hu2 := Tryz.underlying27
  have hi2 : (Tryz.prog.info? 27).map (·.size) = some (InsnV.cells ⟨op, d, r1, r2, imm, aq, rl, pred, succ⟩).toList.length := by kernel_rfl
  have hua := Tryz.underlying42
  have hWr := Lib.hid (fun W => R2Writes_ok ⟨op, d, r1, r2, imm, aq, rl, pred, succ⟩ hc W)
  have hRd := Lib.hid (fun W => Reads_any ⟨op, d, r1, r2, imm, aq, rl, pred, succ⟩ hc W)
  obtain ⟨x, hxd⟩ : ∃ x, stepV h ⟨op, d, r1, r2, imm, aq, rl, pred, succ⟩ found won = x := ⟨_, rfl⟩
  obtain ⟨a, had⟩ : ∃ a, askR h ⟨op, d, r1, r2, imm, aq, rl, pred, succ⟩ = a := ⟨_, rfl⟩
  have hSx : Hid (∀ W, Tabs W → Calls Tryz.prog 9 #[.agg (hartL h).toArray, .agg #[.int .i64 op, .int .i64 d, .int .i64 r1, .int .i64 r2, .int .i64 imm, .bool aq, .bool rl, .int .i64 pred, .int .i64 succ], .int .u64 (un found), .bool won] W fun e w' => e = .returned (.tuple #[.agg (hartL x).toArray, .int .i64 0]) ∧ Below W.heap.size W w') := Lib.hid fun W hT => by
    rw [← hxd]; exact Step_any h ⟨op, d, r1, r2, imm, aq, rl, pred, succ⟩ found won W hT hop hb hf hc
  have hAx : Hid (∀ W, Tabs W → Calls Tryz.prog 14 #[.agg (hartL h).toArray, .agg #[.int .i64 op, .int .i64 d, .int .i64 r1, .int .i64 r2, .int .i64 imm, .bool aq, .bool rl, .int .i64 pred, .int .i64 succ]] W fun e w' => e = .returned (.tuple #[.agg a.cells, .int .i64 0]) ∧ Below W.heap.size W w') := Lib.hid fun W hT => by
    rw [← had]; exact HAsk_any h ⟨op, d, r1, r2, imm, aq, rl, pred, succ⟩ W hT hop hb hf hc
  have hXe : hartE x = 0 := by rw [← hxd]; exact stepV_ok found won hb hf (Int.natCast_nonneg d)
  have hEx := Lib.hid (fun W => HCheck_any x W)
  rw [hXe] at hEx
  have hx0 : un (x.x 0) = 0 := by
    unfold hartE at hXe
    split at hXe
    · rename_i k; exact k.1
    · cases hXe
  have hxr : ∀ k : Nat, (k : Int) ≠ d ∨ x.fin ≠ 0 → x.x k = h.x k := fun k hk => by
    rw [← hxd] at hk ⊢; exact stepV_x (i := ⟨op, d, r1, r2, imm, aq, rl, pred, succ⟩) found won k hk hf (Int.natCast_nonneg d)
  have hxr := Lib.hid hxr
  have hxf : x.fin ≠ 0 := hfin x hxd
  clear hXe
  replace hb0 := Lib.hid hb0
  replace hf0 := Lib.hid hf0
  replace hc0 := Lib.hid hc0
  replace hxd := Lib.hid hxd
  replace had := Lib.hid had
  replace hxf := Lib.hid hxf
  replace hx0 := Lib.hid hx0
  clear hb hf hc hfin
  go_enter Tryz.func4, Tryz.ntmps4
  go_upto_region 6 with (first | (refine wpList_load_mid rfl 25 _ rfl w.heap.size 0 rfl (hartL h) _ rh hu rfl (size_hart _) ?_) | (go_at_call 6; refine (lives_any _ (ht.later hB0.bl (Nat.le_refl _))).mono ?_; rintro e w1 ⟨rfl, hb1⟩; have hB := hB0.keep hb1; clear hB0 hb1; obtain ⟨rh, ri, x33, c0, c1, c2, c3, c4, c5, c6, c7, c8⟩ := hB.facts) | (go_at_call 7; refine (hE.out _).mono ?_; rintro e w2 ⟨rfl, hb2⟩; replace hB := hB.keep hb2; clear hb2 rh ri x33 c0 c1 c2 c3 c4 c5 c6 c7 c8; obtain ⟨rh, ri, x33, c0, c1, c2, c3, c4, c5, c6, c7, c8⟩ := hB.facts) | (go_at_call 8; refine (hR.out _).mono ?_; rintro e w3 ⟨rfl, hb3⟩; replace hB := hB.keep hb3; clear hb3 rh ri x33 c0 c1 c2 c3 c4 c5 c6 c7 c8; obtain ⟨rh, ri, x33, c0, c1, c2, c3, c4, c5, c6, c7, c8⟩ := hB.facts) | (go_at_call 11; refine (hPk.out _).mono ?_; rintro e wp ⟨rfl, rfl⟩))
  refine wp_region_held_drew (S := fun W => BK w h ⟨op, d, r1, r2, imm, aq, rl, pred, succ⟩ W) (by kernel_rfl) hB.drew (fun hHeld => ?_)
  refine wpAnyH_take (i := 0) rfl (by kernel_rfl) (by kernel_rfl) (by kernel_rfl) (fun _ _ _ h => h) (yieldsIf_load_mid (by rfl) _ _ rfl (w.heap.size + 1) 0 rfl (InsnV.cells ⟨op, d, r1, r2, imm, aq, rl, pred, succ⟩).toList _ (fun W hS => insn_range (fun j hj => by rw [Nat.zero_add]; exact hS.c j hj)) hu2 rfl hi2) hHeld ?_
  try simp only [Act.put, List.getElem_toArray, List.getElem_cons_zero, List.setIfInBounds_toArray, List.set_cons_zero, List.set_cons_succ]
  refine wpAnyH_take (i := 2) rfl (by kernel_rfl) (by kernel_rfl) (by kernel_rfl) (fun _ _ _ h => h) (yieldsIf_load_mid (by rfl) _ _ rfl (w.heap.size + 1) 0 rfl (InsnV.cells ⟨op, d, r1, r2, imm, aq, rl, pred, succ⟩).toList _ (fun W hS => insn_range (fun j hj => by rw [Nat.zero_add]; exact hS.c j hj)) hu2 rfl hi2) hHeld ?_
  try simp only [Act.put, List.getElem_toArray, List.getElem_cons_succ, List.getElem_cons_zero, List.setIfInBounds_toArray, List.set_cons_zero, List.set_cons_succ]
  refine wpAnyH_ready (rs := [1]) (by kernel_rfl) (by simp) (AllReadyH.cons rfl (fun K hK2 => ?_) AllReadyH.nil)
  rw [if_pos (by rfl)]
  simp only [List.getElem_toArray, List.getElem_cons_succ, List.getElem_cons_zero]
  go_wp2_with (go_at_call 12; refine (hRd.out _).mono ?_; rintro e wa ⟨⟨vs, rfl, hown⟩, hba⟩)
  replace hown := ownsRow_low hown hHeld.bl.size
  refine hK2.out _ _ (hHeld.keep hba) (fun hHeld2 => ?_)
  clear hK2 K hHeld
  have hHeld := hHeld2
  clear hHeld2
  try simp only [Act.put, List.getElem_toArray, List.getElem_cons_succ, List.getElem_cons_zero, List.setIfInBounds_toArray, List.set_cons_zero, List.set_cons_succ]
  refine wpAnyH_ready (rs := [3]) (by kernel_rfl) (by simp) (AllReadyH.cons rfl (fun K hK2 => ?_) AllReadyH.nil)
  rw [if_pos (by rfl)]
  simp only [List.getElem_toArray, List.getElem_cons_succ, List.getElem_cons_zero]
  go_wp2_with (go_at_call 13; refine (hWr.out _).mono ?_; rintro e wb ⟨rfl, hbb⟩)
  replace hown := ownsRow_keep hown hbb
  refine hK2.out _ _ (hHeld.keep hbb) (fun hHeld2 => ?_)
  clear hK2 K hHeld
  have hHeld := hHeld2
  clear hHeld2
  try simp only [Act.put, List.getElem_toArray, List.getElem_cons_succ, List.getElem_cons_zero, List.setIfInBounds_toArray, List.set_cons_zero, List.set_cons_succ]
  refine wpAnyH_take (i := 4) (v := vs) rfl (by kernel_rfl) (by kernel_rfl) (by kernel_rfl) (fun _ _ _ h => h) (Or.inl ⟨by rfl, fun W _ => by kernel_rfl⟩) hHeld ?_
  try simp only [Act.put, List.getElem_toArray, List.getElem_cons_succ, List.getElem_cons_zero, List.setIfInBounds_toArray, List.set_cons_zero, List.set_cons_succ]
  refine wpAnyH_take (i := 5) (v := .int .i64 d) rfl (by kernel_rfl) (by kernel_rfl) (by kernel_rfl) (fun _ _ _ h => h) (Or.inl ⟨by rfl, fun W _ => by kernel_rfl⟩) hHeld ?_
  try simp only [Act.put, List.getElem_toArray, List.getElem_cons_succ, List.getElem_cons_zero, List.setIfInBounds_toArray, List.set_cons_zero, List.set_cons_succ]
  refine wpAnyH_done (by kernel_rfl) ?_ _
  have hB := hHeld
  clear hHeld hba hbb
  obtain ⟨ao, cap, rfl⟩ := own_slice hown
  obtain ⟨L, hLd⟩ : ∃ L, L = readsL ⟨op, d, r1, r2, imm, aq, rl, pred, succ⟩ := ⟨_, rfl⟩
  rw [← hLd] at hown ⊢
  have hLn : L.length ≤ 31 := by rw [hLd]; exact readsL_len _
  replace hLd := Lib.hid hLd
  obtain ⟨rh, ri, x33, c0, c1, c2, c3, c4, c5, c6, c7, c8⟩ := hB.facts
  go_upto_region 8 with (first | (refine wpList_load_mid rfl 25 _ rfl w.heap.size 0 rfl (hartL h) _ (hart_range hB.h) hu rfl (size_hart _) ?_) | (go_at_call 9; refine (hSx.out _ (ht.later hB.bl (Nat.le_refl _))).mono ?_; rintro e s ⟨rfl, hs⟩; replace hB := hB.keep hs; replace hown := ownsRow_keep hown hs) | (refine wpList_store_mid rfl 25 _ _ rfl s.heap.size 0 (hartL x).toArray rfl rfl (there_hart (zeros_there s 25) _) (size_hartA _) (hartL_one _) ?_))
  obtain ⟨hst, hX, lt1, -⟩ := stored_hart s x 25
  replace hB := hB.keep hst
  replace hown := ownsRow_keep hown hst
  generalize World.setCells _ s.heap.size 0 (hartL x) = u1 at hst hX lt1 hB hown ⊢
  generalize s.heap.size = a1 at *
  clear hst hs rh ri x33 c0 c1 c2 c3 c4 c5 c6 c7 c8
  obtain ⟨rh, ri, x33, c0, c1, c2, c3, c4, c5, c6, c7, c8⟩ := hB.facts
  go_upto_region 9 with (first | (refine wpList_load_mid rfl 25 _ rfl w.heap.size 0 rfl (hartL h) _ (hart_range hB.h) hu rfl (size_hart _) ?_) | (go_at_call 14; refine (hAx.out _ (ht.later hB.bl (Nat.le_refl _))).mono ?_; rintro e s2 ⟨rfl, hs2⟩; replace hB := hB.keep hs2; replace hown := ownsRow_keep hown hs2; replace hX := hX.keep lt1 hs2; replace lt1 := Nat.lt_of_lt_of_le lt1 hs2.size) | (refine wpList_store_mid rfl 42 _ _ rfl s2.heap.size 0 a.cells rfl rfl (ask_there (fresh_ask s2 42) a) (ask_size a) (ask_one a) ?_))
  obtain ⟨hst, hAr, lt2⟩ := stored_ask s2 a 42
  replace hB := hB.keep hst
  replace hown := ownsRow_keep hown hst
  replace hX := hX.keep lt1 hst
  replace lt1 := Nat.lt_of_lt_of_le lt1 hst.size
  generalize World.setCells _ s2.heap.size 0 a.cells.toList = u2 at hst hX lt1 hB hown hAr lt2 ⊢
  generalize s2.heap.size = a2 at *
  clear hst hs2 rh ri x33 c0 c1 c2 c3 c4 c5 c6 c7 c8
  have y1 : u2.cell? ⟨a1, 1, none⟩ = some (.int .u64 0) := (hX 1 (by decide)).trans (congrArg some (congrArg (Value.int .u64) hx0.out))
  go_wp2_with (first | (refine wpList_load_want (by rfl) 25 _ rfl a1 0 rfl (hartL x) _ hX.range hu rfl (size_hart _) ?_) | (go_at_call 7; refine (hEx.out _).mono ?_; rintro e s3 ⟨rfl, hs3⟩; replace hB := hB.keep hs3; replace hown := ownsRow_keep hown hs3; replace hX := hX.keep lt1 hs3; replace hAr := range_keep hAr lt2 hs3; replace lt1 := Nat.lt_of_lt_of_le lt1 hs3.size; replace lt2 := Nat.lt_of_lt_of_le lt2 hs3.size))
  go_loopw [19] (fun i wr => ∃ k : Nat, k ≤ 32 ∧ i = .int .i64 k ∧ Below s3.heap.size s3 wr) (fun i _ => 32 - (intOf i).toNat)
  case atStart => exact ⟨0, Nat.zero_le _, rfl, Below.refl _ _⟩
  case round =>
    obtain ⟨k, hk, rfl, hb⟩ := hrel
    replace hB := hB.keep hb
    replace hown := ownsRow_keep hown hb
    replace hX := hX.keep lt1 hb
    replace hAr := range_keep hAr lt2 hb
    replace lt1 := Nat.lt_of_lt_of_le lt1 hb.size
    replace lt2 := Nat.lt_of_lt_of_le lt2 hb.size
    by_cases hlt : k < 32
    · have xk : wr.cell? ⟨a1, 1 + k, none⟩ = some (.int .u64 (un (x.x k))) := (hX (1 + k) (by omega)).trans (congrArg some (hartCell_x x k hlt))
      have hk1 : wr.cell? ⟨w.heap.size, 1 + k, none⟩ = some (.int .u64 (un (h.x k))) := (hB.h (1 + k) (by omega)).trans (congrArg some (hartCell_x h k hlt))
      have hlk : 0 ≤ (k : Int) ∧ (k : Int) < 32 := by omega
      have y33 : wr.cell? ⟨a1, 33, none⟩ = some (.int .i64 x.fin) := hX 33 (by decide)
      have hq := hxr.out k (.inr hxf.out)
      rw [hq] at xk
      clear hq
      have tx : (x.fin != 0) = true := by simpa using hxf.out
      by_cases e : (k : Int) = d
      · have te : ((k : Int) != (d : Int)) = false := by rw [e]; simp
        have te2 : (k != d) = false := by simp; omega
        clear e
        go_wp2_with fail
        go_quiet (fail)
        go_wp2
        go_roundw
        case rel => exact ⟨k + 1, by omega, by go_num, hb.trans ⟨rfl, rfl, rfl, Nat.le_refl _, fun _ _ => rfl⟩⟩
        case measure => simp [intOf]; omega
      · have te : ((k : Int) != (d : Int)) = true := by simp; omega
        have te2 : (k != d) = true := by simp; omega
        clear e
        go_wp2_with fail
        go_quiet (fail)
        go_wp2
        go_roundw
        case rel => exact ⟨k + 1, by omega, by go_num, hb.trans ⟨rfl, rfl, rfl, Nat.le_refl _, fun _ _ => rfl⟩⟩
        case measure => simp [intOf]; omega
    · obtain rfl : k = 32 := by omega
      clear hlt hk
      go_wp2_with fail
      go_loop [20] (fun i => ∃ k : Nat, k ≤ L.length ∧ i = .int .i64 k ∧ Hid (∀ j, j < k → L.getD j 0 ≠ (r : Int))) (fun i => L.length - (intOf i).toNat)
      case atStart => exact ⟨0, Nat.zero_le _, rfl, Lib.hid fun j hj => absurd hj (Nat.not_lt_zero j)⟩
      case round =>
        obtain ⟨k, hk, rfl, hno⟩ := hrel
        by_cases hlt : k < L.length
        · obtain ⟨g, hg, ck⟩ := own_cell hown k hlt
          subst hg
          have hlk : 0 ≤ (k : Int) ∧ (k : Int) < (L.length : Int) := by omega
          have hlb : decide ((k : Int) < (L.length : Int)) = true := by simp; exact hlt
          have hlb2 : decide (k < L.length) = true := by simp; exact hlt
          by_cases e : L.getD k 0 = (r : Int)
          · rw [e] at ck
            clear e
            go_wp2_with fail
            go_ret
            exact ⟨rfl, hB.bl⟩
          · have hno2 : Hid (∀ j, j < k + 1 → L.getD j 0 ≠ (r : Int)) := Lib.hid fun j hj => by
              rcases Nat.lt_or_ge j k with h1 | h1
              · exact hno.out j h1
              · rw [show j = k by omega]; exact e
            generalize L.getD k 0 = q at ck e
            have te : (q == (r : Int)) = false := by rw [beq_eq_false_iff_ne]; exact e
            clear e
            go_wp2_with fail
            go_round
            case rel => exact ⟨k + 1, by omega, by go_num, hno2⟩
            case measure => simp [intOf]; omega
        · obtain rfl : k = L.length := by omega
          have hun := unread_of ⟨op, d, r1, r2, imm, aq, rl, pred, succ⟩ hc0.out r hr1' hr32 (by rw [← hLd.out]; exact not_mem_of hno.out)
          clear hno hlt hk hown
          have hub := Lib.hid hun
          have hAa : askR (h.set r v) ⟨op, d, r1, r2, imm, aq, rl, pred, succ⟩ = a := (askR_set v hun).trans had.out
          obtain ⟨e1, e2, e3, e4, e5, e6⟩ := step_same (h := h) (i := ⟨op, d, r1, r2, imm, aq, rl, pred, succ⟩) v found won hun (Int.natCast_nonneg d)
          have hOe : hartE (h.set r v) = 0 := by have hb0 := hb0.out; unfold hartE at hb0 ⊢; rw [set_x v (show (0 : Nat) ≠ r by omega)]; exact hb0
          have hOf : (h.set r v).fin = 0 := hf0.out
          obtain ⟨o, hod⟩ : ∃ o, o = h.set r v := ⟨_, rfl⟩
          obtain ⟨y, hyd⟩ : ∃ y, y = stepV (h.set r v) ⟨op, d, r1, r2, imm, aq, rl, pred, succ⟩ found won := ⟨_, rfl⟩
          rw [← hyd, hxd.out] at e1 e2 e3 e5
          rw [← hyd] at e4 e6
          simp only [hxd.out] at e4
          rw [← hod] at hAa hOe hOf hyd
          have hSy : Hid (∀ W, Tabs W → Calls Tryz.prog 9 #[.agg (hartL o).toArray, .agg #[.int .i64 op, .int .i64 d, .int .i64 r1, .int .i64 r2, .int .i64 imm, .bool aq, .bool rl, .int .i64 pred, .int .i64 succ], .int .u64 (un found), .bool won] W fun e w' => e = .returned (.tuple #[.agg (hartL y).toArray, .int .i64 0]) ∧ Below W.heap.size W w') := Lib.hid fun W hT => by rw [hyd]; exact Step_any o ⟨op, d, r1, r2, imm, aq, rl, pred, succ⟩ found won W hT hop hOe hOf hc0.out
          have hAy : Hid (∀ W, Tabs W → Calls Tryz.prog 14 #[.agg (hartL o).toArray, .agg #[.int .i64 op, .int .i64 d, .int .i64 r1, .int .i64 r2, .int .i64 imm, .bool aq, .bool rl, .int .i64 pred, .int .i64 succ]] W fun e w' => e = .returned (.tuple #[.agg a.cells, .int .i64 0]) ∧ Below W.heap.size W w') := Lib.hid fun W hT => by rw [← hAa]; exact HAsk_any o ⟨op, d, r1, r2, imm, aq, rl, pred, succ⟩ W hT hop hOe hOf hc0.out
          have hneq := ask_neq a
          have hfy : y.fin = x.fin := e2
          clear hAa hOe hOf e2 hyd had
          replace hod := Lib.hid hod
          replace e4 := Lib.hid e4
          replace e5 := Lib.hid e5
          replace e6 := Lib.hid e6
          replace e1 := Lib.hid e1
          replace e3 := Lib.hid e3
          replace hfy := Lib.hid hfy
          clear hSx hAx hEx hRd hWr hE hR hPk hLd hxr
          clear y1 hun hs3 hb hLn hwr
          go_upto_region 22 with (first | (refine wpList_load_mid rfl 25 _ rfl w.heap.size 0 rfl (hartL h) _ (hart_range hB.h) hu rfl (size_hart _) ?_) | (refine wpList_store_mid rfl 25 _ _ rfl wr.heap.size 0 (hartL h).toArray rfl rfl (there_hart (zeros_there wr 25) _) (size_hartA _) (hartL_one _) ?_))
          obtain ⟨hst, hO, lt3, hth⟩ := stored_hart wr h 25
          have l13 := lt1
          have l23 := lt2
          have ln3 := hB.sz
          replace hB := hB.keep hst
          replace hX := hX.keep lt1 hst
          replace hAr := range_keep hAr lt2 hst
          replace lt1 := Nat.lt_of_lt_of_le lt1 hst.size
          replace lt2 := Nat.lt_of_lt_of_le lt2 hst.size
          generalize World.setCells _ wr.heap.size 0 (hartL h) = u5 at hst hX lt1 hB hAr lt2 hO lt3 hth ⊢
          generalize wr.heap.size = a3 at hst hO lt3 hth l13 l23 ln3 ⊢
          clear hst
          have q3 : u5.cell? ⟨a3, 1 + r, none⟩ = some (.int .u64 (un (h.x r))) := (hO (1 + r) (by omega)).trans (congrArg some (hartCell_x h r hr32))
          have fz3 : u5.frozen? ⟨a3, 1 + r, none⟩ = false := by have := (hth (1 + r) (by omega)).2; rw [Nat.zero_add] at this; exact this
          have hlr : 0 ≤ (r : Int) ∧ (r : Int) < 32 := by omega
          go_upto_region 23 with fail
          have hset : Below a3 u5 (u5.setCell ⟨a3, 1 + r, none⟩ (.int .u64 (un v))) := (Below.refl a3 u5).setCell (p := ⟨a3, 1 + r, none⟩) (Nat.le_refl a3) _
          replace hB := hB.keepB hset ln3
          replace hX := hX.keep l13 hset
          replace hAr := range_keep hAr l23 hset
          replace hO := hO.setX r hr32 v
          rw [← hod.out] at hO
          replace lt1 := Nat.lt_of_lt_of_le lt1 hset.size
          replace lt2 := Nat.lt_of_lt_of_le lt2 hset.size
          replace lt3 := Nat.lt_of_lt_of_le lt3 hset.size
          clear hth q3 fz3
          generalize World.setCell _ _ _ = u6 at hset hB hX hAr hO lt1 lt2 lt3 ⊢
          clear hset
          obtain ⟨rh, ri, x33, c0, c1, c2, c3, c4, c5, c6, c7, c8⟩ := hB.facts
          go_upto_region 24 with (first | (refine wpList_load_mid rfl 25 _ rfl a3 0 rfl (hartL o) _ hO.range hu rfl (size_hart _) ?_) | (go_at_call 9; refine (hSy.out _ (ht.later hB.bl (Nat.le_refl _))).mono ?_; rintro e s5 ⟨rfl, hb5⟩; replace hB := hB.keep hb5; replace hX := hX.keep lt1 hb5; replace hAr := range_keep hAr lt2 hb5; replace hO := hO.keep lt3 hb5; replace lt1 := Nat.lt_of_lt_of_le lt1 hb5.size; replace lt2 := Nat.lt_of_lt_of_le lt2 hb5.size; replace lt3 := Nat.lt_of_lt_of_le lt3 hb5.size) | (refine wpList_store_mid rfl 25 _ _ rfl s5.heap.size 0 (hartL y).toArray rfl rfl (there_hart (zeros_there s5 25) _) (size_hartA _) (hartL_one _) ?_))
          obtain ⟨hst, hY, lt4, -⟩ := stored_hart s5 y 25
          replace hB := hB.keep hst
          replace hX := hX.keep lt1 hst
          replace hAr := range_keep hAr lt2 hst
          replace hO := hO.keep lt3 hst
          replace lt1 := Nat.lt_of_lt_of_le lt1 hst.size
          replace lt2 := Nat.lt_of_lt_of_le lt2 hst.size
          replace lt3 := Nat.lt_of_lt_of_le lt3 hst.size
          generalize World.setCells _ s5.heap.size 0 (hartL y) = u7 at hst hB hX hAr hO hY lt1 lt2 lt3 lt4 ⊢
          generalize s5.heap.size = a4 at hst hY lt4 ⊢
          clear hst hb5
          clear rh ri x33 c0 c1 c2 c3 c4 c5 c6 c7 c8
          obtain ⟨rh, ri, x33, c0, c1, c2, c3, c4, c5, c6, c7, c8⟩ := hB.facts
          go_upto_region 25 with (first | (refine wpList_load_mid rfl 25 _ rfl a3 0 rfl (hartL o) _ hO.range hu rfl (size_hart _) ?_) | (go_at_call 14; refine (hAy.out _ (ht.later hB.bl (Nat.le_refl _))).mono ?_; rintro e s6 ⟨rfl, hb6⟩; replace hB := hB.keep hb6; replace hX := hX.keep lt1 hb6; replace hAr := range_keep hAr lt2 hb6; replace hO := hO.keep lt3 hb6; replace hY := hY.keep lt4 hb6; replace lt1 := Nat.lt_of_lt_of_le lt1 hb6.size; replace lt2 := Nat.lt_of_lt_of_le lt2 hb6.size; replace lt3 := Nat.lt_of_lt_of_le lt3 hb6.size; replace lt4 := Nat.lt_of_lt_of_le lt4 hb6.size) | (refine wpList_store_mid rfl 42 _ _ rfl s6.heap.size 0 a.cells rfl rfl (ask_there (fresh_ask s6 42) a) (ask_size a) (ask_one a) ?_))
          obtain ⟨hst, hAr2, lt5⟩ := stored_ask s6 a 42
          replace hB := hB.keep hst
          replace hX := hX.keep lt1 hst
          replace hAr := range_keep hAr lt2 hst
          replace hO := hO.keep lt3 hst
          replace hY := hY.keep lt4 hst
          replace lt1 := Nat.lt_of_lt_of_le lt1 hst.size
          replace lt2 := Nat.lt_of_lt_of_le lt2 hst.size
          replace lt3 := Nat.lt_of_lt_of_le lt3 hst.size
          replace lt4 := Nat.lt_of_lt_of_le lt4 hst.size
          generalize World.setCells _ s6.heap.size 0 a.cells.toList = u8 at hst hB hX hAr hO hY hAr2 lt1 lt2 lt3 lt4 lt5 ⊢
          generalize s6.heap.size = a5 at hst hAr2 lt5 ⊢
          clear hst hb6
          clear rh ri x33 c0 c1 c2 c3 c4 c5 c6 c7 c8
          have hneq2 : ∀ W, (binOp .neq 42 (.agg a.cells.toList.toArray) (.agg a.cells.toList.toArray)).run Tryz.prog W = .ok (.bool false) W := fun W => by rw [Array.toArray_toList]; exact hneq W
          have hcz := ask_sizeL a
          generalize a.cells.toList = cl at hAr hAr2 hneq2 hcz
          clear hneq
          replace hneq2 := Lib.hid hneq2
          replace hcz := Lib.hid hcz
          have px0 : u8.cell? ⟨a1, 0, none⟩ = some (.int .u64 (un x.pc)) := hX 0 (by decide)
          have py0 : u8.cell? ⟨a4, 0, none⟩ = some (.int .u64 (un x.pc)) := (hY 0 (by decide)).trans (congrArg some (congrArg (fun z => Value.int .u64 (un z)) e1.out))
          have px33 : u8.cell? ⟨a1, 33, none⟩ = some (.int .i64 x.fin) := hX 33 (by decide)
          have py33 : u8.cell? ⟨a4, 33, none⟩ = some (.int .i64 x.fin) := (hY 33 (by decide)).trans (congrArg some (congrArg (Value.int .i64) hfy.out))
          have px34 : u8.cell? ⟨a1, 34, none⟩ = some (.int .u64 (un x.code)) := hX 34 (by decide)
          have py34 : u8.cell? ⟨a4, 34, none⟩ = some (.int .u64 (un x.code)) := (hY 34 (by decide)).trans (congrArg some (congrArg (fun z => Value.int .u64 (un z)) e3.out))
          clear hi2 hu2 hub hSy hAy hb0 hc0 hxd hop
          refine wp_region_lit ?_
          refine wpList_yields (S := fun W => W = u8) (v := .int .i64 0) (Or.inl ⟨by rfl, fun W _ => by kernel_rfl⟩) rfl ?_
          try simp only [Act.put, List.setIfInBounds_toArray, List.set_cons_zero, List.set_cons_succ]
          refine wpList_yields (S := fun W => W = u8) (v := .bool false) (Or.inl ⟨by rfl, fun W _ => by kernel_rfl⟩) rfl ?_
          try simp only [Act.put, List.setIfInBounds_toArray, List.set_cons_zero, List.set_cons_succ]
          refine wpList_yields (S := fun W => W = u8) (v := .bool false) (Or.inl ⟨by rfl, fun W _ => by kernel_rfl⟩) rfl ?_
          try simp only [Act.put, List.setIfInBounds_toArray, List.set_cons_zero, List.set_cons_succ]
          refine wpList_yields (S := fun W => W = u8) (v := .int .i64 0) (Or.inl ⟨by rfl, fun W _ => by kernel_rfl⟩) rfl ?_
          try simp only [Act.put, List.setIfInBounds_toArray, List.set_cons_zero, List.set_cons_succ]
          refine wpList_yields (S := fun W => W = u8) (v := .bool false) (Or.inl ⟨by rfl, fun W _ => by kernel_rfl⟩) rfl ?_
          try simp only [Act.put, List.setIfInBounds_toArray, List.set_cons_zero, List.set_cons_succ]
          refine wpList_yields (S := fun W => W = u8) (v := .bool false) (Or.inl ⟨by rfl, fun W _ => by kernel_rfl⟩) rfl ?_
          try simp only [Act.put, List.setIfInBounds_toArray, List.set_cons_zero, List.set_cons_succ]
          refine wpList_yields (S := fun W => W = u8) (v := .bool false) (Or.inl ⟨by rfl, fun W _ => by kernel_rfl⟩) rfl ?_
          try simp only [Act.put, List.setIfInBounds_toArray, List.set_cons_zero, List.set_cons_succ]
          refine wpList_yields (S := fun W => W = u8) (v := .agg cl.toArray) (yieldsIf_load_mid (by rfl) 42 _ rfl a2 0 rfl cl _ (fun W hS => by rw [hS]; exact hAr) hua rfl hcz.out) rfl ?_
          try simp only [Act.put, List.setIfInBounds_toArray, List.set_cons_zero, List.set_cons_succ]
          refine wpList_yields (S := fun W => W = u8) (v := .agg cl.toArray) (yieldsIf_load_mid (by rfl) 42 _ rfl a5 0 rfl cl _ (fun W hS => by rw [hS]; exact hAr2) hua rfl hcz.out) rfl ?_
          try simp only [Act.put, List.setIfInBounds_toArray, List.set_cons_zero, List.set_cons_succ]
          refine wpList_yields (S := fun W => W = u8) (v := .bool false) (yieldsIf_neq_ask (by rfl) _ _ _ rfl cl.toArray rfl rfl hneq2.out) rfl ?_
          try simp only [Act.put, List.setIfInBounds_toArray, List.set_cons_zero, List.set_cons_succ]
          refine wpList_yields (S := fun W => W = u8) (v := .bool false) (Or.inl ⟨by rfl, fun W _ => by kernel_rfl⟩) rfl ?_
          try simp only [Act.put, List.setIfInBounds_toArray, List.set_cons_zero, List.set_cons_succ]
          refine wpList_yields (S := fun W => W = u8) (v := .bool false) (Or.inl ⟨by rfl, fun W _ => by kernel_rfl⟩) rfl ?_
          try simp only [Act.put, List.setIfInBounds_toArray, List.set_cons_zero, List.set_cons_succ]
          refine wpList_yields (S := fun W => W = u8) (v := .pointer (some ⟨a4, 0, none⟩)) (Or.inl ⟨by rfl, fun W _ => by kernel_rfl⟩) rfl ?_
          try simp only [Act.put, List.setIfInBounds_toArray, List.set_cons_zero, List.set_cons_succ]
          refine wpList_yields (S := fun W => W = u8) (v := .int .u64 (un x.pc)) (Or.inl ⟨by rfl, fun W hS => by (have k : W.cell? ⟨a4, 0, none⟩ = some (.int .u64 (un x.pc)) := by rw [hS]; exact py0); go_simp⟩) rfl ?_
          try simp only [Act.put, List.setIfInBounds_toArray, List.set_cons_zero, List.set_cons_succ]
          refine wpList_yields (S := fun W => W = u8) (v := .pointer (some ⟨a1, 0, none⟩)) (Or.inl ⟨by rfl, fun W _ => by kernel_rfl⟩) rfl ?_
          try simp only [Act.put, List.setIfInBounds_toArray, List.set_cons_zero, List.set_cons_succ]
          refine wpList_yields (S := fun W => W = u8) (v := .int .u64 (un x.pc)) (Or.inl ⟨by rfl, fun W hS => by (have k : W.cell? ⟨a1, 0, none⟩ = some (.int .u64 (un x.pc)) := by rw [hS]; exact px0); go_simp⟩) rfl ?_
          try simp only [Act.put, List.setIfInBounds_toArray, List.set_cons_zero, List.set_cons_succ]
          refine wpList_yields (S := fun W => W = u8) (v := .bool false) (Or.inl ⟨by rfl, fun W _ => by go_simp⟩) rfl ?_
          try simp only [Act.put, List.setIfInBounds_toArray, List.set_cons_zero, List.set_cons_succ]
          refine wpList_yields (S := fun W => W = u8) (v := .bool false) (Or.inl ⟨by rfl, fun W _ => by kernel_rfl⟩) rfl ?_
          try simp only [Act.put, List.setIfInBounds_toArray, List.set_cons_zero, List.set_cons_succ]
          refine wpList_yields (S := fun W => W = u8) (v := .bool false) (Or.inl ⟨by rfl, fun W _ => by kernel_rfl⟩) rfl ?_
          try simp only [Act.put, List.setIfInBounds_toArray, List.set_cons_zero, List.set_cons_succ]
          refine wpList_yields (S := fun W => W = u8) (v := .pointer (some ⟨a4, 33, none⟩)) (Or.inl ⟨by rfl, fun W _ => by kernel_rfl⟩) rfl ?_
          try simp only [Act.put, List.setIfInBounds_toArray, List.set_cons_zero, List.set_cons_succ]
          refine wpList_yields (S := fun W => W = u8) (v := .int .i64 x.fin) (Or.inl ⟨by rfl, fun W hS => by (have k : W.cell? ⟨a4, 33, none⟩ = some (.int .i64 x.fin) := by rw [hS]; exact py33); go_simp⟩) rfl ?_
          try simp only [Act.put, List.setIfInBounds_toArray, List.set_cons_zero, List.set_cons_succ]
          refine wpList_yields (S := fun W => W = u8) (v := .pointer (some ⟨a1, 33, none⟩)) (Or.inl ⟨by rfl, fun W _ => by kernel_rfl⟩) rfl ?_
          try simp only [Act.put, List.setIfInBounds_toArray, List.set_cons_zero, List.set_cons_succ]
          refine wpList_yields (S := fun W => W = u8) (v := .int .i64 x.fin) (Or.inl ⟨by rfl, fun W hS => by (have k : W.cell? ⟨a1, 33, none⟩ = some (.int .i64 x.fin) := by rw [hS]; exact px33); go_simp⟩) rfl ?_
          try simp only [Act.put, List.setIfInBounds_toArray, List.set_cons_zero, List.set_cons_succ]
          refine wpList_yields (S := fun W => W = u8) (v := .bool false) (Or.inl ⟨by rfl, fun W _ => by go_simp⟩) rfl ?_
          try simp only [Act.put, List.setIfInBounds_toArray, List.set_cons_zero, List.set_cons_succ]
          refine wpList_yields (S := fun W => W = u8) (v := .bool false) (Or.inl ⟨by rfl, fun W _ => by kernel_rfl⟩) rfl ?_
          try simp only [Act.put, List.setIfInBounds_toArray, List.set_cons_zero, List.set_cons_succ]
          refine wpList_yields (S := fun W => W = u8) (v := .bool false) (Or.inl ⟨by rfl, fun W _ => by kernel_rfl⟩) rfl ?_
          try simp only [Act.put, List.setIfInBounds_toArray, List.set_cons_zero, List.set_cons_succ]
          refine wpList_yields (S := fun W => W = u8) (v := .pointer (some ⟨a4, 34, none⟩)) (Or.inl ⟨by rfl, fun W _ => by kernel_rfl⟩) rfl ?_
          try simp only [Act.put, List.setIfInBounds_toArray, List.set_cons_zero, List.set_cons_succ]
          refine wpList_yields (S := fun W => W = u8) (v := .int .u64 (un x.code)) (Or.inl ⟨by rfl, fun W hS => by (have k : W.cell? ⟨a4, 34, none⟩ = some (.int .u64 (un x.code)) := by rw [hS]; exact py34); go_simp⟩) rfl ?_
          try simp only [Act.put, List.setIfInBounds_toArray, List.set_cons_zero, List.set_cons_succ]
          refine wpList_yields (S := fun W => W = u8) (v := .pointer (some ⟨a1, 34, none⟩)) (Or.inl ⟨by rfl, fun W _ => by kernel_rfl⟩) rfl ?_
          try simp only [Act.put, List.setIfInBounds_toArray, List.set_cons_zero, List.set_cons_succ]
          refine wpList_yields (S := fun W => W = u8) (v := .int .u64 (un x.code)) (Or.inl ⟨by rfl, fun W hS => by (have k : W.cell? ⟨a1, 34, none⟩ = some (.int .u64 (un x.code)) := by rw [hS]; exact px34); go_simp⟩) rfl ?_
          try simp only [Act.put, List.setIfInBounds_toArray, List.set_cons_zero, List.set_cons_succ]
          refine wpList_yields (S := fun W => W = u8) (v := .bool false) (Or.inl ⟨by rfl, fun W _ => by go_simp⟩) rfl ?_
          try simp only [Act.put, List.setIfInBounds_toArray, List.set_cons_zero, List.set_cons_succ]
          refine wpList_yields (S := fun W => W = u8) (v := .bool false) (Or.inl ⟨by rfl, fun W _ => by kernel_rfl⟩) rfl ?_
          try simp only [Act.put, List.setIfInBounds_toArray, List.set_cons_zero, List.set_cons_succ]
          refine wpList_nil ?_
          go_upto_region 27 with fail
          have hy0 : y.fin ≠ 0 := fun e => hxf.out (hfy.out.symm.trans e)
          have tf1 : (y.fin == 0) = false := by rw [beq_eq_false_iff_ne]; exact hy0
          have tf2 : (y.fin != 0) = true := by simpa using hy0
          replace hy0 := Lib.hid hy0
          have hvr : r ≠ d ∨ y.fin ≠ 0 → ∀ W, HC a4 y W → W.cell? ⟨a4, 1 + r, none⟩ = some (.int .u64 (un v)) := fun hne W hW => (hW (1 + r) (by omega)).trans (congrArg some ((hartCell_x y r hr32).trans (congrArg (fun z => Value.int .u64 (un z)) (e6.out (hne.imp (fun e e2 => e (by have e2 : (r : Int) = (d : Int) := e2; omega)) id) hf0.out))))
          clear px0 py0 px33 py33 px34 py34 hAr hAr2 hneq2 hcz hua hO lt1 lt2 lt3 lt4 lt5
          by_cases e : r = d
          · subst e
            replace hvr := hvr (.inr hy0.out)
            have td0 : ((r : Int) == 0) = false := by rw [beq_eq_false_iff_ne]; omega
            have td1 : (r == 0) = false := by rw [beq_eq_false_iff_ne]; omega
            have hSS := And.intro hY (And.intro hX hB)
            refine wp_region_held_drew (S := fun W => HC a4 y W ∧ HC a1 x W ∧ BK w h ⟨op, r, r1, r2, imm, aq, rl, pred, succ⟩ W) (by kernel_rfl) ⟨hSS.1, hSS.2.1, hSS.2.2.drew⟩ (fun hHeld => ?_)
            refine wpAnyH_take (i := 0) (v := .int .i64 r) rfl (by kernel_rfl) (by kernel_rfl) (by kernel_rfl) (fun _ _ _ h => h) (Or.inl ⟨by rfl, fun W _ => by kernel_rfl⟩) hHeld ?_
            try simp only [Act.put, List.getElem_toArray, List.getElem_cons_zero, List.setIfInBounds_toArray, List.set_cons_zero, List.set_cons_succ]
            refine wpAnyH_take (i := 1) (v := .int .i64 r) rfl (by kernel_rfl) (by kernel_rfl) (by kernel_rfl) (fun _ _ _ h => h) (Or.inl ⟨by rfl, fun W _ => by kernel_rfl⟩) hHeld ?_
            try simp only [Act.put, List.getElem_toArray, List.getElem_cons_succ, List.getElem_cons_zero, List.setIfInBounds_toArray, List.set_cons_zero, List.set_cons_succ]
            refine wpAnyH_take (i := 2) (v := .bool true) rfl (by kernel_rfl) (by kernel_rfl) (by kernel_rfl) (fun _ _ _ h => h) (Or.inl ⟨by rfl, fun W _ => by go_simp⟩) hHeld ?_
            try simp only [Act.put, List.getElem_toArray, List.getElem_cons_succ, List.getElem_cons_zero, List.setIfInBounds_toArray, List.set_cons_zero, List.set_cons_succ]
            refine wpAnyH_take (i := 3) (v := .bool true) rfl (by kernel_rfl) (by kernel_rfl) (by kernel_rfl) (fun _ _ _ h => h) (Or.inl ⟨by rfl, fun W _ => by kernel_rfl⟩) hHeld ?_
            try simp only [Act.put, List.getElem_toArray, List.getElem_cons_succ, List.getElem_cons_zero, List.setIfInBounds_toArray, List.set_cons_zero, List.set_cons_succ]
            refine wpAnyH_take (i := 4) (v := .pointer (some ⟨a4, 33, none⟩)) rfl (by kernel_rfl) (by kernel_rfl) (by kernel_rfl) (fun _ _ _ h => h) (Or.inl ⟨by rfl, fun W _ => by kernel_rfl⟩) hHeld ?_
            try simp only [Act.put, List.getElem_toArray, List.getElem_cons_succ, List.getElem_cons_zero, List.setIfInBounds_toArray, List.set_cons_zero, List.set_cons_succ]
            refine wpAnyH_take (i := 5) (v := .int .i64 y.fin) rfl (by kernel_rfl) (by kernel_rfl) (by kernel_rfl) (fun _ _ _ h => h) (Or.inl ⟨by rfl, fun W hS => by (have k : W.cell? ⟨a4, 33, none⟩ = some (.int .i64 y.fin) := (hS.1 33 (by decide))); go_simp⟩) hHeld ?_
            try simp only [Act.put, List.getElem_toArray, List.getElem_cons_succ, List.getElem_cons_zero, List.setIfInBounds_toArray, List.set_cons_zero, List.set_cons_succ]
            refine wpAnyH_take (i := 6) (v := .bool false) rfl (by kernel_rfl) (by kernel_rfl) (by kernel_rfl) (fun _ _ _ h => h) (Or.inl ⟨by rfl, fun W _ => by go_simp⟩) hHeld ?_
            try simp only [Act.put, List.getElem_toArray, List.getElem_cons_succ, List.getElem_cons_zero, List.setIfInBounds_toArray, List.set_cons_zero, List.set_cons_succ]
            refine wpAnyH_take (i := 7) (v := .bool false) rfl (by kernel_rfl) (by kernel_rfl) (by kernel_rfl) (fun _ _ _ h => h) (Or.inl ⟨by rfl, fun W _ => by kernel_rfl⟩) hHeld ?_
            try simp only [Act.put, List.getElem_toArray, List.getElem_cons_succ, List.getElem_cons_zero, List.setIfInBounds_toArray, List.set_cons_zero, List.set_cons_succ]
            refine wpAnyH_take (i := 8) (v := .bool false) rfl (by kernel_rfl) (by kernel_rfl) (by kernel_rfl) (fun _ _ _ h => h) (Or.inl ⟨by rfl, fun W _ => by kernel_rfl⟩) hHeld ?_
            try simp only [Act.put, List.getElem_toArray, List.getElem_cons_succ, List.getElem_cons_zero, List.setIfInBounds_toArray, List.set_cons_zero, List.set_cons_succ]
            refine wpAnyH_take (i := 9) (v := undef) rfl (by kernel_rfl) (by kernel_rfl) (by kernel_rfl) (fun _ _ _ h => h) (Or.inr (And.intro (by rfl) rfl)) hHeld ?_
            try simp only [Act.put, List.getElem_toArray, List.getElem_cons_succ, List.getElem_cons_zero, List.setIfInBounds_toArray, List.set_cons_zero, List.set_cons_succ]
            refine wpAnyH_take (i := 10) (v := undef) rfl (by kernel_rfl) (by kernel_rfl) (by kernel_rfl) (fun _ _ _ h => h) (Or.inr (And.intro (by rfl) rfl)) hHeld ?_
            try simp only [Act.put, List.getElem_toArray, List.getElem_cons_succ, List.getElem_cons_zero, List.setIfInBounds_toArray, List.set_cons_zero, List.set_cons_succ]
            refine wpAnyH_take (i := 11) (v := undef) rfl (by kernel_rfl) (by kernel_rfl) (by kernel_rfl) (fun _ _ _ h => h) (Or.inr (And.intro (by rfl) rfl)) hHeld ?_
            try simp only [Act.put, List.getElem_toArray, List.getElem_cons_succ, List.getElem_cons_zero, List.setIfInBounds_toArray, List.set_cons_zero, List.set_cons_succ]
            refine wpAnyH_take (i := 12) (v := undef) rfl (by kernel_rfl) (by kernel_rfl) (by kernel_rfl) (fun _ _ _ h => h) (Or.inr (And.intro (by rfl) rfl)) hHeld ?_
            try simp only [Act.put, List.getElem_toArray, List.getElem_cons_succ, List.getElem_cons_zero, List.setIfInBounds_toArray, List.set_cons_zero, List.set_cons_succ]
            refine wpAnyH_take (i := 13) (v := undef) rfl (by kernel_rfl) (by kernel_rfl) (by kernel_rfl) (fun _ _ _ h => h) (Or.inr (And.intro (by rfl) rfl)) hHeld ?_
            try simp only [Act.put, List.getElem_toArray, List.getElem_cons_succ, List.getElem_cons_zero, List.setIfInBounds_toArray, List.set_cons_zero, List.set_cons_succ]
            refine wpAnyH_take (i := 14) (v := .bool false) rfl (by kernel_rfl) (by kernel_rfl) (by kernel_rfl) (fun _ _ _ h => h) (Or.inl ⟨by rfl, fun W _ => by kernel_rfl⟩) hHeld ?_
            try simp only [Act.put, List.getElem_toArray, List.getElem_cons_succ, List.getElem_cons_zero, List.setIfInBounds_toArray, List.set_cons_zero, List.set_cons_succ]
            refine wpAnyH_take (i := 15) (v := .bool false) rfl (by kernel_rfl) (by kernel_rfl) (by kernel_rfl) (fun _ _ _ h => h) (Or.inl ⟨by rfl, fun W _ => by kernel_rfl⟩) hHeld ?_
            try simp only [Act.put, List.getElem_toArray, List.getElem_cons_succ, List.getElem_cons_zero, List.setIfInBounds_toArray, List.set_cons_zero, List.set_cons_succ]
            refine wpAnyH_take (i := 16) (v := .int .i64 r) rfl (by kernel_rfl) (by kernel_rfl) (by kernel_rfl) (fun _ _ _ h => h) (Or.inl ⟨by rfl, fun W _ => by kernel_rfl⟩) hHeld ?_
            try simp only [Act.put, List.getElem_toArray, List.getElem_cons_succ, List.getElem_cons_zero, List.setIfInBounds_toArray, List.set_cons_zero, List.set_cons_succ]
            refine wpAnyH_take (i := 17) (v := .int .i64 r) rfl (by kernel_rfl) (by kernel_rfl) (by kernel_rfl) (fun _ _ _ h => h) (Or.inl ⟨by rfl, fun W _ => by kernel_rfl⟩) hHeld ?_
            try simp only [Act.put, List.getElem_toArray, List.getElem_cons_succ, List.getElem_cons_zero, List.setIfInBounds_toArray, List.set_cons_zero, List.set_cons_succ]
            refine wpAnyH_take (i := 18) (v := .bool false) rfl (by kernel_rfl) (by kernel_rfl) (by kernel_rfl) (fun _ _ _ h => h) (Or.inl ⟨by rfl, fun W _ => by go_simp⟩) hHeld ?_
            try simp only [Act.put, List.getElem_toArray, List.getElem_cons_succ, List.getElem_cons_zero, List.setIfInBounds_toArray, List.set_cons_zero, List.set_cons_succ]
            refine wpAnyH_take (i := 19) (v := .bool false) rfl (by kernel_rfl) (by kernel_rfl) (by kernel_rfl) (fun _ _ _ h => h) (Or.inl ⟨by rfl, fun W _ => by kernel_rfl⟩) hHeld ?_
            try simp only [Act.put, List.getElem_toArray, List.getElem_cons_succ, List.getElem_cons_zero, List.setIfInBounds_toArray, List.set_cons_zero, List.set_cons_succ]
            refine wpAnyH_take (i := 20) (v := .pointer (some ⟨a4, 33, none⟩)) rfl (by kernel_rfl) (by kernel_rfl) (by kernel_rfl) (fun _ _ _ h => h) (Or.inl ⟨by rfl, fun W _ => by kernel_rfl⟩) hHeld ?_
            try simp only [Act.put, List.getElem_toArray, List.getElem_cons_succ, List.getElem_cons_zero, List.setIfInBounds_toArray, List.set_cons_zero, List.set_cons_succ]
            refine wpAnyH_take (i := 21) (v := .int .i64 y.fin) rfl (by kernel_rfl) (by kernel_rfl) (by kernel_rfl) (fun _ _ _ h => h) (Or.inl ⟨by rfl, fun W hS => by (have k : W.cell? ⟨a4, 33, none⟩ = some (.int .i64 y.fin) := (hS.1 33 (by decide))); go_simp⟩) hHeld ?_
            try simp only [Act.put, List.getElem_toArray, List.getElem_cons_succ, List.getElem_cons_zero, List.setIfInBounds_toArray, List.set_cons_zero, List.set_cons_succ]
            refine wpAnyH_take (i := 22) (v := .bool true) rfl (by kernel_rfl) (by kernel_rfl) (by kernel_rfl) (fun _ _ _ h => h) (Or.inl ⟨by rfl, fun W _ => by go_simp⟩) hHeld ?_
            try simp only [Act.put, List.getElem_toArray, List.getElem_cons_succ, List.getElem_cons_zero, List.setIfInBounds_toArray, List.set_cons_zero, List.set_cons_succ]
            refine wpAnyH_take (i := 23) (v := .bool true) rfl (by kernel_rfl) (by kernel_rfl) (by kernel_rfl) (fun _ _ _ h => h) (Or.inl ⟨by rfl, fun W _ => by kernel_rfl⟩) hHeld ?_
            try simp only [Act.put, List.getElem_toArray, List.getElem_cons_succ, List.getElem_cons_zero, List.setIfInBounds_toArray, List.set_cons_zero, List.set_cons_succ]
            refine wpAnyH_take (i := 24) (v := .bool true) rfl (by kernel_rfl) (by kernel_rfl) (by kernel_rfl) (fun _ _ _ h => h) (Or.inl ⟨by rfl, fun W _ => by kernel_rfl⟩) hHeld ?_
            try simp only [Act.put, List.getElem_toArray, List.getElem_cons_succ, List.getElem_cons_zero, List.setIfInBounds_toArray, List.set_cons_zero, List.set_cons_succ]
            refine wpAnyH_take (i := 25) (v := .int .i64 r) rfl (by kernel_rfl) (by kernel_rfl) (by kernel_rfl) (fun _ _ _ h => h) (Or.inl ⟨by rfl, fun W _ => by kernel_rfl⟩) hHeld ?_
            try simp only [Act.put, List.getElem_toArray, List.getElem_cons_succ, List.getElem_cons_zero, List.setIfInBounds_toArray, List.set_cons_zero, List.set_cons_succ]
            refine wpAnyH_take (i := 26) (v := .pointer (some ⟨a4, 1, none⟩)) rfl (by kernel_rfl) (by kernel_rfl) (by kernel_rfl) (fun _ _ _ h => h) (Or.inl ⟨by rfl, fun W _ => by kernel_rfl⟩) hHeld ?_
            try simp only [Act.put, List.getElem_toArray, List.getElem_cons_succ, List.getElem_cons_zero, List.setIfInBounds_toArray, List.set_cons_zero, List.set_cons_succ]
            refine wpAnyH_take (i := 27) (v := .pointer (some ⟨a4, 1 + r, none⟩)) rfl (by kernel_rfl) (by kernel_rfl) (by kernel_rfl) (fun _ _ _ h => h) (Or.inl ⟨by rfl, fun W _ => by go_simp⟩) hHeld ?_
            try simp only [Act.put, List.getElem_toArray, List.getElem_cons_succ, List.getElem_cons_zero, List.setIfInBounds_toArray, List.set_cons_zero, List.set_cons_succ]
            refine wpAnyH_take (i := 28) (v := .int .u64 (un v)) rfl (by kernel_rfl) (by kernel_rfl) (by kernel_rfl) (fun _ _ _ h => h) (Or.inl ⟨by rfl, fun W hS => by (have k : W.cell? ⟨a4, 1 + r, none⟩ = some (.int .u64 (un v)) := hvr W hS.1); go_simp⟩) hHeld ?_
            try simp only [Act.put, List.getElem_toArray, List.getElem_cons_succ, List.getElem_cons_zero, List.setIfInBounds_toArray, List.set_cons_zero, List.set_cons_succ]
            refine wpAnyH_take (i := 29) (v := .int .u64 (un v)) rfl (by kernel_rfl) (by kernel_rfl) (by kernel_rfl) (fun _ _ _ h => h) (Or.inl ⟨by rfl, fun W _ => by kernel_rfl⟩) hHeld ?_
            try simp only [Act.put, List.getElem_toArray, List.getElem_cons_succ, List.getElem_cons_zero, List.setIfInBounds_toArray, List.set_cons_zero, List.set_cons_succ]
            refine wpAnyH_take (i := 30) (v := .bool true) rfl (by kernel_rfl) (by kernel_rfl) (by kernel_rfl) (fun _ _ _ h => h) (Or.inl ⟨by rfl, fun W _ => by go_simp⟩) hHeld ?_
            try simp only [Act.put, List.getElem_toArray, List.getElem_cons_succ, List.getElem_cons_zero, List.setIfInBounds_toArray, List.set_cons_zero, List.set_cons_succ]
            refine wpAnyH_take (i := 31) (v := .bool true) rfl (by kernel_rfl) (by kernel_rfl) (by kernel_rfl) (fun _ _ _ h => h) (Or.inl ⟨by rfl, fun W _ => by kernel_rfl⟩) hHeld ?_
            try simp only [Act.put, List.getElem_toArray, List.getElem_cons_succ, List.getElem_cons_zero, List.setIfInBounds_toArray, List.set_cons_zero, List.set_cons_succ]
            refine wpAnyH_take (i := 32) (v := .bool true) rfl (by kernel_rfl) (by kernel_rfl) (by kernel_rfl) (fun _ _ _ h => h) (Or.inl ⟨by rfl, fun W _ => by kernel_rfl⟩) hHeld ?_
            try simp only [Act.put, List.getElem_toArray, List.getElem_cons_succ, List.getElem_cons_zero, List.setIfInBounds_toArray, List.set_cons_zero, List.set_cons_succ]
            refine wpAnyH_take (i := 33) (v := .int .i64 r) rfl (by kernel_rfl) (by kernel_rfl) (by kernel_rfl) (fun _ _ _ h => h) (Or.inl ⟨by rfl, fun W _ => by kernel_rfl⟩) hHeld ?_
            try simp only [Act.put, List.getElem_toArray, List.getElem_cons_succ, List.getElem_cons_zero, List.setIfInBounds_toArray, List.set_cons_zero, List.set_cons_succ]
            refine wpAnyH_take (i := 34) (v := .bool false) rfl (by kernel_rfl) (by kernel_rfl) (by kernel_rfl) (fun _ _ _ h => h) (Or.inl ⟨by rfl, fun W _ => by go_simp⟩) hHeld ?_
            try simp only [Act.put, List.getElem_toArray, List.getElem_cons_succ, List.getElem_cons_zero, List.setIfInBounds_toArray, List.set_cons_zero, List.set_cons_succ]
            refine wpAnyH_take (i := 35) (v := .bool false) rfl (by kernel_rfl) (by kernel_rfl) (by kernel_rfl) (fun _ _ _ h => h) (Or.inl ⟨by rfl, fun W _ => by kernel_rfl⟩) hHeld ?_
            try simp only [Act.put, List.getElem_toArray, List.getElem_cons_succ, List.getElem_cons_zero, List.setIfInBounds_toArray, List.set_cons_zero, List.set_cons_succ]
            refine wpAnyH_take (i := 36) (v := .int .i64 r) rfl (by kernel_rfl) (by kernel_rfl) (by kernel_rfl) (fun _ _ _ h => h) (Or.inl ⟨by rfl, fun W _ => by kernel_rfl⟩) hHeld ?_
            try simp only [Act.put, List.getElem_toArray, List.getElem_cons_succ, List.getElem_cons_zero, List.setIfInBounds_toArray, List.set_cons_zero, List.set_cons_succ]
            refine wpAnyH_take (i := 37) (v := .int .i64 r) rfl (by kernel_rfl) (by kernel_rfl) (by kernel_rfl) (fun _ _ _ h => h) (Or.inl ⟨by rfl, fun W _ => by kernel_rfl⟩) hHeld ?_
            try simp only [Act.put, List.getElem_toArray, List.getElem_cons_succ, List.getElem_cons_zero, List.setIfInBounds_toArray, List.set_cons_zero, List.set_cons_succ]
            refine wpAnyH_take (i := 38) (v := .bool true) rfl (by kernel_rfl) (by kernel_rfl) (by kernel_rfl) (fun _ _ _ h => h) (Or.inl ⟨by rfl, fun W _ => by go_simp⟩) hHeld ?_
            try simp only [Act.put, List.getElem_toArray, List.getElem_cons_succ, List.getElem_cons_zero, List.setIfInBounds_toArray, List.set_cons_zero, List.set_cons_succ]
            refine wpAnyH_take (i := 39) (v := .bool true) rfl (by kernel_rfl) (by kernel_rfl) (by kernel_rfl) (fun _ _ _ h => h) (Or.inl ⟨by rfl, fun W _ => by kernel_rfl⟩) hHeld ?_
            try simp only [Act.put, List.getElem_toArray, List.getElem_cons_succ, List.getElem_cons_zero, List.setIfInBounds_toArray, List.set_cons_zero, List.set_cons_succ]
            refine wpAnyH_take (i := 40) (v := .bool true) rfl (by kernel_rfl) (by kernel_rfl) (by kernel_rfl) (fun _ _ _ h => h) (Or.inl ⟨by rfl, fun W _ => by kernel_rfl⟩) hHeld ?_
            try simp only [Act.put, List.getElem_toArray, List.getElem_cons_succ, List.getElem_cons_zero, List.setIfInBounds_toArray, List.set_cons_zero, List.set_cons_succ]
            refine wpAnyH_take (i := 41) (v := undef) rfl (by kernel_rfl) (by kernel_rfl) (by kernel_rfl) (fun _ _ _ h => h) (Or.inr (And.intro (by rfl) rfl)) hHeld ?_
            try simp only [Act.put, List.getElem_toArray, List.getElem_cons_succ, List.getElem_cons_zero, List.setIfInBounds_toArray, List.set_cons_zero, List.set_cons_succ]
            refine wpAnyH_take (i := 42) (v := undef) rfl (by kernel_rfl) (by kernel_rfl) (by kernel_rfl) (fun _ _ _ h => h) (Or.inr (And.intro (by rfl) rfl)) hHeld ?_
            try simp only [Act.put, List.getElem_toArray, List.getElem_cons_succ, List.getElem_cons_zero, List.setIfInBounds_toArray, List.set_cons_zero, List.set_cons_succ]
            refine wpAnyH_take (i := 43) (v := undef) rfl (by kernel_rfl) (by kernel_rfl) (by kernel_rfl) (fun _ _ _ h => h) (Or.inr (And.intro (by rfl) rfl)) hHeld ?_
            try simp only [Act.put, List.getElem_toArray, List.getElem_cons_succ, List.getElem_cons_zero, List.setIfInBounds_toArray, List.set_cons_zero, List.set_cons_succ]
            refine wpAnyH_take (i := 44) (v := undef) rfl (by kernel_rfl) (by kernel_rfl) (by kernel_rfl) (fun _ _ _ h => h) (Or.inr (And.intro (by rfl) rfl)) hHeld ?_
            try simp only [Act.put, List.getElem_toArray, List.getElem_cons_succ, List.getElem_cons_zero, List.setIfInBounds_toArray, List.set_cons_zero, List.set_cons_succ]
            refine wpAnyH_take (i := 45) (v := undef) rfl (by kernel_rfl) (by kernel_rfl) (by kernel_rfl) (fun _ _ _ h => h) (Or.inr (And.intro (by rfl) rfl)) hHeld ?_
            try simp only [Act.put, List.getElem_toArray, List.getElem_cons_succ, List.getElem_cons_zero, List.setIfInBounds_toArray, List.set_cons_zero, List.set_cons_succ]
            refine wpAnyH_take (i := 46) (v := undef) rfl (by kernel_rfl) (by kernel_rfl) (by kernel_rfl) (fun _ _ _ h => h) (Or.inr (And.intro (by rfl) rfl)) hHeld ?_
            try simp only [Act.put, List.getElem_toArray, List.getElem_cons_succ, List.getElem_cons_zero, List.setIfInBounds_toArray, List.set_cons_zero, List.set_cons_succ]
            refine wpAnyH_take (i := 47) (v := undef) rfl (by kernel_rfl) (by kernel_rfl) (by kernel_rfl) (fun _ _ _ h => h) (Or.inr (And.intro (by rfl) rfl)) hHeld ?_
            try simp only [Act.put, List.getElem_toArray, List.getElem_cons_succ, List.getElem_cons_zero, List.setIfInBounds_toArray, List.set_cons_zero, List.set_cons_succ]
            refine wpAnyH_take (i := 48) (v := undef) rfl (by kernel_rfl) (by kernel_rfl) (by kernel_rfl) (fun _ _ _ h => h) (Or.inr (And.intro (by rfl) rfl)) hHeld ?_
            try simp only [Act.put, List.getElem_toArray, List.getElem_cons_succ, List.getElem_cons_zero, List.setIfInBounds_toArray, List.set_cons_zero, List.set_cons_succ]
            refine wpAnyH_take (i := 49) (v := undef) rfl (by kernel_rfl) (by kernel_rfl) (by kernel_rfl) (fun _ _ _ h => h) (Or.inr (And.intro (by rfl) rfl)) hHeld ?_
            try simp only [Act.put, List.getElem_toArray, List.getElem_cons_succ, List.getElem_cons_zero, List.setIfInBounds_toArray, List.set_cons_zero, List.set_cons_succ]
            refine wpAnyH_take (i := 50) (v := .bool true) rfl (by kernel_rfl) (by kernel_rfl) (by kernel_rfl) (fun _ _ _ h => h) (Or.inl ⟨by rfl, fun W _ => by kernel_rfl⟩) hHeld ?_
            try simp only [Act.put, List.getElem_toArray, List.getElem_cons_succ, List.getElem_cons_zero, List.setIfInBounds_toArray, List.set_cons_zero, List.set_cons_succ]
            refine wpAnyH_take (i := 51) (v := .bool true) rfl (by kernel_rfl) (by kernel_rfl) (by kernel_rfl) (fun _ _ _ h => h) (Or.inl ⟨by rfl, fun W _ => by kernel_rfl⟩) hHeld ?_
            try simp only [Act.put, List.getElem_toArray, List.getElem_cons_succ, List.getElem_cons_zero, List.setIfInBounds_toArray, List.set_cons_zero, List.set_cons_succ]
            refine wpAnyH_take (i := 52) (v := .bool true) rfl (by kernel_rfl) (by kernel_rfl) (by kernel_rfl) (fun _ _ _ h => h) (Or.inl ⟨by rfl, fun W _ => by kernel_rfl⟩) hHeld ?_
            try simp only [Act.put, List.getElem_toArray, List.getElem_cons_succ, List.getElem_cons_zero, List.setIfInBounds_toArray, List.set_cons_zero, List.set_cons_succ]
            refine wpAnyH_take (i := 53) (v := .bool true) rfl (by kernel_rfl) (by kernel_rfl) (by kernel_rfl) (fun _ _ _ h => h) (Or.inl ⟨by rfl, fun W _ => by kernel_rfl⟩) hHeld ?_
            try simp only [Act.put, List.getElem_toArray, List.getElem_cons_succ, List.getElem_cons_zero, List.setIfInBounds_toArray, List.set_cons_zero, List.set_cons_succ]
            refine wpAnyH_done (by kernel_rfl) ?_ _
            have hB := hHeld.2.2
            clear hHeld
            go_wp2_with fail
            go_ret
            exact ⟨rfl, hB.bl⟩
          · replace hvr := hvr (.inl e)
            have te1 : ((r : Int) == (d : Int)) = false := by rw [beq_eq_false_iff_ne]; omega
            have te2 : ((r : Int) != (d : Int)) = true := by simp; omega
            have te3 : ((d : Int) == (r : Int)) = false := by rw [beq_eq_false_iff_ne]; omega
            have tn1 : (r == d) = false := by rw [beq_eq_false_iff_ne]; omega
            have tn2 : (r != d) = true := by simp; omega
            have tn3 : (d == r) = false := by rw [beq_eq_false_iff_ne]; omega
            have hyd : ∀ W, HC a4 y W → W.cell? ⟨a4, 1 + d, none⟩ = some (.int .u64 (un (x.x d))) := fun W hW => (hW (1 + d) (by omega)).trans (congrArg some ((hartCell_x y d hd).trans (congrArg (fun z => Value.int .u64 (un z)) (e4.out d (fun e2 => e e2.symm)))))
            have hld : 0 ≤ (d : Int) ∧ (d : Int) < 32 := by omega
            clear e e4 e5 e6 e1 e3
            by_cases ez : d = 0
            · subst ez
              have hr0 : ¬ r = 0 := by omega
              have hSS := And.intro hY (And.intro hX hB)
              refine wp_region_held_drew (S := fun W => HC a4 y W ∧ HC a1 x W ∧ BK w h ⟨op, (0 : Nat), r1, r2, imm, aq, rl, pred, succ⟩ W) (by kernel_rfl) ⟨hSS.1, hSS.2.1, hSS.2.2.drew⟩ (fun hHeld => ?_)
              refine wpAnyH_take (i := 0) (v := .int .i64 r) rfl (by kernel_rfl) (by kernel_rfl) (by kernel_rfl) (fun _ _ _ h => h) (Or.inl ⟨by rfl, fun W _ => by kernel_rfl⟩) hHeld ?_
              try simp only [Act.put, List.getElem_toArray, List.getElem_cons_zero, List.setIfInBounds_toArray, List.set_cons_zero, List.set_cons_succ]
              refine wpAnyH_take (i := 1) (v := .int .i64 ((0 : Nat) : Int)) rfl (by kernel_rfl) (by kernel_rfl) (by kernel_rfl) (fun _ _ _ h => h) (Or.inl ⟨by rfl, fun W _ => by kernel_rfl⟩) hHeld ?_
              try simp only [Act.put, List.getElem_toArray, List.getElem_cons_succ, List.getElem_cons_zero, List.setIfInBounds_toArray, List.set_cons_zero, List.set_cons_succ]
              refine wpAnyH_take (i := 2) (v := .bool false) rfl (by kernel_rfl) (by kernel_rfl) (by kernel_rfl) (fun _ _ _ h => h) (Or.inl ⟨by rfl, fun W _ => by go_simp⟩) hHeld ?_
              try simp only [Act.put, List.getElem_toArray, List.getElem_cons_succ, List.getElem_cons_zero, List.setIfInBounds_toArray, List.set_cons_zero, List.set_cons_succ]
              refine wpAnyH_take (i := 3) (v := .bool false) rfl (by kernel_rfl) (by kernel_rfl) (by kernel_rfl) (fun _ _ _ h => h) (Or.inl ⟨by rfl, fun W _ => by kernel_rfl⟩) hHeld ?_
              try simp only [Act.put, List.getElem_toArray, List.getElem_cons_succ, List.getElem_cons_zero, List.setIfInBounds_toArray, List.set_cons_zero, List.set_cons_succ]
              refine wpAnyH_take (i := 4) (v := undef) rfl (by kernel_rfl) (by kernel_rfl) (by kernel_rfl) (fun _ _ _ h => h) (Or.inr (And.intro (by rfl) rfl)) hHeld ?_
              try simp only [Act.put, List.getElem_toArray, List.getElem_cons_succ, List.getElem_cons_zero, List.setIfInBounds_toArray, List.set_cons_zero, List.set_cons_succ]
              refine wpAnyH_take (i := 5) (v := undef) rfl (by kernel_rfl) (by kernel_rfl) (by kernel_rfl) (fun _ _ _ h => h) (Or.inr (And.intro (by rfl) rfl)) hHeld ?_
              try simp only [Act.put, List.getElem_toArray, List.getElem_cons_succ, List.getElem_cons_zero, List.setIfInBounds_toArray, List.set_cons_zero, List.set_cons_succ]
              refine wpAnyH_take (i := 6) (v := undef) rfl (by kernel_rfl) (by kernel_rfl) (by kernel_rfl) (fun _ _ _ h => h) (Or.inr (And.intro (by rfl) rfl)) hHeld ?_
              try simp only [Act.put, List.getElem_toArray, List.getElem_cons_succ, List.getElem_cons_zero, List.setIfInBounds_toArray, List.set_cons_zero, List.set_cons_succ]
              refine wpAnyH_take (i := 7) (v := .bool false) rfl (by kernel_rfl) (by kernel_rfl) (by kernel_rfl) (fun _ _ _ h => h) (Or.inl ⟨by rfl, fun W _ => by kernel_rfl⟩) hHeld ?_
              try simp only [Act.put, List.getElem_toArray, List.getElem_cons_succ, List.getElem_cons_zero, List.setIfInBounds_toArray, List.set_cons_zero, List.set_cons_succ]
              refine wpAnyH_take (i := 8) (v := .bool false) rfl (by kernel_rfl) (by kernel_rfl) (by kernel_rfl) (fun _ _ _ h => h) (Or.inl ⟨by rfl, fun W _ => by kernel_rfl⟩) hHeld ?_
              try simp only [Act.put, List.getElem_toArray, List.getElem_cons_succ, List.getElem_cons_zero, List.setIfInBounds_toArray, List.set_cons_zero, List.set_cons_succ]
              refine wpAnyH_take (i := 9) (v := undef) rfl (by kernel_rfl) (by kernel_rfl) (by kernel_rfl) (fun _ _ _ h => h) (Or.inr (And.intro (by rfl) rfl)) hHeld ?_
              try simp only [Act.put, List.getElem_toArray, List.getElem_cons_succ, List.getElem_cons_zero, List.setIfInBounds_toArray, List.set_cons_zero, List.set_cons_succ]
              refine wpAnyH_take (i := 10) (v := undef) rfl (by kernel_rfl) (by kernel_rfl) (by kernel_rfl) (fun _ _ _ h => h) (Or.inr (And.intro (by rfl) rfl)) hHeld ?_
              try simp only [Act.put, List.getElem_toArray, List.getElem_cons_succ, List.getElem_cons_zero, List.setIfInBounds_toArray, List.set_cons_zero, List.set_cons_succ]
              refine wpAnyH_take (i := 11) (v := undef) rfl (by kernel_rfl) (by kernel_rfl) (by kernel_rfl) (fun _ _ _ h => h) (Or.inr (And.intro (by rfl) rfl)) hHeld ?_
              try simp only [Act.put, List.getElem_toArray, List.getElem_cons_succ, List.getElem_cons_zero, List.setIfInBounds_toArray, List.set_cons_zero, List.set_cons_succ]
              refine wpAnyH_take (i := 12) (v := undef) rfl (by kernel_rfl) (by kernel_rfl) (by kernel_rfl) (fun _ _ _ h => h) (Or.inr (And.intro (by rfl) rfl)) hHeld ?_
              try simp only [Act.put, List.getElem_toArray, List.getElem_cons_succ, List.getElem_cons_zero, List.setIfInBounds_toArray, List.set_cons_zero, List.set_cons_succ]
              refine wpAnyH_take (i := 13) (v := undef) rfl (by kernel_rfl) (by kernel_rfl) (by kernel_rfl) (fun _ _ _ h => h) (Or.inr (And.intro (by rfl) rfl)) hHeld ?_
              try simp only [Act.put, List.getElem_toArray, List.getElem_cons_succ, List.getElem_cons_zero, List.setIfInBounds_toArray, List.set_cons_zero, List.set_cons_succ]
              refine wpAnyH_take (i := 14) (v := .bool false) rfl (by kernel_rfl) (by kernel_rfl) (by kernel_rfl) (fun _ _ _ h => h) (Or.inl ⟨by rfl, fun W _ => by kernel_rfl⟩) hHeld ?_
              try simp only [Act.put, List.getElem_toArray, List.getElem_cons_succ, List.getElem_cons_zero, List.setIfInBounds_toArray, List.set_cons_zero, List.set_cons_succ]
              refine wpAnyH_take (i := 15) (v := .bool false) rfl (by kernel_rfl) (by kernel_rfl) (by kernel_rfl) (fun _ _ _ h => h) (Or.inl ⟨by rfl, fun W _ => by kernel_rfl⟩) hHeld ?_
              try simp only [Act.put, List.getElem_toArray, List.getElem_cons_succ, List.getElem_cons_zero, List.setIfInBounds_toArray, List.set_cons_zero, List.set_cons_succ]
              refine wpAnyH_take (i := 16) (v := .int .i64 r) rfl (by kernel_rfl) (by kernel_rfl) (by kernel_rfl) (fun _ _ _ h => h) (Or.inl ⟨by rfl, fun W _ => by kernel_rfl⟩) hHeld ?_
              try simp only [Act.put, List.getElem_toArray, List.getElem_cons_succ, List.getElem_cons_zero, List.setIfInBounds_toArray, List.set_cons_zero, List.set_cons_succ]
              refine wpAnyH_take (i := 17) (v := .int .i64 ((0 : Nat) : Int)) rfl (by kernel_rfl) (by kernel_rfl) (by kernel_rfl) (fun _ _ _ h => h) (Or.inl ⟨by rfl, fun W _ => by kernel_rfl⟩) hHeld ?_
              try simp only [Act.put, List.getElem_toArray, List.getElem_cons_succ, List.getElem_cons_zero, List.setIfInBounds_toArray, List.set_cons_zero, List.set_cons_succ]
              refine wpAnyH_take (i := 18) (v := .bool true) rfl (by kernel_rfl) (by kernel_rfl) (by kernel_rfl) (fun _ _ _ h => h) (Or.inl ⟨by rfl, fun W _ => by go_simp⟩) hHeld ?_
              try simp only [Act.put, List.getElem_toArray, List.getElem_cons_succ, List.getElem_cons_zero, List.setIfInBounds_toArray, List.set_cons_zero, List.set_cons_succ]
              refine wpAnyH_take (i := 19) (v := .bool true) rfl (by kernel_rfl) (by kernel_rfl) (by kernel_rfl) (fun _ _ _ h => h) (Or.inl ⟨by rfl, fun W _ => by kernel_rfl⟩) hHeld ?_
              try simp only [Act.put, List.getElem_toArray, List.getElem_cons_succ, List.getElem_cons_zero, List.setIfInBounds_toArray, List.set_cons_zero, List.set_cons_succ]
              refine wpAnyH_take (i := 20) (v := undef) rfl (by kernel_rfl) (by kernel_rfl) (by kernel_rfl) (fun _ _ _ h => h) (Or.inr (And.intro (by rfl) rfl)) hHeld ?_
              try simp only [Act.put, List.getElem_toArray, List.getElem_cons_succ, List.getElem_cons_zero, List.setIfInBounds_toArray, List.set_cons_zero, List.set_cons_succ]
              refine wpAnyH_take (i := 21) (v := undef) rfl (by kernel_rfl) (by kernel_rfl) (by kernel_rfl) (fun _ _ _ h => h) (Or.inr (And.intro (by rfl) rfl)) hHeld ?_
              try simp only [Act.put, List.getElem_toArray, List.getElem_cons_succ, List.getElem_cons_zero, List.setIfInBounds_toArray, List.set_cons_zero, List.set_cons_succ]
              refine wpAnyH_take (i := 22) (v := undef) rfl (by kernel_rfl) (by kernel_rfl) (by kernel_rfl) (fun _ _ _ h => h) (Or.inr (And.intro (by rfl) rfl)) hHeld ?_
              try simp only [Act.put, List.getElem_toArray, List.getElem_cons_succ, List.getElem_cons_zero, List.setIfInBounds_toArray, List.set_cons_zero, List.set_cons_succ]
              refine wpAnyH_take (i := 23) (v := .bool true) rfl (by kernel_rfl) (by kernel_rfl) (by kernel_rfl) (fun _ _ _ h => h) (Or.inl ⟨by rfl, fun W _ => by kernel_rfl⟩) hHeld ?_
              try simp only [Act.put, List.getElem_toArray, List.getElem_cons_succ, List.getElem_cons_zero, List.setIfInBounds_toArray, List.set_cons_zero, List.set_cons_succ]
              refine wpAnyH_take (i := 24) (v := .bool true) rfl (by kernel_rfl) (by kernel_rfl) (by kernel_rfl) (fun _ _ _ h => h) (Or.inl ⟨by rfl, fun W _ => by kernel_rfl⟩) hHeld ?_
              try simp only [Act.put, List.getElem_toArray, List.getElem_cons_succ, List.getElem_cons_zero, List.setIfInBounds_toArray, List.set_cons_zero, List.set_cons_succ]
              refine wpAnyH_take (i := 25) (v := .int .i64 r) rfl (by kernel_rfl) (by kernel_rfl) (by kernel_rfl) (fun _ _ _ h => h) (Or.inl ⟨by rfl, fun W _ => by kernel_rfl⟩) hHeld ?_
              try simp only [Act.put, List.getElem_toArray, List.getElem_cons_succ, List.getElem_cons_zero, List.setIfInBounds_toArray, List.set_cons_zero, List.set_cons_succ]
              refine wpAnyH_take (i := 26) (v := .pointer (some ⟨a4, 1, none⟩)) rfl (by kernel_rfl) (by kernel_rfl) (by kernel_rfl) (fun _ _ _ h => h) (Or.inl ⟨by rfl, fun W _ => by kernel_rfl⟩) hHeld ?_
              try simp only [Act.put, List.getElem_toArray, List.getElem_cons_succ, List.getElem_cons_zero, List.setIfInBounds_toArray, List.set_cons_zero, List.set_cons_succ]
              refine wpAnyH_take (i := 27) (v := .pointer (some ⟨a4, 1 + r, none⟩)) rfl (by kernel_rfl) (by kernel_rfl) (by kernel_rfl) (fun _ _ _ h => h) (Or.inl ⟨by rfl, fun W _ => by go_simp⟩) hHeld ?_
              try simp only [Act.put, List.getElem_toArray, List.getElem_cons_succ, List.getElem_cons_zero, List.setIfInBounds_toArray, List.set_cons_zero, List.set_cons_succ]
              refine wpAnyH_take (i := 28) (v := .int .u64 (un v)) rfl (by kernel_rfl) (by kernel_rfl) (by kernel_rfl) (fun _ _ _ h => h) (Or.inl ⟨by rfl, fun W hS => by (have k : W.cell? ⟨a4, 1 + r, none⟩ = some (.int .u64 (un v)) := hvr W hS.1); go_simp⟩) hHeld ?_
              try simp only [Act.put, List.getElem_toArray, List.getElem_cons_succ, List.getElem_cons_zero, List.setIfInBounds_toArray, List.set_cons_zero, List.set_cons_succ]
              refine wpAnyH_take (i := 29) (v := .int .u64 (un v)) rfl (by kernel_rfl) (by kernel_rfl) (by kernel_rfl) (fun _ _ _ h => h) (Or.inl ⟨by rfl, fun W _ => by kernel_rfl⟩) hHeld ?_
              try simp only [Act.put, List.getElem_toArray, List.getElem_cons_succ, List.getElem_cons_zero, List.setIfInBounds_toArray, List.set_cons_zero, List.set_cons_succ]
              refine wpAnyH_take (i := 30) (v := .bool true) rfl (by kernel_rfl) (by kernel_rfl) (by kernel_rfl) (fun _ _ _ h => h) (Or.inl ⟨by rfl, fun W _ => by go_simp⟩) hHeld ?_
              try simp only [Act.put, List.getElem_toArray, List.getElem_cons_succ, List.getElem_cons_zero, List.setIfInBounds_toArray, List.set_cons_zero, List.set_cons_succ]
              refine wpAnyH_take (i := 31) (v := .bool true) rfl (by kernel_rfl) (by kernel_rfl) (by kernel_rfl) (fun _ _ _ h => h) (Or.inl ⟨by rfl, fun W _ => by kernel_rfl⟩) hHeld ?_
              try simp only [Act.put, List.getElem_toArray, List.getElem_cons_succ, List.getElem_cons_zero, List.setIfInBounds_toArray, List.set_cons_zero, List.set_cons_succ]
              refine wpAnyH_take (i := 32) (v := .bool true) rfl (by kernel_rfl) (by kernel_rfl) (by kernel_rfl) (fun _ _ _ h => h) (Or.inl ⟨by rfl, fun W _ => by kernel_rfl⟩) hHeld ?_
              try simp only [Act.put, List.getElem_toArray, List.getElem_cons_succ, List.getElem_cons_zero, List.setIfInBounds_toArray, List.set_cons_zero, List.set_cons_succ]
              refine wpAnyH_take (i := 33) (v := .int .i64 ((0 : Nat) : Int)) rfl (by kernel_rfl) (by kernel_rfl) (by kernel_rfl) (fun _ _ _ h => h) (Or.inl ⟨by rfl, fun W _ => by kernel_rfl⟩) hHeld ?_
              try simp only [Act.put, List.getElem_toArray, List.getElem_cons_succ, List.getElem_cons_zero, List.setIfInBounds_toArray, List.set_cons_zero, List.set_cons_succ]
              refine wpAnyH_take (i := 34) (v := .bool true) rfl (by kernel_rfl) (by kernel_rfl) (by kernel_rfl) (fun _ _ _ h => h) (Or.inl ⟨by rfl, fun W _ => by go_simp⟩) hHeld ?_
              try simp only [Act.put, List.getElem_toArray, List.getElem_cons_succ, List.getElem_cons_zero, List.setIfInBounds_toArray, List.set_cons_zero, List.set_cons_succ]
              refine wpAnyH_take (i := 35) (v := .bool true) rfl (by kernel_rfl) (by kernel_rfl) (by kernel_rfl) (fun _ _ _ h => h) (Or.inl ⟨by rfl, fun W _ => by kernel_rfl⟩) hHeld ?_
              try simp only [Act.put, List.getElem_toArray, List.getElem_cons_succ, List.getElem_cons_zero, List.setIfInBounds_toArray, List.set_cons_zero, List.set_cons_succ]
              refine wpAnyH_take (i := 36) (v := undef) rfl (by kernel_rfl) (by kernel_rfl) (by kernel_rfl) (fun _ _ _ h => h) (Or.inr (And.intro (by rfl) rfl)) hHeld ?_
              try simp only [Act.put, List.getElem_toArray, List.getElem_cons_succ, List.getElem_cons_zero, List.setIfInBounds_toArray, List.set_cons_zero, List.set_cons_succ]
              refine wpAnyH_take (i := 37) (v := undef) rfl (by kernel_rfl) (by kernel_rfl) (by kernel_rfl) (fun _ _ _ h => h) (Or.inr (And.intro (by rfl) rfl)) hHeld ?_
              try simp only [Act.put, List.getElem_toArray, List.getElem_cons_succ, List.getElem_cons_zero, List.setIfInBounds_toArray, List.set_cons_zero, List.set_cons_succ]
              refine wpAnyH_take (i := 38) (v := undef) rfl (by kernel_rfl) (by kernel_rfl) (by kernel_rfl) (fun _ _ _ h => h) (Or.inr (And.intro (by rfl) rfl)) hHeld ?_
              try simp only [Act.put, List.getElem_toArray, List.getElem_cons_succ, List.getElem_cons_zero, List.setIfInBounds_toArray, List.set_cons_zero, List.set_cons_succ]
              refine wpAnyH_take (i := 39) (v := .bool true) rfl (by kernel_rfl) (by kernel_rfl) (by kernel_rfl) (fun _ _ _ h => h) (Or.inl ⟨by rfl, fun W _ => by kernel_rfl⟩) hHeld ?_
              try simp only [Act.put, List.getElem_toArray, List.getElem_cons_succ, List.getElem_cons_zero, List.setIfInBounds_toArray, List.set_cons_zero, List.set_cons_succ]
              refine wpAnyH_take (i := 40) (v := .bool true) rfl (by kernel_rfl) (by kernel_rfl) (by kernel_rfl) (fun _ _ _ h => h) (Or.inl ⟨by rfl, fun W _ => by kernel_rfl⟩) hHeld ?_
              try simp only [Act.put, List.getElem_toArray, List.getElem_cons_succ, List.getElem_cons_zero, List.setIfInBounds_toArray, List.set_cons_zero, List.set_cons_succ]
              refine wpAnyH_take (i := 41) (v := undef) rfl (by kernel_rfl) (by kernel_rfl) (by kernel_rfl) (fun _ _ _ h => h) (Or.inr (And.intro (by rfl) rfl)) hHeld ?_
              try simp only [Act.put, List.getElem_toArray, List.getElem_cons_succ, List.getElem_cons_zero, List.setIfInBounds_toArray, List.set_cons_zero, List.set_cons_succ]
              refine wpAnyH_take (i := 42) (v := undef) rfl (by kernel_rfl) (by kernel_rfl) (by kernel_rfl) (fun _ _ _ h => h) (Or.inr (And.intro (by rfl) rfl)) hHeld ?_
              try simp only [Act.put, List.getElem_toArray, List.getElem_cons_succ, List.getElem_cons_zero, List.setIfInBounds_toArray, List.set_cons_zero, List.set_cons_succ]
              refine wpAnyH_take (i := 43) (v := undef) rfl (by kernel_rfl) (by kernel_rfl) (by kernel_rfl) (fun _ _ _ h => h) (Or.inr (And.intro (by rfl) rfl)) hHeld ?_
              try simp only [Act.put, List.getElem_toArray, List.getElem_cons_succ, List.getElem_cons_zero, List.setIfInBounds_toArray, List.set_cons_zero, List.set_cons_succ]
              refine wpAnyH_take (i := 44) (v := undef) rfl (by kernel_rfl) (by kernel_rfl) (by kernel_rfl) (fun _ _ _ h => h) (Or.inr (And.intro (by rfl) rfl)) hHeld ?_
              try simp only [Act.put, List.getElem_toArray, List.getElem_cons_succ, List.getElem_cons_zero, List.setIfInBounds_toArray, List.set_cons_zero, List.set_cons_succ]
              refine wpAnyH_take (i := 45) (v := undef) rfl (by kernel_rfl) (by kernel_rfl) (by kernel_rfl) (fun _ _ _ h => h) (Or.inr (And.intro (by rfl) rfl)) hHeld ?_
              try simp only [Act.put, List.getElem_toArray, List.getElem_cons_succ, List.getElem_cons_zero, List.setIfInBounds_toArray, List.set_cons_zero, List.set_cons_succ]
              refine wpAnyH_take (i := 46) (v := undef) rfl (by kernel_rfl) (by kernel_rfl) (by kernel_rfl) (fun _ _ _ h => h) (Or.inr (And.intro (by rfl) rfl)) hHeld ?_
              try simp only [Act.put, List.getElem_toArray, List.getElem_cons_succ, List.getElem_cons_zero, List.setIfInBounds_toArray, List.set_cons_zero, List.set_cons_succ]
              refine wpAnyH_take (i := 47) (v := undef) rfl (by kernel_rfl) (by kernel_rfl) (by kernel_rfl) (fun _ _ _ h => h) (Or.inr (And.intro (by rfl) rfl)) hHeld ?_
              try simp only [Act.put, List.getElem_toArray, List.getElem_cons_succ, List.getElem_cons_zero, List.setIfInBounds_toArray, List.set_cons_zero, List.set_cons_succ]
              refine wpAnyH_take (i := 48) (v := undef) rfl (by kernel_rfl) (by kernel_rfl) (by kernel_rfl) (fun _ _ _ h => h) (Or.inr (And.intro (by rfl) rfl)) hHeld ?_
              try simp only [Act.put, List.getElem_toArray, List.getElem_cons_succ, List.getElem_cons_zero, List.setIfInBounds_toArray, List.set_cons_zero, List.set_cons_succ]
              refine wpAnyH_take (i := 49) (v := undef) rfl (by kernel_rfl) (by kernel_rfl) (by kernel_rfl) (fun _ _ _ h => h) (Or.inr (And.intro (by rfl) rfl)) hHeld ?_
              try simp only [Act.put, List.getElem_toArray, List.getElem_cons_succ, List.getElem_cons_zero, List.setIfInBounds_toArray, List.set_cons_zero, List.set_cons_succ]
              refine wpAnyH_take (i := 50) (v := .bool true) rfl (by kernel_rfl) (by kernel_rfl) (by kernel_rfl) (fun _ _ _ h => h) (Or.inl ⟨by rfl, fun W _ => by kernel_rfl⟩) hHeld ?_
              try simp only [Act.put, List.getElem_toArray, List.getElem_cons_succ, List.getElem_cons_zero, List.setIfInBounds_toArray, List.set_cons_zero, List.set_cons_succ]
              refine wpAnyH_take (i := 51) (v := .bool true) rfl (by kernel_rfl) (by kernel_rfl) (by kernel_rfl) (fun _ _ _ h => h) (Or.inl ⟨by rfl, fun W _ => by kernel_rfl⟩) hHeld ?_
              try simp only [Act.put, List.getElem_toArray, List.getElem_cons_succ, List.getElem_cons_zero, List.setIfInBounds_toArray, List.set_cons_zero, List.set_cons_succ]
              refine wpAnyH_take (i := 52) (v := .bool true) rfl (by kernel_rfl) (by kernel_rfl) (by kernel_rfl) (fun _ _ _ h => h) (Or.inl ⟨by rfl, fun W _ => by kernel_rfl⟩) hHeld ?_
              try simp only [Act.put, List.getElem_toArray, List.getElem_cons_succ, List.getElem_cons_zero, List.setIfInBounds_toArray, List.set_cons_zero, List.set_cons_succ]
              refine wpAnyH_take (i := 53) (v := .bool true) rfl (by kernel_rfl) (by kernel_rfl) (by kernel_rfl) (fun _ _ _ h => h) (Or.inl ⟨by rfl, fun W _ => by kernel_rfl⟩) hHeld ?_
              try simp only [Act.put, List.getElem_toArray, List.getElem_cons_succ, List.getElem_cons_zero, List.setIfInBounds_toArray, List.set_cons_zero, List.set_cons_succ]
              refine wpAnyH_done (by kernel_rfl) ?_ _
              have hB := hHeld.2.2
              clear hHeld
              go_wp2_with fail
              go_ret
              exact ⟨rfl, hB.bl⟩
            · have tz : ((d : Int) == 0) = false := by rw [beq_eq_false_iff_ne]; omega
              have tz2 : (d == 0) = false := by rw [beq_eq_false_iff_ne]; omega
              clear ez
              have hSS := And.intro hY (And.intro hX hB)
              refine wp_region_held_drew (S := fun W => HC a4 y W ∧ HC a1 x W ∧ BK w h ⟨op, d, r1, r2, imm, aq, rl, pred, succ⟩ W) (by kernel_rfl) ⟨hSS.1, hSS.2.1, hSS.2.2.drew⟩ (fun hHeld => ?_)
              refine wpAnyH_take (i := 0) (v := .int .i64 r) rfl (by kernel_rfl) (by kernel_rfl) (by kernel_rfl) (fun _ _ _ h => h) (Or.inl ⟨by rfl, fun W _ => by kernel_rfl⟩) hHeld ?_
              try simp only [Act.put, List.getElem_toArray, List.getElem_cons_zero, List.setIfInBounds_toArray, List.set_cons_zero, List.set_cons_succ]
              refine wpAnyH_take (i := 1) (v := .int .i64 d) rfl (by kernel_rfl) (by kernel_rfl) (by kernel_rfl) (fun _ _ _ h => h) (Or.inl ⟨by rfl, fun W _ => by kernel_rfl⟩) hHeld ?_
              try simp only [Act.put, List.getElem_toArray, List.getElem_cons_succ, List.getElem_cons_zero, List.setIfInBounds_toArray, List.set_cons_zero, List.set_cons_succ]
              refine wpAnyH_take (i := 2) (v := .bool false) rfl (by kernel_rfl) (by kernel_rfl) (by kernel_rfl) (fun _ _ _ h => h) (Or.inl ⟨by rfl, fun W _ => by go_simp⟩) hHeld ?_
              try simp only [Act.put, List.getElem_toArray, List.getElem_cons_succ, List.getElem_cons_zero, List.setIfInBounds_toArray, List.set_cons_zero, List.set_cons_succ]
              refine wpAnyH_take (i := 3) (v := .bool false) rfl (by kernel_rfl) (by kernel_rfl) (by kernel_rfl) (fun _ _ _ h => h) (Or.inl ⟨by rfl, fun W _ => by kernel_rfl⟩) hHeld ?_
              try simp only [Act.put, List.getElem_toArray, List.getElem_cons_succ, List.getElem_cons_zero, List.setIfInBounds_toArray, List.set_cons_zero, List.set_cons_succ]
              refine wpAnyH_take (i := 4) (v := undef) rfl (by kernel_rfl) (by kernel_rfl) (by kernel_rfl) (fun _ _ _ h => h) (Or.inr (And.intro (by rfl) rfl)) hHeld ?_
              try simp only [Act.put, List.getElem_toArray, List.getElem_cons_succ, List.getElem_cons_zero, List.setIfInBounds_toArray, List.set_cons_zero, List.set_cons_succ]
              refine wpAnyH_take (i := 5) (v := undef) rfl (by kernel_rfl) (by kernel_rfl) (by kernel_rfl) (fun _ _ _ h => h) (Or.inr (And.intro (by rfl) rfl)) hHeld ?_
              try simp only [Act.put, List.getElem_toArray, List.getElem_cons_succ, List.getElem_cons_zero, List.setIfInBounds_toArray, List.set_cons_zero, List.set_cons_succ]
              refine wpAnyH_take (i := 6) (v := undef) rfl (by kernel_rfl) (by kernel_rfl) (by kernel_rfl) (fun _ _ _ h => h) (Or.inr (And.intro (by rfl) rfl)) hHeld ?_
              try simp only [Act.put, List.getElem_toArray, List.getElem_cons_succ, List.getElem_cons_zero, List.setIfInBounds_toArray, List.set_cons_zero, List.set_cons_succ]
              refine wpAnyH_take (i := 7) (v := .bool false) rfl (by kernel_rfl) (by kernel_rfl) (by kernel_rfl) (fun _ _ _ h => h) (Or.inl ⟨by rfl, fun W _ => by kernel_rfl⟩) hHeld ?_
              try simp only [Act.put, List.getElem_toArray, List.getElem_cons_succ, List.getElem_cons_zero, List.setIfInBounds_toArray, List.set_cons_zero, List.set_cons_succ]
              refine wpAnyH_take (i := 8) (v := .bool false) rfl (by kernel_rfl) (by kernel_rfl) (by kernel_rfl) (fun _ _ _ h => h) (Or.inl ⟨by rfl, fun W _ => by kernel_rfl⟩) hHeld ?_
              try simp only [Act.put, List.getElem_toArray, List.getElem_cons_succ, List.getElem_cons_zero, List.setIfInBounds_toArray, List.set_cons_zero, List.set_cons_succ]
              refine wpAnyH_take (i := 9) (v := undef) rfl (by kernel_rfl) (by kernel_rfl) (by kernel_rfl) (fun _ _ _ h => h) (Or.inr (And.intro (by rfl) rfl)) hHeld ?_
              try simp only [Act.put, List.getElem_toArray, List.getElem_cons_succ, List.getElem_cons_zero, List.setIfInBounds_toArray, List.set_cons_zero, List.set_cons_succ]
              refine wpAnyH_take (i := 10) (v := undef) rfl (by kernel_rfl) (by kernel_rfl) (by kernel_rfl) (fun _ _ _ h => h) (Or.inr (And.intro (by rfl) rfl)) hHeld ?_
              try simp only [Act.put, List.getElem_toArray, List.getElem_cons_succ, List.getElem_cons_zero, List.setIfInBounds_toArray, List.set_cons_zero, List.set_cons_succ]
              refine wpAnyH_take (i := 11) (v := undef) rfl (by kernel_rfl) (by kernel_rfl) (by kernel_rfl) (fun _ _ _ h => h) (Or.inr (And.intro (by rfl) rfl)) hHeld ?_
              try simp only [Act.put, List.getElem_toArray, List.getElem_cons_succ, List.getElem_cons_zero, List.setIfInBounds_toArray, List.set_cons_zero, List.set_cons_succ]
              refine wpAnyH_take (i := 12) (v := undef) rfl (by kernel_rfl) (by kernel_rfl) (by kernel_rfl) (fun _ _ _ h => h) (Or.inr (And.intro (by rfl) rfl)) hHeld ?_
              try simp only [Act.put, List.getElem_toArray, List.getElem_cons_succ, List.getElem_cons_zero, List.setIfInBounds_toArray, List.set_cons_zero, List.set_cons_succ]
              refine wpAnyH_take (i := 13) (v := undef) rfl (by kernel_rfl) (by kernel_rfl) (by kernel_rfl) (fun _ _ _ h => h) (Or.inr (And.intro (by rfl) rfl)) hHeld ?_
              try simp only [Act.put, List.getElem_toArray, List.getElem_cons_succ, List.getElem_cons_zero, List.setIfInBounds_toArray, List.set_cons_zero, List.set_cons_succ]
              refine wpAnyH_take (i := 14) (v := .bool false) rfl (by kernel_rfl) (by kernel_rfl) (by kernel_rfl) (fun _ _ _ h => h) (Or.inl ⟨by rfl, fun W _ => by kernel_rfl⟩) hHeld ?_
              try simp only [Act.put, List.getElem_toArray, List.getElem_cons_succ, List.getElem_cons_zero, List.setIfInBounds_toArray, List.set_cons_zero, List.set_cons_succ]
              refine wpAnyH_take (i := 15) (v := .bool false) rfl (by kernel_rfl) (by kernel_rfl) (by kernel_rfl) (fun _ _ _ h => h) (Or.inl ⟨by rfl, fun W _ => by kernel_rfl⟩) hHeld ?_
              try simp only [Act.put, List.getElem_toArray, List.getElem_cons_succ, List.getElem_cons_zero, List.setIfInBounds_toArray, List.set_cons_zero, List.set_cons_succ]
              refine wpAnyH_take (i := 16) (v := .int .i64 r) rfl (by kernel_rfl) (by kernel_rfl) (by kernel_rfl) (fun _ _ _ h => h) (Or.inl ⟨by rfl, fun W _ => by kernel_rfl⟩) hHeld ?_
              try simp only [Act.put, List.getElem_toArray, List.getElem_cons_succ, List.getElem_cons_zero, List.setIfInBounds_toArray, List.set_cons_zero, List.set_cons_succ]
              refine wpAnyH_take (i := 17) (v := .int .i64 d) rfl (by kernel_rfl) (by kernel_rfl) (by kernel_rfl) (fun _ _ _ h => h) (Or.inl ⟨by rfl, fun W _ => by kernel_rfl⟩) hHeld ?_
              try simp only [Act.put, List.getElem_toArray, List.getElem_cons_succ, List.getElem_cons_zero, List.setIfInBounds_toArray, List.set_cons_zero, List.set_cons_succ]
              refine wpAnyH_take (i := 18) (v := .bool true) rfl (by kernel_rfl) (by kernel_rfl) (by kernel_rfl) (fun _ _ _ h => h) (Or.inl ⟨by rfl, fun W _ => by go_simp⟩) hHeld ?_
              try simp only [Act.put, List.getElem_toArray, List.getElem_cons_succ, List.getElem_cons_zero, List.setIfInBounds_toArray, List.set_cons_zero, List.set_cons_succ]
              refine wpAnyH_take (i := 19) (v := .bool true) rfl (by kernel_rfl) (by kernel_rfl) (by kernel_rfl) (fun _ _ _ h => h) (Or.inl ⟨by rfl, fun W _ => by kernel_rfl⟩) hHeld ?_
              try simp only [Act.put, List.getElem_toArray, List.getElem_cons_succ, List.getElem_cons_zero, List.setIfInBounds_toArray, List.set_cons_zero, List.set_cons_succ]
              refine wpAnyH_take (i := 20) (v := undef) rfl (by kernel_rfl) (by kernel_rfl) (by kernel_rfl) (fun _ _ _ h => h) (Or.inr (And.intro (by rfl) rfl)) hHeld ?_
              try simp only [Act.put, List.getElem_toArray, List.getElem_cons_succ, List.getElem_cons_zero, List.setIfInBounds_toArray, List.set_cons_zero, List.set_cons_succ]
              refine wpAnyH_take (i := 21) (v := undef) rfl (by kernel_rfl) (by kernel_rfl) (by kernel_rfl) (fun _ _ _ h => h) (Or.inr (And.intro (by rfl) rfl)) hHeld ?_
              try simp only [Act.put, List.getElem_toArray, List.getElem_cons_succ, List.getElem_cons_zero, List.setIfInBounds_toArray, List.set_cons_zero, List.set_cons_succ]
              refine wpAnyH_take (i := 22) (v := undef) rfl (by kernel_rfl) (by kernel_rfl) (by kernel_rfl) (fun _ _ _ h => h) (Or.inr (And.intro (by rfl) rfl)) hHeld ?_
              try simp only [Act.put, List.getElem_toArray, List.getElem_cons_succ, List.getElem_cons_zero, List.setIfInBounds_toArray, List.set_cons_zero, List.set_cons_succ]
              refine wpAnyH_take (i := 23) (v := .bool true) rfl (by kernel_rfl) (by kernel_rfl) (by kernel_rfl) (fun _ _ _ h => h) (Or.inl ⟨by rfl, fun W _ => by kernel_rfl⟩) hHeld ?_
              try simp only [Act.put, List.getElem_toArray, List.getElem_cons_succ, List.getElem_cons_zero, List.setIfInBounds_toArray, List.set_cons_zero, List.set_cons_succ]
              refine wpAnyH_take (i := 24) (v := .bool true) rfl (by kernel_rfl) (by kernel_rfl) (by kernel_rfl) (fun _ _ _ h => h) (Or.inl ⟨by rfl, fun W _ => by kernel_rfl⟩) hHeld ?_
              try simp only [Act.put, List.getElem_toArray, List.getElem_cons_succ, List.getElem_cons_zero, List.setIfInBounds_toArray, List.set_cons_zero, List.set_cons_succ]
              refine wpAnyH_take (i := 25) (v := .int .i64 r) rfl (by kernel_rfl) (by kernel_rfl) (by kernel_rfl) (fun _ _ _ h => h) (Or.inl ⟨by rfl, fun W _ => by kernel_rfl⟩) hHeld ?_
              try simp only [Act.put, List.getElem_toArray, List.getElem_cons_succ, List.getElem_cons_zero, List.setIfInBounds_toArray, List.set_cons_zero, List.set_cons_succ]
              refine wpAnyH_take (i := 26) (v := .pointer (some ⟨a4, 1, none⟩)) rfl (by kernel_rfl) (by kernel_rfl) (by kernel_rfl) (fun _ _ _ h => h) (Or.inl ⟨by rfl, fun W _ => by kernel_rfl⟩) hHeld ?_
              try simp only [Act.put, List.getElem_toArray, List.getElem_cons_succ, List.getElem_cons_zero, List.setIfInBounds_toArray, List.set_cons_zero, List.set_cons_succ]
              refine wpAnyH_take (i := 27) (v := .pointer (some ⟨a4, 1 + r, none⟩)) rfl (by kernel_rfl) (by kernel_rfl) (by kernel_rfl) (fun _ _ _ h => h) (Or.inl ⟨by rfl, fun W _ => by go_simp⟩) hHeld ?_
              try simp only [Act.put, List.getElem_toArray, List.getElem_cons_succ, List.getElem_cons_zero, List.setIfInBounds_toArray, List.set_cons_zero, List.set_cons_succ]
              refine wpAnyH_take (i := 28) (v := .int .u64 (un v)) rfl (by kernel_rfl) (by kernel_rfl) (by kernel_rfl) (fun _ _ _ h => h) (Or.inl ⟨by rfl, fun W hS => by (have k : W.cell? ⟨a4, 1 + r, none⟩ = some (.int .u64 (un v)) := hvr W hS.1); go_simp⟩) hHeld ?_
              try simp only [Act.put, List.getElem_toArray, List.getElem_cons_succ, List.getElem_cons_zero, List.setIfInBounds_toArray, List.set_cons_zero, List.set_cons_succ]
              refine wpAnyH_take (i := 29) (v := .int .u64 (un v)) rfl (by kernel_rfl) (by kernel_rfl) (by kernel_rfl) (fun _ _ _ h => h) (Or.inl ⟨by rfl, fun W _ => by kernel_rfl⟩) hHeld ?_
              try simp only [Act.put, List.getElem_toArray, List.getElem_cons_succ, List.getElem_cons_zero, List.setIfInBounds_toArray, List.set_cons_zero, List.set_cons_succ]
              refine wpAnyH_take (i := 30) (v := .bool true) rfl (by kernel_rfl) (by kernel_rfl) (by kernel_rfl) (fun _ _ _ h => h) (Or.inl ⟨by rfl, fun W _ => by go_simp⟩) hHeld ?_
              try simp only [Act.put, List.getElem_toArray, List.getElem_cons_succ, List.getElem_cons_zero, List.setIfInBounds_toArray, List.set_cons_zero, List.set_cons_succ]
              refine wpAnyH_take (i := 31) (v := .bool true) rfl (by kernel_rfl) (by kernel_rfl) (by kernel_rfl) (fun _ _ _ h => h) (Or.inl ⟨by rfl, fun W _ => by kernel_rfl⟩) hHeld ?_
              try simp only [Act.put, List.getElem_toArray, List.getElem_cons_succ, List.getElem_cons_zero, List.setIfInBounds_toArray, List.set_cons_zero, List.set_cons_succ]
              refine wpAnyH_take (i := 32) (v := .bool true) rfl (by kernel_rfl) (by kernel_rfl) (by kernel_rfl) (fun _ _ _ h => h) (Or.inl ⟨by rfl, fun W _ => by kernel_rfl⟩) hHeld ?_
              try simp only [Act.put, List.getElem_toArray, List.getElem_cons_succ, List.getElem_cons_zero, List.setIfInBounds_toArray, List.set_cons_zero, List.set_cons_succ]
              refine wpAnyH_take (i := 33) (v := .int .i64 d) rfl (by kernel_rfl) (by kernel_rfl) (by kernel_rfl) (fun _ _ _ h => h) (Or.inl ⟨by rfl, fun W _ => by kernel_rfl⟩) hHeld ?_
              try simp only [Act.put, List.getElem_toArray, List.getElem_cons_succ, List.getElem_cons_zero, List.setIfInBounds_toArray, List.set_cons_zero, List.set_cons_succ]
              refine wpAnyH_take (i := 34) (v := .bool false) rfl (by kernel_rfl) (by kernel_rfl) (by kernel_rfl) (fun _ _ _ h => h) (Or.inl ⟨by rfl, fun W _ => by go_simp⟩) hHeld ?_
              try simp only [Act.put, List.getElem_toArray, List.getElem_cons_succ, List.getElem_cons_zero, List.setIfInBounds_toArray, List.set_cons_zero, List.set_cons_succ]
              refine wpAnyH_take (i := 35) (v := .bool false) rfl (by kernel_rfl) (by kernel_rfl) (by kernel_rfl) (fun _ _ _ h => h) (Or.inl ⟨by rfl, fun W _ => by kernel_rfl⟩) hHeld ?_
              try simp only [Act.put, List.getElem_toArray, List.getElem_cons_succ, List.getElem_cons_zero, List.setIfInBounds_toArray, List.set_cons_zero, List.set_cons_succ]
              refine wpAnyH_take (i := 36) (v := .int .i64 d) rfl (by kernel_rfl) (by kernel_rfl) (by kernel_rfl) (fun _ _ _ h => h) (Or.inl ⟨by rfl, fun W _ => by kernel_rfl⟩) hHeld ?_
              try simp only [Act.put, List.getElem_toArray, List.getElem_cons_succ, List.getElem_cons_zero, List.setIfInBounds_toArray, List.set_cons_zero, List.set_cons_succ]
              refine wpAnyH_take (i := 37) (v := .int .i64 r) rfl (by kernel_rfl) (by kernel_rfl) (by kernel_rfl) (fun _ _ _ h => h) (Or.inl ⟨by rfl, fun W _ => by kernel_rfl⟩) hHeld ?_
              try simp only [Act.put, List.getElem_toArray, List.getElem_cons_succ, List.getElem_cons_zero, List.setIfInBounds_toArray, List.set_cons_zero, List.set_cons_succ]
              refine wpAnyH_take (i := 38) (v := .bool false) rfl (by kernel_rfl) (by kernel_rfl) (by kernel_rfl) (fun _ _ _ h => h) (Or.inl ⟨by rfl, fun W _ => by go_simp⟩) hHeld ?_
              try simp only [Act.put, List.getElem_toArray, List.getElem_cons_succ, List.getElem_cons_zero, List.setIfInBounds_toArray, List.set_cons_zero, List.set_cons_succ]
              refine wpAnyH_take (i := 39) (v := .bool false) rfl (by kernel_rfl) (by kernel_rfl) (by kernel_rfl) (fun _ _ _ h => h) (Or.inl ⟨by rfl, fun W _ => by kernel_rfl⟩) hHeld ?_
              try simp only [Act.put, List.getElem_toArray, List.getElem_cons_succ, List.getElem_cons_zero, List.setIfInBounds_toArray, List.set_cons_zero, List.set_cons_succ]
              refine wpAnyH_take (i := 40) (v := .bool false) rfl (by kernel_rfl) (by kernel_rfl) (by kernel_rfl) (fun _ _ _ h => h) (Or.inl ⟨by rfl, fun W _ => by kernel_rfl⟩) hHeld ?_
              try simp only [Act.put, List.getElem_toArray, List.getElem_cons_succ, List.getElem_cons_zero, List.setIfInBounds_toArray, List.set_cons_zero, List.set_cons_succ]
              refine wpAnyH_take (i := 41) (v := .int .i64 d) rfl (by kernel_rfl) (by kernel_rfl) (by kernel_rfl) (fun _ _ _ h => h) (Or.inl ⟨by rfl, fun W _ => by kernel_rfl⟩) hHeld ?_
              try simp only [Act.put, List.getElem_toArray, List.getElem_cons_succ, List.getElem_cons_zero, List.setIfInBounds_toArray, List.set_cons_zero, List.set_cons_succ]
              refine wpAnyH_take (i := 42) (v := .pointer (some ⟨a4, 1, none⟩)) rfl (by kernel_rfl) (by kernel_rfl) (by kernel_rfl) (fun _ _ _ h => h) (Or.inl ⟨by rfl, fun W _ => by kernel_rfl⟩) hHeld ?_
              try simp only [Act.put, List.getElem_toArray, List.getElem_cons_succ, List.getElem_cons_zero, List.setIfInBounds_toArray, List.set_cons_zero, List.set_cons_succ]
              refine wpAnyH_take (i := 43) (v := .pointer (some ⟨a4, 1 + d, none⟩)) rfl (by kernel_rfl) (by kernel_rfl) (by kernel_rfl) (fun _ _ _ h => h) (Or.inl ⟨by rfl, fun W _ => by go_simp⟩) hHeld ?_
              try simp only [Act.put, List.getElem_toArray, List.getElem_cons_succ, List.getElem_cons_zero, List.setIfInBounds_toArray, List.set_cons_zero, List.set_cons_succ]
              refine wpAnyH_take (i := 44) (v := .int .u64 (un (x.x d))) rfl (by kernel_rfl) (by kernel_rfl) (by kernel_rfl) (fun _ _ _ h => h) (Or.inl ⟨by rfl, fun W hS => by (have k : W.cell? ⟨a4, 1 + d, none⟩ = some (.int .u64 (un (x.x d))) := hyd W hS.1); go_simp⟩) hHeld ?_
              try simp only [Act.put, List.getElem_toArray, List.getElem_cons_succ, List.getElem_cons_zero, List.setIfInBounds_toArray, List.set_cons_zero, List.set_cons_succ]
              refine wpAnyH_take (i := 45) (v := .int .i64 d) rfl (by kernel_rfl) (by kernel_rfl) (by kernel_rfl) (fun _ _ _ h => h) (Or.inl ⟨by rfl, fun W _ => by kernel_rfl⟩) hHeld ?_
              try simp only [Act.put, List.getElem_toArray, List.getElem_cons_succ, List.getElem_cons_zero, List.setIfInBounds_toArray, List.set_cons_zero, List.set_cons_succ]
              refine wpAnyH_take (i := 46) (v := .pointer (some ⟨a1, 1, none⟩)) rfl (by kernel_rfl) (by kernel_rfl) (by kernel_rfl) (fun _ _ _ h => h) (Or.inl ⟨by rfl, fun W _ => by kernel_rfl⟩) hHeld ?_
              try simp only [Act.put, List.getElem_toArray, List.getElem_cons_succ, List.getElem_cons_zero, List.setIfInBounds_toArray, List.set_cons_zero, List.set_cons_succ]
              refine wpAnyH_take (i := 47) (v := .pointer (some ⟨a1, 1 + d, none⟩)) rfl (by kernel_rfl) (by kernel_rfl) (by kernel_rfl) (fun _ _ _ h => h) (Or.inl ⟨by rfl, fun W _ => by go_simp⟩) hHeld ?_
              try simp only [Act.put, List.getElem_toArray, List.getElem_cons_succ, List.getElem_cons_zero, List.setIfInBounds_toArray, List.set_cons_zero, List.set_cons_succ]
              refine wpAnyH_take (i := 48) (v := .int .u64 (un (x.x d))) rfl (by kernel_rfl) (by kernel_rfl) (by kernel_rfl) (fun _ _ _ h => h) (Or.inl ⟨by rfl, fun W hS => by (have k : W.cell? ⟨a1, 1 + d, none⟩ = some (.int .u64 (un (x.x d))) := (hS.2.1 (1 + d) (by omega)).trans (congrArg some (hartCell_x x d hd))); go_simp⟩) hHeld ?_
              try simp only [Act.put, List.getElem_toArray, List.getElem_cons_succ, List.getElem_cons_zero, List.setIfInBounds_toArray, List.set_cons_zero, List.set_cons_succ]
              refine wpAnyH_take (i := 49) (v := .bool true) rfl (by kernel_rfl) (by kernel_rfl) (by kernel_rfl) (fun _ _ _ h => h) (Or.inl ⟨by rfl, fun W _ => by go_simp⟩) hHeld ?_
              try simp only [Act.put, List.getElem_toArray, List.getElem_cons_succ, List.getElem_cons_zero, List.setIfInBounds_toArray, List.set_cons_zero, List.set_cons_succ]
              refine wpAnyH_take (i := 50) (v := .bool true) rfl (by kernel_rfl) (by kernel_rfl) (by kernel_rfl) (fun _ _ _ h => h) (Or.inl ⟨by rfl, fun W _ => by kernel_rfl⟩) hHeld ?_
              try simp only [Act.put, List.getElem_toArray, List.getElem_cons_succ, List.getElem_cons_zero, List.setIfInBounds_toArray, List.set_cons_zero, List.set_cons_succ]
              refine wpAnyH_take (i := 51) (v := .bool true) rfl (by kernel_rfl) (by kernel_rfl) (by kernel_rfl) (fun _ _ _ h => h) (Or.inl ⟨by rfl, fun W _ => by kernel_rfl⟩) hHeld ?_
              try simp only [Act.put, List.getElem_toArray, List.getElem_cons_succ, List.getElem_cons_zero, List.setIfInBounds_toArray, List.set_cons_zero, List.set_cons_succ]
              refine wpAnyH_take (i := 52) (v := .bool true) rfl (by kernel_rfl) (by kernel_rfl) (by kernel_rfl) (fun _ _ _ h => h) (Or.inl ⟨by rfl, fun W _ => by kernel_rfl⟩) hHeld ?_
              try simp only [Act.put, List.getElem_toArray, List.getElem_cons_succ, List.getElem_cons_zero, List.setIfInBounds_toArray, List.set_cons_zero, List.set_cons_succ]
              refine wpAnyH_take (i := 53) (v := .bool true) rfl (by kernel_rfl) (by kernel_rfl) (by kernel_rfl) (fun _ _ _ h => h) (Or.inl ⟨by rfl, fun W _ => by kernel_rfl⟩) hHeld ?_
              try simp only [Act.put, List.getElem_toArray, List.getElem_cons_succ, List.getElem_cons_zero, List.setIfInBounds_toArray, List.set_cons_zero, List.set_cons_succ]
              refine wpAnyH_done (by kernel_rfl) ?_ _
              have hB := hHeld.2.2
              clear hHeld
              go_wp2_with fail
              go_ret
              exact ⟨rfl, hB.bl⟩
end
end Go.Proofs.YtbglinhglnbfmaaGreatDoor
