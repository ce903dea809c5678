/- The walk of the document's Read, of whatever text that is not long. Conditions: none. -/
import Derived.Test.YtdbpnbmaineniaaGreatDoorTks
import Derived.Test.YtdbpnbmaineniaaGreatDoorReadC
import Derived.Deep.CutBlock
set_option linter.unusedSimpArgs false
set_option linter.unusedVariables false
namespace Go.Proofs.YtdbpnbmaineniaaGreatDoor
open Go.RowKit
theorem rform_range (n : Int) : 0 ≤ rform n ∧ rform n ≤ 12 := by
  unfold rform
  repeat' split
  all_goals omega
set_option maxRecDepth 100000 in
set_option maxHeartbeats 100000000 in
theorem R2Read_any (s : ByteArray) (hs : s.size ≤ 1000) (w : World) :
    Calls Tryz.prog 24 #[.string s] w fun e w' => e = .returned (.tuple #[.agg (readB s).1.cells, .int .i64 (readB s).2]) ∧ Below w.heap.size w w' := by
  obtain ⟨op, aq, rl, ho⟩ : ∃ op aq rl, opB (s.extract 0 (stopB spB s)) 4 = (op, aq, rl) := ⟨_, _, _, rfl⟩
  obtain ⟨h0, h12⟩ := rform_range op
  have h7 : rform op = 7 → op ≠ 4 := fun h e => by rw [e] at h; revert h; decide
  obtain ⟨nm, hnm⟩ : ∃ nm, s.extract 0 (stopB spB s) = nm := ⟨_, rfl⟩
  obtain ⟨p, hp⟩ : ∃ p : ByteArray × Bool, (s.extract (stopB spB s) s.size, false) = p := ⟨_, rfl⟩
  have hns : nm.size ≤ 1000 := by rw [← hnm, ByteArray.size_extract]; omega
  have hz : p.1.size ≤ 1000000 := by rw [← hp]; show (s.extract _ _).size ≤ _; rw [ByteArray.size_extract]; omega
  have hpre0 : preB s = fieldsB (rform op) (opI (op, aq, rl)) (if rform op = 10 then p else eatB spB p) := by unfold preB; simp only [ho, hp]
  rw [hnm] at ho
  obtain ⟨F, hFe⟩ : ∃ F, rform op = F := ⟨_, rfl⟩
  rw [hFe] at h0 h12 h7 hpre0
  have hF : Hid (∀ W, Calls Tryz.prog 39 #[.int .i64 op] W fun e w' => e = .returned (.int .i64 F) ∧ W = w') := Lib.hid fun W => by rw [← hFe]; exact R2Form_any op W
  clear hFe
  obtain ⟨p0, hp0⟩ : ∃ q, (if F = 10 then p else eatB spB p) = q := ⟨_, rfl⟩
  have hz0 : p0.1.size ≤ 1000000 := by
    rw [← hp0]; split
    · exact hz
    · exact Nat.le_trans (eatB_size _ _) hz
  replace hpre0 := Lib.hid hpre0
  replace hp0 := Lib.hid hp0
  obtain ⟨R, hRd⟩ : ∃ R, readB s = R := ⟨_, rfl⟩
  rw [hRd]
  replace hRd := Lib.hid hRd
  replace ho := Lib.hid ho
  obtain ⟨hE0, hr0, hb0⟩ := read_start w s 23 92
  go_enter Tryz.func24, Tryz.ntmps24
  go_upto_region 3 with (go_at_call 64; refine (UpTo_any (w.heap.size + 1) s false spB _ hE0 (by omega) (by decide)).mono ?_; rintro e w1 ⟨rfl, hE, hK⟩)
  have hr1 : w1.there w.heap.size 0 9 := fun j hj => by rw [hK.cell (0 + j) (by simp; omega) (by omega), hK.frozen (0 + j) (by simp; omega) (by omega)]; exact hr0 j hj
  have hb1 := hb0.trans (hK.bl.mono (Nat.le_succ _))
  clear hE0 hr0 hb0 hK
  obtain ⟨hR, hD⟩ := read_boxed hE hr1 hb1 23 9
  clear hE hr1 hb1
  rw [hp] at hR
  go_wp2_with fail
  generalize World.alloc _ _ = w2 at hR hD ⊢
  generalize w1.heap.size = b at hR hD ⊢
  generalize w.heap.size + 1 = g at hR ⊢
  go_loopg [8] 4 (fun n i wx => ∃ k : Nat, k ≤ 4 ∧ n = 4 - k ∧ i = .int .i64 k ∧ RF w g b p (opI (opB nm k)) wx ∧ DC b wx)
  case atStart => exact ⟨0, Nat.zero_le _, rfl, rfl, hR, hD⟩
  case round =>
    clear hR hD
    obtain ⟨k, hk, rfl, rfl, hR, hD⟩ := hrel
    by_cases hlt : k < 4
    · have hlk : (k : Int) < 4 ∧ 0 ≤ (k : Int) := by omega
      have hk1 : decide ((k : Int) < 4) = true := decide_eq_true hlk.1
      have hk2 : decide (k < 4) = true := decide_eq_true hlt
      obtain ⟨t, ht⟩ : ∃ t, endsB k = t := ⟨_, rfl⟩
      have dk : wr.cell? ⟨b + 1, k, none⟩ = some (.string t) := (hD.c k hlt).trans (by rw [ht])
      have hts : t.size ≤ 5 := by rw [← ht]; exact ends_short k
      replace ht := Lib.hid ht
      obtain ⟨io, hio⟩ : ∃ io, opI (opB nm k) = io := ⟨_, rfl⟩
      rw [hio] at hR
      by_cases hA : t.size < nm.size
      · obtain ⟨m, hm⟩ : ∃ m, nm.size - t.size = m := ⟨_, rfl⟩
        have hm1 : (nm.size : Int) - (t.size : Int) = (m : Int) := by omega
        have hm0 : decide ((0 : Int) < (m : Int)) = true := decide_eq_true (by omega)
        have hm2 : decide (0 < m) = true := decide_eq_true (by omega)
        have hm3 : (m : Int) ≤ (nm.size : Int) ∧ 0 ≤ (m : Int) := by omega
        have hm4 : m ≤ nm.size := by omega
        replace hm := Lib.hid hm
        by_cases hB : (nm.extract m nm.size).toList = t.toList
        · have hb : ((nm.extract m nm.size).toList == t.toList) = true := by rw [beq_iff_eq]; exact hB
          obtain ⟨N, hN⟩ : ∃ N, namedN (nm.extract 0 m) = N := ⟨_, rfl⟩
          have hNm : Hid (∀ W, Calls Tryz.prog 41 #[.string (nm.extract 0 m)] W fun e w' => e = .returned (.int .i64 (N : Int)) ∧ Below W.heap.size W w') := Lib.hid fun W => by rw [← hN]; exact R2Named_any _ W
          by_cases hC : 0 < N
          · obtain ⟨b1, hb1⟩ : ∃ b1, decide (k % 2 = 1) = b1 := ⟨_, rfl⟩
            obtain ⟨b2, hb2⟩ : ∃ b2, decide (1 < k) = b2 := ⟨_, rfl⟩
            have hnx : Hid (opI (opB nm (k + 1)) = opI ((N : Int), b1, b2)) := Lib.hid (congrArg opI (by rw [← hN, ← hb1, ← hb2, ← hm.out, ← ht.out]; exact if_pos ⟨by rw [ht.out]; exact hA, by rw [ht.out, hm.out]; exact hB, by rw [ht.out, hm.out, hN]; exact hC⟩))
            have hio2 : Hid ({ { { io with op := (N : Int) } with aq := b1 } with rl := b2 } = opI ((N : Int), b1, b2)) := Lib.hid (by rw [← hio]; rfl)
            have hq1 : ((k : Int).tmod 2 == 1) = b1 := by rw [← hb1]; rcases (show k = 0 ∨ k = 1 ∨ k = 2 ∨ k = 3 by omega) with rfl | rfl | rfl | rfl <;> rfl
            have hq2 : decide ((1 : Int) < (k : Int)) = b2 := by rw [← hb2]; rcases (show k = 0 ∨ k = 1 ∨ k = 2 ∨ k = 3 by omega) with rfl | rfl | rfl | rfl <;> rfl
            have hq3 : (k % 2 == 1) = b1 := by rw [← hb1]; rcases (show k = 0 ∨ k = 1 ∨ k = 2 ∨ k = 3 by omega) with rfl | rfl | rfl | rfl <;> rfl
            have hq4 : ((k : Int) % 2 == 1) = b1 := by rw [← hb1]; rcases (show k = 0 ∨ k = 1 ∨ k = 2 ∨ k = 3 by omega) with rfl | rfl | rfl | rfl <;> rfl
            have hc1 : decide ((0 : Int) < (N : Int)) = true := decide_eq_true (by omega)
            have hc2 : decide (0 < N) = true := decide_eq_true hC
            clear hio hB hN hC
            go_upto_region 9 with fail
            refine wp_region_held_drew (S := fun W => RF w g b p io W ∧ DC b W) (by kernel_rfl) ⟨hR.keep (Below.refl _ _).drew, hD.keep (Below.refl _ _).drew⟩ (fun hHeld => ?_)
            refine tkS 0 (.int .i64 m) hHeld ?_
            try simp only [Act.put, List.getElem_toArray, List.getElem_cons_zero, List.setIfInBounds_toArray, List.set_cons_zero, List.set_cons_succ]
            refine tkG 1 (.bool true) hHeld ?_
            try simp only [Act.put, List.getElem_toArray, List.getElem_cons_succ, List.getElem_cons_zero, List.setIfInBounds_toArray, List.set_cons_zero, List.set_cons_succ]
            refine tkS 2 (.bool true) hHeld ?_
            try simp only [Act.put, List.getElem_toArray, List.getElem_cons_succ, List.getElem_cons_zero, List.setIfInBounds_toArray, List.set_cons_zero, List.set_cons_succ]
            refine tkS 3 (.string nm) hHeld ?_
            try simp only [Act.put, List.getElem_toArray, List.getElem_cons_succ, List.getElem_cons_zero, List.setIfInBounds_toArray, List.set_cons_zero, List.set_cons_succ]
            refine tkS 4 (.int .i64 m) hHeld ?_
            try simp only [Act.put, List.getElem_toArray, List.getElem_cons_succ, List.getElem_cons_zero, List.setIfInBounds_toArray, List.set_cons_zero, List.set_cons_succ]
            refine tkG 5 (.string (nm.extract m nm.size)) hHeld ?_
            try simp only [Act.put, List.getElem_toArray, List.getElem_cons_succ, List.getElem_cons_zero, List.setIfInBounds_toArray, List.set_cons_zero, List.set_cons_succ]
            refine tkS 6 (.slice (some ⟨b + 1, 0, none⟩) 4 4) hHeld ?_
            try simp only [Act.put, List.getElem_toArray, List.getElem_cons_succ, List.getElem_cons_zero, List.setIfInBounds_toArray, List.set_cons_zero, List.set_cons_succ]
            refine tkS 7 (.int .i64 k) hHeld ?_
            try simp only [Act.put, List.getElem_toArray, List.getElem_cons_succ, List.getElem_cons_zero, List.setIfInBounds_toArray, List.set_cons_zero, List.set_cons_succ]
            refine tkG 8 (.pointer (some ⟨b + 1, k, none⟩)) hHeld ?_
            try simp only [Act.put, List.getElem_toArray, List.getElem_cons_succ, List.getElem_cons_zero, List.setIfInBounds_toArray, List.set_cons_zero, List.set_cons_succ]
            refine wpAnyH_take (i := 9) (v := .string t) rfl (by kernel_rfl) (by kernel_rfl) (by kernel_rfl) (fun _ _ _ h => h) (Or.inl ⟨by rfl, fun W hS => by (have k : W.cell? ⟨b + 1, k, none⟩ = some (.string t) := (hS.2.c k hlt).trans (by rw [ht.out]); go_simp)⟩) hHeld ?_
            try simp only [Act.put, List.getElem_toArray, List.getElem_cons_succ, List.getElem_cons_zero, List.setIfInBounds_toArray, List.set_cons_zero, List.set_cons_succ]
            refine tkG 10 (.bool true) hHeld ?_
            try simp only [Act.put, List.getElem_toArray, List.getElem_cons_succ, List.getElem_cons_zero, List.setIfInBounds_toArray, List.set_cons_zero, List.set_cons_succ]
            refine tkS 11 (.bool true) hHeld ?_
            try simp only [Act.put, List.getElem_toArray, List.getElem_cons_succ, List.getElem_cons_zero, List.setIfInBounds_toArray, List.set_cons_zero, List.set_cons_succ]
            refine tkS 12 (.bool true) hHeld ?_
            try simp only [Act.put, List.getElem_toArray, List.getElem_cons_succ, List.getElem_cons_zero, List.setIfInBounds_toArray, List.set_cons_zero, List.set_cons_succ]
            refine tkS 13 (.string nm) hHeld ?_
            try simp only [Act.put, List.getElem_toArray, List.getElem_cons_succ, List.getElem_cons_zero, List.setIfInBounds_toArray, List.set_cons_zero, List.set_cons_succ]
            refine tkS 14 (.int .i64 m) hHeld ?_
            try simp only [Act.put, List.getElem_toArray, List.getElem_cons_succ, List.getElem_cons_zero, List.setIfInBounds_toArray, List.set_cons_zero, List.set_cons_succ]
            refine tkG 15 (.string (nm.extract 0 m)) hHeld ?_
            try simp only [Act.put, List.getElem_toArray, List.getElem_cons_succ, List.getElem_cons_zero, List.setIfInBounds_toArray, List.set_cons_zero, List.set_cons_succ]
            refine wpAnyH_ready (rs := [16]) (by kernel_rfl) (by simp) (AllReadyH.cons rfl (fun K hK2 => ?_) AllReadyH.nil)
            rw [if_pos (by rfl)]
            simp only [List.getElem_toArray, List.getElem_cons_succ, List.getElem_cons_zero]
            go_wp2_with (go_at_call 41; refine (hNm.out _).mono ?_; rintro e w5 ⟨rfl, hb5⟩)
            refine hK2.out _ _ (⟨hHeld.1.keep hb5, hHeld.2.keep hb5⟩) (fun hHeld2 => ?_)
            clear hK2 K hHeld
            have hHeld := hHeld2
            clear hHeld2
            try simp only [Act.put, List.getElem_toArray, List.getElem_cons_succ, List.getElem_cons_zero, List.setIfInBounds_toArray, List.set_cons_zero, List.set_cons_succ]
            refine tkG 17 (.bool true) hHeld ?_
            try simp only [Act.put, List.getElem_toArray, List.getElem_cons_succ, List.getElem_cons_zero, List.setIfInBounds_toArray, List.set_cons_zero, List.set_cons_succ]
            refine tkS 18 (.bool true) hHeld ?_
            try simp only [Act.put, List.getElem_toArray, List.getElem_cons_succ, List.getElem_cons_zero, List.setIfInBounds_toArray, List.set_cons_zero, List.set_cons_succ]
            refine wpAnyH_done (by kernel_rfl) ?_ _
            have hR := hHeld.1
            have hD := hHeld.2
            clear hHeld
            clear dk
            go_wp2_with (go_at_call 41; refine (hNm.out _).mono ?_; rintro e w5 ⟨rfl, hb5⟩; replace hR := hR.keep hb5; replace hD := hD.keep hb5; clear hb5; have c0 := hR.at_op; have f0 := hR.f 0 (by decide); have c5 := hR.at_aq; have f5 := hR.f 5 (by decide); have c6 := hR.at_rl; have f6 := hR.f 6 (by decide))
            go_roundg (4 - (k + 1))
            case measure => omega
            case rel => exact ⟨k + 1, by omega, rfl, by go_num, by rw [hnx.out, ← hio2.out]; exact ((hR.set_op _).set_aq _).set_rl _, ((hD.put).put).put⟩
          · have hnx : Hid (opI (opB nm (k + 1)) = io) := Lib.hid (by rw [← hio]; exact congrArg opI (if_neg fun e => hC (by rw [← hN, ← hm.out, ← ht.out]; exact e.2.2)))
            have hc1 : decide ((0 : Int) < (N : Int)) = false := decide_eq_false (by omega)
            have hc2 : decide (0 < N) = false := decide_eq_false hC
            clear hio hB hN hC
            go_upto_region 9 with fail
            refine wp_region_held_drew (S := fun W => RF w g b p io W ∧ DC b W) (by kernel_rfl) ⟨hR.keep (Below.refl _ _).drew, hD.keep (Below.refl _ _).drew⟩ (fun hHeld => ?_)
            refine tkS 0 (.int .i64 m) hHeld ?_
            try simp only [Act.put, List.getElem_toArray, List.getElem_cons_zero, List.setIfInBounds_toArray, List.set_cons_zero, List.set_cons_succ]
            refine tkG 1 (.bool true) hHeld ?_
            try simp only [Act.put, List.getElem_toArray, List.getElem_cons_succ, List.getElem_cons_zero, List.setIfInBounds_toArray, List.set_cons_zero, List.set_cons_succ]
            refine tkS 2 (.bool true) hHeld ?_
            try simp only [Act.put, List.getElem_toArray, List.getElem_cons_succ, List.getElem_cons_zero, List.setIfInBounds_toArray, List.set_cons_zero, List.set_cons_succ]
            refine tkS 3 (.string nm) hHeld ?_
            try simp only [Act.put, List.getElem_toArray, List.getElem_cons_succ, List.getElem_cons_zero, List.setIfInBounds_toArray, List.set_cons_zero, List.set_cons_succ]
            refine tkS 4 (.int .i64 m) hHeld ?_
            try simp only [Act.put, List.getElem_toArray, List.getElem_cons_succ, List.getElem_cons_zero, List.setIfInBounds_toArray, List.set_cons_zero, List.set_cons_succ]
            refine tkG 5 (.string (nm.extract m nm.size)) hHeld ?_
            try simp only [Act.put, List.getElem_toArray, List.getElem_cons_succ, List.getElem_cons_zero, List.setIfInBounds_toArray, List.set_cons_zero, List.set_cons_succ]
            refine tkS 6 (.slice (some ⟨b + 1, 0, none⟩) 4 4) hHeld ?_
            try simp only [Act.put, List.getElem_toArray, List.getElem_cons_succ, List.getElem_cons_zero, List.setIfInBounds_toArray, List.set_cons_zero, List.set_cons_succ]
            refine tkS 7 (.int .i64 k) hHeld ?_
            try simp only [Act.put, List.getElem_toArray, List.getElem_cons_succ, List.getElem_cons_zero, List.setIfInBounds_toArray, List.set_cons_zero, List.set_cons_succ]
            refine tkG 8 (.pointer (some ⟨b + 1, k, none⟩)) hHeld ?_
            try simp only [Act.put, List.getElem_toArray, List.getElem_cons_succ, List.getElem_cons_zero, List.setIfInBounds_toArray, List.set_cons_zero, List.set_cons_succ]
            refine wpAnyH_take (i := 9) (v := .string t) rfl (by kernel_rfl) (by kernel_rfl) (by kernel_rfl) (fun _ _ _ h => h) (Or.inl ⟨by rfl, fun W hS => by (have k : W.cell? ⟨b + 1, k, none⟩ = some (.string t) := (hS.2.c k hlt).trans (by rw [ht.out]); go_simp)⟩) hHeld ?_
            try simp only [Act.put, List.getElem_toArray, List.getElem_cons_succ, List.getElem_cons_zero, List.setIfInBounds_toArray, List.set_cons_zero, List.set_cons_succ]
            refine tkG 10 (.bool true) hHeld ?_
            try simp only [Act.put, List.getElem_toArray, List.getElem_cons_succ, List.getElem_cons_zero, List.setIfInBounds_toArray, List.set_cons_zero, List.set_cons_succ]
            refine tkS 11 (.bool true) hHeld ?_
            try simp only [Act.put, List.getElem_toArray, List.getElem_cons_succ, List.getElem_cons_zero, List.setIfInBounds_toArray, List.set_cons_zero, List.set_cons_succ]
            refine tkS 12 (.bool true) hHeld ?_
            try simp only [Act.put, List.getElem_toArray, List.getElem_cons_succ, List.getElem_cons_zero, List.setIfInBounds_toArray, List.set_cons_zero, List.set_cons_succ]
            refine tkS 13 (.string nm) hHeld ?_
            try simp only [Act.put, List.getElem_toArray, List.getElem_cons_succ, List.getElem_cons_zero, List.setIfInBounds_toArray, List.set_cons_zero, List.set_cons_succ]
            refine tkS 14 (.int .i64 m) hHeld ?_
            try simp only [Act.put, List.getElem_toArray, List.getElem_cons_succ, List.getElem_cons_zero, List.setIfInBounds_toArray, List.set_cons_zero, List.set_cons_succ]
            refine tkG 15 (.string (nm.extract 0 m)) hHeld ?_
            try simp only [Act.put, List.getElem_toArray, List.getElem_cons_succ, List.getElem_cons_zero, List.setIfInBounds_toArray, List.set_cons_zero, List.set_cons_succ]
            refine wpAnyH_ready (rs := [16]) (by kernel_rfl) (by simp) (AllReadyH.cons rfl (fun K hK2 => ?_) AllReadyH.nil)
            rw [if_pos (by rfl)]
            simp only [List.getElem_toArray, List.getElem_cons_succ, List.getElem_cons_zero]
            go_wp2_with (go_at_call 41; refine (hNm.out _).mono ?_; rintro e w5 ⟨rfl, hb5⟩)
            refine hK2.out _ _ (⟨hHeld.1.keep hb5, hHeld.2.keep hb5⟩) (fun hHeld2 => ?_)
            clear hK2 K hHeld
            have hHeld := hHeld2
            clear hHeld2
            try simp only [Act.put, List.getElem_toArray, List.getElem_cons_succ, List.getElem_cons_zero, List.setIfInBounds_toArray, List.set_cons_zero, List.set_cons_succ]
            refine tkG 17 (.bool false) hHeld ?_
            try simp only [Act.put, List.getElem_toArray, List.getElem_cons_succ, List.getElem_cons_zero, List.setIfInBounds_toArray, List.set_cons_zero, List.set_cons_succ]
            refine tkS 18 (.bool false) hHeld ?_
            try simp only [Act.put, List.getElem_toArray, List.getElem_cons_succ, List.getElem_cons_zero, List.setIfInBounds_toArray, List.set_cons_zero, List.set_cons_succ]
            refine wpAnyH_done (by kernel_rfl) ?_ _
            have hR := hHeld.1
            have hD := hHeld.2
            clear hHeld
            go_wp2_with fail
            go_roundg (4 - (k + 1))
            case measure => omega
            case rel => exact ⟨k + 1, by omega, rfl, by go_num, by rw [hnx.out]; exact hR, hD⟩
        · have hnx : Hid (opI (opB nm (k + 1)) = io) := Lib.hid (by rw [← hio]; exact congrArg opI (if_neg fun e => hB (by rw [← hm.out, ← ht.out]; exact e.2.1)))
          have hb : ((nm.extract m nm.size).toList == t.toList) = false := by rw [beq_eq_false_iff_ne]; exact hB
          clear hio hB
          go_upto_region 9 with fail
          refine wp_region_held_drew (S := fun W => RF w g b p io W ∧ DC b W) (by kernel_rfl) ⟨hR.keep (Below.refl _ _).drew, hD.keep (Below.refl _ _).drew⟩ (fun hHeld => ?_)
          refine tkS 0 (.int .i64 m) hHeld ?_
          try simp only [Act.put, List.getElem_toArray, List.getElem_cons_zero, List.setIfInBounds_toArray, List.set_cons_zero, List.set_cons_succ]
          refine tkG 1 (.bool true) hHeld ?_
          try simp only [Act.put, List.getElem_toArray, List.getElem_cons_succ, List.getElem_cons_zero, List.setIfInBounds_toArray, List.set_cons_zero, List.set_cons_succ]
          refine tkS 2 (.bool true) hHeld ?_
          try simp only [Act.put, List.getElem_toArray, List.getElem_cons_succ, List.getElem_cons_zero, List.setIfInBounds_toArray, List.set_cons_zero, List.set_cons_succ]
          refine tkS 3 (.string nm) hHeld ?_
          try simp only [Act.put, List.getElem_toArray, List.getElem_cons_succ, List.getElem_cons_zero, List.setIfInBounds_toArray, List.set_cons_zero, List.set_cons_succ]
          refine tkS 4 (.int .i64 m) hHeld ?_
          try simp only [Act.put, List.getElem_toArray, List.getElem_cons_succ, List.getElem_cons_zero, List.setIfInBounds_toArray, List.set_cons_zero, List.set_cons_succ]
          refine tkG 5 (.string (nm.extract m nm.size)) hHeld ?_
          try simp only [Act.put, List.getElem_toArray, List.getElem_cons_succ, List.getElem_cons_zero, List.setIfInBounds_toArray, List.set_cons_zero, List.set_cons_succ]
          refine tkS 6 (.slice (some ⟨b + 1, 0, none⟩) 4 4) hHeld ?_
          try simp only [Act.put, List.getElem_toArray, List.getElem_cons_succ, List.getElem_cons_zero, List.setIfInBounds_toArray, List.set_cons_zero, List.set_cons_succ]
          refine tkS 7 (.int .i64 k) hHeld ?_
          try simp only [Act.put, List.getElem_toArray, List.getElem_cons_succ, List.getElem_cons_zero, List.setIfInBounds_toArray, List.set_cons_zero, List.set_cons_succ]
          refine tkG 8 (.pointer (some ⟨b + 1, k, none⟩)) hHeld ?_
          try simp only [Act.put, List.getElem_toArray, List.getElem_cons_succ, List.getElem_cons_zero, List.setIfInBounds_toArray, List.set_cons_zero, List.set_cons_succ]
          refine wpAnyH_take (i := 9) (v := .string t) rfl (by kernel_rfl) (by kernel_rfl) (by kernel_rfl) (fun _ _ _ h => h) (Or.inl ⟨by rfl, fun W hS => by (have k : W.cell? ⟨b + 1, k, none⟩ = some (.string t) := (hS.2.c k hlt).trans (by rw [ht.out]); go_simp)⟩) hHeld ?_
          try simp only [Act.put, List.getElem_toArray, List.getElem_cons_succ, List.getElem_cons_zero, List.setIfInBounds_toArray, List.set_cons_zero, List.set_cons_succ]
          refine tkG 10 (.bool false) hHeld ?_
          try simp only [Act.put, List.getElem_toArray, List.getElem_cons_succ, List.getElem_cons_zero, List.setIfInBounds_toArray, List.set_cons_zero, List.set_cons_succ]
          refine tkS 11 (.bool false) hHeld ?_
          try simp only [Act.put, List.getElem_toArray, List.getElem_cons_succ, List.getElem_cons_zero, List.setIfInBounds_toArray, List.set_cons_zero, List.set_cons_succ]
          refine tkS 12 (.bool false) hHeld ?_
          try simp only [Act.put, List.getElem_toArray, List.getElem_cons_succ, List.getElem_cons_zero, List.setIfInBounds_toArray, List.set_cons_zero, List.set_cons_succ]
          refine tkU 13 undef hHeld ?_
          try simp only [Act.put, List.getElem_toArray, List.getElem_cons_succ, List.getElem_cons_zero, List.setIfInBounds_toArray, List.set_cons_zero, List.set_cons_succ]
          refine tkU 14 undef hHeld ?_
          try simp only [Act.put, List.getElem_toArray, List.getElem_cons_succ, List.getElem_cons_zero, List.setIfInBounds_toArray, List.set_cons_zero, List.set_cons_succ]
          refine tkU 15 undef hHeld ?_
          try simp only [Act.put, List.getElem_toArray, List.getElem_cons_succ, List.getElem_cons_zero, List.setIfInBounds_toArray, List.set_cons_zero, List.set_cons_succ]
          refine tkU 16 undef hHeld ?_
          try simp only [Act.put, List.getElem_toArray, List.getElem_cons_succ, List.getElem_cons_zero, List.setIfInBounds_toArray, List.set_cons_zero, List.set_cons_succ]
          refine tkU 17 undef hHeld ?_
          try simp only [Act.put, List.getElem_toArray, List.getElem_cons_succ, List.getElem_cons_zero, List.setIfInBounds_toArray, List.set_cons_zero, List.set_cons_succ]
          refine tkS 18 (.bool false) hHeld ?_
          try simp only [Act.put, List.getElem_toArray, List.getElem_cons_succ, List.getElem_cons_zero, List.setIfInBounds_toArray, List.set_cons_zero, List.set_cons_succ]
          refine wpAnyH_done (by kernel_rfl) ?_ _
          have hR := hHeld.1
          have hD := hHeld.2
          clear hHeld
          go_wp2_with fail
          go_roundg (4 - (k + 1))
          case measure => omega
          case rel => exact ⟨k + 1, by omega, rfl, by go_num, by rw [hnx.out]; exact hR, hD⟩
      · have hnx : Hid (opI (opB nm (k + 1)) = io) := Lib.hid (by rw [← hio]; exact congrArg opI (if_neg fun e => hA (by rw [← ht.out]; exact e.1)))
        obtain ⟨z, hz1⟩ : ∃ z : Int, (nm.size : Int) - (t.size : Int) = z := ⟨_, rfl⟩
        have hz0 : decide (0 < z) = false := decide_eq_false (by omega)
        have hz2 : -10 ≤ z ∧ z ≤ 0 := by omega
        clear hio
        go_upto_region 9 with fail
        refine wp_region_held_drew (S := fun W => RF w g b p io W ∧ DC b W) (by kernel_rfl) ⟨hR.keep (Below.refl _ _).drew, hD.keep (Below.refl _ _).drew⟩ (fun hHeld => ?_)
        refine tkS 0 (.int .i64 z) hHeld ?_
        try simp only [Act.put, List.getElem_toArray, List.getElem_cons_zero, List.setIfInBounds_toArray, List.set_cons_zero, List.set_cons_succ]
        refine tkG 1 (.bool false) hHeld ?_
        try simp only [Act.put, List.getElem_toArray, List.getElem_cons_succ, List.getElem_cons_zero, List.setIfInBounds_toArray, List.set_cons_zero, List.set_cons_succ]
        refine tkS 2 (.bool false) hHeld ?_
        try simp only [Act.put, List.getElem_toArray, List.getElem_cons_succ, List.getElem_cons_zero, List.setIfInBounds_toArray, List.set_cons_zero, List.set_cons_succ]
        refine tkU 3 undef hHeld ?_
        try simp only [Act.put, List.getElem_toArray, List.getElem_cons_succ, List.getElem_cons_zero, List.setIfInBounds_toArray, List.set_cons_zero, List.set_cons_succ]
        refine tkU 4 undef hHeld ?_
        try simp only [Act.put, List.getElem_toArray, List.getElem_cons_succ, List.getElem_cons_zero, List.setIfInBounds_toArray, List.set_cons_zero, List.set_cons_succ]
        refine tkU 5 undef hHeld ?_
        try simp only [Act.put, List.getElem_toArray, List.getElem_cons_succ, List.getElem_cons_zero, List.setIfInBounds_toArray, List.set_cons_zero, List.set_cons_succ]
        refine tkU 6 undef hHeld ?_
        try simp only [Act.put, List.getElem_toArray, List.getElem_cons_succ, List.getElem_cons_zero, List.setIfInBounds_toArray, List.set_cons_zero, List.set_cons_succ]
        refine tkU 7 undef hHeld ?_
        try simp only [Act.put, List.getElem_toArray, List.getElem_cons_succ, List.getElem_cons_zero, List.setIfInBounds_toArray, List.set_cons_zero, List.set_cons_succ]
        refine tkU 8 undef hHeld ?_
        try simp only [Act.put, List.getElem_toArray, List.getElem_cons_succ, List.getElem_cons_zero, List.setIfInBounds_toArray, List.set_cons_zero, List.set_cons_succ]
        refine tkU 9 undef hHeld ?_
        try simp only [Act.put, List.getElem_toArray, List.getElem_cons_succ, List.getElem_cons_zero, List.setIfInBounds_toArray, List.set_cons_zero, List.set_cons_succ]
        refine tkU 10 undef hHeld ?_
        try simp only [Act.put, List.getElem_toArray, List.getElem_cons_succ, List.getElem_cons_zero, List.setIfInBounds_toArray, List.set_cons_zero, List.set_cons_succ]
        refine tkS 11 (.bool false) hHeld ?_
        try simp only [Act.put, List.getElem_toArray, List.getElem_cons_succ, List.getElem_cons_zero, List.setIfInBounds_toArray, List.set_cons_zero, List.set_cons_succ]
        refine tkS 12 (.bool false) hHeld ?_
        try simp only [Act.put, List.getElem_toArray, List.getElem_cons_succ, List.getElem_cons_zero, List.setIfInBounds_toArray, List.set_cons_zero, List.set_cons_succ]
        refine tkU 13 undef hHeld ?_
        try simp only [Act.put, List.getElem_toArray, List.getElem_cons_succ, List.getElem_cons_zero, List.setIfInBounds_toArray, List.set_cons_zero, List.set_cons_succ]
        refine tkU 14 undef hHeld ?_
        try simp only [Act.put, List.getElem_toArray, List.getElem_cons_succ, List.getElem_cons_zero, List.setIfInBounds_toArray, List.set_cons_zero, List.set_cons_succ]
        refine tkU 15 undef hHeld ?_
        try simp only [Act.put, List.getElem_toArray, List.getElem_cons_succ, List.getElem_cons_zero, List.setIfInBounds_toArray, List.set_cons_zero, List.set_cons_succ]
        refine tkU 16 undef hHeld ?_
        try simp only [Act.put, List.getElem_toArray, List.getElem_cons_succ, List.getElem_cons_zero, List.setIfInBounds_toArray, List.set_cons_zero, List.set_cons_succ]
        refine tkU 17 undef hHeld ?_
        try simp only [Act.put, List.getElem_toArray, List.getElem_cons_succ, List.getElem_cons_zero, List.setIfInBounds_toArray, List.set_cons_zero, List.set_cons_succ]
        refine tkS 18 (.bool false) hHeld ?_
        try simp only [Act.put, List.getElem_toArray, List.getElem_cons_succ, List.getElem_cons_zero, List.setIfInBounds_toArray, List.set_cons_zero, List.set_cons_succ]
        refine wpAnyH_done (by kernel_rfl) ?_ _
        have hR := hHeld.1
        have hD := hHeld.2
        clear hHeld
        go_wp2_with fail
        go_roundg (4 - (k + 1))
        case measure => omega
        case rel => exact ⟨k + 1, by omega, rfl, by go_num, by rw [hnx.out]; exact hR, hD⟩
    · obtain rfl : k = 4 := by omega
      rw [ho.out] at hR
      rw [show ((4 : Nat) : Int) = 4 from rfl]
      clear hD hlt hk
      have hX : Hid (∀ W, EC g p W → F ≠ 10 → Calls Tryz.prog 65 #[.pointer (some ⟨g, 0, none⟩), .string { data := #[32] }] W (Eats g (.tuple #[]) p0 W)) := Lib.hid fun W hW h => by have e := hp0.out; rw [if_neg h] at e; rw [← e]; exact Eat_any g _ spB W hW
      have c0 : _ = some (Value.int .i64 op) := hR.at_op
      go_upto_if 65 with (go_at_call 39; refine (hF.out _).mono ?_; rintro e wf ⟨rfl, rfl⟩)
      go_cut [67] (fun _ wx => RF w g b p0 (opI (op, aq, rl)) wx)
      case first =>
        by_cases h10 : F = 10
        · have t10 : (F != 10) = false := by simp [h10]
          go_wp2_with fail
          go_meet
          have e := hp0.out
          rw [if_pos h10] at e
          rw [← e]; exact hR
        · have t10 : (F != 10) = true := by simpa using h10
          have hX2 := Lib.hid fun W hW => hX.out W hW h10
          replace h10 := Lib.hid h10
          go_wp2_with (go_at_call 65; refine (hX2.out _ hR.e).mono ?_; rintro e v0 ⟨rfl, hE, hK⟩; replace hR := hR.eats hE hK; clear hE hK)
          go_meet
          exact hR
      case rest =>
        clear hX c0 hR
        have hR := hcut
        clear hcut
        have c0 : _ = some (Value.int .i64 op) := hR.at_op
        go_upto_block 2 with (go_at_call 39; refine (hF.out _).mono ?_; rintro e wf ⟨rfl, rfl⟩)
        clear c0
        go_cut [72] (fun _ wx => ∃ i q, RF w g b q i wx ∧ Hid (preB s = (i, q)) ∧ (-9223372036854775808 ≤ i.imm ∧ i.imm ≤ 9223372036854775807))
        case first =>
          have hkk : F = 1 ∨ F = 2 ∨ (F = 3 ∧ op = 4) ∨ (F = 3 ∧ op ≠ 4) ∨ F = 4 ∨ F = 5 ∨ F = 6 ∨ (F = 7 ∧ op ≠ 4) ∨ F = 8 ∨ F = 9 ∨ F = 11 ∨ F = 12 ∨ (F = 0 ∨ F = 10) := by
            by_cases e4 : op = 4
            · have : F ≠ 7 := fun h => h7 h e4
              simp only [e4, ne_eq, not_true_eq_false, and_true, and_false]; omega
            · simp only [e4, ne_eq, not_false_eq_true, and_true, and_false]; omega
          clear h7 h0 h12
          rcases hkk with rfl | rfl | ⟨rfl, hj⟩ | ⟨rfl, hj⟩ | rfl | rfl | rfl | ⟨rfl, hj⟩ | rfl | rfl | rfl | rfl | hkk
          · as_aux_lemma =>
              go_upto_region 17 with fail
              obtain ⟨a1, hq1⟩ : ∃ a, regB p0 = a := ⟨_, rfl⟩
              have hz1 : a1.2.1.size ≤ 1000000 := by rw [← hq1]; exact Nat.le_trans (regB_size _) hz0
              have hC1 : Hid (∀ W, EC g p0 W → Calls Tryz.prog 66 #[.pointer (some ⟨g, 0, none⟩)] W (Eats g (.int .i64 a1.1) a1.2 W)) := Lib.hid fun W hW => by rw [← hq1]; exact Reg_any g p0 W hW hz0
              replace hq1 := Lib.hid hq1
              go_upto_region 18 with (go_at_call 66; refine (hC1.out _ hR.e).mono ?_; rintro e v1 ⟨rfl, hE, hK⟩; replace hR := hR.eats hE hK; clear hE hK; have cj := hR.at_rd; have fj := hR.f 1 (by decide))
              replace hR := hR.set_rd a1.1
              clear hC1 cj fj
              generalize World.setCell v1 _ _ = u101 at hR ⊢
              obtain ⟨q2, hq2⟩ : ∃ q, eatB cmB a1.2 = q := ⟨_, rfl⟩
              have hz2 : q2.1.size ≤ 1000000 := by rw [← hq2]; exact Nat.le_trans (eatB_size _ _) hz1
              have hC2 : Hid (∀ W, EC g a1.2 W → Calls Tryz.prog 65 #[.pointer (some ⟨g, 0, none⟩), .string { data := #[44, 32] }] W (Eats g (.tuple #[]) q2 W)) := Lib.hid fun W hW => by rw [← hq2]; exact Eat_any g _ cmB W hW
              replace hq2 := Lib.hid hq2
              go_upto_region 19 with (go_at_call 65; refine (hC2.out _ hR.e).mono ?_; rintro e v2 ⟨rfl, hE, hK⟩; replace hR := hR.eats hE hK; clear hE hK)
              clear hC2
              obtain ⟨a3, hq3⟩ : ∃ a, immB q2 = a := ⟨_, rfl⟩
              have hz3 : a3.2.1.size ≤ 1000000 := by rw [← hq3]; exact Nat.le_trans (immB_size _) hz2
              have hC3 : Hid (∀ W, EC g q2 W → Calls Tryz.prog 67 #[.pointer (some ⟨g, 0, none⟩)] W (Eats g (.int .i64 a3.1) a3.2 W)) := Lib.hid fun W hW => by rw [← hq3]; exact Imm_any g q2 W hW hz2
              replace hq3 := Lib.hid hq3
              go_wp2_with (go_at_call 67; refine (hC3.out _ hR.e).mono ?_; rintro e v3 ⟨rfl, hE, hK⟩; replace hR := hR.eats hE hK; clear hE hK; have cj := hR.at_imm; have fj := hR.f 4 (by decide))
              replace hR := hR.set_imm a3.1
              clear hC3 cj fj
              generalize World.setCell v3 _ _ = u103 at hR ⊢
              go_meet
              refine ⟨{ opI (op, aq, rl) with rd := a1.1, imm := a3.1 }, a3.2, hR, Lib.hid ?_, ?_⟩
              · rw [hpre0.out, hp0.out]
                unfold fieldsB
                rw [if_pos (by decide)]
                simp only [hq1.out, hq2.out, hq3.out]
              · show _ ≤ a3.1 ∧ a3.1 ≤ _
                rw [← hq3.out]
                exact immB_bd _
          · as_aux_lemma =>
              go_upto_region 17 with fail
              obtain ⟨a1, hq1⟩ : ∃ a, regB p0 = a := ⟨_, rfl⟩
              have hz1 : a1.2.1.size ≤ 1000000 := by rw [← hq1]; exact Nat.le_trans (regB_size _) hz0
              have hC1 : Hid (∀ W, EC g p0 W → Calls Tryz.prog 66 #[.pointer (some ⟨g, 0, none⟩)] W (Eats g (.int .i64 a1.1) a1.2 W)) := Lib.hid fun W hW => by rw [← hq1]; exact Reg_any g p0 W hW hz0
              replace hq1 := Lib.hid hq1
              go_upto_region 18 with (go_at_call 66; refine (hC1.out _ hR.e).mono ?_; rintro e v1 ⟨rfl, hE, hK⟩; replace hR := hR.eats hE hK; clear hE hK; have cj := hR.at_rd; have fj := hR.f 1 (by decide))
              replace hR := hR.set_rd a1.1
              clear hC1 cj fj
              generalize World.setCell v1 _ _ = u101 at hR ⊢
              obtain ⟨q2, hq2⟩ : ∃ q, eatB cmB a1.2 = q := ⟨_, rfl⟩
              have hz2 : q2.1.size ≤ 1000000 := by rw [← hq2]; exact Nat.le_trans (eatB_size _ _) hz1
              have hC2 : Hid (∀ W, EC g a1.2 W → Calls Tryz.prog 65 #[.pointer (some ⟨g, 0, none⟩), .string { data := #[44, 32] }] W (Eats g (.tuple #[]) q2 W)) := Lib.hid fun W hW => by rw [← hq2]; exact Eat_any g _ cmB W hW
              replace hq2 := Lib.hid hq2
              go_upto_region 19 with (go_at_call 65; refine (hC2.out _ hR.e).mono ?_; rintro e v2 ⟨rfl, hE, hK⟩; replace hR := hR.eats hE hK; clear hE hK)
              clear hC2
              obtain ⟨a3, hq3⟩ : ∃ a, immB q2 = a := ⟨_, rfl⟩
              have hz3 : a3.2.1.size ≤ 1000000 := by rw [← hq3]; exact Nat.le_trans (immB_size _) hz2
              have hC3 : Hid (∀ W, EC g q2 W → Calls Tryz.prog 67 #[.pointer (some ⟨g, 0, none⟩)] W (Eats g (.int .i64 a3.1) a3.2 W)) := Lib.hid fun W hW => by rw [← hq3]; exact Imm_any g q2 W hW hz2
              replace hq3 := Lib.hid hq3
              go_wp2_with (go_at_call 67; refine (hC3.out _ hR.e).mono ?_; rintro e v3 ⟨rfl, hE, hK⟩; replace hR := hR.eats hE hK; clear hE hK; have cj := hR.at_imm; have fj := hR.f 4 (by decide))
              replace hR := hR.set_imm a3.1
              clear hC3 cj fj
              generalize World.setCell v3 _ _ = u103 at hR ⊢
              go_meet
              refine ⟨{ opI (op, aq, rl) with rd := a1.1, imm := a3.1 }, a3.2, hR, Lib.hid ?_, ?_⟩
              · rw [hpre0.out, hp0.out]
                unfold fieldsB
                rw [if_pos (by decide)]
                simp only [hq1.out, hq2.out, hq3.out]
              · show _ ≤ a3.1 ∧ a3.1 ≤ _
                rw [← hq3.out]
                exact immB_bd _
          · as_aux_lemma =>
              replace hj := Lib.hid hj
              have tj : (op == 4) = true := by simpa using hj.out
              have c0 : _ = some (Value.int .i64 op) := hR.at_op
              go_upto_region 23 with fail
              obtain ⟨a1, hq1⟩ : ∃ a, regB p0 = a := ⟨_, rfl⟩
              have hz1 : a1.2.1.size ≤ 1000000 := by rw [← hq1]; exact Nat.le_trans (regB_size _) hz0
              have hC1 : Hid (∀ W, EC g p0 W → Calls Tryz.prog 66 #[.pointer (some ⟨g, 0, none⟩)] W (Eats g (.int .i64 a1.1) a1.2 W)) := Lib.hid fun W hW => by rw [← hq1]; exact Reg_any g p0 W hW hz0
              replace hq1 := Lib.hid hq1
              go_upto_region 24 with (go_at_call 66; refine (hC1.out _ hR.e).mono ?_; rintro e v1 ⟨rfl, hE, hK⟩; replace hR := hR.eats hE hK; clear hE hK; have cj := hR.at_rd; have fj := hR.f 1 (by decide))
              replace hR := hR.set_rd a1.1
              clear hC1 cj fj
              generalize World.setCell v1 _ _ = u101 at hR ⊢
              obtain ⟨q2, hq2⟩ : ∃ q, eatB cmB a1.2 = q := ⟨_, rfl⟩
              have hz2 : q2.1.size ≤ 1000000 := by rw [← hq2]; exact Nat.le_trans (eatB_size _ _) hz1
              have hC2 : Hid (∀ W, EC g a1.2 W → Calls Tryz.prog 65 #[.pointer (some ⟨g, 0, none⟩), .string { data := #[44, 32] }] W (Eats g (.tuple #[]) q2 W)) := Lib.hid fun W hW => by rw [← hq2]; exact Eat_any g _ cmB W hW
              replace hq2 := Lib.hid hq2
              go_upto_region 26 with (go_at_call 65; refine (hC2.out _ hR.e).mono ?_; rintro e v2 ⟨rfl, hE, hK⟩; replace hR := hR.eats hE hK; clear hE hK; have c0 : _ = some (Value.int .i64 op) := hR.at_op)
              clear hC2
              obtain ⟨a3, hq3⟩ : ∃ a, immB q2 = a := ⟨_, rfl⟩
              have hz3 : a3.2.1.size ≤ 1000000 := by rw [← hq3]; exact Nat.le_trans (immB_size _) hz2
              have hC3 : Hid (∀ W, EC g q2 W → Calls Tryz.prog 67 #[.pointer (some ⟨g, 0, none⟩)] W (Eats g (.int .i64 a3.1) a3.2 W)) := Lib.hid fun W hW => by rw [← hq3]; exact Imm_any g q2 W hW hz2
              replace hq3 := Lib.hid hq3
              go_upto_region 27 with (go_at_call 67; refine (hC3.out _ hR.e).mono ?_; rintro e v3 ⟨rfl, hE, hK⟩; replace hR := hR.eats hE hK; clear hE hK; have cj := hR.at_imm; have fj := hR.f 4 (by decide))
              replace hR := hR.set_imm a3.1
              clear hC3 cj fj
              generalize World.setCell v3 _ _ = u103 at hR ⊢
              obtain ⟨q4, hq4⟩ : ∃ q, eatB loB a3.2 = q := ⟨_, rfl⟩
              have hz4 : q4.1.size ≤ 1000000 := by rw [← hq4]; exact Nat.le_trans (eatB_size _ _) hz3
              have hC4 : Hid (∀ W, EC g a3.2 W → Calls Tryz.prog 65 #[.pointer (some ⟨g, 0, none⟩), .string { data := #[40] }] W (Eats g (.tuple #[]) q4 W)) := Lib.hid fun W hW => by rw [← hq4]; exact Eat_any g _ loB W hW
              replace hq4 := Lib.hid hq4
              go_upto_region 28 with (go_at_call 65; refine (hC4.out _ hR.e).mono ?_; rintro e v4 ⟨rfl, hE, hK⟩; replace hR := hR.eats hE hK; clear hE hK)
              clear hC4
              obtain ⟨a5, hq5⟩ : ∃ a, regB q4 = a := ⟨_, rfl⟩
              have hz5 : a5.2.1.size ≤ 1000000 := by rw [← hq5]; exact Nat.le_trans (regB_size _) hz4
              have hC5 : Hid (∀ W, EC g q4 W → Calls Tryz.prog 66 #[.pointer (some ⟨g, 0, none⟩)] W (Eats g (.int .i64 a5.1) a5.2 W)) := Lib.hid fun W hW => by rw [← hq5]; exact Reg_any g q4 W hW hz4
              replace hq5 := Lib.hid hq5
              go_upto_region 29 with (go_at_call 66; refine (hC5.out _ hR.e).mono ?_; rintro e v5 ⟨rfl, hE, hK⟩; replace hR := hR.eats hE hK; clear hE hK; have cj := hR.at_rs1; have fj := hR.f 2 (by decide))
              replace hR := hR.set_rs1 a5.1
              clear hC5 cj fj
              generalize World.setCell v5 _ _ = u105 at hR ⊢
              obtain ⟨q6, hq6⟩ : ∃ q, eatB roB a5.2 = q := ⟨_, rfl⟩
              have hz6 : q6.1.size ≤ 1000000 := by rw [← hq6]; exact Nat.le_trans (eatB_size _ _) hz5
              have hC6 : Hid (∀ W, EC g a5.2 W → Calls Tryz.prog 65 #[.pointer (some ⟨g, 0, none⟩), .string { data := #[41] }] W (Eats g (.tuple #[]) q6 W)) := Lib.hid fun W hW => by rw [← hq6]; exact Eat_any g _ roB W hW
              replace hq6 := Lib.hid hq6
              go_wp2_with (go_at_call 65; refine (hC6.out _ hR.e).mono ?_; rintro e v6 ⟨rfl, hE, hK⟩; replace hR := hR.eats hE hK; clear hE hK)
              clear hC6
              go_meet
              refine ⟨{ opI (op, aq, rl) with rd := a1.1, imm := a3.1, rs1 := a5.1 }, q6, hR, Lib.hid ?_, ?_⟩
              · rw [hpre0.out, hp0.out]
                unfold fieldsB
                rw [if_neg (by decide), if_pos (by decide)]
                rw [if_pos (.inr hj.out)]
                simp only [hq1.out, hq2.out, hq3.out, hq4.out, hq5.out, hq6.out]
              · show _ ≤ a3.1 ∧ a3.1 ≤ _
                rw [← hq3.out]
                exact immB_bd _
          · as_aux_lemma =>
              replace hj := Lib.hid hj
              have tj : (op == 4) = false := by simpa using hj.out
              have c0 : _ = some (Value.int .i64 op) := hR.at_op
              go_upto_region 23 with fail
              obtain ⟨a1, hq1⟩ : ∃ a, regB p0 = a := ⟨_, rfl⟩
              have hz1 : a1.2.1.size ≤ 1000000 := by rw [← hq1]; exact Nat.le_trans (regB_size _) hz0
              have hC1 : Hid (∀ W, EC g p0 W → Calls Tryz.prog 66 #[.pointer (some ⟨g, 0, none⟩)] W (Eats g (.int .i64 a1.1) a1.2 W)) := Lib.hid fun W hW => by rw [← hq1]; exact Reg_any g p0 W hW hz0
              replace hq1 := Lib.hid hq1
              go_upto_region 24 with (go_at_call 66; refine (hC1.out _ hR.e).mono ?_; rintro e v1 ⟨rfl, hE, hK⟩; replace hR := hR.eats hE hK; clear hE hK; have cj := hR.at_rd; have fj := hR.f 1 (by decide))
              replace hR := hR.set_rd a1.1
              clear hC1 cj fj
              generalize World.setCell v1 _ _ = u101 at hR ⊢
              obtain ⟨q2, hq2⟩ : ∃ q, eatB cmB a1.2 = q := ⟨_, rfl⟩
              have hz2 : q2.1.size ≤ 1000000 := by rw [← hq2]; exact Nat.le_trans (eatB_size _ _) hz1
              have hC2 : Hid (∀ W, EC g a1.2 W → Calls Tryz.prog 65 #[.pointer (some ⟨g, 0, none⟩), .string { data := #[44, 32] }] W (Eats g (.tuple #[]) q2 W)) := Lib.hid fun W hW => by rw [← hq2]; exact Eat_any g _ cmB W hW
              replace hq2 := Lib.hid hq2
              go_upto_region 30 with (go_at_call 65; refine (hC2.out _ hR.e).mono ?_; rintro e v2 ⟨rfl, hE, hK⟩; replace hR := hR.eats hE hK; clear hE hK; have c0 : _ = some (Value.int .i64 op) := hR.at_op)
              clear hC2
              obtain ⟨a3, hq3⟩ : ∃ a, regB q2 = a := ⟨_, rfl⟩
              have hz3 : a3.2.1.size ≤ 1000000 := by rw [← hq3]; exact Nat.le_trans (regB_size _) hz2
              have hC3 : Hid (∀ W, EC g q2 W → Calls Tryz.prog 66 #[.pointer (some ⟨g, 0, none⟩)] W (Eats g (.int .i64 a3.1) a3.2 W)) := Lib.hid fun W hW => by rw [← hq3]; exact Reg_any g q2 W hW hz2
              replace hq3 := Lib.hid hq3
              go_upto_region 31 with (go_at_call 66; refine (hC3.out _ hR.e).mono ?_; rintro e v3 ⟨rfl, hE, hK⟩; replace hR := hR.eats hE hK; clear hE hK; have cj := hR.at_rs1; have fj := hR.f 2 (by decide))
              replace hR := hR.set_rs1 a3.1
              clear hC3 cj fj
              generalize World.setCell v3 _ _ = u103 at hR ⊢
              obtain ⟨q4, hq4⟩ : ∃ q, eatB cmB a3.2 = q := ⟨_, rfl⟩
              have hz4 : q4.1.size ≤ 1000000 := by rw [← hq4]; exact Nat.le_trans (eatB_size _ _) hz3
              have hC4 : Hid (∀ W, EC g a3.2 W → Calls Tryz.prog 65 #[.pointer (some ⟨g, 0, none⟩), .string { data := #[44, 32] }] W (Eats g (.tuple #[]) q4 W)) := Lib.hid fun W hW => by rw [← hq4]; exact Eat_any g _ cmB W hW
              replace hq4 := Lib.hid hq4
              go_upto_region 32 with (go_at_call 65; refine (hC4.out _ hR.e).mono ?_; rintro e v4 ⟨rfl, hE, hK⟩; replace hR := hR.eats hE hK; clear hE hK)
              clear hC4
              obtain ⟨a5, hq5⟩ : ∃ a, immB q4 = a := ⟨_, rfl⟩
              have hz5 : a5.2.1.size ≤ 1000000 := by rw [← hq5]; exact Nat.le_trans (immB_size _) hz4
              have hC5 : Hid (∀ W, EC g q4 W → Calls Tryz.prog 67 #[.pointer (some ⟨g, 0, none⟩)] W (Eats g (.int .i64 a5.1) a5.2 W)) := Lib.hid fun W hW => by rw [← hq5]; exact Imm_any g q4 W hW hz4
              replace hq5 := Lib.hid hq5
              go_wp2_with (go_at_call 67; refine (hC5.out _ hR.e).mono ?_; rintro e v5 ⟨rfl, hE, hK⟩; replace hR := hR.eats hE hK; clear hE hK; have cj := hR.at_imm; have fj := hR.f 4 (by decide))
              replace hR := hR.set_imm a5.1
              clear hC5 cj fj
              generalize World.setCell v5 _ _ = u105 at hR ⊢
              go_meet
              refine ⟨{ opI (op, aq, rl) with rd := a1.1, rs1 := a3.1, imm := a5.1 }, a5.2, hR, Lib.hid ?_, ?_⟩
              · rw [hpre0.out, hp0.out]
                unfold fieldsB
                rw [if_neg (by decide), if_pos (by decide)]
                rw [if_neg (fun e => e.elim (by decide) hj.out)]
                simp only [hq1.out, hq2.out, hq3.out, hq4.out, hq5.out]
              · show _ ≤ a5.1 ∧ a5.1 ≤ _
                rw [← hq5.out]
                exact immB_bd _
          · as_aux_lemma =>
              go_upto_region 23 with fail
              obtain ⟨a1, hq1⟩ : ∃ a, regB p0 = a := ⟨_, rfl⟩
              have hz1 : a1.2.1.size ≤ 1000000 := by rw [← hq1]; exact Nat.le_trans (regB_size _) hz0
              have hC1 : Hid (∀ W, EC g p0 W → Calls Tryz.prog 66 #[.pointer (some ⟨g, 0, none⟩)] W (Eats g (.int .i64 a1.1) a1.2 W)) := Lib.hid fun W hW => by rw [← hq1]; exact Reg_any g p0 W hW hz0
              replace hq1 := Lib.hid hq1
              go_upto_region 24 with (go_at_call 66; refine (hC1.out _ hR.e).mono ?_; rintro e v1 ⟨rfl, hE, hK⟩; replace hR := hR.eats hE hK; clear hE hK; have cj := hR.at_rd; have fj := hR.f 1 (by decide))
              replace hR := hR.set_rd a1.1
              clear hC1 cj fj
              generalize World.setCell v1 _ _ = u101 at hR ⊢
              obtain ⟨q2, hq2⟩ : ∃ q, eatB cmB a1.2 = q := ⟨_, rfl⟩
              have hz2 : q2.1.size ≤ 1000000 := by rw [← hq2]; exact Nat.le_trans (eatB_size _ _) hz1
              have hC2 : Hid (∀ W, EC g a1.2 W → Calls Tryz.prog 65 #[.pointer (some ⟨g, 0, none⟩), .string { data := #[44, 32] }] W (Eats g (.tuple #[]) q2 W)) := Lib.hid fun W hW => by rw [← hq2]; exact Eat_any g _ cmB W hW
              replace hq2 := Lib.hid hq2
              go_upto_region 26 with (go_at_call 65; refine (hC2.out _ hR.e).mono ?_; rintro e v2 ⟨rfl, hE, hK⟩; replace hR := hR.eats hE hK; clear hE hK; have c0 : _ = some (Value.int .i64 op) := hR.at_op)
              clear hC2
              obtain ⟨a3, hq3⟩ : ∃ a, immB q2 = a := ⟨_, rfl⟩
              have hz3 : a3.2.1.size ≤ 1000000 := by rw [← hq3]; exact Nat.le_trans (immB_size _) hz2
              have hC3 : Hid (∀ W, EC g q2 W → Calls Tryz.prog 67 #[.pointer (some ⟨g, 0, none⟩)] W (Eats g (.int .i64 a3.1) a3.2 W)) := Lib.hid fun W hW => by rw [← hq3]; exact Imm_any g q2 W hW hz2
              replace hq3 := Lib.hid hq3
              go_upto_region 27 with (go_at_call 67; refine (hC3.out _ hR.e).mono ?_; rintro e v3 ⟨rfl, hE, hK⟩; replace hR := hR.eats hE hK; clear hE hK; have cj := hR.at_imm; have fj := hR.f 4 (by decide))
              replace hR := hR.set_imm a3.1
              clear hC3 cj fj
              generalize World.setCell v3 _ _ = u103 at hR ⊢
              obtain ⟨q4, hq4⟩ : ∃ q, eatB loB a3.2 = q := ⟨_, rfl⟩
              have hz4 : q4.1.size ≤ 1000000 := by rw [← hq4]; exact Nat.le_trans (eatB_size _ _) hz3
              have hC4 : Hid (∀ W, EC g a3.2 W → Calls Tryz.prog 65 #[.pointer (some ⟨g, 0, none⟩), .string { data := #[40] }] W (Eats g (.tuple #[]) q4 W)) := Lib.hid fun W hW => by rw [← hq4]; exact Eat_any g _ loB W hW
              replace hq4 := Lib.hid hq4
              go_upto_region 28 with (go_at_call 65; refine (hC4.out _ hR.e).mono ?_; rintro e v4 ⟨rfl, hE, hK⟩; replace hR := hR.eats hE hK; clear hE hK)
              clear hC4
              obtain ⟨a5, hq5⟩ : ∃ a, regB q4 = a := ⟨_, rfl⟩
              have hz5 : a5.2.1.size ≤ 1000000 := by rw [← hq5]; exact Nat.le_trans (regB_size _) hz4
              have hC5 : Hid (∀ W, EC g q4 W → Calls Tryz.prog 66 #[.pointer (some ⟨g, 0, none⟩)] W (Eats g (.int .i64 a5.1) a5.2 W)) := Lib.hid fun W hW => by rw [← hq5]; exact Reg_any g q4 W hW hz4
              replace hq5 := Lib.hid hq5
              go_upto_region 29 with (go_at_call 66; refine (hC5.out _ hR.e).mono ?_; rintro e v5 ⟨rfl, hE, hK⟩; replace hR := hR.eats hE hK; clear hE hK; have cj := hR.at_rs1; have fj := hR.f 2 (by decide))
              replace hR := hR.set_rs1 a5.1
              clear hC5 cj fj
              generalize World.setCell v5 _ _ = u105 at hR ⊢
              obtain ⟨q6, hq6⟩ : ∃ q, eatB roB a5.2 = q := ⟨_, rfl⟩
              have hz6 : q6.1.size ≤ 1000000 := by rw [← hq6]; exact Nat.le_trans (eatB_size _ _) hz5
              have hC6 : Hid (∀ W, EC g a5.2 W → Calls Tryz.prog 65 #[.pointer (some ⟨g, 0, none⟩), .string { data := #[41] }] W (Eats g (.tuple #[]) q6 W)) := Lib.hid fun W hW => by rw [← hq6]; exact Eat_any g _ roB W hW
              replace hq6 := Lib.hid hq6
              go_wp2_with (go_at_call 65; refine (hC6.out _ hR.e).mono ?_; rintro e v6 ⟨rfl, hE, hK⟩; replace hR := hR.eats hE hK; clear hE hK)
              clear hC6
              go_meet
              refine ⟨{ opI (op, aq, rl) with rd := a1.1, imm := a3.1, rs1 := a5.1 }, q6, hR, Lib.hid ?_, ?_⟩
              · rw [hpre0.out, hp0.out]
                unfold fieldsB
                rw [if_neg (by decide), if_pos (by decide)]
                rw [if_pos (.inl rfl)]
                simp only [hq1.out, hq2.out, hq3.out, hq4.out, hq5.out, hq6.out]
              · show _ ≤ a3.1 ∧ a3.1 ≤ _
                rw [← hq3.out]
                exact immB_bd _
          · as_aux_lemma =>
              go_upto_region 34 with fail
              obtain ⟨a1, hq1⟩ : ∃ a, regB p0 = a := ⟨_, rfl⟩
              have hz1 : a1.2.1.size ≤ 1000000 := by rw [← hq1]; exact Nat.le_trans (regB_size _) hz0
              have hC1 : Hid (∀ W, EC g p0 W → Calls Tryz.prog 66 #[.pointer (some ⟨g, 0, none⟩)] W (Eats g (.int .i64 a1.1) a1.2 W)) := Lib.hid fun W hW => by rw [← hq1]; exact Reg_any g p0 W hW hz0
              replace hq1 := Lib.hid hq1
              go_upto_region 35 with (go_at_call 66; refine (hC1.out _ hR.e).mono ?_; rintro e v1 ⟨rfl, hE, hK⟩; replace hR := hR.eats hE hK; clear hE hK; have cj := hR.at_rs2; have fj := hR.f 3 (by decide))
              replace hR := hR.set_rs2 a1.1
              clear hC1 cj fj
              generalize World.setCell v1 _ _ = u101 at hR ⊢
              obtain ⟨q2, hq2⟩ : ∃ q, eatB cmB a1.2 = q := ⟨_, rfl⟩
              have hz2 : q2.1.size ≤ 1000000 := by rw [← hq2]; exact Nat.le_trans (eatB_size _ _) hz1
              have hC2 : Hid (∀ W, EC g a1.2 W → Calls Tryz.prog 65 #[.pointer (some ⟨g, 0, none⟩), .string { data := #[44, 32] }] W (Eats g (.tuple #[]) q2 W)) := Lib.hid fun W hW => by rw [← hq2]; exact Eat_any g _ cmB W hW
              replace hq2 := Lib.hid hq2
              go_upto_region 36 with (go_at_call 65; refine (hC2.out _ hR.e).mono ?_; rintro e v2 ⟨rfl, hE, hK⟩; replace hR := hR.eats hE hK; clear hE hK)
              clear hC2
              obtain ⟨a3, hq3⟩ : ∃ a, immB q2 = a := ⟨_, rfl⟩
              have hz3 : a3.2.1.size ≤ 1000000 := by rw [← hq3]; exact Nat.le_trans (immB_size _) hz2
              have hC3 : Hid (∀ W, EC g q2 W → Calls Tryz.prog 67 #[.pointer (some ⟨g, 0, none⟩)] W (Eats g (.int .i64 a3.1) a3.2 W)) := Lib.hid fun W hW => by rw [← hq3]; exact Imm_any g q2 W hW hz2
              replace hq3 := Lib.hid hq3
              go_upto_region 37 with (go_at_call 67; refine (hC3.out _ hR.e).mono ?_; rintro e v3 ⟨rfl, hE, hK⟩; replace hR := hR.eats hE hK; clear hE hK; have cj := hR.at_imm; have fj := hR.f 4 (by decide))
              replace hR := hR.set_imm a3.1
              clear hC3 cj fj
              generalize World.setCell v3 _ _ = u103 at hR ⊢
              obtain ⟨q4, hq4⟩ : ∃ q, eatB loB a3.2 = q := ⟨_, rfl⟩
              have hz4 : q4.1.size ≤ 1000000 := by rw [← hq4]; exact Nat.le_trans (eatB_size _ _) hz3
              have hC4 : Hid (∀ W, EC g a3.2 W → Calls Tryz.prog 65 #[.pointer (some ⟨g, 0, none⟩), .string { data := #[40] }] W (Eats g (.tuple #[]) q4 W)) := Lib.hid fun W hW => by rw [← hq4]; exact Eat_any g _ loB W hW
              replace hq4 := Lib.hid hq4
              go_upto_region 38 with (go_at_call 65; refine (hC4.out _ hR.e).mono ?_; rintro e v4 ⟨rfl, hE, hK⟩; replace hR := hR.eats hE hK; clear hE hK)
              clear hC4
              obtain ⟨a5, hq5⟩ : ∃ a, regB q4 = a := ⟨_, rfl⟩
              have hz5 : a5.2.1.size ≤ 1000000 := by rw [← hq5]; exact Nat.le_trans (regB_size _) hz4
              have hC5 : Hid (∀ W, EC g q4 W → Calls Tryz.prog 66 #[.pointer (some ⟨g, 0, none⟩)] W (Eats g (.int .i64 a5.1) a5.2 W)) := Lib.hid fun W hW => by rw [← hq5]; exact Reg_any g q4 W hW hz4
              replace hq5 := Lib.hid hq5
              go_upto_region 39 with (go_at_call 66; refine (hC5.out _ hR.e).mono ?_; rintro e v5 ⟨rfl, hE, hK⟩; replace hR := hR.eats hE hK; clear hE hK; have cj := hR.at_rs1; have fj := hR.f 2 (by decide))
              replace hR := hR.set_rs1 a5.1
              clear hC5 cj fj
              generalize World.setCell v5 _ _ = u105 at hR ⊢
              obtain ⟨q6, hq6⟩ : ∃ q, eatB roB a5.2 = q := ⟨_, rfl⟩
              have hz6 : q6.1.size ≤ 1000000 := by rw [← hq6]; exact Nat.le_trans (eatB_size _ _) hz5
              have hC6 : Hid (∀ W, EC g a5.2 W → Calls Tryz.prog 65 #[.pointer (some ⟨g, 0, none⟩), .string { data := #[41] }] W (Eats g (.tuple #[]) q6 W)) := Lib.hid fun W hW => by rw [← hq6]; exact Eat_any g _ roB W hW
              replace hq6 := Lib.hid hq6
              go_wp2_with (go_at_call 65; refine (hC6.out _ hR.e).mono ?_; rintro e v6 ⟨rfl, hE, hK⟩; replace hR := hR.eats hE hK; clear hE hK)
              clear hC6
              go_meet
              refine ⟨{ opI (op, aq, rl) with rs2 := a1.1, imm := a3.1, rs1 := a5.1 }, q6, hR, Lib.hid ?_, ?_⟩
              · rw [hpre0.out, hp0.out]
                unfold fieldsB
                rw [if_neg (by decide), if_neg (by decide), if_pos (by decide)]
                simp only [hq1.out, hq2.out, hq3.out, hq4.out, hq5.out, hq6.out]
              · show _ ≤ a3.1 ∧ a3.1 ≤ _
                rw [← hq3.out]
                exact immB_bd _
          · as_aux_lemma =>
              go_upto_region 41 with fail
              obtain ⟨a1, hq1⟩ : ∃ a, regB p0 = a := ⟨_, rfl⟩
              have hz1 : a1.2.1.size ≤ 1000000 := by rw [← hq1]; exact Nat.le_trans (regB_size _) hz0
              have hC1 : Hid (∀ W, EC g p0 W → Calls Tryz.prog 66 #[.pointer (some ⟨g, 0, none⟩)] W (Eats g (.int .i64 a1.1) a1.2 W)) := Lib.hid fun W hW => by rw [← hq1]; exact Reg_any g p0 W hW hz0
              replace hq1 := Lib.hid hq1
              go_upto_region 42 with (go_at_call 66; refine (hC1.out _ hR.e).mono ?_; rintro e v1 ⟨rfl, hE, hK⟩; replace hR := hR.eats hE hK; clear hE hK; have cj := hR.at_rs1; have fj := hR.f 2 (by decide))
              replace hR := hR.set_rs1 a1.1
              clear hC1 cj fj
              generalize World.setCell v1 _ _ = u101 at hR ⊢
              obtain ⟨q2, hq2⟩ : ∃ q, eatB cmB a1.2 = q := ⟨_, rfl⟩
              have hz2 : q2.1.size ≤ 1000000 := by rw [← hq2]; exact Nat.le_trans (eatB_size _ _) hz1
              have hC2 : Hid (∀ W, EC g a1.2 W → Calls Tryz.prog 65 #[.pointer (some ⟨g, 0, none⟩), .string { data := #[44, 32] }] W (Eats g (.tuple #[]) q2 W)) := Lib.hid fun W hW => by rw [← hq2]; exact Eat_any g _ cmB W hW
              replace hq2 := Lib.hid hq2
              go_upto_region 43 with (go_at_call 65; refine (hC2.out _ hR.e).mono ?_; rintro e v2 ⟨rfl, hE, hK⟩; replace hR := hR.eats hE hK; clear hE hK)
              clear hC2
              obtain ⟨a3, hq3⟩ : ∃ a, regB q2 = a := ⟨_, rfl⟩
              have hz3 : a3.2.1.size ≤ 1000000 := by rw [← hq3]; exact Nat.le_trans (regB_size _) hz2
              have hC3 : Hid (∀ W, EC g q2 W → Calls Tryz.prog 66 #[.pointer (some ⟨g, 0, none⟩)] W (Eats g (.int .i64 a3.1) a3.2 W)) := Lib.hid fun W hW => by rw [← hq3]; exact Reg_any g q2 W hW hz2
              replace hq3 := Lib.hid hq3
              go_upto_region 44 with (go_at_call 66; refine (hC3.out _ hR.e).mono ?_; rintro e v3 ⟨rfl, hE, hK⟩; replace hR := hR.eats hE hK; clear hE hK; have cj := hR.at_rs2; have fj := hR.f 3 (by decide))
              replace hR := hR.set_rs2 a3.1
              clear hC3 cj fj
              generalize World.setCell v3 _ _ = u103 at hR ⊢
              obtain ⟨q4, hq4⟩ : ∃ q, eatB cmB a3.2 = q := ⟨_, rfl⟩
              have hz4 : q4.1.size ≤ 1000000 := by rw [← hq4]; exact Nat.le_trans (eatB_size _ _) hz3
              have hC4 : Hid (∀ W, EC g a3.2 W → Calls Tryz.prog 65 #[.pointer (some ⟨g, 0, none⟩), .string { data := #[44, 32] }] W (Eats g (.tuple #[]) q4 W)) := Lib.hid fun W hW => by rw [← hq4]; exact Eat_any g _ cmB W hW
              replace hq4 := Lib.hid hq4
              go_upto_region 45 with (go_at_call 65; refine (hC4.out _ hR.e).mono ?_; rintro e v4 ⟨rfl, hE, hK⟩; replace hR := hR.eats hE hK; clear hE hK)
              clear hC4
              obtain ⟨a5, hq5⟩ : ∃ a, immB q4 = a := ⟨_, rfl⟩
              have hz5 : a5.2.1.size ≤ 1000000 := by rw [← hq5]; exact Nat.le_trans (immB_size _) hz4
              have hC5 : Hid (∀ W, EC g q4 W → Calls Tryz.prog 67 #[.pointer (some ⟨g, 0, none⟩)] W (Eats g (.int .i64 a5.1) a5.2 W)) := Lib.hid fun W hW => by rw [← hq5]; exact Imm_any g q4 W hW hz4
              replace hq5 := Lib.hid hq5
              go_wp2_with (go_at_call 67; refine (hC5.out _ hR.e).mono ?_; rintro e v5 ⟨rfl, hE, hK⟩; replace hR := hR.eats hE hK; clear hE hK; have cj := hR.at_imm; have fj := hR.f 4 (by decide))
              replace hR := hR.set_imm a5.1
              clear hC5 cj fj
              generalize World.setCell v5 _ _ = u105 at hR ⊢
              go_meet
              refine ⟨{ opI (op, aq, rl) with rs1 := a1.1, rs2 := a3.1, imm := a5.1 }, a5.2, hR, Lib.hid ?_, ?_⟩
              · rw [hpre0.out, hp0.out]
                unfold fieldsB
                rw [if_neg (by decide), if_neg (by decide), if_neg (by decide), if_pos (by decide)]
                simp only [hq1.out, hq2.out, hq3.out, hq4.out, hq5.out]
              · show _ ≤ a5.1 ∧ a5.1 ≤ _
                rw [← hq5.out]
                exact immB_bd _
          · as_aux_lemma =>
              replace hj := Lib.hid hj
              have tj : (op == 4) = false := by simpa using hj.out
              have c0 : _ = some (Value.int .i64 op) := hR.at_op
              go_upto_region 23 with fail
              obtain ⟨a1, hq1⟩ : ∃ a, regB p0 = a := ⟨_, rfl⟩
              have hz1 : a1.2.1.size ≤ 1000000 := by rw [← hq1]; exact Nat.le_trans (regB_size _) hz0
              have hC1 : Hid (∀ W, EC g p0 W → Calls Tryz.prog 66 #[.pointer (some ⟨g, 0, none⟩)] W (Eats g (.int .i64 a1.1) a1.2 W)) := Lib.hid fun W hW => by rw [← hq1]; exact Reg_any g p0 W hW hz0
              replace hq1 := Lib.hid hq1
              go_upto_region 24 with (go_at_call 66; refine (hC1.out _ hR.e).mono ?_; rintro e v1 ⟨rfl, hE, hK⟩; replace hR := hR.eats hE hK; clear hE hK; have cj := hR.at_rd; have fj := hR.f 1 (by decide))
              replace hR := hR.set_rd a1.1
              clear hC1 cj fj
              generalize World.setCell v1 _ _ = u101 at hR ⊢
              obtain ⟨q2, hq2⟩ : ∃ q, eatB cmB a1.2 = q := ⟨_, rfl⟩
              have hz2 : q2.1.size ≤ 1000000 := by rw [← hq2]; exact Nat.le_trans (eatB_size _ _) hz1
              have hC2 : Hid (∀ W, EC g a1.2 W → Calls Tryz.prog 65 #[.pointer (some ⟨g, 0, none⟩), .string { data := #[44, 32] }] W (Eats g (.tuple #[]) q2 W)) := Lib.hid fun W hW => by rw [← hq2]; exact Eat_any g _ cmB W hW
              replace hq2 := Lib.hid hq2
              go_upto_region 30 with (go_at_call 65; refine (hC2.out _ hR.e).mono ?_; rintro e v2 ⟨rfl, hE, hK⟩; replace hR := hR.eats hE hK; clear hE hK; have c0 : _ = some (Value.int .i64 op) := hR.at_op)
              clear hC2
              obtain ⟨a3, hq3⟩ : ∃ a, regB q2 = a := ⟨_, rfl⟩
              have hz3 : a3.2.1.size ≤ 1000000 := by rw [← hq3]; exact Nat.le_trans (regB_size _) hz2
              have hC3 : Hid (∀ W, EC g q2 W → Calls Tryz.prog 66 #[.pointer (some ⟨g, 0, none⟩)] W (Eats g (.int .i64 a3.1) a3.2 W)) := Lib.hid fun W hW => by rw [← hq3]; exact Reg_any g q2 W hW hz2
              replace hq3 := Lib.hid hq3
              go_upto_region 31 with (go_at_call 66; refine (hC3.out _ hR.e).mono ?_; rintro e v3 ⟨rfl, hE, hK⟩; replace hR := hR.eats hE hK; clear hE hK; have cj := hR.at_rs1; have fj := hR.f 2 (by decide))
              replace hR := hR.set_rs1 a3.1
              clear hC3 cj fj
              generalize World.setCell v3 _ _ = u103 at hR ⊢
              obtain ⟨q4, hq4⟩ : ∃ q, eatB cmB a3.2 = q := ⟨_, rfl⟩
              have hz4 : q4.1.size ≤ 1000000 := by rw [← hq4]; exact Nat.le_trans (eatB_size _ _) hz3
              have hC4 : Hid (∀ W, EC g a3.2 W → Calls Tryz.prog 65 #[.pointer (some ⟨g, 0, none⟩), .string { data := #[44, 32] }] W (Eats g (.tuple #[]) q4 W)) := Lib.hid fun W hW => by rw [← hq4]; exact Eat_any g _ cmB W hW
              replace hq4 := Lib.hid hq4
              go_upto_region 32 with (go_at_call 65; refine (hC4.out _ hR.e).mono ?_; rintro e v4 ⟨rfl, hE, hK⟩; replace hR := hR.eats hE hK; clear hE hK)
              clear hC4
              obtain ⟨a5, hq5⟩ : ∃ a, immB q4 = a := ⟨_, rfl⟩
              have hz5 : a5.2.1.size ≤ 1000000 := by rw [← hq5]; exact Nat.le_trans (immB_size _) hz4
              have hC5 : Hid (∀ W, EC g q4 W → Calls Tryz.prog 67 #[.pointer (some ⟨g, 0, none⟩)] W (Eats g (.int .i64 a5.1) a5.2 W)) := Lib.hid fun W hW => by rw [← hq5]; exact Imm_any g q4 W hW hz4
              replace hq5 := Lib.hid hq5
              go_wp2_with (go_at_call 67; refine (hC5.out _ hR.e).mono ?_; rintro e v5 ⟨rfl, hE, hK⟩; replace hR := hR.eats hE hK; clear hE hK; have cj := hR.at_imm; have fj := hR.f 4 (by decide))
              replace hR := hR.set_imm a5.1
              clear hC5 cj fj
              generalize World.setCell v5 _ _ = u105 at hR ⊢
              go_meet
              refine ⟨{ opI (op, aq, rl) with rd := a1.1, rs1 := a3.1, imm := a5.1 }, a5.2, hR, Lib.hid ?_, ?_⟩
              · rw [hpre0.out, hp0.out]
                unfold fieldsB
                rw [if_neg (by decide), if_pos (by decide)]
                rw [if_neg (fun e => e.elim (by decide) hj.out)]
                simp only [hq1.out, hq2.out, hq3.out, hq4.out, hq5.out]
              · show _ ≤ a5.1 ∧ a5.1 ≤ _
                rw [← hq5.out]
                exact immB_bd _
          · as_aux_lemma =>
              go_upto_region 47 with fail
              obtain ⟨a1, hq1⟩ : ∃ a, regB p0 = a := ⟨_, rfl⟩
              have hz1 : a1.2.1.size ≤ 1000000 := by rw [← hq1]; exact Nat.le_trans (regB_size _) hz0
              have hC1 : Hid (∀ W, EC g p0 W → Calls Tryz.prog 66 #[.pointer (some ⟨g, 0, none⟩)] W (Eats g (.int .i64 a1.1) a1.2 W)) := Lib.hid fun W hW => by rw [← hq1]; exact Reg_any g p0 W hW hz0
              replace hq1 := Lib.hid hq1
              go_upto_region 48 with (go_at_call 66; refine (hC1.out _ hR.e).mono ?_; rintro e v1 ⟨rfl, hE, hK⟩; replace hR := hR.eats hE hK; clear hE hK; have cj := hR.at_rd; have fj := hR.f 1 (by decide))
              replace hR := hR.set_rd a1.1
              clear hC1 cj fj
              generalize World.setCell v1 _ _ = u101 at hR ⊢
              obtain ⟨q2, hq2⟩ : ∃ q, eatB cmB a1.2 = q := ⟨_, rfl⟩
              have hz2 : q2.1.size ≤ 1000000 := by rw [← hq2]; exact Nat.le_trans (eatB_size _ _) hz1
              have hC2 : Hid (∀ W, EC g a1.2 W → Calls Tryz.prog 65 #[.pointer (some ⟨g, 0, none⟩), .string { data := #[44, 32] }] W (Eats g (.tuple #[]) q2 W)) := Lib.hid fun W hW => by rw [← hq2]; exact Eat_any g _ cmB W hW
              replace hq2 := Lib.hid hq2
              go_upto_region 49 with (go_at_call 65; refine (hC2.out _ hR.e).mono ?_; rintro e v2 ⟨rfl, hE, hK⟩; replace hR := hR.eats hE hK; clear hE hK)
              clear hC2
              obtain ⟨a3, hq3⟩ : ∃ a, regB q2 = a := ⟨_, rfl⟩
              have hz3 : a3.2.1.size ≤ 1000000 := by rw [← hq3]; exact Nat.le_trans (regB_size _) hz2
              have hC3 : Hid (∀ W, EC g q2 W → Calls Tryz.prog 66 #[.pointer (some ⟨g, 0, none⟩)] W (Eats g (.int .i64 a3.1) a3.2 W)) := Lib.hid fun W hW => by rw [← hq3]; exact Reg_any g q2 W hW hz2
              replace hq3 := Lib.hid hq3
              go_upto_region 50 with (go_at_call 66; refine (hC3.out _ hR.e).mono ?_; rintro e v3 ⟨rfl, hE, hK⟩; replace hR := hR.eats hE hK; clear hE hK; have cj := hR.at_rs1; have fj := hR.f 2 (by decide))
              replace hR := hR.set_rs1 a3.1
              clear hC3 cj fj
              generalize World.setCell v3 _ _ = u103 at hR ⊢
              obtain ⟨q4, hq4⟩ : ∃ q, eatB cmB a3.2 = q := ⟨_, rfl⟩
              have hz4 : q4.1.size ≤ 1000000 := by rw [← hq4]; exact Nat.le_trans (eatB_size _ _) hz3
              have hC4 : Hid (∀ W, EC g a3.2 W → Calls Tryz.prog 65 #[.pointer (some ⟨g, 0, none⟩), .string { data := #[44, 32] }] W (Eats g (.tuple #[]) q4 W)) := Lib.hid fun W hW => by rw [← hq4]; exact Eat_any g _ cmB W hW
              replace hq4 := Lib.hid hq4
              go_upto_region 51 with (go_at_call 65; refine (hC4.out _ hR.e).mono ?_; rintro e v4 ⟨rfl, hE, hK⟩; replace hR := hR.eats hE hK; clear hE hK)
              clear hC4
              obtain ⟨a5, hq5⟩ : ∃ a, regB q4 = a := ⟨_, rfl⟩
              have hz5 : a5.2.1.size ≤ 1000000 := by rw [← hq5]; exact Nat.le_trans (regB_size _) hz4
              have hC5 : Hid (∀ W, EC g q4 W → Calls Tryz.prog 66 #[.pointer (some ⟨g, 0, none⟩)] W (Eats g (.int .i64 a5.1) a5.2 W)) := Lib.hid fun W hW => by rw [← hq5]; exact Reg_any g q4 W hW hz4
              replace hq5 := Lib.hid hq5
              go_wp2_with (go_at_call 66; refine (hC5.out _ hR.e).mono ?_; rintro e v5 ⟨rfl, hE, hK⟩; replace hR := hR.eats hE hK; clear hE hK; have cj := hR.at_rs2; have fj := hR.f 3 (by decide))
              replace hR := hR.set_rs2 a5.1
              clear hC5 cj fj
              generalize World.setCell v5 _ _ = u105 at hR ⊢
              go_meet
              refine ⟨{ opI (op, aq, rl) with rd := a1.1, rs1 := a3.1, rs2 := a5.1 }, a5.2, hR, Lib.hid ?_, ?_⟩
              · rw [hpre0.out, hp0.out]
                unfold fieldsB
                rw [if_neg (by decide), if_neg (by decide), if_neg (by decide), if_neg (by decide), if_pos (by decide)]
                simp only [hq1.out, hq2.out, hq3.out, hq4.out, hq5.out]
              · exact ⟨by show (-9223372036854775808 : Int) ≤ 0; decide, by show (0 : Int) ≤ 9223372036854775807; decide⟩
          · as_aux_lemma =>
              go_upto_region 53 with fail
              obtain ⟨a1, hq1⟩ : ∃ a, partB p0 = a := ⟨_, rfl⟩
              have hz1 : a1.2.1.size ≤ 1000000 := by rw [← hq1]; exact Nat.le_trans (partB_size _) hz0
              have hC1 : Hid (∀ W, EC g p0 W → Calls Tryz.prog 68 #[.pointer (some ⟨g, 0, none⟩)] W (Eats g (.int .i64 a1.1) a1.2 W)) := Lib.hid fun W hW => by rw [← hq1]; exact Part_any' g p0 W hW hz0
              replace hq1 := Lib.hid hq1
              go_upto_region 54 with (go_at_call 68; refine (hC1.out _ hR.e).mono ?_; rintro e v1 ⟨rfl, hE, hK⟩; replace hR := hR.eats hE hK; clear hE hK; have cj := hR.at_pred; have fj := hR.f 7 (by decide))
              replace hR := hR.set_pred a1.1
              clear hC1 cj fj
              generalize World.setCell v1 _ _ = u101 at hR ⊢
              obtain ⟨q2, hq2⟩ : ∃ q, eatB cmB a1.2 = q := ⟨_, rfl⟩
              have hz2 : q2.1.size ≤ 1000000 := by rw [← hq2]; exact Nat.le_trans (eatB_size _ _) hz1
              have hC2 : Hid (∀ W, EC g a1.2 W → Calls Tryz.prog 65 #[.pointer (some ⟨g, 0, none⟩), .string { data := #[44, 32] }] W (Eats g (.tuple #[]) q2 W)) := Lib.hid fun W hW => by rw [← hq2]; exact Eat_any g _ cmB W hW
              replace hq2 := Lib.hid hq2
              go_upto_region 55 with (go_at_call 65; refine (hC2.out _ hR.e).mono ?_; rintro e v2 ⟨rfl, hE, hK⟩; replace hR := hR.eats hE hK; clear hE hK)
              clear hC2
              obtain ⟨a3, hq3⟩ : ∃ a, partB q2 = a := ⟨_, rfl⟩
              have hz3 : a3.2.1.size ≤ 1000000 := by rw [← hq3]; exact Nat.le_trans (partB_size _) hz2
              have hC3 : Hid (∀ W, EC g q2 W → Calls Tryz.prog 68 #[.pointer (some ⟨g, 0, none⟩)] W (Eats g (.int .i64 a3.1) a3.2 W)) := Lib.hid fun W hW => by rw [← hq3]; exact Part_any' g q2 W hW hz2
              replace hq3 := Lib.hid hq3
              go_wp2_with (go_at_call 68; refine (hC3.out _ hR.e).mono ?_; rintro e v3 ⟨rfl, hE, hK⟩; replace hR := hR.eats hE hK; clear hE hK; have cj := hR.at_succ; have fj := hR.f 8 (by decide))
              replace hR := hR.set_succ a3.1
              clear hC3 cj fj
              generalize World.setCell v3 _ _ = u103 at hR ⊢
              go_meet
              refine ⟨{ opI (op, aq, rl) with pred := a1.1, succ := a3.1 }, a3.2, hR, Lib.hid ?_, ?_⟩
              · rw [hpre0.out, hp0.out]
                unfold fieldsB
                rw [if_neg (by decide), if_neg (by decide), if_neg (by decide), if_neg (by decide), if_neg (by decide), if_pos (by decide)]
                simp only [hq1.out, hq2.out, hq3.out]
              · exact ⟨by show (-9223372036854775808 : Int) ≤ 0; decide, by show (0 : Int) ≤ 9223372036854775807; decide⟩
          · as_aux_lemma =>
              go_upto_region 58 with fail
              obtain ⟨a1, hq1⟩ : ∃ a, regB p0 = a := ⟨_, rfl⟩
              have hz1 : a1.2.1.size ≤ 1000000 := by rw [← hq1]; exact Nat.le_trans (regB_size _) hz0
              have hC1 : Hid (∀ W, EC g p0 W → Calls Tryz.prog 66 #[.pointer (some ⟨g, 0, none⟩)] W (Eats g (.int .i64 a1.1) a1.2 W)) := Lib.hid fun W hW => by rw [← hq1]; exact Reg_any g p0 W hW hz0
              replace hq1 := Lib.hid hq1
              go_upto_region 59 with (go_at_call 66; refine (hC1.out _ hR.e).mono ?_; rintro e v1 ⟨rfl, hE, hK⟩; replace hR := hR.eats hE hK; clear hE hK; have cj := hR.at_rd; have fj := hR.f 1 (by decide))
              replace hR := hR.set_rd a1.1
              clear hC1 cj fj
              generalize World.setCell v1 _ _ = u101 at hR ⊢
              obtain ⟨q2, hq2⟩ : ∃ q, eatB cmB a1.2 = q := ⟨_, rfl⟩
              have hz2 : q2.1.size ≤ 1000000 := by rw [← hq2]; exact Nat.le_trans (eatB_size _ _) hz1
              have hC2 : Hid (∀ W, EC g a1.2 W → Calls Tryz.prog 65 #[.pointer (some ⟨g, 0, none⟩), .string { data := #[44, 32] }] W (Eats g (.tuple #[]) q2 W)) := Lib.hid fun W hW => by rw [← hq2]; exact Eat_any g _ cmB W hW
              replace hq2 := Lib.hid hq2
              go_upto_region 63 with (go_at_call 65; refine (hC2.out _ hR.e).mono ?_; rintro e v2 ⟨rfl, hE, hK⟩; replace hR := hR.eats hE hK; clear hE hK)
              clear hC2
              obtain ⟨q3, hq3⟩ : ∃ q, eatB loB q2 = q := ⟨_, rfl⟩
              have hz3 : q3.1.size ≤ 1000000 := by rw [← hq3]; exact Nat.le_trans (eatB_size _ _) hz2
              have hC3 : Hid (∀ W, EC g q2 W → Calls Tryz.prog 65 #[.pointer (some ⟨g, 0, none⟩), .string { data := #[40] }] W (Eats g (.tuple #[]) q3 W)) := Lib.hid fun W hW => by rw [← hq3]; exact Eat_any g _ loB W hW
              replace hq3 := Lib.hid hq3
              go_upto_region 64 with (go_at_call 65; refine (hC3.out _ hR.e).mono ?_; rintro e v3 ⟨rfl, hE, hK⟩; replace hR := hR.eats hE hK; clear hE hK)
              clear hC3
              obtain ⟨a4, hq4⟩ : ∃ a, regB q3 = a := ⟨_, rfl⟩
              have hz4 : a4.2.1.size ≤ 1000000 := by rw [← hq4]; exact Nat.le_trans (regB_size _) hz3
              have hC4 : Hid (∀ W, EC g q3 W → Calls Tryz.prog 66 #[.pointer (some ⟨g, 0, none⟩)] W (Eats g (.int .i64 a4.1) a4.2 W)) := Lib.hid fun W hW => by rw [← hq4]; exact Reg_any g q3 W hW hz3
              replace hq4 := Lib.hid hq4
              go_upto_region 65 with (go_at_call 66; refine (hC4.out _ hR.e).mono ?_; rintro e v4 ⟨rfl, hE, hK⟩; replace hR := hR.eats hE hK; clear hE hK; have cj := hR.at_rs1; have fj := hR.f 2 (by decide))
              replace hR := hR.set_rs1 a4.1
              clear hC4 cj fj
              generalize World.setCell v4 _ _ = u104 at hR ⊢
              obtain ⟨q5, hq5⟩ : ∃ q, eatB roB a4.2 = q := ⟨_, rfl⟩
              have hz5 : q5.1.size ≤ 1000000 := by rw [← hq5]; exact Nat.le_trans (eatB_size _ _) hz4
              have hC5 : Hid (∀ W, EC g a4.2 W → Calls Tryz.prog 65 #[.pointer (some ⟨g, 0, none⟩), .string { data := #[41] }] W (Eats g (.tuple #[]) q5 W)) := Lib.hid fun W hW => by rw [← hq5]; exact Eat_any g _ roB W hW
              replace hq5 := Lib.hid hq5
              go_wp2_with (go_at_call 65; refine (hC5.out _ hR.e).mono ?_; rintro e v5 ⟨rfl, hE, hK⟩; replace hR := hR.eats hE hK; clear hE hK)
              clear hC5
              go_meet
              refine ⟨{ opI (op, aq, rl) with rd := a1.1, rs1 := a4.1 }, q5, hR, Lib.hid ?_, ?_⟩
              · rw [hpre0.out, hp0.out]
                unfold fieldsB
                rw [if_neg (by decide), if_neg (by decide), if_neg (by decide), if_neg (by decide), if_neg (by decide), if_neg (by decide), if_pos (by decide)]
                simp only [hq1.out, hq2.out, hq3.out, hq4.out, hq5.out]
              · exact ⟨by show (-9223372036854775808 : Int) ≤ 0; decide, by show (0 : Int) ≤ 9223372036854775807; decide⟩
          · as_aux_lemma =>
              go_upto_region 58 with fail
              obtain ⟨a1, hq1⟩ : ∃ a, regB p0 = a := ⟨_, rfl⟩
              have hz1 : a1.2.1.size ≤ 1000000 := by rw [← hq1]; exact Nat.le_trans (regB_size _) hz0
              have hC1 : Hid (∀ W, EC g p0 W → Calls Tryz.prog 66 #[.pointer (some ⟨g, 0, none⟩)] W (Eats g (.int .i64 a1.1) a1.2 W)) := Lib.hid fun W hW => by rw [← hq1]; exact Reg_any g p0 W hW hz0
              replace hq1 := Lib.hid hq1
              go_upto_region 59 with (go_at_call 66; refine (hC1.out _ hR.e).mono ?_; rintro e v1 ⟨rfl, hE, hK⟩; replace hR := hR.eats hE hK; clear hE hK; have cj := hR.at_rd; have fj := hR.f 1 (by decide))
              replace hR := hR.set_rd a1.1
              clear hC1 cj fj
              generalize World.setCell v1 _ _ = u101 at hR ⊢
              obtain ⟨q2, hq2⟩ : ∃ q, eatB cmB a1.2 = q := ⟨_, rfl⟩
              have hz2 : q2.1.size ≤ 1000000 := by rw [← hq2]; exact Nat.le_trans (eatB_size _ _) hz1
              have hC2 : Hid (∀ W, EC g a1.2 W → Calls Tryz.prog 65 #[.pointer (some ⟨g, 0, none⟩), .string { data := #[44, 32] }] W (Eats g (.tuple #[]) q2 W)) := Lib.hid fun W hW => by rw [← hq2]; exact Eat_any g _ cmB W hW
              replace hq2 := Lib.hid hq2
              go_upto_region 61 with (go_at_call 65; refine (hC2.out _ hR.e).mono ?_; rintro e v2 ⟨rfl, hE, hK⟩; replace hR := hR.eats hE hK; clear hE hK)
              clear hC2
              obtain ⟨a3, hq3⟩ : ∃ a, regB q2 = a := ⟨_, rfl⟩
              have hz3 : a3.2.1.size ≤ 1000000 := by rw [← hq3]; exact Nat.le_trans (regB_size _) hz2
              have hC3 : Hid (∀ W, EC g q2 W → Calls Tryz.prog 66 #[.pointer (some ⟨g, 0, none⟩)] W (Eats g (.int .i64 a3.1) a3.2 W)) := Lib.hid fun W hW => by rw [← hq3]; exact Reg_any g q2 W hW hz2
              replace hq3 := Lib.hid hq3
              go_upto_region 62 with (go_at_call 66; refine (hC3.out _ hR.e).mono ?_; rintro e v3 ⟨rfl, hE, hK⟩; replace hR := hR.eats hE hK; clear hE hK; have cj := hR.at_rs2; have fj := hR.f 3 (by decide))
              replace hR := hR.set_rs2 a3.1
              clear hC3 cj fj
              generalize World.setCell v3 _ _ = u103 at hR ⊢
              obtain ⟨q4, hq4⟩ : ∃ q, eatB cmB a3.2 = q := ⟨_, rfl⟩
              have hz4 : q4.1.size ≤ 1000000 := by rw [← hq4]; exact Nat.le_trans (eatB_size _ _) hz3
              have hC4 : Hid (∀ W, EC g a3.2 W → Calls Tryz.prog 65 #[.pointer (some ⟨g, 0, none⟩), .string { data := #[44, 32] }] W (Eats g (.tuple #[]) q4 W)) := Lib.hid fun W hW => by rw [← hq4]; exact Eat_any g _ cmB W hW
              replace hq4 := Lib.hid hq4
              go_upto_region 63 with (go_at_call 65; refine (hC4.out _ hR.e).mono ?_; rintro e v4 ⟨rfl, hE, hK⟩; replace hR := hR.eats hE hK; clear hE hK)
              clear hC4
              obtain ⟨q5, hq5⟩ : ∃ q, eatB loB q4 = q := ⟨_, rfl⟩
              have hz5 : q5.1.size ≤ 1000000 := by rw [← hq5]; exact Nat.le_trans (eatB_size _ _) hz4
              have hC5 : Hid (∀ W, EC g q4 W → Calls Tryz.prog 65 #[.pointer (some ⟨g, 0, none⟩), .string { data := #[40] }] W (Eats g (.tuple #[]) q5 W)) := Lib.hid fun W hW => by rw [← hq5]; exact Eat_any g _ loB W hW
              replace hq5 := Lib.hid hq5
              go_upto_region 64 with (go_at_call 65; refine (hC5.out _ hR.e).mono ?_; rintro e v5 ⟨rfl, hE, hK⟩; replace hR := hR.eats hE hK; clear hE hK)
              clear hC5
              obtain ⟨a6, hq6⟩ : ∃ a, regB q5 = a := ⟨_, rfl⟩
              have hz6 : a6.2.1.size ≤ 1000000 := by rw [← hq6]; exact Nat.le_trans (regB_size _) hz5
              have hC6 : Hid (∀ W, EC g q5 W → Calls Tryz.prog 66 #[.pointer (some ⟨g, 0, none⟩)] W (Eats g (.int .i64 a6.1) a6.2 W)) := Lib.hid fun W hW => by rw [← hq6]; exact Reg_any g q5 W hW hz5
              replace hq6 := Lib.hid hq6
              go_upto_region 65 with (go_at_call 66; refine (hC6.out _ hR.e).mono ?_; rintro e v6 ⟨rfl, hE, hK⟩; replace hR := hR.eats hE hK; clear hE hK; have cj := hR.at_rs1; have fj := hR.f 2 (by decide))
              replace hR := hR.set_rs1 a6.1
              clear hC6 cj fj
              generalize World.setCell v6 _ _ = u106 at hR ⊢
              obtain ⟨q7, hq7⟩ : ∃ q, eatB roB a6.2 = q := ⟨_, rfl⟩
              have hz7 : q7.1.size ≤ 1000000 := by rw [← hq7]; exact Nat.le_trans (eatB_size _ _) hz6
              have hC7 : Hid (∀ W, EC g a6.2 W → Calls Tryz.prog 65 #[.pointer (some ⟨g, 0, none⟩), .string { data := #[41] }] W (Eats g (.tuple #[]) q7 W)) := Lib.hid fun W hW => by rw [← hq7]; exact Eat_any g _ roB W hW
              replace hq7 := Lib.hid hq7
              go_wp2_with (go_at_call 65; refine (hC7.out _ hR.e).mono ?_; rintro e v7 ⟨rfl, hE, hK⟩; replace hR := hR.eats hE hK; clear hE hK)
              clear hC7
              go_meet
              refine ⟨{ opI (op, aq, rl) with rd := a1.1, rs2 := a3.1, rs1 := a6.1 }, q7, hR, Lib.hid ?_, ?_⟩
              · rw [hpre0.out, hp0.out]
                unfold fieldsB
                rw [if_neg (by decide), if_neg (by decide), if_neg (by decide), if_neg (by decide), if_neg (by decide), if_neg (by decide), if_neg (by decide), if_pos (by decide)]
                simp only [hq1.out, hq2.out, hq3.out, hq4.out, hq5.out, hq6.out, hq7.out]
              · exact ⟨by show (-9223372036854775808 : Int) ≤ 0; decide, by show (0 : Int) ≤ 9223372036854775807; decide⟩
          · as_aux_lemma =>
              rcases hkk with rfl | rfl
              · go_wp2_with fail
                go_meet
                refine ⟨opI (op, aq, rl), p0, hR, Lib.hid ?_, ?_⟩
                · rw [hpre0.out, hp0.out]
                  unfold fieldsB
                  rw [if_neg (by decide), if_neg (by decide), if_neg (by decide), if_neg (by decide), if_neg (by decide), if_neg (by decide), if_neg (by decide), if_neg (by decide)]
                · exact ⟨by show (-9223372036854775808 : Int) ≤ 0; decide, by show (0 : Int) ≤ 9223372036854775807; decide⟩
              · go_wp2_with fail
                go_meet
                refine ⟨opI (op, aq, rl), p0, hR, Lib.hid ?_, ?_⟩
                · rw [hpre0.out, hp0.out]
                  unfold fieldsB
                  rw [if_neg (by decide), if_neg (by decide), if_neg (by decide), if_neg (by decide), if_neg (by decide), if_neg (by decide), if_neg (by decide), if_neg (by decide)]
                · exact ⟨by show (-9223372036854775808 : Int) ≤ 0; decide, by show (0 : Int) ≤ 9223372036854775807; decide⟩
        case rest =>
          as_aux_lemma =>
            clear hF hp0 hpre0 hR h7 h0 h12
            obtain ⟨iF, pF, hR, hpre, him⟩ := hcut
            obtain ⟨ce, hce⟩ : ∃ c, checkE iF = c := ⟨_, rfl⟩
            obtain ⟨tx, htx⟩ : ∃ t, textT iF = t := ⟨_, rfl⟩
            have hrd : Hid (R = if pF.2 = true ∨ ce ≠ 0 ∨ tx ≠ s.toList then (zeroI, 4) else (iF, 0)) := Lib.hid (by rw [← hRd.out]; unfold readB; simp only [hpre.out, hce, htx])
            obtain ⟨IL, hIL⟩ : ∃ l, iF.cells.toList = l := ⟨_, rfl⟩
            have hIL9 : IL.length = 9 := by rw [← hIL]; rfl
            have hILo : IL.toArray.all (·.oneCell') = true := by rw [← hIL, Array.toArray_toList]; exact InsnV.one iF
            have hILc : Hid (IL.toArray = iF.cells) := Lib.hid (by rw [← hIL, Array.toArray_toList])
            have hrg := hR.range
            rw [hIL] at hrg
            have hu := Tryz.underlying23
            have hi : (Tryz.prog.info? 23).map (·.size) = some IL.length := by rw [hIL9]; kernel_rfl
            have hi2 : (Tryz.prog.info? 23).map (·.size) = some IL.toArray.size := by rw [List.size_toArray, hIL9]; kernel_rfl
            have hT : Hid (∀ W, Calls Tryz.prog 36 #[.agg IL.toArray] W fun e w' => e = .returned (.tuple #[.string ⟨tx.toArray⟩, .int .i64 ce]) ∧ Below W.heap.size W w') := Lib.hid fun W => by rw [hILc.out, ← hce, ← htx]; exact R2Text_any iF him W
            replace hIL := Lib.hid hIL
            replace hILo := Lib.hid hILo
            replace hIL9 := Lib.hid hIL9
            replace hi2 := Lib.hid hi2
            replace hi := Lib.hid hi
            clear hpre him hce htx hnm hp hs hns
            go_upto_region 67 with (first | (refine wpList_load_mid rfl 23 _ rfl b 0 rfl IL _ hrg hu rfl hi.out ?_) | (go_at_call 36; refine (hT.out _).mono ?_; rintro e w7 ⟨rfl, hb7⟩))
            replace hR := hR.keep hb7
            clear hb7 hrg
            have hrg := hR.range
            rw [hIL.out] at hrg
            have cb : w7.cell? ⟨g, 1, none⟩ = some (.bool pF.2) := hR.e.cb
            have hLD := hrg
            cases hbad : pF.2
            · rw [hbad] at cb hrd
              by_cases hc0 : ce = 0
              · subst hc0
                by_cases ht0 : tx = s.toList
                · have te : (tx == s.toList) = true := by rw [beq_iff_eq]; exact ht0
                  replace ht0 := Lib.hid ht0
                  have hRR : Hid (R = (iF, 0)) := Lib.hid (by rw [hrd.out]; exact if_neg (fun e => e.elim (by decide) (fun e => e.elim (fun e => e rfl) (fun e => e ht0.out))))
                  have hth : w7.there w.heap.size 0 IL.toArray.size := by rw [show IL.toArray.size = 9 from (List.size_toArray).trans hIL9.out]; exact hR.r
                  replace hth := Lib.hid hth
                  go_wp2_with (first | (refine wpList_load_mid rfl 23 _ rfl b 0 rfl IL _ hrg hu rfl hi.out ?_) | (refine wpList_store_mid rfl 23 _ _ rfl w.heap.size 0 IL.toArray rfl rfl hth.out hi2.out hILo.out ?_))
                  have hr5 := World.rangeAt_setCells_same w7 w.heap.size 0 IL (by rw [hIL9.out]; exact hR.r)
                  have hlv := result_insn _ w.heap.size _ hr5 hIL9.out
                  have hbl := below_cells (Nat.le_refl w.heap.size) IL 0 w7 hR.bl
                  generalize World.setCells w7 w.heap.size 0 IL = W5 at hlv hbl ⊢
                  exact bodyPost_ret (v := .tuple #[.agg IL.toArray, .int .i64 0]) (by simp [results, Tryz.results24, asAddr, hlv]) rfl ⟨by rw [hRR.out, hILc.out], hbl⟩
                · have te : (tx == s.toList) = false := by rw [beq_eq_false_iff_ne]; exact ht0
                  replace ht0 := Lib.hid ht0
                  have hRR : Hid (R = (zeroI, 4)) := Lib.hid (by rw [hrd.out]; exact if_pos (.inr (.inr ht0.out)))
                  go_wp2_with (refine wpList_store_mid rfl 23 _ _ rfl w.heap.size 0 #[.int .i64 0, .int .i64 0, .int .i64 0, .int .i64 0, .int .i64 0, .bool false, .bool false, .int .i64 0, .int .i64 0] rfl rfl hR.r (by kernel_rfl) (by kernel_rfl) ?_)
                  have hr5 := World.rangeAt_setCells_same w7 w.heap.size 0 zeroI.cells.toList hR.r
                  have hlv := result_insn _ w.heap.size _ hr5 rfl
                  have hbl := below_cells (Nat.le_refl w.heap.size) zeroI.cells.toList 0 w7 hR.bl
                  rw [Array.toArray_toList] at hlv
                  change bodyPost _ _ _ _ _ (World.setCells w7 w.heap.size 0 zeroI.cells.toList)
                  generalize World.setCells w7 w.heap.size 0 zeroI.cells.toList = W5 at hlv hbl ⊢
                  exact bodyPost_ret (v := .tuple #[.agg zeroI.cells, .int .i64 4]) (by simp [results, Tryz.results24, asAddr, hlv]) rfl ⟨by rw [hRR.out], hbl⟩
              · have tc : (ce != 0) = true := by simpa using hc0
                replace hc0 := Lib.hid hc0
                have hRR : Hid (R = (zeroI, 4)) := Lib.hid (by rw [hrd.out]; exact if_pos (.inr (.inl hc0.out)))
                go_wp2_with (refine wpList_store_mid rfl 23 _ _ rfl w.heap.size 0 #[.int .i64 0, .int .i64 0, .int .i64 0, .int .i64 0, .int .i64 0, .bool false, .bool false, .int .i64 0, .int .i64 0] rfl rfl hR.r (by kernel_rfl) (by kernel_rfl) ?_)
                have hr5 := World.rangeAt_setCells_same w7 w.heap.size 0 zeroI.cells.toList hR.r
                have hlv := result_insn _ w.heap.size _ hr5 rfl
                have hbl := below_cells (Nat.le_refl w.heap.size) zeroI.cells.toList 0 w7 hR.bl
                rw [Array.toArray_toList] at hlv
                change bodyPost _ _ _ _ _ (World.setCells w7 w.heap.size 0 zeroI.cells.toList)
                generalize World.setCells w7 w.heap.size 0 zeroI.cells.toList = W5 at hlv hbl ⊢
                exact bodyPost_ret (v := .tuple #[.agg zeroI.cells, .int .i64 4]) (by simp [results, Tryz.results24, asAddr, hlv]) rfl ⟨by rw [hRR.out], hbl⟩
            · rw [hbad] at cb hrd
              have hRR : Hid (R = (zeroI, 4)) := Lib.hid (by rw [hrd.out]; exact if_pos (.inl rfl))
              go_wp2_with (refine wpList_store_mid rfl 23 _ _ rfl w.heap.size 0 #[.int .i64 0, .int .i64 0, .int .i64 0, .int .i64 0, .int .i64 0, .bool false, .bool false, .int .i64 0, .int .i64 0] rfl rfl hR.r (by kernel_rfl) (by kernel_rfl) ?_)
              have hr5 := World.rangeAt_setCells_same w7 w.heap.size 0 zeroI.cells.toList hR.r
              have hlv := result_insn _ w.heap.size _ hr5 rfl
              have hbl := below_cells (Nat.le_refl w.heap.size) zeroI.cells.toList 0 w7 hR.bl
              rw [Array.toArray_toList] at hlv
              change bodyPost _ _ _ _ _ (World.setCells w7 w.heap.size 0 zeroI.cells.toList)
              generalize World.setCells w7 w.heap.size 0 zeroI.cells.toList = W5 at hlv hbl ⊢
              exact bodyPost_ret (v := .tuple #[.agg zeroI.cells, .int .i64 4]) (by simp [results, Tryz.results24, asAddr, hlv]) rfl ⟨by rw [hRR.out], hbl⟩
end Go.Proofs.YtdbpnbmaineniaaGreatDoor
