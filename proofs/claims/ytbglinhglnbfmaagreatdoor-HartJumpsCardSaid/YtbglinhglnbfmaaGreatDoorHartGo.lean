/- Plain: what a hart is behind a valid instruction, as to where it goes. No program in sight. The law HartJumps: whatever the hart, the instruction, what was found and whether it won: true. Conditions: as each theorem says. -/
import Derived.Test.YtbglinhglnbfmaaGreatDoorHartJ
import Derived.Test.YtbglinhglnbfmaaGreatDoorHartMJ
import Derived.Test.YtbglinhglnbfmaaGreatDoorHartMB
import Derived.Test.YtbglinhglnbfmaaGreatDoorHartMR
set_option linter.unusedVariables false
namespace Go.Proofs.YtbglinhglnbfmaaGreatDoor
/-- forms of ops: which are jumps and branches -/
theorem form26 : ((List.range 88).all fun n => (decide ((opOf (n : Int)).form = 2) == decide (n = 3)) && (decide ((opOf (n : Int)).form = 6) == (decide (5 ≤ n) && decide (n ≤ 10)))) = true := by decide +kernel
theorem form_26 (n : Int) : ((opOf n).form = 2 ↔ n = 3) ∧ ((opOf n).form = 6 ↔ 5 ≤ n ∧ n ≤ 10) := by
  by_cases h0 : n < 1
  · unfold opOf; rw [if_pos h0]
    exact ⟨⟨fun h => absurd h (by decide), fun h => by omega⟩, ⟨fun h => absurd h (by decide), fun h => by omega⟩⟩
  · by_cases h1 : 87 < n
    · rw [opOf_big n h1]
      exact ⟨⟨fun h => absurd h (by decide), fun h => by omega⟩, ⟨fun h => absurd h (by decide), fun h => by omega⟩⟩
    · obtain ⟨m, rfl⟩ := Int.eq_ofNat_of_zero_le (show 0 ≤ n by omega)
      have := List.all_eq_true.1 form26 m (List.mem_range.2 (by omega))
      rw [Bool.and_eq_true, beq_iff_eq, beq_iff_eq] at this
      obtain ⟨e1, e2⟩ := this
      constructor
      · rw [show ((m : Int) = 3 ↔ m = 3) by omega]
        exact decide_eq_decide.1 e1
      · rw [show (5 ≤ (m : Int) ∧ (m : Int) ≤ 10 ↔ 5 ≤ m ∧ m ≤ 10) by omega]
        rw [← Bool.decide_and] at e2
        exact decide_eq_decide.1 e2
theorem placeR_some {v : BitVec 64} (h : (un v).tmod 4 = 0) : placeR v = some v := by unfold placeR; rw [← un_tmod4, if_pos h]
theorem placeR_none {v : BitVec 64} (h : (un v).tmod 4 ≠ 0) : placeR v = none := by unfold placeR; rw [← un_tmod4, if_neg h]
theorem goneV_pc (h : HartV) (i : InsnV) (n found : BitVec 64) (won : Bool) : (goneV h i n found won).pc = n := by unfold goneV; split <;> rfl
theorem goneV_fin (h : HartV) (i : InsnV) (n found : BitVec 64) (won : Bool) : (goneV h i n found won).fin = h.fin := by unfold goneV; split <;> rfl
theorem goneV_at (h : HartV) (i : InsnV) (n found : BitVec 64) (won : Bool) (d : Nat) (hd : i.rd = d) (hz : d ≠ 0) : (goneV h i n found won).x d = answerV h i (askV h i) found won := by
  unfold goneV
  rw [if_neg (by rw [hd]; omega), hd]
  show (if d = (d : Int).toNat then _ else _) = _
  exact if_pos (Int.toNat_natCast d).symm
theorem endedV_pc (h : HartV) (k : Int) : (endedV h k).pc = h.pc := by unfold endedV; split <;> rfl
theorem endedV_fin (h : HartV) (k : Int) : (endedV h k).fin = k := by unfold endedV; split <;> rfl
theorem endedV_x (h : HartV) (k : Int) : (endedV h k).x = h.x := by unfold endedV; split <;> rfl
theorem stepV_none {h : HartV} {i : InsnV} (found : BitVec 64) (won : Bool) (hn : nextR h i = none) : stepV h i found won = endedV h 6 := by
  have e : askE h i = 6 := by unfold askE; rw [if_pos hn]
  unfold stepV; rw [e]; exact if_neg (by decide)
theorem stepV_gone {h : HartV} {i : InsnV} (found : BitVec 64) (won : Bool) {n : BitVec 64} (hn : nextR h i = some n) (ha : askE h i = 0) : stepV h i found won = goneV h i n found won := by
  unfold stepV; rw [if_pos ha, hn]; rfl
theorem askE_plain {h : HartV} {i : InsnV} {n : BitVec 64} (hn : nextR h i = some n) (hf : (opOf i.op).form ≠ 4 ∧ (opOf i.op).form ≠ 5 ∧ (opOf i.op).form ≠ 10 ∧ (opOf i.op).form ≠ 11 ∧ (opOf i.op).form ≠ 12) : askE h i = 0 := by
  unfold askE
  rw [if_neg (by rw [hn]; exact fun h => by cases h), if_neg (fun hh => by omega), if_neg (by omega)]
theorem askE_six {h : HartV} {i : InsnV} {n : BitVec 64} (hn : nextR h i = some n) : askE h i ≠ 6 := by
  unfold askE addrE
  rw [if_neg (by rw [hn]; exact fun h => by cases h)]
  split
  · split
    · decide
    · split <;> decide
  · split
    · split
      · decide
      · split
        · decide
        · split <;> decide
    · decide
theorem askV_plain {h : HartV} {i : InsnV} (hf : (opOf i.op).form ≠ 4 ∧ (opOf i.op).form ≠ 5 ∧ (opOf i.op).form ≠ 9 ∧ (opOf i.op).form ≠ 10 ∧ (opOf i.op).form ≠ 11 ∧ (opOf i.op).form ≠ 12) (h22 : i.op ≠ 22) : (askV h i).kind = 0 := by
  unfold askV
  rw [if_neg (by omega), if_neg (by omega), if_neg (by omega), if_neg (by omega), if_neg (by omega), if_neg (by omega), if_neg (fun hh => h22 hh.1)]
theorem answerV_link {h : HartV} {i : InsnV} (found : BitVec 64) (won : Bool) (hk : (askV h i).kind = 0) (ho : i.op = 3 ∨ i.op = 4) : answerV h i (askV h i) found won = h.pc + 4#64 := by
  unfold answerV
  rw [if_neg (by omega), if_neg (by omega), if_pos ho]
end Go.Proofs.YtbglinhglnbfmaaGreatDoor
namespace Go.Proofs.YtbglinhglnbfmaaGreatDoor
open Go.RowKit
theorem not1 : ~~~ 1#64 = 18446744073709551614#64 := by decide
theorem Jumps_valid (h : HartV) (op : Int) (d r1 r2 : Nat) (imm : Int) (aq rl : Bool) (pred succ : Int) (found : BitVec 64) (won : Bool) (w : World) (ht : Tabs w) (hop : op ≤ 9223372036854775807) (hd : d < 32) (hr1 : r1 < 32) (hr2 : r2 < 32) (hb : hartE h = 0) (hf : h.fin = 0) (hc : checkE ⟨op, d, r1, r2, imm, aq, rl, pred, succ⟩ = 0) :
    Calls Tryz.prog 3 #[.agg (hartArr h), .agg (InsnV.cells ⟨op, d, r1, r2, imm, aq, rl, pred, succ⟩), .int .u64 (un found), .bool won] w fun e w' => e = .returned (.bool true) ∧ Below w.heap.size w w' := by
  obtain ⟨f2, f6⟩ := form_26 op
  by_cases h3 : op = 3
  · have hf2 : (opOf op).form = 2 := f2.2 h3
    have ht3 : (takesE op == 0) = false := by rw [h3]; rfl
    have hnx : nextR h ⟨op, d, r1, r2, imm, aq, rl, pred, succ⟩ = placeR (h.pc + bv imm) := by unfold nextR; rw [if_pos hf2]
    by_cases hg : (un (h.pc + bv imm)).tmod 4 = 0
    · have hn := hnx.trans (placeR_some hg)
      have hs := stepV_gone (h := h) (i := ⟨op, d, r1, r2, imm, aq, rl, pred, succ⟩) found won hn (askE_plain hn (by show (opOf op).form ≠ 4 ∧ (opOf op).form ≠ 5 ∧ (opOf op).form ≠ 10 ∧ (opOf op).form ≠ 11 ∧ (opOf op).form ≠ 12; omega))
      have hxp : (stepV h ⟨op, d, r1, r2, imm, aq, rl, pred, succ⟩ found won).pc = h.pc + bv imm := by rw [hs, goneV_pc]
      have hxf : (stepV h ⟨op, d, r1, r2, imm, aq, rl, pred, succ⟩ found won).fin = 0 := by rw [hs, goneV_fin, hf]
      by_cases hz : d = 0
      · exact Jumps_J0 h op d r1 r2 imm aq rl pred succ found won w ht hop hd hr1 hr2 hb hf hc _ rfl _ rfl ht3 h3 hg hxp hxf hz
      · have hk := askV_plain (h := h) (i := ⟨op, d, r1, r2, imm, aq, rl, pred, succ⟩) (by show (opOf op).form ≠ 4 ∧ (opOf op).form ≠ 5 ∧ (opOf op).form ≠ 9 ∧ (opOf op).form ≠ 10 ∧ (opOf op).form ≠ 11 ∧ (opOf op).form ≠ 12; omega) (by show op ≠ 22; omega)
        have hxd : (stepV h ⟨op, d, r1, r2, imm, aq, rl, pred, succ⟩ found won).x d = h.pc + 4#64 := by rw [hs, goneV_at _ _ _ _ _ d rfl hz, answerV_link found won hk (.inl h3)]
        exact Jumps_Jx h op d r1 r2 imm aq rl pred succ found won w ht hop hd hr1 hr2 hb hf hc _ rfl _ rfl ht3 h3 hg hxp hxf hz hxd
    · have hs := stepV_none (h := h) (i := ⟨op, d, r1, r2, imm, aq, rl, pred, succ⟩) found won (hnx.trans (placeR_none hg))
      exact Jumps_Jbad h op d r1 r2 imm aq rl pred succ found won w ht hop hd hr1 hr2 hb hf hc _ rfl _ rfl ht3 h3 hg (by rw [hs, endedV_pc]) (by rw [hs, endedV_fin]) (by rw [hs, endedV_x])
  by_cases h4 : op = 4
  · have hf3 : (opOf op).form = 3 := by rw [h4]; decide +kernel
    have ht3 : (takesE op == 0) = false := by rw [h4]; rfl
    have hnx : nextR h ⟨op, d, r1, r2, imm, aq, rl, pred, succ⟩ = placeR ((h.x r1 + bv imm) &&& 18446744073709551614#64) := by
      unfold nextR
      rw [if_neg (fun hh => h3 (f2.1 hh)), if_neg (fun hh => absurd (f6.1 hh.1) (by omega)), if_pos h4, not1]; rfl
    by_cases hg : (un ((h.x r1 + bv imm) &&& 18446744073709551614#64)).tmod 4 = 0
    · have hn := hnx.trans (placeR_some hg)
      have hs := stepV_gone (h := h) (i := ⟨op, d, r1, r2, imm, aq, rl, pred, succ⟩) found won hn (askE_plain hn (by show (opOf op).form ≠ 4 ∧ (opOf op).form ≠ 5 ∧ (opOf op).form ≠ 10 ∧ (opOf op).form ≠ 11 ∧ (opOf op).form ≠ 12; omega))
      have hxp : (stepV h ⟨op, d, r1, r2, imm, aq, rl, pred, succ⟩ found won).pc = (h.x r1 + bv imm) &&& 18446744073709551614#64 := by rw [hs, goneV_pc]
      have hxf : (stepV h ⟨op, d, r1, r2, imm, aq, rl, pred, succ⟩ found won).fin = 0 := by rw [hs, goneV_fin, hf]
      by_cases hz : d = 0
      · exact Jumps_R0 h op d r1 r2 imm aq rl pred succ found won w ht hop hd hr1 hr2 hb hf hc _ rfl _ rfl ht3 h4 hg hxp hxf hz
      · have hk := askV_plain (h := h) (i := ⟨op, d, r1, r2, imm, aq, rl, pred, succ⟩) (by show (opOf op).form ≠ 4 ∧ (opOf op).form ≠ 5 ∧ (opOf op).form ≠ 9 ∧ (opOf op).form ≠ 10 ∧ (opOf op).form ≠ 11 ∧ (opOf op).form ≠ 12; omega) (by show op ≠ 22; omega)
        have hxd : (stepV h ⟨op, d, r1, r2, imm, aq, rl, pred, succ⟩ found won).x d = h.pc + 4#64 := by rw [hs, goneV_at _ _ _ _ _ d rfl hz, answerV_link found won hk (.inr h4)]
        exact Jumps_Rx h op d r1 r2 imm aq rl pred succ found won w ht hop hd hr1 hr2 hb hf hc _ rfl _ rfl ht3 h4 hg hxp hxf hz hxd
    · have hs := stepV_none (h := h) (i := ⟨op, d, r1, r2, imm, aq, rl, pred, succ⟩) found won (hnx.trans (placeR_none hg))
      exact Jumps_Rbad h op d r1 r2 imm aq rl pred succ found won w ht hop hd hr1 hr2 hb hf hc _ rfl _ rfl ht3 h4 hg (by rw [hs, endedV_pc]) (by rw [hs, endedV_fin]) (by rw [hs, endedV_x])
  have hne : op ≠ 3 ∧ op ≠ 4 := ⟨h3, h4⟩
  have hf2 : ¬ (opOf op).form = 2 := fun hh => h3 (f2.1 hh)
  by_cases hbr : 5 ≤ op ∧ op ≤ 10
  · have hf6 : (opOf op).form = 6 := f6.2 hbr
    have ht3 : (takesE op == 0) = true := by unfold takesE; rw [if_pos hbr]; rfl
    have hpl : (opOf op).form ≠ 4 ∧ (opOf op).form ≠ 5 ∧ (opOf op).form ≠ 10 ∧ (opOf op).form ≠ 11 ∧ (opOf op).form ≠ 12 := by omega
    cases htk : takesF op (h.x r1) (h.x r2) with
    | true =>
      have hnx : nextR h ⟨op, d, r1, r2, imm, aq, rl, pred, succ⟩ = placeR (h.pc + bv imm) := by unfold nextR; rw [if_neg hf2, if_pos ⟨hf6, htk⟩]
      by_cases hg : (un (h.pc + bv imm)).tmod 4 = 0
      · have hn := hnx.trans (placeR_some hg)
        have hs := stepV_gone (h := h) (i := ⟨op, d, r1, r2, imm, aq, rl, pred, succ⟩) found won hn (askE_plain hn hpl)
        exact Jumps_B h op d r1 r2 imm aq rl pred succ found won w ht hop hd hr1 hr2 hb hf hc _ rfl _ rfl ht3 htk hne hg (by rw [hs, goneV_pc]) (by rw [hs, goneV_fin, hf])
      · have hs := stepV_none (h := h) (i := ⟨op, d, r1, r2, imm, aq, rl, pred, succ⟩) found won (hnx.trans (placeR_none hg))
        exact Jumps_Bbad h op d r1 r2 imm aq rl pred succ found won w ht hop hd hr1 hr2 hb hf hc _ rfl _ rfl ht3 htk hne hg (by rw [hs, endedV_pc]) (by rw [hs, endedV_fin]) (by rw [hs, endedV_x])
    | false =>
      have hn : nextR h ⟨op, d, r1, r2, imm, aq, rl, pred, succ⟩ = some (h.pc + 4#64) := by unfold nextR; rw [if_neg hf2, if_neg (fun hh => absurd (hh.2.symm.trans htk) (by decide)), if_neg h4]
      have hs := stepV_gone (h := h) (i := ⟨op, d, r1, r2, imm, aq, rl, pred, succ⟩) found won hn (askE_plain hn hpl)
      exact Jumps_Nt h op d r1 r2 imm aq rl pred succ found won w ht hop hd hr1 hr2 hb hf hc _ rfl _ rfl ht3 htk hne (by rw [hs, goneV_pc]) (by rw [hs, goneV_fin, hf])
  · have ht3 : (takesE op == 0) = false := by unfold takesE; rw [if_neg hbr]; rfl
    have hn : nextR h ⟨op, d, r1, r2, imm, aq, rl, pred, succ⟩ = some (h.pc + 4#64) := by unfold nextR; rw [if_neg hf2, if_neg (fun hh => hbr (f6.1 hh.1)), if_neg h4]
    by_cases ha : askE h ⟨op, d, r1, r2, imm, aq, rl, pred, succ⟩ = 0
    · have hs := stepV_gone (h := h) (i := ⟨op, d, r1, r2, imm, aq, rl, pred, succ⟩) found won hn ha
      exact Jumps_Nf h op d r1 r2 imm aq rl pred succ found won w ht hop hd hr1 hr2 hb hf hc _ rfl _ rfl ht3 hne (by rw [hs, goneV_pc]) (by rw [hs, goneV_fin, hf])
    · have hs : stepV h ⟨op, d, r1, r2, imm, aq, rl, pred, succ⟩ found won = endedV h (askE h ⟨op, d, r1, r2, imm, aq, rl, pred, succ⟩) := if_neg ha
      exact Jumps_Ef h op d r1 r2 imm aq rl pred succ found won w ht hop hd hr1 hr2 hb hf hc _ rfl _ rfl ht3 hne _ ha (askE_six hn) (by rw [hs, endedV_pc]) (by rw [hs, endedV_fin])
theorem Jumps_any (h : HartV) (i : InsnV) (found : BitVec 64) (won : Bool) (w : World) (ht : Tabs w) (hop : i.op ≤ 9223372036854775807) :
    Calls Tryz.prog 3 #[.agg (hartArr h), .agg i.cells, .int .u64 (un found), .bool won] w fun e w' => e = .returned (.bool true) ∧ Below w.heap.size w w' := by
  by_cases hb : hartE h = 0
  · by_cases hf : h.fin = 0
    · by_cases hc : checkE i = 0
      · have hok : checkOk i = true := by
          unfold checkE at hc
          cases hk : checkOk i with
          | true => rfl
          | false => rw [hk] at hc; cases hc
        have hregs := checkOk_regs i hok
        obtain ⟨op, rd, rs1, rs2, imm, aq, rl, pred, succ⟩ := i
        obtain ⟨h1, h2, h3, h4, h5, h6⟩ := hregs
        simp only at h1 h2 h3 h4 h5 h6
        obtain ⟨d, rfl⟩ := Int.eq_ofNat_of_zero_le h1
        obtain ⟨r1, rfl⟩ := Int.eq_ofNat_of_zero_le h3
        obtain ⟨r2, rfl⟩ := Int.eq_ofNat_of_zero_le h5
        exact Jumps_valid h op d r1 r2 imm aq rl pred succ found won w ht hop (by omega) (by omega) (by omega) hb hf hc
      · obtain ⟨op, rd, rs1, rs2, imm, aq, rl, pred, succ⟩ := i
        exact Jumps_invalid h op rd rs1 rs2 imm aq rl pred succ found won w ht hb hf hc
    · obtain ⟨op, rd, rs1, rs2, imm, aq, rl, pred, succ⟩ := i
      exact Jumps_ended h op rd rs1 rs2 imm aq rl pred succ found won w ht hb hf
  · obtain ⟨op, rd, rs1, rs2, imm, aq, rl, pred, succ⟩ := i
    exact Jumps_bad h op rd rs1 rs2 imm aq rl pred succ found won w ht hb
end Go.Proofs.YtbglinhglnbfmaaGreatDoor
