/- Plain: what the document's hart is behind an instruction is what the program's is. hart.Step and hart.Ask where the instruction is refused; the document's Step at whatever instruction. Conditions: as each theorem says. -/
import Derived.Test.YtbglinhglnbfmaaGreatDoorHartVY
import Derived.Test.YtbglinhglnbfmaaGreatDoorHartQS
import Derived.Test.YtbglinhglnbfmaaGreatDoorHartZ
set_option linter.unusedVariables false
namespace Go.Proofs.YtbglinhglnbfmaaGreatDoor
theorem takesB_eq (op : Int) (a b : BitVec 64) : takesB op a b = takesF op a b := rfl
/-- what there is to know of an op: sizes, and which are computed -/
def opKnow (n : Int) : Bool :=
  let f := (opOf n).form
  (if f = 4 ∨ f = 5 ∨ f = 11 ∨ f = 12 then decide (0 < (opOf n).size) && decide ((opOf n).size ≤ 8) else decide ((opOf n).size = 0))
  && (decide (f = 10) == (decide (n = 64) || decide (n = 65)))
  && (!(f == 4 || f == 11 || f == 12) || (opOf n).loads || n == 69 || decide ((opOf n).size ≠ 8))
  && (!(opOf n).loads || f == 4 || f == 11 || f == 12)
  && (!(n == 69) || f == 12) && (!(n == 3 || n == 4 || n == 2 || n == 22) || f == 2 || f == 3 || f == 1)
  && (!(f == 1 || f == 3 || f == 7 || f == 8) || n == 2 || n == 4 || decide (doE n = 0))
  && decide (0 ≤ f) && decide (f ≤ 12)
theorem opKnow_all : ((List.range 88).all fun n => opKnow (n : Int)) = true := by decide +kernel
theorem opKnow_any (n : Int) : opKnow n = true := by
  have hno : ∀ m : Int, opOf m = noOp → m ≠ 64 → m ≠ 65 → m ≠ 69 → m ≠ 3 → m ≠ 4 → m ≠ 2 → m ≠ 22 → opKnow m = true := fun m h a1 a2 a3 a4 a5 a6 a7 => by
    unfold opKnow; rw [h]; simp [noOp, a1, a2, a3, a4, a5, a6, a7]
  by_cases h0 : n < 1
  · exact hno n (by unfold opOf; rw [if_pos h0]) (by omega) (by omega) (by omega) (by omega) (by omega) (by omega) (by omega)
  · by_cases h1 : 87 < n
    · exact hno n (opOf_big n h1) (by omega) (by omega) (by omega) (by omega) (by omega) (by omega) (by omega)
    · obtain ⟨m, rfl⟩ := Int.eq_ofNat_of_zero_le (show 0 ≤ n by omega)
      exact List.all_eq_true.1 opKnow_all m (List.mem_range.2 (by omega))
structure OpK (n f z : Int) (l : Bool) : Prop where
  mem : f = 4 ∨ f = 5 ∨ f = 11 ∨ f = 12 → 0 < z ∧ z ≤ 8
  not : ¬ (f = 4 ∨ f = 5 ∨ f = 11 ∨ f = 12) → z = 0
  ten : f = 10 ↔ n = 64 ∨ n = 65
  ld : f = 4 ∨ f = 11 ∨ f = 12 → z = 8 → n ≠ 69 → l = true
  ld2 : l = true → f = 4 ∨ f = 11 ∨ f = 12
  sc : n = 69 → f = 12
  few : n = 3 ∨ n = 4 ∨ n = 2 ∨ n = 22 → f = 2 ∨ f = 3 ∨ f = 1
  doe : f = 1 ∨ f = 3 ∨ f = 7 ∨ f = 8 → n ≠ 2 → n ≠ 4 → doE n = 0
  lo : 0 ≤ f
  hi : f ≤ 12
theorem opK (n : Int) : OpK n (opOf n).form (opOf n).size (opOf n).loads := by
  have h := opKnow_any n
  unfold opKnow at h
  simp only [Bool.and_eq_true, decide_eq_true_eq] at h
  obtain ⟨⟨⟨⟨⟨⟨⟨⟨h1, h2⟩, h3⟩, h4⟩, h5⟩, h6⟩, h7⟩, h8⟩, h9⟩ := h
  generalize (opOf n).form = f at *
  generalize (opOf n).size = z at *
  generalize (opOf n).loads = l at *
  refine ⟨fun hf => ?_, fun hf => ?_, ?_, fun hf hz hn => ?_, fun hl => ?_, fun hn => ?_, fun hn => ?_, fun hf h2' h4' => ?_, h8, h9⟩
  · rw [if_pos hf] at h1; simpa using h1
  · rw [if_neg hf] at h1; simpa using h1
  · rw [beq_iff_eq] at h2
    rw [← Bool.decide_or] at h2
    exact decide_eq_decide.1 h2
  · simp at h3; rcases h3 with ((h | h) | h) | h
    · omega
    · exact h
    · exact absurd h hn
    · exact absurd hz h
  · rw [hl] at h4; simp at h4; omega
  · simp at h5; rcases h5 with h | h
    · exact absurd hn h
    · exact h
  · simp at h6; omega
  · simp at h7; omega
theorem half (y : BitVec 64) : bv ((un y).tdiv 2) * 2#64 = y &&& ~~~ 1#64 := by
  have e1 : (un y).tdiv 2 = un (y >>> 1) := by
    rw [Int.tdiv_eq_ediv_of_nonneg (un_lt y).1]
    exact un_shr y 1
  rw [e1, bv_un]
  have e2 := mul_bvpow (y >>> 1) 1
  rw [show bv (2 ^ 1) = 2#64 from rfl] at e2
  rw [e2]
  apply BitVec.eq_of_getLsbD_eq
  intro i hi
  rw [BitVec.getLsbD_and, BitVec.getLsbD_not, BitVec.getLsbD_shiftLeft, BitVec.getLsbD_ushiftRight]
  by_cases h : i < 1
  · obtain rfl : i = 0 := by omega
    simp
  · rw [show 1 + (i - 1) = i by omega]
    simp [h, hi]
    intro _ e; omega
theorem next_of (h : HartV) (i : InsnV) : nextR h i = if (tgtV h i).2 = true ∧ (un (tgtV h i).1).tmod 4 ≠ 0 then none else some (tgtV h i).1 := by
  have key : ∀ v : BitVec 64, placeR v = if (true = true) ∧ (un v).tmod 4 ≠ 0 then none else some v := fun v => by
    by_cases hm : (un v).tmod 4 = 0
    · rw [if_neg (fun hh => hh.2 hm)]; exact placeR_some hm
    · rw [if_pos ⟨rfl, hm⟩]; exact placeR_none hm
  obtain ⟨f2, f6⟩ := form_26 i.op
  unfold nextR
  by_cases h3 : i.op = 3
  · have e : tgtV h i = (h.pc + bv i.imm, true) := by unfold tgtV; exact if_pos (.inl h3)
    rw [if_pos (f2.2 h3), e]; exact key _
  · rw [if_neg (fun hh => h3 (f2.1 hh))]
    by_cases hb : takesE i.op = 0 ∧ takesF i.op (h.x i.rs1.toNat) (h.x i.rs2.toNat) = true
    · have h510 : 5 ≤ i.op ∧ i.op ≤ 10 := by
        have := hb.1; unfold takesE at this
        split at this
        · assumption
        · cases this
      have e : tgtV h i = (h.pc + bv i.imm, true) := by unfold tgtV; exact if_pos (.inr hb)
      rw [if_pos ⟨f6.2 h510, hb.2⟩, e]; exact key _
    · have hb2 : ¬ ((opOf i.op).form = 6 ∧ takesB i.op (h.x i.rs1.toNat) (h.x i.rs2.toNat) = true) := fun hh => hb ⟨by unfold takesE; rw [if_pos (f6.1 hh.1)], hh.2⟩
      have hno : ¬ (i.op = 3 ∨ takesE i.op = 0 ∧ takesF i.op (h.x i.rs1.toNat) (h.x i.rs2.toNat) = true) := fun hh => hh.elim h3 hb
      rw [if_neg hb2]
      by_cases h4 : i.op = 4
      · have e : tgtV h i = ((h.x i.rs1.toNat + bv i.imm) &&& ~~~ 1#64, true) := by
          rw [← half]; unfold tgtV; exact (if_neg hno).trans (if_pos h4)
        rw [if_pos h4, e]; exact key _
      · have e : tgtV h i = (h.pc + 4#64, false) := by unfold tgtV; exact (if_neg hno).trans (if_neg h4)
        rw [if_neg h4, e, if_neg (fun hh => by cases hh.1)]
theorem tgt_calm (h : HartV) (i : InsnV) (h3 : i.op ≠ 3) (h4 : i.op ≠ 4) (h5 : ¬ (5 ≤ i.op ∧ i.op ≤ 10)) : (tgtV h i).2 = false := by
  unfold tgtV
  rw [if_neg (fun hh => hh.elim h3 (fun hb => by unfold takesE at hb; rw [if_neg h5] at hb; cases hb.1)), if_neg h4]
theorem rend_eq (h : HartV) (i : InsnV) : rendV h i = askE h i := by
  have k := opK i.op
  obtain ⟨f2, f6⟩ := form_26 i.op
  have hn := next_of h i
  have hs : ∀ n, nextR h i = some n → ¬ nextR h i = none := fun n e => by rw [e]; exact fun e => by cases e
  unfold rendV rendB
  simp only [decide_eq_true_eq, beq_iff_eq, bne_iff_ne, ne_eq]
  by_cases hm : (opOf i.op).form = 4 ∨ (opOf i.op).form = 5 ∨ (opOf i.op).form = 11 ∨ (opOf i.op).form = 12
  · have ht : ¬ ((opOf i.op).form = 10) := by omega
    have h6465 : ¬ (i.op = 64 ∨ i.op = 65) := fun hh => ht (k.ten.2 hh)
    have hc : (tgtV h i).2 = false := tgt_calm h i (fun e => by have := f2.2 e; omega) (fun e => by have := k.few (.inr (.inl e)); omega) (fun e => by have := f6.2 e; omega)
    obtain ⟨z0, z8⟩ := k.mem hm
    rw [if_neg (fun hh => by rw [hc] at hh; cases hh.1)] at hn
    have hA : askE h i = addrE h i := by unfold askE; rw [if_neg (hs _ hn), if_pos hm]
    rw [hA, if_neg (fun e => h6465 (.inr e)), if_neg (fun e => h6465 (.inl e.1)), if_neg (fun e => h6465 (.inl e.1))]
    unfold addrE
    by_cases hz : (opOf i.op).size = 8
    · rw [if_neg (by omega)]
      have hR : (if ¬ (opOf i.op).size = 8 then (5 : Int) else if ¬ un (h.x i.rs1.toNat + bv i.imm) % 8 = 0 then 4 else 0) = if ¬ un (h.x i.rs1.toNat + bv i.imm) % 8 = 0 then 4 else 0 := if_neg (fun e => e hz)
      show _ = (if ¬ (opOf i.op).size = 8 then (5 : Int) else if ¬ un (h.x i.rs1.toNat + bv i.imm) % 8 = 0 then 4 else 0)
      rw [hR, un_tmod8]
      by_cases ha : un (h.x i.rs1.toNat + bv i.imm) % 8 = 0
      · rw [if_neg (fun e => e.2 ha), if_neg (fun e => by rw [hc] at e; cases e.1), if_neg (fun e => e ha)]
      · rw [if_pos ⟨by omega, ha⟩, if_pos ha]
    · rw [if_pos (by omega)]; exact (if_pos hz).symm
  · have hz := k.not hm
    by_cases ht : (opOf i.op).form = 10
    · have hop := k.ten.1 ht
      have hc : (tgtV h i).2 = false := tgt_calm h i (by omega) (by omega) (by omega)
      rw [if_neg (fun hh => by rw [hc] at hh; cases hh.1)] at hn
      have hA : askE h i = if i.op = 65 then 2 else if un (h.x 17) = 0 then 1 else if un (h.x 17) = 1 then 0 else 3 := by unfold askE; rw [if_neg (hs _ hn), if_neg hm, if_pos ht]
      rw [hA]
      by_cases h65 : i.op = 65
      · rw [if_pos h65, if_pos h65]
      · have h64 : i.op = 64 := by omega
        rw [if_neg h65, if_neg h65]
        by_cases x0 : un (h.x 17) = 0
        · rw [if_pos ⟨h64, x0⟩, if_pos x0]
        · rw [if_neg (fun e => x0 e.2), if_neg x0]
          by_cases x1 : un (h.x 17) = 1
          · rw [if_neg (fun e => e.2 x1), if_neg (by omega), if_neg (fun e => by omega), if_neg (fun e => by rw [hc] at e; cases e.1), if_pos x1]
          · rw [if_pos ⟨h64, x1⟩, if_neg x1]
    · have h6465 : ¬ (i.op = 64 ∨ i.op = 65) := fun hh => ht (k.ten.2 hh)
      have hA : askE h i = if nextR h i = none then 6 else 0 := by unfold askE; rw [if_neg hm, if_neg ht]
      rw [hA, if_neg (fun e => h6465 (.inr e)), if_neg (fun e => h6465 (.inl e.1)), if_neg (fun e => h6465 (.inl e.1)), if_neg (by omega), if_neg (fun e => by omega)]
      by_cases hj : (tgtV h i).2 = true ∧ (un (tgtV h i).1).tmod 4 ≠ 0
      · rw [if_pos hj] at hn; rw [if_pos hj, if_pos hn]
      · rw [if_neg hj] at hn; rw [if_neg hj, if_neg (hs _ hn)]
theorem rd_zero (i : InsnV) (hok : checkOk i = true) (hf : (opOf i.op).form = 5 ∨ (opOf i.op).form = 6 ∨ (opOf i.op).form = 9 ∨ (opOf i.op).form = 10 ∨ (opOf i.op).form = 0) : i.rd = 0 := by
  unfold checkOk at hok
  rcases hf with hf | hf | hf | hf | hf <;> rw [hf] at hok <;> simp [formOk] at hok <;> (try omega)
theorem rans_eq (h : HartV) (i : InsnV) (found : BitVec 64) (won : Bool) (hok : checkOk i = true) (ha : askE h i = 0) (hrd : i.rd ≠ 0) : answerV h i (askV h i) found won = ransV h i found won := by
  have k := opK i.op
  have hr := rform_eq i.op
  have hz0 := rd_zero i hok
  have hf : ¬ ((opOf i.op).form = 5 ∨ (opOf i.op).form = 6 ∨ (opOf i.op).form = 9 ∨ (opOf i.op).form = 10 ∨ (opOf i.op).form = 0) := fun e => hrd (hz0 e)
  have h8 : (opOf i.op).form = 4 ∨ (opOf i.op).form = 11 ∨ (opOf i.op).form = 12 → (opOf i.op).size = 8 := fun e => by
    unfold askE at ha
    by_cases hn : nextR h i = none
    · rw [if_pos hn] at ha; cases ha
    · rw [if_neg hn, if_pos (by omega)] at ha
      unfold addrE at ha
      by_cases hz : (opOf i.op).size = 8
      · exact hz
      · rw [if_pos hz] at ha; cases ha
  unfold ransV
  by_cases h69 : i.op = 69
  · have f12 := k.sc h69
    rw [if_pos h69]
    have hv : (askV h i).kind = 4 := by unfold askV; rw [if_neg (by omega), if_neg (by omega), if_neg (by omega), if_pos f12, if_pos h69]
    unfold answerV; rw [if_neg (by omega), if_pos hv]
  · rw [if_neg h69]
    by_cases hl : (opOf i.op).form = 4 ∨ (opOf i.op).form = 11 ∨ (opOf i.op).form = 12
    · rw [if_pos (k.ld hl (h8 hl) h69)]
      have hv : (askV h i).kind = 1 ∨ (askV h i).kind = 3 ∨ (askV h i).kind = 5 := by
        unfold askV
        rcases hl with e | e | e
        · rw [if_pos e]; exact .inl rfl
        · rw [if_neg (by omega), if_neg (by omega), if_pos e]; exact .inr (.inl rfl)
        · rw [if_neg (by omega), if_neg (by omega), if_neg (by omega), if_pos e, if_neg h69]; exact .inr (.inr rfl)
      unfold answerV; rw [if_pos hv]
    · rw [if_neg (fun e => hl (k.ld2 e))]
      have hv : (askV h i).kind = 0 := by
        unfold askV
        rw [if_neg (by omega), if_neg (by omega), if_neg (by omega), if_neg (by omega), if_neg (by omega), if_neg (by omega), if_neg (fun hh => hrd hh.2.1)]
      unfold answerV
      rw [if_neg (by omega), if_neg (by omega)]
      by_cases h34 : i.op = 3 ∨ i.op = 4
      · rw [if_pos h34, if_pos h34]
      · rw [if_neg h34, if_neg h34]
        by_cases h2 : i.op = 2
        · rw [if_pos h2, if_pos h2]
        · rw [if_neg h2, if_neg h2]
          have f2 := (form_26 i.op).1
          have hd : doE i.op = 0 := k.doe (by have := k.lo; have := k.hi; have : (opOf i.op).form ≠ 2 := fun e => h34 (.inl (f2.1 e)); omega) h2 (fun e => h34 (.inr e))
          rw [← hr]
          by_cases h8' : (opOf i.op).form = 8
          · rw [if_pos h8', if_pos h8', if_neg (fun e => e hd)]
          · rw [if_neg h8', if_neg h8', if_neg (fun e => e hd)]
theorem rstep_eq (h : HartV) (i : InsnV) (found : BitVec 64) (won : Bool) (hc : checkE i = 0) : rstepV h i found won = stepV h i found won := by
  have hok : checkOk i = true := by
    unfold checkE at hc
    cases hk : checkOk i with
    | true => rfl
    | false => rw [hk] at hc; cases hc
  have hn := next_of h i
  unfold rstepV stepV
  rw [rend_eq]
  by_cases ha : askE h i = 0
  · rw [if_pos ha, if_pos ha]
    have hne : nextR h i = some (tgtV h i).1 := by
      obtain ⟨n, e⟩ := askE_next ha
      rw [e] at hn
      split at hn
      · cases hn
      · rw [e, ← hn]
    rw [hne]
    unfold rgoneV goneV
    by_cases hrd : i.rd = 0
    · rw [if_pos hrd, if_pos hrd]; rfl
    · rw [if_neg hrd, if_neg hrd, rans_eq h i found won hok ha hrd]; rfl
  · rw [if_neg ha, if_neg ha]
end Go.Proofs.YtbglinhglnbfmaaGreatDoor
namespace Go.Proofs.YtbglinhglnbfmaaGreatDoor
open Go.RowKit
theorem begin_no (h : HartV) (i : InsnV) (w : World) (ht : Tabs w) (hop : i.op ≤ 9223372036854775807) (hne : mayE h i ≠ 0) :
    Calls Tryz.prog 20 #[.agg (hartArr h), .agg i.cells] w fun e w' => ∃ po, e = .returned (.tuple #[.pointer po, .int .i64 (mayE h i)]) ∧ Below w.heap.size w w' := by
  obtain ⟨op, rd, r1, r2, imm, aq, rl, pred, succ⟩ := i
  rcases hartE_or h with hb | hb
  · by_cases hf : h.fin = 0
    · have e : mayE h ⟨op, rd, r1, r2, imm, aq, rl, pred, succ⟩ = checkE ⟨op, rd, r1, r2, imm, aq, rl, pred, succ⟩ := by unfold mayE; rw [if_neg (by rw [hb]; simp), if_neg (by rw [hf]; simp)]
      rw [e]
      refine (begin_ok h op rd r1 r2 imm aq rl pred succ w ht hop hb hf).mono ?_
      rintro e w' ⟨b, rfl, -, -, hb⟩
      exact ⟨_, rfl, hb⟩
    · have e : mayE h ⟨op, rd, r1, r2, imm, aq, rl, pred, succ⟩ = 10 := by unfold mayE; rw [if_neg (by rw [hb]; simp), if_pos hf]
      rw [e]
      refine (begin_ended h op rd r1 r2 imm aq rl pred succ w ht hop hb hf).mono ?_
      rintro e w' ⟨rfl, hb⟩
      exact ⟨_, rfl, hb⟩
  · have e : mayE h ⟨op, rd, r1, r2, imm, aq, rl, pred, succ⟩ = 2 := by unfold mayE; rw [if_pos (by rw [hb]; decide)]
    rw [e]
    refine (begin_bad h op rd r1 r2 imm aq rl pred succ w ht hop hb).mono ?_
    rintro e w' ⟨rfl, hb⟩
    exact ⟨_, rfl, hb⟩
attribute [local go_sem] wrap_u64_bv bv_un bv_sn bv_add bv_mul bv_neg bv_sub mul_bvpow shr_min shl_min sshr_min bv_lit bv_0 bv_1 un_shr sn_shr wrap_i64_un bits_u64_and bits_u64_or bits_u64_xor bits_u64_andNot bv_max u64_unsigned
section
attribute [local irreducible] un sn hartL
set_option maxRecDepth 100000 in
set_option maxHeartbeats 8000000 in
theorem HStep_no (h : HartV) (op rd r1 r2 imm : Int) (aq rl : Bool) (pred succ : Int) (found : BitVec 64) (won : Bool) (w : World) (ht : Tabs w) (hop : op ≤ 9223372036854775807) (e0 : Int) (he : mayE h ⟨op, rd, r1, r2, imm, aq, rl, pred, succ⟩ = e0) (hne : e0 ≠ 0) :
    Calls Tryz.prog 9 #[.agg (hartArr h), .agg #[.int .i64 op, .int .i64 rd, .int .i64 r1, .int .i64 r2, .int .i64 imm, .bool aq, .bool rl, .int .i64 pred, .int .i64 succ], .int .u64 (un found), .bool won] w fun e w' => e = .returned (.tuple #[.agg (hartArr zeroH), .int .i64 e0]) ∧ Below w.heap.size w w' := by
  have hE := EK.start w h ⟨op, rd, r1, r2, imm, aq, rl, pred, succ⟩ found won 25 27 22 4 25
  have c0 : _ = some (Value.int .i64 op) := hE.c 0 (by decide)
  have c1 : _ = some (Value.int .i64 rd) := hE.c 1 (by decide)
  have c2 : _ = some (Value.int .i64 r1) := hE.c 2 (by decide)
  have c3 : _ = some (Value.int .i64 r2) := hE.c 3 (by decide)
  have c4 : _ = some (Value.int .i64 imm) := hE.c 4 (by decide)
  have c5 : _ = some (Value.bool aq) := hE.c 5 (by decide)
  have c6 : _ = some (Value.bool rl) := hE.c 6 (by decide)
  have c7 : _ = some (Value.int .i64 pred) := hE.c 7 (by decide)
  have c8 : _ = some (Value.int .i64 succ) := hE.c 8 (by decide)
  have hu := Tryz.underlying25
  have hua := Tryz.underlying25
  have hBg := Lib.hid (fun W (hT : Tabs W) => begin_no h ⟨op, rd, r1, r2, imm, aq, rl, pred, succ⟩ W hT hop (by rw [he]; exact hne))
  rw [he] at hBg
  have t0 : (e0 != 0) = true := by simpa using hne
  clear he hne
  have hz : Hid ((#[.int .u64 0, .int .u64 0, .int .u64 0, .int .u64 0, .int .u64 0, .int .u64 0, .int .u64 0, .int .u64 0, .int .u64 0, .int .u64 0, .int .u64 0, .int .u64 0, .int .u64 0, .int .u64 0, .int .u64 0, .int .u64 0, .int .u64 0, .int .u64 0, .int .u64 0, .int .u64 0, .int .u64 0, .int .u64 0, .int .u64 0, .int .u64 0, .int .u64 0, .int .u64 0, .int .u64 0, .int .u64 0, .int .u64 0, .int .u64 0, .int .u64 0, .int .u64 0, .int .u64 0, .int .i64 0, .int .u64 0] : Array Value) = (hartL zeroH).toArray) := Lib.hid (by kernel_rfl)
  go_enter Tryz.func9, Tryz.ntmps9
  go_wp2_with (first | (refine wpList_load_mid rfl 25 _ rfl w.heap.size 0 rfl (hartL h) _ (hart_range hE.h) hu rfl (size_hart _) ?_) | (go_at_call 20; refine (hBg.out _ (ht.later hE.bl (Nat.le_refl _))).mono ?_; rintro e w2 ⟨po, rfl, hb2⟩; have hE2 := hE.keep hE.sz hb2; have hal : Below w2.heap.size w2 (w2.alloc (.cells #[.pointer po] 55)) := (Below.refl _ _).alloc (Nat.le_refl _) _; have hE3 := hE2.keep hE2.sz hal) | (refine wpList_store_mid rfl 25 _ _ rfl (w.heap.size + 4) 0 #[.int .u64 0, .int .u64 0, .int .u64 0, .int .u64 0, .int .u64 0, .int .u64 0, .int .u64 0, .int .u64 0, .int .u64 0, .int .u64 0, .int .u64 0, .int .u64 0, .int .u64 0, .int .u64 0, .int .u64 0, .int .u64 0, .int .u64 0, .int .u64 0, .int .u64 0, .int .u64 0, .int .u64 0, .int .u64 0, .int .u64 0, .int .u64 0, .int .u64 0, .int .u64 0, .int .u64 0, .int .u64 0, .int .u64 0, .int .u64 0, .int .u64 0, .int .u64 0, .int .u64 0, .int .i64 0, .int .u64 0] rfl rfl (by rw [hz.out]; exact there_hart hE3.z _) (by rw [hz.out]; exact size_hartA _) (by rw [hz.out]; exact hartL_one _) ?_; rw [hz.out]))
  have hr := World.rangeAt_setCells_same (w2.alloc (.cells #[.pointer po] 55)) (w.heap.size + 4) 0 (hartL zeroH) (by rw [hartL_len]; exact hE3.z)
  have hbl : Below w.heap.size w (World.setCells (w2.alloc (.cells #[.pointer po] 55)) (w.heap.size + 4) 0 (hartL zeroH)) := below_setCells (Nat.le_add_right _ _) (hartL zeroH) 0 _ hE3.bl
  generalize World.setCells (w2.alloc (.cells #[.pointer po] 55)) (w.heap.size + 4) 0 (hartL zeroH) = W5 at hr hbl ⊢
  have hlv := result_hart W5 (w.heap.size + 4) zeroH hr
  exact bodyPost_ret (v := .tuple #[.agg (hartL zeroH).toArray, .int .i64 e0]) (by simp [results, Tryz.results9, asAddr, hlv]) rfl ⟨rfl, hbl⟩
set_option maxRecDepth 100000 in
set_option maxHeartbeats 8000000 in
theorem HAsk_no (h : HartV) (op rd r1 r2 imm : Int) (aq rl : Bool) (pred succ : Int) (w : World) (ht : Tabs w) (hop : op ≤ 9223372036854775807) (e0 : Int) (he : mayE h ⟨op, rd, r1, r2, imm, aq, rl, pred, succ⟩ = e0) (hne : e0 ≠ 0) :
    Calls Tryz.prog 14 #[.agg (hartArr h), .agg #[.int .i64 op, .int .i64 rd, .int .i64 r1, .int .i64 r2, .int .i64 imm, .bool aq, .bool rl, .int .i64 pred, .int .i64 succ]] w fun e w' => e = .returned (.tuple #[.agg noAsk.cells, .int .i64 e0]) ∧ Below w.heap.size w w' := by
  have hE := QK.start w h ⟨op, rd, r1, r2, imm, aq, rl, pred, succ⟩ 25 27 42
  have c0 : _ = some (Value.int .i64 op) := hE.c 0 (by decide)
  have c1 : _ = some (Value.int .i64 rd) := hE.c 1 (by decide)
  have c2 : _ = some (Value.int .i64 r1) := hE.c 2 (by decide)
  have c3 : _ = some (Value.int .i64 r2) := hE.c 3 (by decide)
  have c4 : _ = some (Value.int .i64 imm) := hE.c 4 (by decide)
  have c5 : _ = some (Value.bool aq) := hE.c 5 (by decide)
  have c6 : _ = some (Value.bool rl) := hE.c 6 (by decide)
  have c7 : _ = some (Value.int .i64 pred) := hE.c 7 (by decide)
  have c8 : _ = some (Value.int .i64 succ) := hE.c 8 (by decide)
  have hu := Tryz.underlying25
  have hua := Tryz.underlying42
  have hBg := Lib.hid (fun W (hT : Tabs W) => begin_no h ⟨op, rd, r1, r2, imm, aq, rl, pred, succ⟩ W hT hop (by rw [he]; exact hne))
  rw [he] at hBg
  have t0 : (e0 != 0) = true := by simpa using hne
  clear he hne
  have hz : Hid ((#[.int .i64 0, .int .u64 0, .int .u64 0, .int .i64 0, .bool false, .bool false, .int .i64 0, .int .i64 0] : Array Value) = noAsk.cells) := Lib.hid (by kernel_rfl)
  go_enter Tryz.func14, Tryz.ntmps14
  go_wp2_with (first | (refine wpList_load_mid rfl 25 _ rfl w.heap.size 0 rfl (hartL h) _ (hart_range hE.h) hu rfl (size_hart _) ?_) | (go_at_call 20; refine (hBg.out _ (ht.later hE.bl (Nat.le_refl _))).mono ?_; rintro e w2 ⟨po, rfl, hb2⟩; have hE2 := hE.keep hb2; have hal : Below w2.heap.size w2 (w2.alloc (.cells #[.pointer po] 55)) := (Below.refl _ _).alloc (Nat.le_refl _) _; have hE3 := hE2.keep hal) | (refine wpList_store_mid rfl 42 _ _ rfl (w.heap.size + 2) 0 #[.int .i64 0, .int .u64 0, .int .u64 0, .int .i64 0, .bool false, .bool false, .int .i64 0, .int .i64 0] rfl rfl (by rw [hz.out]; exact ask_there hE3.z noAsk) (by rw [hz.out]; exact ask_size noAsk) (by rw [hz.out]; exact ask_one noAsk) ?_; rw [hz.out]))
  have hr5 := World.rangeAt_setCells_same (w2.alloc (.cells #[.pointer po] 55)) (w.heap.size + 2) 0 noAsk.cells.toList hE3.z
  have hbl := below_setCells (Nat.le_add_right w.heap.size 2) noAsk.cells.toList 0 (w2.alloc (.cells #[.pointer po] 55)) hE3.bl
  have hlv := result_ask _ (w.heap.size + 2) noAsk hr5
  generalize World.setCells (w2.alloc (.cells #[.pointer po] 55)) (w.heap.size + 2) 0 noAsk.cells.toList = W5 at hlv hbl ⊢
  exact bodyPost_ret (v := .tuple #[.agg noAsk.cells, .int .i64 e0]) (by simp [results, Tryz.results14, asAddr, hlv]) rfl ⟨rfl, hbl⟩
end
/-- what a hart is behind an instruction, and the error -/
def stepR (h : HartV) (i : InsnV) (found : BitVec 64) (won : Bool) : HartV := if mayE h i = 0 then stepV h i found won else zeroH
theorem mayE_0 (h : HartV) (i : InsnV) (hm : mayE h i = 0) : hartE h = 0 ∧ h.fin = 0 ∧ checkE i = 0 := by
  unfold mayE at hm
  by_cases hb : hartE h = 0
  · rw [if_neg (fun e => e hb)] at hm
    by_cases hf : h.fin = 0
    · rw [if_neg (fun e => e hf)] at hm; exact ⟨hb, hf, hm⟩
    · rw [if_pos hf] at hm; cases hm
  · rw [if_pos hb] at hm; cases hm
theorem HStep_all (h : HartV) (i : InsnV) (found : BitVec 64) (won : Bool) (w : World) (ht : Tabs w) (hop : i.op ≤ 9223372036854775807) :
    Calls Tryz.prog 9 #[.agg (hartArr h), .agg i.cells, .int .u64 (un found), .bool won] w fun e w' => e = .returned (.tuple #[.agg (hartArr (stepR h i found won)), .int .i64 (mayE h i)]) ∧ Below w.heap.size w w' := by
  unfold stepR
  by_cases hm : mayE h i = 0
  · obtain ⟨h1, h2, h3⟩ := mayE_0 h i hm
    rw [if_pos hm, hm]; exact Step_any h i found won w ht hop h1 h2 h3
  · rw [if_neg hm]
    obtain ⟨op, rd, r1, r2, imm, aq, rl, pred, succ⟩ := i
    exact HStep_no h op rd r1 r2 imm aq rl pred succ found won w ht hop _ rfl hm
theorem RStep_all (h : HartV) (i : InsnV) (found : BitVec 64) (won : Bool) (w : World) :
    Calls Tryz.prog 15 #[.agg (hartArr h), .agg i.cells, .int .u64 (un found), .bool won] w fun e w' => e = .returned (.tuple #[.agg (hartArr (stepR h i found won)), .int .i64 (mayE h i)]) ∧ Below w.heap.size w w' := by
  unfold stepR
  by_cases hm : mayE h i = 0
  · obtain ⟨h1, h2, h3⟩ := mayE_0 h i hm
    have hok : checkOk i = true := by
      unfold checkE at h3
      cases hk : checkOk i with
      | true => rfl
      | false => rw [hk] at h3; cases h3
    have hregs := checkOk_regs i hok
    rw [if_pos hm, ← rstep_eq h i found won h3]
    obtain ⟨op, rd, rs1, rs2, imm, aq, rl, pred, succ⟩ := i
    obtain ⟨g1, g2, g3, g4, g5, g6⟩ := hregs
    simp only at g1 g2 g3 g4 g5 g6
    obtain ⟨d, rfl⟩ := Int.eq_ofNat_of_zero_le g1
    obtain ⟨r1, rfl⟩ := Int.eq_ofNat_of_zero_le g3
    obtain ⟨r2, rfl⟩ := Int.eq_ofNat_of_zero_le g5
    have hd : d < 32 := by omega
    have hr1 : r1 < 32 := by omega
    have hr2 : r2 < 32 := by omega
    have e0 := hm
    rw [hm]
    clear hm
    unfold rstepV
    by_cases hr : rendV h ⟨op, d, r1, r2, imm, aq, rl, pred, succ⟩ = 0
    · rw [if_pos hr]
      have k := opK op
      have hrf := rform_eq op
      have e69 : ∀ {b : Bool} {x : Int}, (op == x) = b → (b = true ↔ op = x) := fun {b x} e => by rw [← e, beq_iff_eq]
      cases t69 : (op == 69) with
      | true =>
        have ho : op = 69 := by simpa using t69
        have t8 : (rform op != 8) = true := by rw [ho]; rfl
        cases won with
        | true => rw [show ransV h ⟨op, d, r1, r2, imm, aq, rl, pred, succ⟩ found true = 0#64 by unfold ransV; exact (if_pos ho).trans (if_pos rfl)]; exact RGo_a h op d r1 r2 imm aq rl pred succ found w hr1 hr2 hd e0 hr h3 t8 t69
        | false => rw [show ransV h ⟨op, d, r1, r2, imm, aq, rl, pred, succ⟩ found false = 1#64 by unfold ransV; exact (if_pos ho).trans (if_neg (by decide))]; exact RGo_b h op d r1 r2 imm aq rl pred succ found w hr1 hr2 hd e0 hr h3 t8 t69
      | false =>
        have ho : ¬ op = 69 := by simpa using t69
        cases tl : (opOf op).loads with
        | true =>
          have t8 : (rform op != 8) = true := by have := k.ld2 tl; rw [← hrf, bne_iff_ne]; omega
          rw [show ransV h ⟨op, d, r1, r2, imm, aq, rl, pred, succ⟩ found won = found by unfold ransV; exact (if_neg ho).trans (if_pos tl)]; exact RGo_c h op d r1 r2 imm aq rl pred succ found won w hr1 hr2 hd e0 hr h3 t8 t69 tl
        | false =>
          have hl : ¬ (opOf op).loads = true := by rw [tl]; decide
          have t8f : op = 3 ∨ op = 4 ∨ op = 2 → (rform op != 8) = true := fun e => by rcases e with rfl | rfl | rfl <;> rfl
          cases t3 : (op == 3) with
          | true =>
            have h3' : op = 3 := by simpa using t3
            rw [show ransV h ⟨op, d, r1, r2, imm, aq, rl, pred, succ⟩ found won = h.pc + 4#64 by unfold ransV; exact (if_neg ho).trans ((if_neg hl).trans (if_pos (.inl h3')))]; exact RGo_d h op d r1 r2 imm aq rl pred succ found won w hr1 hr2 hd e0 hr h3 (t8f (.inl h3')) t69 tl t3
          | false =>
            have h3' : ¬ op = 3 := by simpa using t3
            cases t4 : (op == 4) with
            | true =>
              have h4' : op = 4 := by simpa using t4
              rw [show ransV h ⟨op, d, r1, r2, imm, aq, rl, pred, succ⟩ found won = h.pc + 4#64 by unfold ransV; exact (if_neg ho).trans ((if_neg hl).trans (if_pos (.inr h4')))]; exact RGo_e h op d r1 r2 imm aq rl pred succ found won w hr1 hr2 hd e0 hr h3 (t8f (.inr (.inl h4'))) t69 tl t3 t4
            | false =>
              have h4' : ¬ op = 4 := by simpa using t4
              have h34 : ¬ (op = 3 ∨ op = 4) := fun e => e.elim h3' h4'
              cases t2 : (op == 2) with
              | true =>
                have h2' : op = 2 := by simpa using t2
                rw [show ransV h ⟨op, d, r1, r2, imm, aq, rl, pred, succ⟩ found won = h.pc + doF 1 0#64 (bv imm) by unfold ransV; exact (if_neg ho).trans ((if_neg hl).trans ((if_neg h34).trans (if_pos h2')))]; exact RGo_f h op d r1 r2 imm aq rl pred succ found won w hr1 hr2 hd e0 hr h3 (t8f (.inr (.inr h2'))) t69 tl t3 t4 t2
              | false =>
                have h2' : ¬ op = 2 := by simpa using t2
                have hE : ransV h ⟨op, d, r1, r2, imm, aq, rl, pred, succ⟩ found won = if doE op ≠ 0 then 0#64 else doF op (h.x r1) (if rform op = 8 then h.x r2 else bv imm) := by unfold ransV; exact (if_neg ho).trans ((if_neg hl).trans ((if_neg h34).trans (if_neg h2')))
                rw [hE]
                cases t8 : (rform op != 8) with
                | true =>
                  have h8 : ¬ rform op = 8 := by simpa using t8
                  rw [if_neg h8]
                  cases tE : (doE op != 0) with
                  | true => rw [if_pos (show doE op ≠ 0 by simpa using tE)]; exact RGo_g h op d r1 r2 imm aq rl pred succ found won w hr1 hr2 hd e0 hr h3 t8 t69 tl t3 t4 t2 tE
                  | false => rw [if_neg (show ¬ doE op ≠ 0 by simpa using tE)]; exact RGo_h h op d r1 r2 imm aq rl pred succ found won w hr1 hr2 hd e0 hr h3 t8 t69 tl t3 t4 t2 tE
                | false =>
                  have h8 : rform op = 8 := by simpa using t8
                  have hd0 : doE op = 0 := k.doe (by rw [hrf]; omega) h2' h4'
                  rw [if_pos h8, if_neg (fun e => e hd0)]
                  exact RGo_i h op d r1 r2 imm aq rl pred succ found won w hr1 hr2 hd e0 hr h3 t8 t69 tl t3 t4 t2 (by rw [hd0]; rfl)
    · rw [if_neg hr]
      unfold endedV
      by_cases h1' : rendV h ⟨op, d, r1, r2, imm, aq, rl, pred, succ⟩ = 1
      · rw [if_pos h1']; exact RStep_end1 h op d r1 r2 imm aq rl pred succ found won w hr1 hr2 e0 _ rfl hr h1'
      · rw [if_neg h1']; exact RStep_endn h op d r1 r2 imm aq rl pred succ found won w hr1 hr2 e0 _ rfl hr h1'
  · rw [if_neg hm]
    obtain ⟨op, rd, r1, r2, imm, aq, rl, pred, succ⟩ := i
    exact RStep_no h op rd r1 r2 imm aq rl pred succ found won w _ rfl hm
end Go.Proofs.YtbglinhglnbfmaaGreatDoor
