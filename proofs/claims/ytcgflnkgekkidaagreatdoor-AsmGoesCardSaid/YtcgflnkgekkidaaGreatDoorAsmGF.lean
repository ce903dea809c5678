/- From the first word of a branch or a jump a hart comes to its label, or behind. come at an item that was built. Conditions: as each theorem says. -/
import Derived.Test.YtcgflnkgekkidaaGreatDoorAsmGe
import Derived.Test.YtcgflnkgekkidaaGreatDoorAsmPG
set_option linter.unusedSimpArgs false
set_option linter.unusedVariables false
namespace Go.Proofs.YtcgflnkgekkidaaGreatDoor
open Go.RowKit
theorem pcA_int (j : Nat) : pcA j = bv (4 * (j : Int)) := by
  unfold pcA bv
  rw [show (4 * (j : Int)) = ((4 * j : Nat) : Int) by omega, BitVec.ofInt_natCast]
theorem pcA_add (a b : Nat) : pcA a + bv (4 * ((b : Int) - a)) = pcA b := by
  rw [pcA_int, pcA_int]
  unfold bv
  rw [← BitVec.ofInt_add]
  congr 1
  omega
theorem pcA_8 (a : Nat) : pcA a + bv 8 = pcA (a + 2) := by
  have := pcA_add a (a + 2)
  rwa [show 4 * (((a + 2 : Nat) : Int) - a) = 8 by omega] at this
theorem pcA_4 (b : Nat) (hb : b ≤ 40000) : ((un (pcA b)).tmod 4 != 0) = false := by
  rw [pcA_un b hb, Int.mul_tmod_right]; rfl
theorem turned_takes (op : Int) (ho : 5 ≤ op ∧ op ≤ 10) (a b : BitVec 64) : takesF (turnedV op) a b = !takesF op a b := by
  have hx : op = 5 ∨ op = 6 ∨ op = 7 ∨ op = 8 ∨ op = 9 ∨ op = 10 := by omega
  have e1 : ∀ x y : Int, (!decide (x < y)) = decide (y ≤ x) := fun x y => by
    by_cases h : x < y
    · rw [decide_eq_true h, decide_eq_false (by omega)]; rfl
    · rw [decide_eq_false h, decide_eq_true (by omega)]; rfl
  have e2 : ∀ x y : Int, (!decide (y ≤ x)) = decide (x < y) := fun x y => by
    by_cases h : x < y
    · rw [decide_eq_true h, decide_eq_false (by omega)]; rfl
    · rw [decide_eq_false h, decide_eq_true (by omega)]; rfl
  rcases hx with rfl | rfl | rfl | rfl | rfl | rfl
  · show (un a != un b) = !(un a == un b); rfl
  · show (un a == un b) = !(un a != un b); simp [bne]
  · exact (e1 _ _).symm
  · exact (e2 _ _).symm
  · exact (e1 _ _).symm
  · exact (e2 _ _).symm
theorem rgone_pc (h : HartV) (i : InsnV) (n v : BitVec 64) : (rgoneV h i n v).pc = n := by
  unfold rgoneV
  split <;> rfl
theorem rgone_x0 (h : HartV) (i : InsnV) (n v : BitVec 64) (r : Nat) (hr : i.rd = r) : (rgoneV h i n v).x 0 = h.x 0 := by
  unfold rgoneV
  split
  · rfl
  · exact if_neg (by omega)
theorem rgone_fin (h : HartV) (i : InsnV) (n v : BitVec 64) : (rgoneV h i n v).fin = h.fin ∧ (rgoneV h i n v).code = h.code := by
  unfold rgoneV
  split <;> exact ⟨rfl, rfl⟩
/-- One word. -/
theorem plan_one (n : Nat) (ws : Nat → BitVec 32) (long : Bool) (a b : Nat) (h0 y : HartV) (i : InsnV) (ha : a < n) (hn : n ≤ 40000) (hb : b ≤ 40000) (hpc : h0.pc = pcA a) (hy : y.pc = pcA b) (hw : ws a = wordV i) (hck : checkE i = 0) (hoff : long = false ∨ b ≠ a + 1)
    (hS : ∀ W, Calls Tryz.prog 19 #[.agg (hartL h0).toArray, .agg i.cells, .int .u64 0, .bool false] W fun e w' => e = .returned (.tuple #[.agg (hartL y).toArray, .int .i64 0]) ∧ Below W.heap.size W w') :
    ∃ m hs p I, hs 0 = h0 ∧ Plan n ws long a b m hs p I := by
  refine ⟨1, fun k => if k = 0 then h0 else y, fun k => if k = 0 then a else b, fun _ => i, rfl, Nat.le_refl _, by decide, rfl, rfl, fun k hk => ?_, fun k hk => ?_, (fun h => absurd h (by decide)), fun _ => ?_⟩
  · by_cases e : k = 0
    · subst e; exact ⟨hpc, by show a ≤ _; omega⟩
    · obtain rfl : k = 1 := by omega
      exact ⟨hy, hb⟩
  · obtain rfl : k = 0 := by omega
    exact ⟨ha, hw, hck, hS⟩
  · rcases hoff with h | h
    · exact .inl h
    · exact .inr (.inl h)
/-- Two words. -/
theorem plan_two (n : Nat) (ws : Nat → BitVec 32) (a b : Nat) (h0 h1 y : HartV) (i j : InsnV) (ha : a + 1 < n) (hn : n ≤ 40000) (hb : b ≤ 40000) (hpc : h0.pc = pcA a) (hp1 : h1.pc = pcA (a + 1)) (hy : y.pc = pcA b) (hw : ws a = wordV i) (hw1 : ws (a + 1) = wordV j) (hck : checkE i = 0) (hck1 : checkE j = 0)
    (hS : ∀ W, Calls Tryz.prog 19 #[.agg (hartL h0).toArray, .agg i.cells, .int .u64 0, .bool false] W fun e w' => e = .returned (.tuple #[.agg (hartL h1).toArray, .int .i64 0]) ∧ Below W.heap.size W w')
    (hS1 : ∀ W, Calls Tryz.prog 19 #[.agg (hartL h1).toArray, .agg j.cells, .int .u64 0, .bool false] W fun e w' => e = .returned (.tuple #[.agg (hartL y).toArray, .int .i64 0]) ∧ Below W.heap.size W w') :
    ∃ m hs p I, hs 0 = h0 ∧ Plan n ws true a b m hs p I := by
  refine ⟨2, fun k => if k = 0 then h0 else if k = 1 then h1 else y, fun k => if k = 0 then a else if k = 1 then a + 1 else b, fun k => if k = 0 then i else j, rfl, by decide, Nat.le_refl _, rfl, rfl, fun k hk => ?_, fun k hk => ?_, fun _ => ⟨rfl, rfl⟩, (fun h => absurd h (by decide))⟩
  · obtain rfl | rfl | rfl : k = 0 ∨ k = 1 ∨ k = 2 := by omega
    · exact ⟨hpc, by show a ≤ _; omega⟩
    · exact ⟨hp1, by show a + 1 ≤ _; omega⟩
    · exact ⟨hy, hb⟩
  · obtain rfl | rfl : k = 0 ∨ k = 1 := by omega
    · exact ⟨by show a < n; omega, hw, hck, hS⟩
    · exact ⟨ha, hw1, hck1, hS1⟩
theorem u0_of {x : BitVec 64} (h : x = 0#64) : un x = 0 := by rw [h]; exact un_0
theorem plan_jal (n : Nat) (ws : Nat → BitVec 32) (long : Bool) (a b : Nat) (h0 : HartV) (op : Int) (rd r1 r2 : Nat) (ho : op = 3) (hd : rd < 32) (hr1 : r1 < 32) (hr2 : r2 < 32) (ha : a < n) (hn : n ≤ 40000) (hb : b ≤ 40000) (hoff : long = false ∨ b ≠ a + 1)
    (hck : checkE ⟨op, rd, r1, r2, 4 * ((b : Int) - a), false, false, 0, 0⟩ = 0) (hw : ws a = wordV ⟨op, rd, r1, r2, 4 * ((b : Int) - a), false, false, 0, 0⟩) (hpc : h0.pc = pcA a) (hf : h0.fin = 0) (hc : h0.code = 0#64) (hx : h0.x 0 = 0#64) :
    ∃ m hs p I, hs 0 = h0 ∧ Plan n ws long a b m hs p I := by
  have ep : h0.pc + bv (4 * ((b : Int) - a)) = pcA b := by rw [hpc]; exact pcA_add a b
  refine plan_one n ws long a b h0 (rgoneV h0 ⟨op, rd, r1, r2, 4 * ((b : Int) - a), false, false, 0, 0⟩ (h0.pc + bv (4 * ((b : Int) - a))) (h0.pc + 4#64)) _ ha hn hb hpc ?_ hw hck hoff (fun W => Step_jal h0 op rd r1 r2 _ W ho hr1 hr2 hd hck (u0_of hx) hf (u0_of hc) (by rw [ep]; exact pcA_4 b hb))
  rw [rgone_pc]; exact ep
theorem plan_br (n : Nat) (ws : Nat → BitVec 32) (a b : Nat) (tk : Bool) (h0 : HartV) (op : Int) (rd r1 r2 : Nat) (ho : 5 ≤ op ∧ op ≤ 10) (hd : rd < 32) (hr1 : r1 < 32) (hr2 : r2 < 32) (ha : a < n) (hn : n < 40000) (hb : b ≤ 40000)
    (hck : checkE ⟨op, rd, r1, r2, 4 * ((b : Int) - a), false, false, 0, 0⟩ = 0) (hw : ws a = wordV ⟨op, rd, r1, r2, 4 * ((b : Int) - a), false, false, 0, 0⟩) (hpc : h0.pc = pcA a) (hf : h0.fin = 0) (hc : h0.code = 0#64) (hx : h0.x 0 = 0#64) (htk : takesF op (h0.x r1) (h0.x r2) = tk) :
    ∃ m hs p I, hs 0 = h0 ∧ Plan n ws false a (if tk = true then b else a + 1) m hs p I := by
  cases tk with
  | true =>
    have ep : h0.pc + bv (4 * ((b : Int) - a)) = pcA b := by rw [hpc]; exact pcA_add a b
    rw [if_pos rfl]
    refine plan_one n ws false a b h0 (rgoneV h0 ⟨op, rd, r1, r2, 4 * ((b : Int) - a), false, false, 0, 0⟩ (h0.pc + bv (4 * ((b : Int) - a))) 0#64) _ ha (by omega) hb hpc ?_ hw hck (.inl rfl) (fun W => Step_brT h0 op rd r1 r2 _ W ho hr1 hr2 hd hck (u0_of hx) hf (u0_of hc) htk (by rw [ep]; exact pcA_4 b hb))
    rw [rgone_pc]; exact ep
  | false =>
    rw [if_neg (by decide)]
    refine plan_one n ws false a (a + 1) h0 (rgoneV h0 ⟨op, rd, r1, r2, 4 * ((b : Int) - a), false, false, 0, 0⟩ (h0.pc + 4#64) 0#64) _ ha (by omega) (by omega) hpc ?_ hw hck (.inl rfl) (fun W => Step_brN h0 op rd r1 r2 _ W ho hr1 hr2 hd hck (u0_of hx) hf (u0_of hc) htk)
    rw [rgone_pc, hpc]; exact pcA_S a
theorem turned_bd (op : Int) (ho : 5 ≤ op ∧ op ≤ 10) : 5 ≤ turnedV op ∧ turnedV op ≤ 10 := by
  have hx : op = 5 ∨ op = 6 ∨ op = 7 ∨ op = 8 ∨ op = 9 ∨ op = 10 := by omega
  rcases hx with rfl | rfl | rfl | rfl | rfl | rfl <;> decide
theorem plan_far (n : Nat) (ws : Nat → BitVec 32) (a b : Nat) (tk : Bool) (h0 : HartV) (op : Int) (rd r1 r2 : Nat) (ho : 5 ≤ op ∧ op ≤ 10) (hd : rd < 32) (hr1 : r1 < 32) (hr2 : r2 < 32) (ha : a + 1 < n) (hn : n < 39999) (hb : b ≤ 40000)
    (hck : checkE ⟨turnedV op, rd, r1, r2, 8, false, false, 0, 0⟩ = 0) (hw : ws a = wordV ⟨turnedV op, rd, r1, r2, 8, false, false, 0, 0⟩) (hck1 : checkE ⟨3, 0, 0, 0, 4 * ((b : Int) - a - 1), false, false, 0, 0⟩ = 0) (hw1 : ws (a + 1) = wordV ⟨3, 0, 0, 0, 4 * ((b : Int) - a - 1), false, false, 0, 0⟩)
    (hpc : h0.pc = pcA a) (hf : h0.fin = 0) (hc : h0.code = 0#64) (hx : h0.x 0 = 0#64) (htk : takesF op (h0.x r1) (h0.x r2) = tk) :
    ∃ m hs p I, hs 0 = h0 ∧ Plan n ws true a (if tk = true then b else a + 2) m hs p I := by
  have hot := turned_bd op ho
  have htt : takesF (turnedV op) (h0.x r1) (h0.x r2) = !tk := by rw [turned_takes op ho, htk]
  cases tk with
  | true =>
    have e1 : (b : Int) - a - 1 = (b : Int) - ((a + 1 : Nat) : Int) := by omega
    rw [e1] at hck1 hw1
    have p1 : (rgoneV h0 ⟨turnedV op, rd, r1, r2, 8, false, false, 0, 0⟩ (h0.pc + 4#64) 0#64).pc = pcA (a + 1) := by rw [rgone_pc, hpc]; exact pcA_S a
    have ep : (rgoneV h0 ⟨turnedV op, rd, r1, r2, 8, false, false, 0, 0⟩ (h0.pc + 4#64) 0#64).pc + bv (4 * ((b : Int) - ((a + 1 : Nat) : Int))) = pcA b := by rw [p1]; exact pcA_add (a + 1) b
    rw [if_pos rfl]
    refine plan_two n ws a b h0 (rgoneV h0 ⟨turnedV op, rd, r1, r2, 8, false, false, 0, 0⟩ (h0.pc + 4#64) 0#64) (rgoneV (rgoneV h0 ⟨turnedV op, rd, r1, r2, 8, false, false, 0, 0⟩ (h0.pc + 4#64) 0#64) ⟨3, (0 : Nat), (0 : Nat), (0 : Nat), 4 * ((b : Int) - ((a + 1 : Nat) : Int)), false, false, 0, 0⟩ ((rgoneV h0 ⟨turnedV op, rd, r1, r2, 8, false, false, 0, 0⟩ (h0.pc + 4#64) 0#64).pc + bv (4 * ((b : Int) - ((a + 1 : Nat) : Int)))) ((rgoneV h0 ⟨turnedV op, rd, r1, r2, 8, false, false, 0, 0⟩ (h0.pc + 4#64) 0#64).pc + 4#64)) _ _ ha (by omega) hb hpc p1 ?_ hw hw1 hck hck1 (fun W => Step_brN h0 (turnedV op) rd r1 r2 8 W hot hr1 hr2 hd hck (u0_of hx) hf (u0_of hc) htt)
      (fun W => Step_jal _ 3 0 0 0 _ W rfl (by decide) (by decide) (by decide) hck1 (u0_of ((rgone_x0 _ _ _ _ rd rfl).trans hx)) ((rgone_fin _ _ _ _).1.trans hf) (u0_of ((rgone_fin _ _ _ _).2.trans hc)) (by rw [ep]; exact pcA_4 b hb))
    rw [rgone_pc]; exact ep
  | false =>
    have ep : h0.pc + bv 8 = pcA (a + 2) := by rw [hpc]; exact pcA_8 a
    rw [if_neg (by decide)]
    refine plan_one n ws true a (a + 2) h0 (rgoneV h0 ⟨turnedV op, rd, r1, r2, 8, false, false, 0, 0⟩ (h0.pc + bv 8) 0#64) _ (by omega) (by omega) (by omega) hpc ?_ hw hck (.inr (by omega)) (fun W => Step_brT h0 (turnedV op) rd r1 r2 8 W hot hr1 hr2 hd hck (u0_of hx) hf (u0_of hc) htt (by rw [ep]; exact pcA_4 (a + 2) (by omega)))
    rw [rgone_pc]; exact ep
end Go.Proofs.YtcgflnkgekkidaaGreatDoor
namespace Go.Proofs.YtcgflnkgekkidaaGreatDoor
open Go.RowKit
theorem may_br {i : ItemV} (h : mayV i = true) (hk : i.kind = 3) : checkE i.insn = 0 ∧ (opOf i.insn.op).form = 6 ∧ i.insn.imm = 0 := by
  unfold mayV at h
  rw [hk] at h
  simp only [show ((3 : Int) = 1) = False by simp, show ((3 : Int) = 2) = False by simp, if_false, if_true, Bool.and_eq_true, beq_iff_eq] at h
  exact ⟨h.1.1.1.1, h.1.1.1.2, h.1.1.2⟩
theorem may_jm {i : ItemV} (h : mayV i = true) (hk : i.kind = 4) : checkE i.insn = 0 ∧ (opOf i.insn.op).form = 2 ∧ i.insn.imm = 0 := by
  unfold mayV at h
  rw [hk] at h
  simp only [show ((4 : Int) = 1) = False by simp, show ((4 : Int) = 2) = False by simp, show ((4 : Int) = 3) = False by simp, if_false, if_true, Bool.and_eq_true, beq_iff_eq] at h
  exact ⟨h.1.1.1.1, h.1.1.1.2, h.1.1.2⟩
theorem reg_nat {r : Int} (h : regBad r = false) : ∃ m : Nat, m < 32 ∧ r = m := by
  unfold regBad at h
  simp only [Bool.or_eq_false_iff, decide_eq_false_iff_not] at h
  exact ⟨r.toNat, by omega, by omega⟩
theorem ok_of {i : InsnV} (h : checkE i = 0) : checkOk i = true := by
  unfold checkE at h
  cases hk : checkOk i with
  | true => rfl
  | false => rw [hk] at h; cases h
theorem form6_fields {i : InsnV} (h : checkE i = 0) (hf : (opOf i.op).form = 6) (him : i.imm = 0) : ∃ r1 r2 : Nat, r1 < 32 ∧ r2 < 32 ∧ i = ⟨i.op, (0 : Nat), r1, r2, 0, false, false, 0, 0⟩ := by
  have hok := ok_of h
  unfold checkOk at hok
  rw [hf] at hok
  simp only [formOk, show ((6 : Int) = 1) = False by simp, show ((6 : Int) = 2) = False by simp, show ((6 : Int) = 3) = False by simp, show ((6 : Int) = 4) = False by simp, show ((6 : Int) = 5) = False by simp, if_false, if_true, Bool.and_eq_true, beq_iff_eq, Bool.not_eq_true'] at hok
  obtain ⟨⟨⟨⟨⟨⟨⟨h1, h2⟩, h3⟩, h4⟩, h5⟩, h6⟩, h7⟩, h8⟩ := hok
  simp only [badIn, List.any_cons, List.any_nil, Bool.or_eq_false_iff] at h8
  obtain ⟨r1, e1, e2⟩ := reg_nat h8.1
  obtain ⟨r2, e3, e4⟩ := reg_nat h8.2.1
  refine ⟨r1, r2, e1, e3, ?_⟩
  obtain ⟨a1, a2, a3, a4, a5, a6, a7, a8, a9⟩ := i
  simp only at *
  subst h1 h2 h3 h4 h5 e2 e4 him
  rfl
theorem form2_fields {i : InsnV} (h : checkE i = 0) (hf : (opOf i.op).form = 2) (him : i.imm = 0) : ∃ rd : Nat, rd < 32 ∧ i = ⟨i.op, rd, (0 : Nat), (0 : Nat), 0, false, false, 0, 0⟩ := by
  have hok := ok_of h
  unfold checkOk at hok
  rw [hf] at hok
  simp only [formOk, show ((2 : Int) = 1) = False by simp, if_false, if_true, Bool.and_eq_true, beq_iff_eq, Bool.not_eq_true'] at hok
  obtain ⟨⟨⟨⟨⟨⟨⟨⟨h1, h2⟩, h3⟩, h4⟩, h5⟩, h6⟩, h7⟩, h8⟩, h9⟩ := hok
  simp only [badIn, List.any_cons, List.any_nil, Bool.or_eq_false_iff] at h9
  obtain ⟨rd, e1, e2⟩ := reg_nat h9.1
  refine ⟨rd, e1, ?_⟩
  obtain ⟨a1, a2, a3, a4, a5, a6, a7, a8, a9⟩ := i
  simp only at *
  subst h1 h2 h3 h4 h5 h6 e2 him
  rfl
/-- Where an item lies, where its label does. -/
theorem item_nat (F : Nat → ItemV) (n k : Nat) (hc : checkV F n = 0) (hn : n ≤ 3060) (hk : k < n) (hg : (F k).kind = 3 ∨ (F k).kind = 4) : ∃ a b : Nat, (a : Int) = placeF F (longV F n) k ∧ (b : Int) = labV F (longV F n) n (F k).label ∧ b ≤ 40000 ∧ (outW F n).length < 39999 ∧ ∀ (j : Nat) (i : InsnV), (insnsV F n (longV F n) k)[j]? = some i → a + j < (outW F n).length ∧ (outW F n).getD (a + j) 0#32 = wordV i := by
  have hL := longV_kind F n
  have hW : outW F n = wordsF F n (longV F n) n := if_pos hc
  have h12 := wordsF_len F n (longV F n) n
  obtain ⟨j, hj, -, -, hl⟩ := lab_idx F _ n (check_stands hc k hk hg)
  have hjl := words_len F n (longV F n) (fun k h => hL k h) j
  have hnl := words_len F n (longV F n) (fun k h => hL k h) n
  have hmo := placeF_mono F (longV F n) j n (Nat.le_of_lt hj)
  refine ⟨(wordsF F n (longV F n) k).length, (wordsF F n (longV F n) j).length, words_len F n _ (fun k h => hL k h) k, ?_, by omega, by rw [hW]; omega, fun q i hi => ?_⟩
  · rw [hjl]; exact (hl _ _).symm
  · have := words_at F n (longV F n) k q i hi n hk
    rw [hW]
    obtain ⟨h1, h2⟩ := List.getElem?_eq_some_iff.1 this
    exact ⟨h1, by rw [List.getD_eq_getElem?_getD, this]; rfl⟩
/-- come at a jump. -/
theorem Come_item4 (F : Nat → ItemV) (n k : Nat) (hc : checkV F n = 0) (hn : n ≤ 3060) (hk : k < n) (h4 : (F k).kind = 4) (bw c : Nat) (W : World) (hw : VR bw (outW F n).length (fun j => .int .u32 (un32 ((outW F n).getD j 0#32))) W) :
    Calls Tryz.prog 22 #[.slice (some ⟨bw, 0, none⟩) (outW F n).length c, .int .i64 (placeF F (longV F n) k), .agg (F k).insn.cells, .bool true, .bool false] W fun e w' => (∃ b : Bool, e = .returned (.tuple #[.int .i64 (labV F (longV F n) n (F k).label), .bool b])) ∧ Below W.heap.size W w' := by
  obtain ⟨a, b, ha, hb, hb4, hN, hat⟩ := item_nat F n k hc hn hk (.inr h4)
  obtain ⟨hck, hf, him⟩ := may_jm (check_may hc k hk) h4
  have ho := form2_op hf
  obtain ⟨rd, hrd, hi⟩ := form2_fields hck hf him
  have hLk : longV F n k = false := by
    cases h : longV F n k with
    | false => rfl
    | true => have := longV_kind F n k h; omega
  have hway : wayF F (longV F n) (labV F (longV F n) n) k 0 = 4 * ((b : Int) - a) := by unfold wayF; rw [← ha, ← hb, Int.sub_zero]
  have hins : insnsV F n (longV F n) k = [{ (F k).insn with imm := 4 * ((b : Int) - a) }] := by
    unfold insnsV
    rw [if_neg (by omega), if_neg (by omega), if_pos (.inr h4), if_neg (by rw [hLk]; decide), hway]
  have hbd := wayF_bd F (longV F n) n k 0 (by omega) hk (by decide) (by decide)
  rw [hway] at hbd
  have hck2 := ck_jump hck hf _ (fits21 _ hbd.1 hbd.2)
  obtain ⟨h1, h2⟩ := hat 0 _ (by rw [hins]; rfl)
  rw [Nat.add_zero] at h1 h2
  rw [hi] at hck2 h2 ⊢
  rw [← ha, ← hb]
  simp only at hck2 h2
  refine (Come_any bw _ c a (fun j => (outW F n).getD j 0#32) (F k).insn.op rd 0 0 0 true false b W (by decide) (by decide) (.inl ho) h1 (by omega) hw (fun h0 e1 e2 e3 e4 _ => plan_jal _ _ false a b h0 _ rd 0 0 ho hrd (by decide) (by decide) h1 (by omega) hb4 (.inl rfl) hck2 h2 e1 e2 e3 e4)).mono ?_
  rintro e w' ⟨⟨x, q, rfl, hx, hq⟩, hbl⟩
  exact ⟨⟨q, by rw [hx (hq ho)]⟩, hbl⟩
/-- come at a branch. -/
theorem Come_item3 (F : Nat → ItemV) (n k : Nat) (hc : checkV F n = 0) (hn : n ≤ 3060) (hk : k < n) (h3 : (F k).kind = 3) (tk : Bool) (bw c : Nat) (W : World) (hw : VR bw (outW F n).length (fun j => .int .u32 (un32 ((outW F n).getD j 0#32))) W) :
    Calls Tryz.prog 22 #[.slice (some ⟨bw, 0, none⟩) (outW F n).length c, .int .i64 (placeF F (longV F n) k), .agg (F k).insn.cells, .bool tk, .bool (longV F n k)] W fun e w' => (∃ (x : Int) (b : Bool), e = .returned (.tuple #[.int .i64 x, .bool b]) ∧ (b = true → x = if tk = true then labV F (longV F n) n (F k).label else placeF F (longV F n) k + (if longV F n k = true then 2 else 1))) ∧ Below W.heap.size W w' := by
  obtain ⟨a, b, ha, hb, hb4, hN, hat⟩ := item_nat F n k hc hn hk (.inl h3)
  obtain ⟨hck, hf, him⟩ := may_br (check_may hc k hk) h3
  have ho := form6_op hf
  obtain ⟨r1, r2, hr1, hr2, hi⟩ := form6_fields hck hf him
  cases hLk : longV F n k with
  | false =>
    have hway : wayF F (longV F n) (labV F (longV F n) n) k 0 = 4 * ((b : Int) - a) := by unfold wayF; rw [← ha, ← hb, Int.sub_zero]
    have hins : insnsV F n (longV F n) k = [{ (F k).insn with imm := 4 * ((b : Int) - a) }] := by
      unfold insnsV
      rw [if_neg (by omega), if_neg (by omega), if_pos (.inl h3), if_neg (by rw [hLk]; decide), hway]
    have hbd := (long_need F n hc k hk h3).2 hLk
    rw [← ha, ← hb] at hbd
    have hck2 := ck_branch hck hf _ (fits13 _ hbd.1 (by omega))
    obtain ⟨h1, h2⟩ := hat 0 _ (by rw [hins]; rfl)
    rw [Nat.add_zero] at h1 h2
    rw [hi] at hck2 h2 ⊢
    rw [← ha, ← hb]
    simp only at hck2 h2
    refine (Come_any bw _ c a (fun j => (outW F n).getD j 0#32) (F k).insn.op 0 r1 r2 0 tk false (if tk = true then b else a + 1) W hr1 hr2 (.inr ho) h1 (by omega) hw (fun h0 e1 e2 e3 e4 e5 => plan_br _ _ a b tk h0 _ 0 r1 r2 ho (by decide) hr1 hr2 h1 (by omega) hb4 hck2 h2 e1 e2 e3 e4 (e5 (by omega)))).mono ?_
    rintro e w' ⟨⟨x, q, rfl, hx, -⟩, hbl⟩
    refine ⟨⟨x, q, rfl, fun hq => ?_⟩, hbl⟩
    rw [hx hq]
    cases tk <;> simp
  | true =>
    have hway : wayF F (longV F n) (labV F (longV F n) n) k 1 = 4 * ((b : Int) - a - 1) := by unfold wayF; rw [← ha, ← hb]
    have hins : insnsV F n (longV F n) k = [{ (F k).insn with op := turnedV (F k).insn.op, imm := 8 }, ⟨3, 0, 0, 0, 4 * ((b : Int) - a - 1), false, false, 0, 0⟩] := by
      unfold insnsV
      rw [if_neg (by omega), if_neg (by omega), if_pos (.inl h3), if_pos hLk, hway]
    have hbd := wayF_bd F (longV F n) n k 1 (by omega) hk (by decide) (by decide)
    rw [hway] at hbd
    have hck2 := ck_turned hck hf
    have hck3 := ck_far _ (fits21 _ hbd.1 hbd.2)
    obtain ⟨h1, h2⟩ := hat 0 _ (by rw [hins]; rfl)
    obtain ⟨h5, h6⟩ := hat 1 _ (by rw [hins]; rfl)
    rw [Nat.add_zero] at h1 h2
    rw [hi] at hck2 h2 ⊢
    rw [← ha, ← hb]
    simp only at hck2 h2
    refine (Come_any bw _ c a (fun j => (outW F n).getD j 0#32) (F k).insn.op 0 r1 r2 0 tk true (if tk = true then b else a + 2) W hr1 hr2 (.inr ho) h1 (by omega) hw (fun h0 e1 e2 e3 e4 e5 => plan_far _ _ a b tk h0 _ 0 r1 r2 ho (by decide) hr1 hr2 h5 hN hb4 hck2 h2 hck3 h6 e1 e2 e3 e4 (e5 (by omega)))).mono ?_
    rintro e w' ⟨⟨x, q, rfl, hx, -⟩, hbl⟩
    refine ⟨⟨x, q, rfl, fun hq => ?_⟩, hbl⟩
    rw [hx hq]
    cases tk <;> simp
/-- None is long without need: the law's own test. -/
theorem goes_test (F : Nat → ItemV) (n k : Nat) (hc : checkV F n = 0) (hk : k < n) (h3 : (F k).kind = 3) (d y : Int) (hd : d = labV F (longV F n) n (F k).label - placeF F (longV F n) k) (hy : y = if 0 < d then 4 * d - 4 * ((if longV F n k = true then 2 else 1) - 1) else 4 * d) : (longV F n k == (decide (-4096 ≤ y) && decide (y ≤ 4094))) = false := by
  obtain ⟨h1, h2⟩ := long_need F n hc k hk h3
  cases hLk : longV F n k with
  | false =>
    have := h2 hLk
    rw [← hd] at this
    rw [hLk] at hy
    have hy2 : y = 4 * d := by rw [hy]; simp
    rw [decide_eq_true (by omega), decide_eq_true (by omega)]; rfl
  | true =>
    have hf := h1 hLk
    unfold FarF at hf
    rw [← hd] at hf
    rw [hLk] at hy
    rcases Int.lt_or_le 0 d with h | h
    · rw [if_pos h, if_pos rfl] at hy
      rw [decide_eq_false (show ¬ y ≤ 4094 by omega), Bool.and_false]; rfl
    · rw [if_neg (by omega)] at hy
      rw [decide_eq_false (show ¬ -4096 ≤ y by omega)]; rfl
end Go.Proofs.YtcgflnkgekkidaaGreatDoor
