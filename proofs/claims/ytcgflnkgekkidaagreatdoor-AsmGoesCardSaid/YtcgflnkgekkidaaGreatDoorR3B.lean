/- The walk of the document's Word, form by form. The document's Word of whatever instruction is the program's. Conditions: as each theorem says. -/
import Derived.Test.YtcgflnkgekkidaaGreatDoorR3A
import Derived.Test.YtcgflnkgekkidaaGreatDoorTextCG
set_option linter.unusedSimpArgs false
set_option linter.unusedVariables false
namespace Go.Proofs.YtcgflnkgekkidaaGreatDoor
open Go.RowKit
/-- What the walk is told. -/
structure WH (op rd r1 r2 imm : Int) (aq rl : Bool) (pred succ f c f3 f7 : Int) : Prop where
  hK : ∀ W, Calls Tryz.prog 65 #[.agg (InsnV.cells ⟨op, rd, r1, r2, imm, aq, rl, pred, succ⟩)] W fun e w' => e = .returned (.int .i64 0) ∧ Below W.heap.size W w'
  hO : ∀ W, Calls Tryz.prog 66 #[.int .i64 op] W fun e w' => e = .returned (.int .u64 (un (bv c))) ∧ W = w'
  h3 : ∀ W, Calls Tryz.prog 68 #[.int .i64 op] W fun e w' => e = .returned (.int .u64 (un (bv f3))) ∧ Below W.heap.size W w'
  h7 : ∀ W, Calls Tryz.prog 69 #[.int .i64 op] W fun e w' => e = .returned (.int .u64 (un (bv f7))) ∧ Below W.heap.size W w'
  hF : ∀ W, Calls Tryz.prog 46 #[.int .i64 op] W fun e w' => e = .returned (.int .i64 f) ∧ W = w'
theorem rparts_bd : ((List.range 88).all fun n => n == 0 || (decide (0 ≤ rcode (n : Nat)) && decide (rcode (n : Nat) < 128) && decide (0 ≤ rthree (n : Nat)) && decide (rthree (n : Nat) < 128) && decide (0 ≤ rseven (n : Nat)) && decide (rseven (n : Nat) < 128))) = true := by decide +kernel
theorem rcode_F (op : Int) : rcodeF op (rform op) = rcode op := by unfold rcodeF rcode; rw [rform_eq]
theorem WH_of {op rd r1 r2 imm pred succ : Int} {aq rl : Bool} {f : Int} (hc : checkE ⟨op, rd, r1, r2, imm, aq, rl, pred, succ⟩ = 0) (hf : (opOf op).form = f) : WH op rd r1 r2 imm aq rl pred succ f (rcode op) (rthree op) (rseven op) := by
  obtain ⟨o1, o2⟩ := ok_op ⟨op, rd, r1, r2, imm, aq, rl, pred, succ⟩ hc
  simp only at o1 o2
  have key : (0 ≤ rcode op ∧ rcode op < 128) ∧ (0 ≤ rthree op ∧ rthree op < 128) ∧ (0 ≤ rseven op ∧ rseven op < 128) := by
    obtain ⟨m, rfl⟩ := Int.eq_ofNat_of_zero_le (show 0 ≤ op by omega)
    have := List.all_eq_true.1 rparts_bd m (List.mem_range.2 (by omega))
    simp only [Bool.and_eq_true, Bool.or_eq_true, beq_iff_eq, decide_eq_true_eq] at this
    rcases this with h0 | ⟨⟨⟨⟨⟨a, b⟩, c⟩, d⟩, e⟩, g⟩
    · omega
    · exact ⟨⟨a, b⟩, ⟨c, d⟩, ⟨e, g⟩⟩
  obtain ⟨k1, k2, k3⟩ := key
  exact ⟨fun W => by rw [← hc]; exact R2Check_any ⟨op, rd, r1, r2, imm, aq, rl, pred, succ⟩ W, fun W => by rw [un_bv _ (by omega), ← rcode_F]; exact R3opcode_any op W, fun W => by rw [un_bv _ (by omega)]; exact R3three_any op o1 o2 W, fun W => by rw [un_bv _ (by omega)]; exact R3seven_any op o1 o2 W, fun W => by rw [← hf, rform_eq]; exact R2Form_any op W⟩
def WordG (op rd r1 r2 imm : Int) (aq rl : Bool) (pred succ : Int) (x : BitVec 64) (w : World) : Prop := Calls Tryz.prog 37 #[.agg #[.int .i64 op, .int .i64 rd, .int .i64 r1, .int .i64 r2, .int .i64 imm, .bool aq, .bool rl, .int .i64 pred, .int .i64 succ]] w fun e w' => e = .returned (.tuple #[.int .u32 (un32 (x.setWidth 32)), .int .i64 0]) ∧ Below w.heap.size w w'
section
variable {op rd r1 r2 imm pred succ c f3 f7 : Int} {aq rl : Bool} {w : World}
attribute [local irreducible] un sn Put Part mk64
attribute [local go_sem] wrap_u64_bv bv_un bv_sn bv_add bv_mul bv_neg bv_sub mul_bvpow shr_min shl_min sshr_min bv_lit bv_0 bv_1 un_shr sn_shr wrap_i64_un bits_u64_and bits_u64_or bits_u64_xor bits_u64_andNot bv_max u64_unsigned wrap_u32_un
set_option maxRecDepth 100000 in
set_option maxHeartbeats 8000000 in
theorem R3W_8 (H : WH op rd r1 r2 imm aq rl pred succ 8 c f3 f7) : WordG op rd r1 r2 imm aq rl pred succ (Put (Put (Put (Put (Put (bv c) 7 5 (Part (bv rd) 0 5)) 12 3 (Part (bv f3) 0 3)) 15 5 (Part (bv r1) 0 5)) 20 5 (Part (bv r2) 0 5)) 25 7 (Part (bv f7) 0 7)) w := by
  have hB := TB.new op rd r1 r2 imm aq rl pred succ w
  have hu := Tryz.underlying26
  obtain ⟨c0, c1, c2, c3, c4, c5, c6, c7, c8⟩ := hB.all9
  unfold WordG
  go_enter Tryz.func37, Tryz.ntmps37
  go_wp2_with (first | (refine wpList_load_mid rfl 26 _ rfl w.heap.size 0 rfl (InsnV.cells ⟨op, rd, r1, r2, imm, aq, rl, pred, succ⟩).toList _ hB.c hu rfl cells_9 ?_) | (go_at_call 65; (with_reducible refine (H.hK _).mono ?_); rintro e w1 ⟨rfl, hb1⟩; replace hB := hB.keep hb1; clear hb1 c0 c1 c2 c3 c4 c5 c6 c7 c8; obtain ⟨c0, c1, c2, c3, c4, c5, c6, c7, c8⟩ := hB.all9) | (go_at_call 66; (with_reducible refine (H.hO _).mono ?_); rintro e w1 ⟨rfl, rfl⟩) | (go_at_call 68; (with_reducible refine (H.h3 _).mono ?_); rintro e w1 ⟨rfl, hb1⟩; replace hB := hB.keep hb1; clear hb1 c0 c1 c2 c3 c4 c5 c6 c7 c8; obtain ⟨c0, c1, c2, c3, c4, c5, c6, c7, c8⟩ := hB.all9) | (go_at_call 69; (with_reducible refine (H.h7 _).mono ?_); rintro e w1 ⟨rfl, hb1⟩; replace hB := hB.keep hb1; clear hb1 c0 c1 c2 c3 c4 c5 c6 c7 c8; obtain ⟨c0, c1, c2, c3, c4, c5, c6, c7, c8⟩ := hB.all9) | (go_at_call 46; (with_reducible refine (H.hF _).mono ?_); rintro e w1 ⟨rfl, rfl⟩) | (go_at_call 67; refine (R3put_any _ _ _ _ _ _).mono ?_; rintro e w1 ⟨rfl, rfl⟩) | (go_at_call 71; refine (RPut_any _ _ _ _ _).mono ?_; rintro e w1 ⟨rfl, rfl⟩) | (go_at_call 70; refine (R3flag_any _ _).mono ?_; rintro e w1 ⟨rfl, rfl⟩))
  go_ret2
  exact ⟨rfl, hB.bl⟩
set_option maxRecDepth 100000 in
set_option maxHeartbeats 8000000 in
theorem R3W_3 (H : WH op rd r1 r2 imm aq rl pred succ 3 c f3 f7) : WordG op rd r1 r2 imm aq rl pred succ (Put (Put (Put (Put (Put (bv c) 7 5 (Part (bv rd) 0 5)) 12 3 (Part (bv f3) 0 3)) 15 5 (Part (bv r1) 0 5)) 20 5 (Part (bv r2) 0 5)) 20 12 (Part (bv imm) 0 12)) w := by
  have hB := TB.new op rd r1 r2 imm aq rl pred succ w
  have hu := Tryz.underlying26
  obtain ⟨c0, c1, c2, c3, c4, c5, c6, c7, c8⟩ := hB.all9
  unfold WordG
  go_enter Tryz.func37, Tryz.ntmps37
  go_wp2_with (first | (refine wpList_load_mid rfl 26 _ rfl w.heap.size 0 rfl (InsnV.cells ⟨op, rd, r1, r2, imm, aq, rl, pred, succ⟩).toList _ hB.c hu rfl cells_9 ?_) | (go_at_call 65; (with_reducible refine (H.hK _).mono ?_); rintro e w1 ⟨rfl, hb1⟩; replace hB := hB.keep hb1; clear hb1 c0 c1 c2 c3 c4 c5 c6 c7 c8; obtain ⟨c0, c1, c2, c3, c4, c5, c6, c7, c8⟩ := hB.all9) | (go_at_call 66; (with_reducible refine (H.hO _).mono ?_); rintro e w1 ⟨rfl, rfl⟩) | (go_at_call 68; (with_reducible refine (H.h3 _).mono ?_); rintro e w1 ⟨rfl, hb1⟩; replace hB := hB.keep hb1; clear hb1 c0 c1 c2 c3 c4 c5 c6 c7 c8; obtain ⟨c0, c1, c2, c3, c4, c5, c6, c7, c8⟩ := hB.all9) | (go_at_call 69; (with_reducible refine (H.h7 _).mono ?_); rintro e w1 ⟨rfl, hb1⟩; replace hB := hB.keep hb1; clear hb1 c0 c1 c2 c3 c4 c5 c6 c7 c8; obtain ⟨c0, c1, c2, c3, c4, c5, c6, c7, c8⟩ := hB.all9) | (go_at_call 46; (with_reducible refine (H.hF _).mono ?_); rintro e w1 ⟨rfl, rfl⟩) | (go_at_call 67; refine (R3put_any _ _ _ _ _ _).mono ?_; rintro e w1 ⟨rfl, rfl⟩) | (go_at_call 71; refine (RPut_any _ _ _ _ _).mono ?_; rintro e w1 ⟨rfl, rfl⟩) | (go_at_call 70; refine (R3flag_any _ _).mono ?_; rintro e w1 ⟨rfl, rfl⟩))
  go_ret2
  exact ⟨rfl, hB.bl⟩
set_option maxRecDepth 100000 in
set_option maxHeartbeats 8000000 in
theorem R3W_4 (H : WH op rd r1 r2 imm aq rl pred succ 4 c f3 f7) : WordG op rd r1 r2 imm aq rl pred succ (Put (Put (Put (Put (Put (bv c) 7 5 (Part (bv rd) 0 5)) 12 3 (Part (bv f3) 0 3)) 15 5 (Part (bv r1) 0 5)) 20 5 (Part (bv r2) 0 5)) 20 12 (Part (bv imm) 0 12)) w := by
  have hB := TB.new op rd r1 r2 imm aq rl pred succ w
  have hu := Tryz.underlying26
  obtain ⟨c0, c1, c2, c3, c4, c5, c6, c7, c8⟩ := hB.all9
  unfold WordG
  go_enter Tryz.func37, Tryz.ntmps37
  go_wp2_with (first | (refine wpList_load_mid rfl 26 _ rfl w.heap.size 0 rfl (InsnV.cells ⟨op, rd, r1, r2, imm, aq, rl, pred, succ⟩).toList _ hB.c hu rfl cells_9 ?_) | (go_at_call 65; (with_reducible refine (H.hK _).mono ?_); rintro e w1 ⟨rfl, hb1⟩; replace hB := hB.keep hb1; clear hb1 c0 c1 c2 c3 c4 c5 c6 c7 c8; obtain ⟨c0, c1, c2, c3, c4, c5, c6, c7, c8⟩ := hB.all9) | (go_at_call 66; (with_reducible refine (H.hO _).mono ?_); rintro e w1 ⟨rfl, rfl⟩) | (go_at_call 68; (with_reducible refine (H.h3 _).mono ?_); rintro e w1 ⟨rfl, hb1⟩; replace hB := hB.keep hb1; clear hb1 c0 c1 c2 c3 c4 c5 c6 c7 c8; obtain ⟨c0, c1, c2, c3, c4, c5, c6, c7, c8⟩ := hB.all9) | (go_at_call 69; (with_reducible refine (H.h7 _).mono ?_); rintro e w1 ⟨rfl, hb1⟩; replace hB := hB.keep hb1; clear hb1 c0 c1 c2 c3 c4 c5 c6 c7 c8; obtain ⟨c0, c1, c2, c3, c4, c5, c6, c7, c8⟩ := hB.all9) | (go_at_call 46; (with_reducible refine (H.hF _).mono ?_); rintro e w1 ⟨rfl, rfl⟩) | (go_at_call 67; refine (R3put_any _ _ _ _ _ _).mono ?_; rintro e w1 ⟨rfl, rfl⟩) | (go_at_call 71; refine (RPut_any _ _ _ _ _).mono ?_; rintro e w1 ⟨rfl, rfl⟩) | (go_at_call 70; refine (R3flag_any _ _).mono ?_; rintro e w1 ⟨rfl, rfl⟩))
  go_ret2
  exact ⟨rfl, hB.bl⟩
set_option maxRecDepth 100000 in
set_option maxHeartbeats 8000000 in
theorem R3W_5 (H : WH op rd r1 r2 imm aq rl pred succ 5 c f3 f7) : WordG op rd r1 r2 imm aq rl pred succ (Put (Put (Put (Put (Put (Put (bv c) 7 5 (Part (bv rd) 0 5)) 12 3 (Part (bv f3) 0 3)) 15 5 (Part (bv r1) 0 5)) 20 5 (Part (bv r2) 0 5)) 7 5 (Part (bv imm) 0 5)) 25 7 (Part (bv imm) 5 7)) w := by
  have hB := TB.new op rd r1 r2 imm aq rl pred succ w
  have hu := Tryz.underlying26
  obtain ⟨c0, c1, c2, c3, c4, c5, c6, c7, c8⟩ := hB.all9
  unfold WordG
  go_enter Tryz.func37, Tryz.ntmps37
  go_wp2_with (first | (refine wpList_load_mid rfl 26 _ rfl w.heap.size 0 rfl (InsnV.cells ⟨op, rd, r1, r2, imm, aq, rl, pred, succ⟩).toList _ hB.c hu rfl cells_9 ?_) | (go_at_call 65; (with_reducible refine (H.hK _).mono ?_); rintro e w1 ⟨rfl, hb1⟩; replace hB := hB.keep hb1; clear hb1 c0 c1 c2 c3 c4 c5 c6 c7 c8; obtain ⟨c0, c1, c2, c3, c4, c5, c6, c7, c8⟩ := hB.all9) | (go_at_call 66; (with_reducible refine (H.hO _).mono ?_); rintro e w1 ⟨rfl, rfl⟩) | (go_at_call 68; (with_reducible refine (H.h3 _).mono ?_); rintro e w1 ⟨rfl, hb1⟩; replace hB := hB.keep hb1; clear hb1 c0 c1 c2 c3 c4 c5 c6 c7 c8; obtain ⟨c0, c1, c2, c3, c4, c5, c6, c7, c8⟩ := hB.all9) | (go_at_call 69; (with_reducible refine (H.h7 _).mono ?_); rintro e w1 ⟨rfl, hb1⟩; replace hB := hB.keep hb1; clear hb1 c0 c1 c2 c3 c4 c5 c6 c7 c8; obtain ⟨c0, c1, c2, c3, c4, c5, c6, c7, c8⟩ := hB.all9) | (go_at_call 46; (with_reducible refine (H.hF _).mono ?_); rintro e w1 ⟨rfl, rfl⟩) | (go_at_call 67; refine (R3put_any _ _ _ _ _ _).mono ?_; rintro e w1 ⟨rfl, rfl⟩) | (go_at_call 71; refine (RPut_any _ _ _ _ _).mono ?_; rintro e w1 ⟨rfl, rfl⟩) | (go_at_call 70; refine (R3flag_any _ _).mono ?_; rintro e w1 ⟨rfl, rfl⟩))
  go_ret2
  exact ⟨rfl, hB.bl⟩
set_option maxRecDepth 100000 in
set_option maxHeartbeats 8000000 in
theorem R3W_6 (H : WH op rd r1 r2 imm aq rl pred succ 6 c f3 f7) : WordG op rd r1 r2 imm aq rl pred succ (Put (Put (Put (Put (Put (Put (Put (Put (bv c) 7 5 (Part (bv rd) 0 5)) 12 3 (Part (bv f3) 0 3)) 15 5 (Part (bv r1) 0 5)) 20 5 (Part (bv r2) 0 5)) 7 1 (Part (bv imm) 11 1)) 8 4 (Part (bv imm) 1 4)) 25 6 (Part (bv imm) 5 6)) 31 1 (Part (bv imm) 12 1)) w := by
  have hB := TB.new op rd r1 r2 imm aq rl pred succ w
  have hu := Tryz.underlying26
  obtain ⟨c0, c1, c2, c3, c4, c5, c6, c7, c8⟩ := hB.all9
  unfold WordG
  go_enter Tryz.func37, Tryz.ntmps37
  go_wp2_with (first | (refine wpList_load_mid rfl 26 _ rfl w.heap.size 0 rfl (InsnV.cells ⟨op, rd, r1, r2, imm, aq, rl, pred, succ⟩).toList _ hB.c hu rfl cells_9 ?_) | (go_at_call 65; (with_reducible refine (H.hK _).mono ?_); rintro e w1 ⟨rfl, hb1⟩; replace hB := hB.keep hb1; clear hb1 c0 c1 c2 c3 c4 c5 c6 c7 c8; obtain ⟨c0, c1, c2, c3, c4, c5, c6, c7, c8⟩ := hB.all9) | (go_at_call 66; (with_reducible refine (H.hO _).mono ?_); rintro e w1 ⟨rfl, rfl⟩) | (go_at_call 68; (with_reducible refine (H.h3 _).mono ?_); rintro e w1 ⟨rfl, hb1⟩; replace hB := hB.keep hb1; clear hb1 c0 c1 c2 c3 c4 c5 c6 c7 c8; obtain ⟨c0, c1, c2, c3, c4, c5, c6, c7, c8⟩ := hB.all9) | (go_at_call 69; (with_reducible refine (H.h7 _).mono ?_); rintro e w1 ⟨rfl, hb1⟩; replace hB := hB.keep hb1; clear hb1 c0 c1 c2 c3 c4 c5 c6 c7 c8; obtain ⟨c0, c1, c2, c3, c4, c5, c6, c7, c8⟩ := hB.all9) | (go_at_call 46; (with_reducible refine (H.hF _).mono ?_); rintro e w1 ⟨rfl, rfl⟩) | (go_at_call 67; refine (R3put_any _ _ _ _ _ _).mono ?_; rintro e w1 ⟨rfl, rfl⟩) | (go_at_call 71; refine (RPut_any _ _ _ _ _).mono ?_; rintro e w1 ⟨rfl, rfl⟩) | (go_at_call 70; refine (R3flag_any _ _).mono ?_; rintro e w1 ⟨rfl, rfl⟩))
  go_ret2
  exact ⟨rfl, hB.bl⟩
set_option maxRecDepth 100000 in
set_option maxHeartbeats 8000000 in
theorem R3W_1 (H : WH op rd r1 r2 imm aq rl pred succ 1 c f3 f7) : WordG op rd r1 r2 imm aq rl pred succ (Put (Put (Put (Put (Put (bv c) 7 5 (Part (bv rd) 0 5)) 12 3 (Part (bv f3) 0 3)) 15 5 (Part (bv r1) 0 5)) 20 5 (Part (bv r2) 0 5)) 12 20 (bv imm)) w := by
  have hB := TB.new op rd r1 r2 imm aq rl pred succ w
  have hu := Tryz.underlying26
  obtain ⟨c0, c1, c2, c3, c4, c5, c6, c7, c8⟩ := hB.all9
  unfold WordG
  go_enter Tryz.func37, Tryz.ntmps37
  go_wp2_with (first | (refine wpList_load_mid rfl 26 _ rfl w.heap.size 0 rfl (InsnV.cells ⟨op, rd, r1, r2, imm, aq, rl, pred, succ⟩).toList _ hB.c hu rfl cells_9 ?_) | (go_at_call 65; (with_reducible refine (H.hK _).mono ?_); rintro e w1 ⟨rfl, hb1⟩; replace hB := hB.keep hb1; clear hb1 c0 c1 c2 c3 c4 c5 c6 c7 c8; obtain ⟨c0, c1, c2, c3, c4, c5, c6, c7, c8⟩ := hB.all9) | (go_at_call 66; (with_reducible refine (H.hO _).mono ?_); rintro e w1 ⟨rfl, rfl⟩) | (go_at_call 68; (with_reducible refine (H.h3 _).mono ?_); rintro e w1 ⟨rfl, hb1⟩; replace hB := hB.keep hb1; clear hb1 c0 c1 c2 c3 c4 c5 c6 c7 c8; obtain ⟨c0, c1, c2, c3, c4, c5, c6, c7, c8⟩ := hB.all9) | (go_at_call 69; (with_reducible refine (H.h7 _).mono ?_); rintro e w1 ⟨rfl, hb1⟩; replace hB := hB.keep hb1; clear hb1 c0 c1 c2 c3 c4 c5 c6 c7 c8; obtain ⟨c0, c1, c2, c3, c4, c5, c6, c7, c8⟩ := hB.all9) | (go_at_call 46; (with_reducible refine (H.hF _).mono ?_); rintro e w1 ⟨rfl, rfl⟩) | (go_at_call 67; refine (R3put_any _ _ _ _ _ _).mono ?_; rintro e w1 ⟨rfl, rfl⟩) | (go_at_call 71; refine (RPut_any _ _ _ _ _).mono ?_; rintro e w1 ⟨rfl, rfl⟩) | (go_at_call 70; refine (R3flag_any _ _).mono ?_; rintro e w1 ⟨rfl, rfl⟩))
  go_ret2
  exact ⟨rfl, hB.bl⟩
set_option maxRecDepth 100000 in
set_option maxHeartbeats 8000000 in
theorem R3W_2 (H : WH op rd r1 r2 imm aq rl pred succ 2 c f3 f7) : WordG op rd r1 r2 imm aq rl pred succ (Put (Put (Put (Put (Put (Put (Put (Put (bv c) 7 5 (Part (bv rd) 0 5)) 12 3 (Part (bv f3) 0 3)) 15 5 (Part (bv r1) 0 5)) 20 5 (Part (bv r2) 0 5)) 12 8 (Part (bv imm) 12 8)) 20 1 (Part (bv imm) 11 1)) 21 10 (Part (bv imm) 1 10)) 31 1 (Part (bv imm) 20 1)) w := by
  have hB := TB.new op rd r1 r2 imm aq rl pred succ w
  have hu := Tryz.underlying26
  obtain ⟨c0, c1, c2, c3, c4, c5, c6, c7, c8⟩ := hB.all9
  unfold WordG
  go_enter Tryz.func37, Tryz.ntmps37
  go_wp2_with (first | (refine wpList_load_mid rfl 26 _ rfl w.heap.size 0 rfl (InsnV.cells ⟨op, rd, r1, r2, imm, aq, rl, pred, succ⟩).toList _ hB.c hu rfl cells_9 ?_) | (go_at_call 65; (with_reducible refine (H.hK _).mono ?_); rintro e w1 ⟨rfl, hb1⟩; replace hB := hB.keep hb1; clear hb1 c0 c1 c2 c3 c4 c5 c6 c7 c8; obtain ⟨c0, c1, c2, c3, c4, c5, c6, c7, c8⟩ := hB.all9) | (go_at_call 66; (with_reducible refine (H.hO _).mono ?_); rintro e w1 ⟨rfl, rfl⟩) | (go_at_call 68; (with_reducible refine (H.h3 _).mono ?_); rintro e w1 ⟨rfl, hb1⟩; replace hB := hB.keep hb1; clear hb1 c0 c1 c2 c3 c4 c5 c6 c7 c8; obtain ⟨c0, c1, c2, c3, c4, c5, c6, c7, c8⟩ := hB.all9) | (go_at_call 69; (with_reducible refine (H.h7 _).mono ?_); rintro e w1 ⟨rfl, hb1⟩; replace hB := hB.keep hb1; clear hb1 c0 c1 c2 c3 c4 c5 c6 c7 c8; obtain ⟨c0, c1, c2, c3, c4, c5, c6, c7, c8⟩ := hB.all9) | (go_at_call 46; (with_reducible refine (H.hF _).mono ?_); rintro e w1 ⟨rfl, rfl⟩) | (go_at_call 67; refine (R3put_any _ _ _ _ _ _).mono ?_; rintro e w1 ⟨rfl, rfl⟩) | (go_at_call 71; refine (RPut_any _ _ _ _ _).mono ?_; rintro e w1 ⟨rfl, rfl⟩) | (go_at_call 70; refine (R3flag_any _ _).mono ?_; rintro e w1 ⟨rfl, rfl⟩))
  go_ret2
  exact ⟨rfl, hB.bl⟩
set_option maxRecDepth 100000 in
set_option maxHeartbeats 8000000 in
theorem R3W_10 (H : WH op rd r1 r2 imm aq rl pred succ 10 c f3 f7) (B : Bool) (tB : (op == 65) = B) : WordG op rd r1 r2 imm aq rl pred succ (Put (Put (Put (Put (bv c) 7 5 (Part (bv rd) 0 5)) 12 3 (Part (bv f3) 0 3)) 15 5 (Part (bv r1) 0 5)) 20 5 (Part (bv r2) 0 5) + mk64 B * 1048576#64) w := by
  have hB := TB.new op rd r1 r2 imm aq rl pred succ w
  have hu := Tryz.underlying26
  obtain ⟨c0, c1, c2, c3, c4, c5, c6, c7, c8⟩ := hB.all9
  unfold WordG
  go_enter Tryz.func37, Tryz.ntmps37
  go_wp2_with (first | (refine wpList_load_mid rfl 26 _ rfl w.heap.size 0 rfl (InsnV.cells ⟨op, rd, r1, r2, imm, aq, rl, pred, succ⟩).toList _ hB.c hu rfl cells_9 ?_) | (go_at_call 65; (with_reducible refine (H.hK _).mono ?_); rintro e w1 ⟨rfl, hb1⟩; replace hB := hB.keep hb1; clear hb1 c0 c1 c2 c3 c4 c5 c6 c7 c8; obtain ⟨c0, c1, c2, c3, c4, c5, c6, c7, c8⟩ := hB.all9) | (go_at_call 66; (with_reducible refine (H.hO _).mono ?_); rintro e w1 ⟨rfl, rfl⟩) | (go_at_call 68; (with_reducible refine (H.h3 _).mono ?_); rintro e w1 ⟨rfl, hb1⟩; replace hB := hB.keep hb1; clear hb1 c0 c1 c2 c3 c4 c5 c6 c7 c8; obtain ⟨c0, c1, c2, c3, c4, c5, c6, c7, c8⟩ := hB.all9) | (go_at_call 69; (with_reducible refine (H.h7 _).mono ?_); rintro e w1 ⟨rfl, hb1⟩; replace hB := hB.keep hb1; clear hb1 c0 c1 c2 c3 c4 c5 c6 c7 c8; obtain ⟨c0, c1, c2, c3, c4, c5, c6, c7, c8⟩ := hB.all9) | (go_at_call 46; (with_reducible refine (H.hF _).mono ?_); rintro e w1 ⟨rfl, rfl⟩) | (go_at_call 67; refine (R3put_any _ _ _ _ _ _).mono ?_; rintro e w1 ⟨rfl, rfl⟩) | (go_at_call 71; refine (RPut_any _ _ _ _ _).mono ?_; rintro e w1 ⟨rfl, rfl⟩) | (go_at_call 70; refine (R3flag_any _ _).mono ?_; rintro e w1 ⟨rfl, rfl⟩))
  go_ret2
  exact ⟨rfl, hB.bl⟩
set_option maxRecDepth 100000 in
set_option maxHeartbeats 8000000 in
theorem R3W_7a (H : WH op rd r1 r2 imm aq rl pred succ 7 c f3 f7) (h31 : decide (31 < un (bv imm)) = true) : WordG op rd r1 r2 imm aq rl pred succ (Put (Put (Put (Put (Put (Put (bv c) 7 5 (Part (bv rd) 0 5)) 12 3 (Part (bv f3) 0 3)) 15 5 (Part (bv r1) 0 5)) 20 5 (Part (bv r2) 0 5)) 25 7 (Part (bv f7) 0 7)) 20 5 (Part (bv imm) 0 5) + 33554432#64) w := by
  have hB := TB.new op rd r1 r2 imm aq rl pred succ w
  have hu := Tryz.underlying26
  obtain ⟨c0, c1, c2, c3, c4, c5, c6, c7, c8⟩ := hB.all9
  unfold WordG
  go_enter Tryz.func37, Tryz.ntmps37
  go_wp2_with (first | (refine wpList_load_mid rfl 26 _ rfl w.heap.size 0 rfl (InsnV.cells ⟨op, rd, r1, r2, imm, aq, rl, pred, succ⟩).toList _ hB.c hu rfl cells_9 ?_) | (go_at_call 65; (with_reducible refine (H.hK _).mono ?_); rintro e w1 ⟨rfl, hb1⟩; replace hB := hB.keep hb1; clear hb1 c0 c1 c2 c3 c4 c5 c6 c7 c8; obtain ⟨c0, c1, c2, c3, c4, c5, c6, c7, c8⟩ := hB.all9) | (go_at_call 66; (with_reducible refine (H.hO _).mono ?_); rintro e w1 ⟨rfl, rfl⟩) | (go_at_call 68; (with_reducible refine (H.h3 _).mono ?_); rintro e w1 ⟨rfl, hb1⟩; replace hB := hB.keep hb1; clear hb1 c0 c1 c2 c3 c4 c5 c6 c7 c8; obtain ⟨c0, c1, c2, c3, c4, c5, c6, c7, c8⟩ := hB.all9) | (go_at_call 69; (with_reducible refine (H.h7 _).mono ?_); rintro e w1 ⟨rfl, hb1⟩; replace hB := hB.keep hb1; clear hb1 c0 c1 c2 c3 c4 c5 c6 c7 c8; obtain ⟨c0, c1, c2, c3, c4, c5, c6, c7, c8⟩ := hB.all9) | (go_at_call 46; (with_reducible refine (H.hF _).mono ?_); rintro e w1 ⟨rfl, rfl⟩) | (go_at_call 67; refine (R3put_any _ _ _ _ _ _).mono ?_; rintro e w1 ⟨rfl, rfl⟩) | (go_at_call 71; refine (RPut_any _ _ _ _ _).mono ?_; rintro e w1 ⟨rfl, rfl⟩) | (go_at_call 70; refine (R3flag_any _ _).mono ?_; rintro e w1 ⟨rfl, rfl⟩))
  go_ret2
  exact ⟨rfl, hB.bl⟩
set_option maxRecDepth 100000 in
set_option maxHeartbeats 8000000 in
theorem R3W_7b (H : WH op rd r1 r2 imm aq rl pred succ 7 c f3 f7) (h31 : decide (31 < un (bv imm)) = false) : WordG op rd r1 r2 imm aq rl pred succ (Put (Put (Put (Put (Put (Put (bv c) 7 5 (Part (bv rd) 0 5)) 12 3 (Part (bv f3) 0 3)) 15 5 (Part (bv r1) 0 5)) 20 5 (Part (bv r2) 0 5)) 25 7 (Part (bv f7) 0 7)) 20 5 (Part (bv imm) 0 5)) w := by
  have hB := TB.new op rd r1 r2 imm aq rl pred succ w
  have hu := Tryz.underlying26
  obtain ⟨c0, c1, c2, c3, c4, c5, c6, c7, c8⟩ := hB.all9
  unfold WordG
  go_enter Tryz.func37, Tryz.ntmps37
  go_wp2_with (first | (refine wpList_load_mid rfl 26 _ rfl w.heap.size 0 rfl (InsnV.cells ⟨op, rd, r1, r2, imm, aq, rl, pred, succ⟩).toList _ hB.c hu rfl cells_9 ?_) | (go_at_call 65; (with_reducible refine (H.hK _).mono ?_); rintro e w1 ⟨rfl, hb1⟩; replace hB := hB.keep hb1; clear hb1 c0 c1 c2 c3 c4 c5 c6 c7 c8; obtain ⟨c0, c1, c2, c3, c4, c5, c6, c7, c8⟩ := hB.all9) | (go_at_call 66; (with_reducible refine (H.hO _).mono ?_); rintro e w1 ⟨rfl, rfl⟩) | (go_at_call 68; (with_reducible refine (H.h3 _).mono ?_); rintro e w1 ⟨rfl, hb1⟩; replace hB := hB.keep hb1; clear hb1 c0 c1 c2 c3 c4 c5 c6 c7 c8; obtain ⟨c0, c1, c2, c3, c4, c5, c6, c7, c8⟩ := hB.all9) | (go_at_call 69; (with_reducible refine (H.h7 _).mono ?_); rintro e w1 ⟨rfl, hb1⟩; replace hB := hB.keep hb1; clear hb1 c0 c1 c2 c3 c4 c5 c6 c7 c8; obtain ⟨c0, c1, c2, c3, c4, c5, c6, c7, c8⟩ := hB.all9) | (go_at_call 46; (with_reducible refine (H.hF _).mono ?_); rintro e w1 ⟨rfl, rfl⟩) | (go_at_call 67; refine (R3put_any _ _ _ _ _ _).mono ?_; rintro e w1 ⟨rfl, rfl⟩) | (go_at_call 71; refine (RPut_any _ _ _ _ _).mono ?_; rintro e w1 ⟨rfl, rfl⟩) | (go_at_call 70; refine (R3flag_any _ _).mono ?_; rintro e w1 ⟨rfl, rfl⟩))
  go_ret2
  exact ⟨rfl, hB.bl⟩
set_option maxRecDepth 100000 in
set_option maxHeartbeats 8000000 in
theorem R3W_9 (H : WH op rd r1 r2 imm aq rl pred succ 9 c f3 f7) : WordG op rd r1 r2 imm aq rl pred succ (Put (Put (Put (Put (Put (Put (bv c) 7 5 (Part (bv rd) 0 5)) 12 3 (Part (bv f3) 0 3)) 15 5 (Part (bv r1) 0 5)) 20 5 (Part (bv r2) 0 5)) 20 4 (Part (bv succ) 0 4)) 24 4 (Part (bv pred) 0 4)) w := by
  have hB := TB.new op rd r1 r2 imm aq rl pred succ w
  have hu := Tryz.underlying26
  obtain ⟨c0, c1, c2, c3, c4, c5, c6, c7, c8⟩ := hB.all9
  unfold WordG
  go_enter Tryz.func37, Tryz.ntmps37
  go_upto_region 34 with (first | (refine wpList_load_mid rfl 26 _ rfl w.heap.size 0 rfl (InsnV.cells ⟨op, rd, r1, r2, imm, aq, rl, pred, succ⟩).toList _ hB.c hu rfl cells_9 ?_) | (go_at_call 65; (with_reducible refine (H.hK _).mono ?_); rintro e w1 ⟨rfl, hb1⟩; replace hB := hB.keep hb1; clear hb1 c0 c1 c2 c3 c4 c5 c6 c7 c8; obtain ⟨c0, c1, c2, c3, c4, c5, c6, c7, c8⟩ := hB.all9) | (go_at_call 66; (with_reducible refine (H.hO _).mono ?_); rintro e w1 ⟨rfl, rfl⟩) | (go_at_call 68; (with_reducible refine (H.h3 _).mono ?_); rintro e w1 ⟨rfl, hb1⟩; replace hB := hB.keep hb1; clear hb1 c0 c1 c2 c3 c4 c5 c6 c7 c8; obtain ⟨c0, c1, c2, c3, c4, c5, c6, c7, c8⟩ := hB.all9) | (go_at_call 69; (with_reducible refine (H.h7 _).mono ?_); rintro e w1 ⟨rfl, hb1⟩; replace hB := hB.keep hb1; clear hb1 c0 c1 c2 c3 c4 c5 c6 c7 c8; obtain ⟨c0, c1, c2, c3, c4, c5, c6, c7, c8⟩ := hB.all9) | (go_at_call 46; (with_reducible refine (H.hF _).mono ?_); rintro e w1 ⟨rfl, rfl⟩) | (go_at_call 67; refine (R3put_any _ _ _ _ _ _).mono ?_; rintro e w1 ⟨rfl, rfl⟩) | (go_at_call 71; refine (RPut_any _ _ _ _ _).mono ?_; rintro e w1 ⟨rfl, rfl⟩) | (go_at_call 70; refine (R3flag_any _ _).mono ?_; rintro e w1 ⟨rfl, rfl⟩))
  go_quiet ((go_at_call 67; exact quiet_same (R3put_any _ _ _ _ _ _)))
  go_wp2_with fail
  go_ret2
  exact ⟨rfl, (hB.drewN _).bl⟩
set_option maxRecDepth 100000 in
set_option maxHeartbeats 8000000 in
theorem R3W_11 (H : WH op rd r1 r2 imm aq rl pred succ 11 c f3 f7) : WordG op rd r1 r2 imm aq rl pred succ (Put (Put (Put (Put (Put (bv c) 7 5 (Part (bv rd) 0 5)) 12 3 (Part (bv f3) 0 3)) 15 5 (Part (bv r1) 0 5)) 20 5 (Part (bv r2) 0 5)) 25 7 (Part (bv f7 + 2#64 * mk64 aq + mk64 rl) 0 7)) w := by
  have hB := TB.new op rd r1 r2 imm aq rl pred succ w
  have hu := Tryz.underlying26
  obtain ⟨c0, c1, c2, c3, c4, c5, c6, c7, c8⟩ := hB.all9
  unfold WordG
  go_enter Tryz.func37, Tryz.ntmps37
  go_upto_region 14 with (first | (refine wpList_load_mid rfl 26 _ rfl w.heap.size 0 rfl (InsnV.cells ⟨op, rd, r1, r2, imm, aq, rl, pred, succ⟩).toList _ hB.c hu rfl cells_9 ?_) | (go_at_call 65; (with_reducible refine (H.hK _).mono ?_); rintro e w1 ⟨rfl, hb1⟩; replace hB := hB.keep hb1; clear hb1 c0 c1 c2 c3 c4 c5 c6 c7 c8; obtain ⟨c0, c1, c2, c3, c4, c5, c6, c7, c8⟩ := hB.all9) | (go_at_call 66; (with_reducible refine (H.hO _).mono ?_); rintro e w1 ⟨rfl, rfl⟩) | (go_at_call 68; (with_reducible refine (H.h3 _).mono ?_); rintro e w1 ⟨rfl, hb1⟩; replace hB := hB.keep hb1; clear hb1 c0 c1 c2 c3 c4 c5 c6 c7 c8; obtain ⟨c0, c1, c2, c3, c4, c5, c6, c7, c8⟩ := hB.all9) | (go_at_call 69; (with_reducible refine (H.h7 _).mono ?_); rintro e w1 ⟨rfl, hb1⟩; replace hB := hB.keep hb1; clear hb1 c0 c1 c2 c3 c4 c5 c6 c7 c8; obtain ⟨c0, c1, c2, c3, c4, c5, c6, c7, c8⟩ := hB.all9) | (go_at_call 46; (with_reducible refine (H.hF _).mono ?_); rintro e w1 ⟨rfl, rfl⟩) | (go_at_call 67; refine (R3put_any _ _ _ _ _ _).mono ?_; rintro e w1 ⟨rfl, rfl⟩) | (go_at_call 71; refine (RPut_any _ _ _ _ _).mono ?_; rintro e w1 ⟨rfl, rfl⟩) | (go_at_call 70; refine (R3flag_any _ _).mono ?_; rintro e w1 ⟨rfl, rfl⟩))
  refine wp_region_held_drew (S := fun W => TB w (InsnV.cells ⟨op, rd, r1, r2, imm, aq, rl, pred, succ⟩).toList W) (by kernel_rfl) (hB.keep (Below.refl _ _).drew) (fun hHeld => ?_)
  refine wpAnyH_take (i := 0) (v := .int .u64 (un (Put (Put (Put (Put (bv c) 7 5 (Part (bv rd) 0 5)) 12 3 (Part (bv f3) 0 3)) 15 5 (Part (bv r1) 0 5)) 20 5 (Part (bv r2) 0 5)))) rfl (by kernel_rfl) (by kernel_rfl) (by kernel_rfl) (fun _ _ _ h => h) (Or.inl ⟨by rfl, fun W _ => by kernel_rfl⟩) hHeld ?_
  try simp only [Act.put, List.getElem_toArray, List.getElem_cons_zero, List.setIfInBounds_toArray, List.set_cons_zero, List.set_cons_succ]
  refine wpAnyH_take (i := 1) (v := .pointer (some ⟨w.heap.size, 0, none⟩)) rfl (by kernel_rfl) (by kernel_rfl) (by kernel_rfl) (fun _ _ _ h => h) (Or.inl ⟨by rfl, fun W _ => by kernel_rfl⟩) hHeld ?_
  try simp only [Act.put, List.getElem_toArray, List.getElem_cons_succ, List.getElem_cons_zero, List.setIfInBounds_toArray, List.set_cons_zero, List.set_cons_succ]
  refine wpAnyH_take (i := 2) (v := .int .i64 op) rfl (by kernel_rfl) (by kernel_rfl) (by kernel_rfl) (fun _ _ _ h => h) (Or.inl ⟨by rfl, fun W hS => by (have k : W.cell? ⟨w.heap.size, 0, none⟩ = some (.int .i64 op) := hS.at 0 _ rfl); go_simp⟩) hHeld ?_
  try simp only [Act.put, List.getElem_toArray, List.getElem_cons_succ, List.getElem_cons_zero, List.setIfInBounds_toArray, List.set_cons_zero, List.set_cons_succ]
  refine wpAnyH_take (i := 4) (v := .pointer (some ⟨w.heap.size, 5, none⟩)) rfl (by kernel_rfl) (by kernel_rfl) (by kernel_rfl) (fun _ _ _ h => h) (Or.inl ⟨by rfl, fun W _ => by kernel_rfl⟩) hHeld ?_
  try simp only [Act.put, List.getElem_toArray, List.getElem_cons_succ, List.getElem_cons_zero, List.setIfInBounds_toArray, List.set_cons_zero, List.set_cons_succ]
  refine wpAnyH_take (i := 5) (v := .bool aq) rfl (by kernel_rfl) (by kernel_rfl) (by kernel_rfl) (fun _ _ _ h => h) (Or.inl ⟨by rfl, fun W hS => by (have k : W.cell? ⟨w.heap.size, 5, none⟩ = some (.bool aq) := hS.at 5 _ rfl); go_simp⟩) hHeld ?_
  try simp only [Act.put, List.getElem_toArray, List.getElem_cons_succ, List.getElem_cons_zero, List.setIfInBounds_toArray, List.set_cons_zero, List.set_cons_succ]
  refine wpAnyH_take (i := 9) (v := .pointer (some ⟨w.heap.size, 6, none⟩)) rfl (by kernel_rfl) (by kernel_rfl) (by kernel_rfl) (fun _ _ _ h => h) (Or.inl ⟨by rfl, fun W _ => by kernel_rfl⟩) hHeld ?_
  try simp only [Act.put, List.getElem_toArray, List.getElem_cons_succ, List.getElem_cons_zero, List.setIfInBounds_toArray, List.set_cons_zero, List.set_cons_succ]
  refine wpAnyH_take (i := 10) (v := .bool rl) rfl (by kernel_rfl) (by kernel_rfl) (by kernel_rfl) (fun _ _ _ h => h) (Or.inl ⟨by rfl, fun W hS => by (have k : W.cell? ⟨w.heap.size, 6, none⟩ = some (.bool rl) := hS.at 6 _ rfl); go_simp⟩) hHeld ?_
  try simp only [Act.put, List.getElem_toArray, List.getElem_cons_succ, List.getElem_cons_zero, List.setIfInBounds_toArray, List.set_cons_zero, List.set_cons_succ]
  refine wpAnyH_ready (rs := [3]) (by kernel_rfl) (by simp) (AllReadyH.cons rfl (fun K hK2 => ?_) AllReadyH.nil)
  rw [if_pos (by rfl)]
  simp only [List.getElem_toArray, List.getElem_cons_succ, List.getElem_cons_zero]
  go_wp2_with (go_at_call 69; (with_reducible refine (H.h7 _).mono ?_); rintro e w4 ⟨rfl, hb4⟩)
  refine hK2.out _ _ (hHeld.keep hb4) (fun hHeld2 => ?_)
  clear hK2 K hHeld
  have hHeld := hHeld2
  clear hHeld2
  try simp only [Act.put, List.getElem_toArray, List.getElem_cons_succ, List.getElem_cons_zero, List.setIfInBounds_toArray, List.set_cons_zero, List.set_cons_succ]
  refine wpAnyH_ready (rs := [6]) (by kernel_rfl) (by simp) (AllReadyH.cons rfl (fun K hK2 => ?_) AllReadyH.nil)
  rw [if_pos (by rfl)]
  simp only [List.getElem_toArray, List.getElem_cons_succ, List.getElem_cons_zero]
  go_wp2_with (go_at_call 70; refine (R3flag_any _ _).mono ?_; rintro e w5 ⟨rfl, rfl⟩)
  refine hK2.out _ _ (hHeld) (fun hHeld2 => ?_)
  clear hK2 K hHeld
  have hHeld := hHeld2
  clear hHeld2
  try simp only [Act.put, List.getElem_toArray, List.getElem_cons_succ, List.getElem_cons_zero, List.setIfInBounds_toArray, List.set_cons_zero, List.set_cons_succ]
  refine wpAnyH_take (i := 7) (v := .int .u64 (un (2#64 * mk64 aq))) rfl (by kernel_rfl) (by kernel_rfl) (by kernel_rfl) (fun _ _ _ h => h) (Or.inl ⟨by rfl, fun W _ => by go_simp⟩) hHeld ?_
  try simp only [Act.put, List.getElem_toArray, List.getElem_cons_succ, List.getElem_cons_zero, List.setIfInBounds_toArray, List.set_cons_zero, List.set_cons_succ]
  refine wpAnyH_take (i := 8) (v := .int .u64 (un (bv f7 + 2#64 * mk64 aq))) rfl (by kernel_rfl) (by kernel_rfl) (by kernel_rfl) (fun _ _ _ h => h) (Or.inl ⟨by rfl, fun W _ => by go_simp⟩) hHeld ?_
  try simp only [Act.put, List.getElem_toArray, List.getElem_cons_succ, List.getElem_cons_zero, List.setIfInBounds_toArray, List.set_cons_zero, List.set_cons_succ]
  refine wpAnyH_ready (rs := [11]) (by kernel_rfl) (by simp) (AllReadyH.cons rfl (fun K hK2 => ?_) AllReadyH.nil)
  rw [if_pos (by rfl)]
  simp only [List.getElem_toArray, List.getElem_cons_succ, List.getElem_cons_zero]
  go_wp2_with (go_at_call 70; refine (R3flag_any _ _).mono ?_; rintro e w6 ⟨rfl, rfl⟩)
  refine hK2.out _ _ (hHeld) (fun hHeld2 => ?_)
  clear hK2 K hHeld
  have hHeld := hHeld2
  clear hHeld2
  try simp only [Act.put, List.getElem_toArray, List.getElem_cons_succ, List.getElem_cons_zero, List.setIfInBounds_toArray, List.set_cons_zero, List.set_cons_succ]
  refine wpAnyH_take (i := 12) (v := .int .u64 (un (bv f7 + 2#64 * mk64 aq + mk64 rl))) rfl (by kernel_rfl) (by kernel_rfl) (by kernel_rfl) (fun _ _ _ h => h) (Or.inl ⟨by rfl, fun W _ => by go_simp⟩) hHeld ?_
  try simp only [Act.put, List.getElem_toArray, List.getElem_cons_succ, List.getElem_cons_zero, List.setIfInBounds_toArray, List.set_cons_zero, List.set_cons_succ]
  refine wpAnyH_ready (rs := [13]) (by kernel_rfl) (by simp) (AllReadyH.cons rfl (fun K hK2 => ?_) AllReadyH.nil)
  rw [if_pos (by rfl)]
  simp only [List.getElem_toArray, List.getElem_cons_succ, List.getElem_cons_zero]
  go_wp2_with (go_at_call 67; refine (R3put_any _ _ _ _ _ _).mono ?_; rintro e w7 ⟨rfl, rfl⟩)
  refine hK2.out _ _ (hHeld) (fun hHeld2 => ?_)
  clear hK2 K hHeld
  have hHeld := hHeld2
  clear hHeld2
  try simp only [Act.put, List.getElem_toArray, List.getElem_cons_succ, List.getElem_cons_zero, List.setIfInBounds_toArray, List.set_cons_zero, List.set_cons_succ]
  refine wpAnyH_take (i := 14) (v := .int .u64 (un (Put (Put (Put (Put (Put (bv c) 7 5 (Part (bv rd) 0 5)) 12 3 (Part (bv f3) 0 3)) 15 5 (Part (bv r1) 0 5)) 20 5 (Part (bv r2) 0 5)) 25 7 (Part (bv f7 + 2#64 * mk64 aq + mk64 rl) 0 7)))) rfl (by kernel_rfl) (by kernel_rfl) (by kernel_rfl) (fun _ _ _ h => h) (Or.inl ⟨by rfl, fun W _ => by kernel_rfl⟩) hHeld ?_
  try simp only [Act.put, List.getElem_toArray, List.getElem_cons_succ, List.getElem_cons_zero, List.setIfInBounds_toArray, List.set_cons_zero, List.set_cons_succ]
  refine wpAnyH_done (by kernel_rfl) ?_ _
  have hB := hHeld
  go_wp2_with fail
  go_ret2
  exact ⟨rfl, hB.bl⟩
set_option maxRecDepth 100000 in
set_option maxHeartbeats 8000000 in
theorem R3W_12 (H : WH op rd r1 r2 imm aq rl pred succ 12 c f3 f7) : WordG op rd r1 r2 imm aq rl pred succ (Put (Put (Put (Put (Put (bv c) 7 5 (Part (bv rd) 0 5)) 12 3 (Part (bv f3) 0 3)) 15 5 (Part (bv r1) 0 5)) 20 5 (Part (bv r2) 0 5)) 25 7 (Part (bv f7 + 2#64 * mk64 aq + mk64 rl) 0 7)) w := by
  have hB := TB.new op rd r1 r2 imm aq rl pred succ w
  have hu := Tryz.underlying26
  obtain ⟨c0, c1, c2, c3, c4, c5, c6, c7, c8⟩ := hB.all9
  unfold WordG
  go_enter Tryz.func37, Tryz.ntmps37
  go_upto_region 14 with (first | (refine wpList_load_mid rfl 26 _ rfl w.heap.size 0 rfl (InsnV.cells ⟨op, rd, r1, r2, imm, aq, rl, pred, succ⟩).toList _ hB.c hu rfl cells_9 ?_) | (go_at_call 65; (with_reducible refine (H.hK _).mono ?_); rintro e w1 ⟨rfl, hb1⟩; replace hB := hB.keep hb1; clear hb1 c0 c1 c2 c3 c4 c5 c6 c7 c8; obtain ⟨c0, c1, c2, c3, c4, c5, c6, c7, c8⟩ := hB.all9) | (go_at_call 66; (with_reducible refine (H.hO _).mono ?_); rintro e w1 ⟨rfl, rfl⟩) | (go_at_call 68; (with_reducible refine (H.h3 _).mono ?_); rintro e w1 ⟨rfl, hb1⟩; replace hB := hB.keep hb1; clear hb1 c0 c1 c2 c3 c4 c5 c6 c7 c8; obtain ⟨c0, c1, c2, c3, c4, c5, c6, c7, c8⟩ := hB.all9) | (go_at_call 69; (with_reducible refine (H.h7 _).mono ?_); rintro e w1 ⟨rfl, hb1⟩; replace hB := hB.keep hb1; clear hb1 c0 c1 c2 c3 c4 c5 c6 c7 c8; obtain ⟨c0, c1, c2, c3, c4, c5, c6, c7, c8⟩ := hB.all9) | (go_at_call 46; (with_reducible refine (H.hF _).mono ?_); rintro e w1 ⟨rfl, rfl⟩) | (go_at_call 67; refine (R3put_any _ _ _ _ _ _).mono ?_; rintro e w1 ⟨rfl, rfl⟩) | (go_at_call 71; refine (RPut_any _ _ _ _ _).mono ?_; rintro e w1 ⟨rfl, rfl⟩) | (go_at_call 70; refine (R3flag_any _ _).mono ?_; rintro e w1 ⟨rfl, rfl⟩))
  refine wp_region_held_drew (S := fun W => TB w (InsnV.cells ⟨op, rd, r1, r2, imm, aq, rl, pred, succ⟩).toList W) (by kernel_rfl) (hB.keep (Below.refl _ _).drew) (fun hHeld => ?_)
  refine wpAnyH_take (i := 0) (v := .int .u64 (un (Put (Put (Put (Put (bv c) 7 5 (Part (bv rd) 0 5)) 12 3 (Part (bv f3) 0 3)) 15 5 (Part (bv r1) 0 5)) 20 5 (Part (bv r2) 0 5)))) rfl (by kernel_rfl) (by kernel_rfl) (by kernel_rfl) (fun _ _ _ h => h) (Or.inl ⟨by rfl, fun W _ => by kernel_rfl⟩) hHeld ?_
  try simp only [Act.put, List.getElem_toArray, List.getElem_cons_zero, List.setIfInBounds_toArray, List.set_cons_zero, List.set_cons_succ]
  refine wpAnyH_take (i := 1) (v := .pointer (some ⟨w.heap.size, 0, none⟩)) rfl (by kernel_rfl) (by kernel_rfl) (by kernel_rfl) (fun _ _ _ h => h) (Or.inl ⟨by rfl, fun W _ => by kernel_rfl⟩) hHeld ?_
  try simp only [Act.put, List.getElem_toArray, List.getElem_cons_succ, List.getElem_cons_zero, List.setIfInBounds_toArray, List.set_cons_zero, List.set_cons_succ]
  refine wpAnyH_take (i := 2) (v := .int .i64 op) rfl (by kernel_rfl) (by kernel_rfl) (by kernel_rfl) (fun _ _ _ h => h) (Or.inl ⟨by rfl, fun W hS => by (have k : W.cell? ⟨w.heap.size, 0, none⟩ = some (.int .i64 op) := hS.at 0 _ rfl); go_simp⟩) hHeld ?_
  try simp only [Act.put, List.getElem_toArray, List.getElem_cons_succ, List.getElem_cons_zero, List.setIfInBounds_toArray, List.set_cons_zero, List.set_cons_succ]
  refine wpAnyH_take (i := 4) (v := .pointer (some ⟨w.heap.size, 5, none⟩)) rfl (by kernel_rfl) (by kernel_rfl) (by kernel_rfl) (fun _ _ _ h => h) (Or.inl ⟨by rfl, fun W _ => by kernel_rfl⟩) hHeld ?_
  try simp only [Act.put, List.getElem_toArray, List.getElem_cons_succ, List.getElem_cons_zero, List.setIfInBounds_toArray, List.set_cons_zero, List.set_cons_succ]
  refine wpAnyH_take (i := 5) (v := .bool aq) rfl (by kernel_rfl) (by kernel_rfl) (by kernel_rfl) (fun _ _ _ h => h) (Or.inl ⟨by rfl, fun W hS => by (have k : W.cell? ⟨w.heap.size, 5, none⟩ = some (.bool aq) := hS.at 5 _ rfl); go_simp⟩) hHeld ?_
  try simp only [Act.put, List.getElem_toArray, List.getElem_cons_succ, List.getElem_cons_zero, List.setIfInBounds_toArray, List.set_cons_zero, List.set_cons_succ]
  refine wpAnyH_take (i := 9) (v := .pointer (some ⟨w.heap.size, 6, none⟩)) rfl (by kernel_rfl) (by kernel_rfl) (by kernel_rfl) (fun _ _ _ h => h) (Or.inl ⟨by rfl, fun W _ => by kernel_rfl⟩) hHeld ?_
  try simp only [Act.put, List.getElem_toArray, List.getElem_cons_succ, List.getElem_cons_zero, List.setIfInBounds_toArray, List.set_cons_zero, List.set_cons_succ]
  refine wpAnyH_take (i := 10) (v := .bool rl) rfl (by kernel_rfl) (by kernel_rfl) (by kernel_rfl) (fun _ _ _ h => h) (Or.inl ⟨by rfl, fun W hS => by (have k : W.cell? ⟨w.heap.size, 6, none⟩ = some (.bool rl) := hS.at 6 _ rfl); go_simp⟩) hHeld ?_
  try simp only [Act.put, List.getElem_toArray, List.getElem_cons_succ, List.getElem_cons_zero, List.setIfInBounds_toArray, List.set_cons_zero, List.set_cons_succ]
  refine wpAnyH_ready (rs := [3]) (by kernel_rfl) (by simp) (AllReadyH.cons rfl (fun K hK2 => ?_) AllReadyH.nil)
  rw [if_pos (by rfl)]
  simp only [List.getElem_toArray, List.getElem_cons_succ, List.getElem_cons_zero]
  go_wp2_with (go_at_call 69; (with_reducible refine (H.h7 _).mono ?_); rintro e w4 ⟨rfl, hb4⟩)
  refine hK2.out _ _ (hHeld.keep hb4) (fun hHeld2 => ?_)
  clear hK2 K hHeld
  have hHeld := hHeld2
  clear hHeld2
  try simp only [Act.put, List.getElem_toArray, List.getElem_cons_succ, List.getElem_cons_zero, List.setIfInBounds_toArray, List.set_cons_zero, List.set_cons_succ]
  refine wpAnyH_ready (rs := [6]) (by kernel_rfl) (by simp) (AllReadyH.cons rfl (fun K hK2 => ?_) AllReadyH.nil)
  rw [if_pos (by rfl)]
  simp only [List.getElem_toArray, List.getElem_cons_succ, List.getElem_cons_zero]
  go_wp2_with (go_at_call 70; refine (R3flag_any _ _).mono ?_; rintro e w5 ⟨rfl, rfl⟩)
  refine hK2.out _ _ (hHeld) (fun hHeld2 => ?_)
  clear hK2 K hHeld
  have hHeld := hHeld2
  clear hHeld2
  try simp only [Act.put, List.getElem_toArray, List.getElem_cons_succ, List.getElem_cons_zero, List.setIfInBounds_toArray, List.set_cons_zero, List.set_cons_succ]
  refine wpAnyH_take (i := 7) (v := .int .u64 (un (2#64 * mk64 aq))) rfl (by kernel_rfl) (by kernel_rfl) (by kernel_rfl) (fun _ _ _ h => h) (Or.inl ⟨by rfl, fun W _ => by go_simp⟩) hHeld ?_
  try simp only [Act.put, List.getElem_toArray, List.getElem_cons_succ, List.getElem_cons_zero, List.setIfInBounds_toArray, List.set_cons_zero, List.set_cons_succ]
  refine wpAnyH_take (i := 8) (v := .int .u64 (un (bv f7 + 2#64 * mk64 aq))) rfl (by kernel_rfl) (by kernel_rfl) (by kernel_rfl) (fun _ _ _ h => h) (Or.inl ⟨by rfl, fun W _ => by go_simp⟩) hHeld ?_
  try simp only [Act.put, List.getElem_toArray, List.getElem_cons_succ, List.getElem_cons_zero, List.setIfInBounds_toArray, List.set_cons_zero, List.set_cons_succ]
  refine wpAnyH_ready (rs := [11]) (by kernel_rfl) (by simp) (AllReadyH.cons rfl (fun K hK2 => ?_) AllReadyH.nil)
  rw [if_pos (by rfl)]
  simp only [List.getElem_toArray, List.getElem_cons_succ, List.getElem_cons_zero]
  go_wp2_with (go_at_call 70; refine (R3flag_any _ _).mono ?_; rintro e w6 ⟨rfl, rfl⟩)
  refine hK2.out _ _ (hHeld) (fun hHeld2 => ?_)
  clear hK2 K hHeld
  have hHeld := hHeld2
  clear hHeld2
  try simp only [Act.put, List.getElem_toArray, List.getElem_cons_succ, List.getElem_cons_zero, List.setIfInBounds_toArray, List.set_cons_zero, List.set_cons_succ]
  refine wpAnyH_take (i := 12) (v := .int .u64 (un (bv f7 + 2#64 * mk64 aq + mk64 rl))) rfl (by kernel_rfl) (by kernel_rfl) (by kernel_rfl) (fun _ _ _ h => h) (Or.inl ⟨by rfl, fun W _ => by go_simp⟩) hHeld ?_
  try simp only [Act.put, List.getElem_toArray, List.getElem_cons_succ, List.getElem_cons_zero, List.setIfInBounds_toArray, List.set_cons_zero, List.set_cons_succ]
  refine wpAnyH_ready (rs := [13]) (by kernel_rfl) (by simp) (AllReadyH.cons rfl (fun K hK2 => ?_) AllReadyH.nil)
  rw [if_pos (by rfl)]
  simp only [List.getElem_toArray, List.getElem_cons_succ, List.getElem_cons_zero]
  go_wp2_with (go_at_call 67; refine (R3put_any _ _ _ _ _ _).mono ?_; rintro e w7 ⟨rfl, rfl⟩)
  refine hK2.out _ _ (hHeld) (fun hHeld2 => ?_)
  clear hK2 K hHeld
  have hHeld := hHeld2
  clear hHeld2
  try simp only [Act.put, List.getElem_toArray, List.getElem_cons_succ, List.getElem_cons_zero, List.setIfInBounds_toArray, List.set_cons_zero, List.set_cons_succ]
  refine wpAnyH_take (i := 14) (v := .int .u64 (un (Put (Put (Put (Put (Put (bv c) 7 5 (Part (bv rd) 0 5)) 12 3 (Part (bv f3) 0 3)) 15 5 (Part (bv r1) 0 5)) 20 5 (Part (bv r2) 0 5)) 25 7 (Part (bv f7 + 2#64 * mk64 aq + mk64 rl) 0 7)))) rfl (by kernel_rfl) (by kernel_rfl) (by kernel_rfl) (fun _ _ _ h => h) (Or.inl ⟨by rfl, fun W _ => by kernel_rfl⟩) hHeld ?_
  try simp only [Act.put, List.getElem_toArray, List.getElem_cons_succ, List.getElem_cons_zero, List.setIfInBounds_toArray, List.set_cons_zero, List.set_cons_succ]
  refine wpAnyH_done (by kernel_rfl) ?_ _
  have hB := hHeld
  go_wp2_with fail
  go_ret2
  exact ⟨rfl, hB.bl⟩
set_option maxRecDepth 100000 in
set_option maxHeartbeats 8000000 in
theorem R3W_no (hc : checkE ⟨op, rd, r1, r2, imm, aq, rl, pred, succ⟩ ≠ 0) : Calls Tryz.prog 37 #[.agg #[.int .i64 op, .int .i64 rd, .int .i64 r1, .int .i64 r2, .int .i64 imm, .bool aq, .bool rl, .int .i64 pred, .int .i64 succ]] w fun e w' => e = .returned (.tuple #[.int .u32 0, .int .i64 2]) ∧ Below w.heap.size w w' := by
  have hB := TB.new op rd r1 r2 imm aq rl pred succ w
  have hu := Tryz.underlying26
  have hK := Lib.hid (fun W => R2Check_any ⟨op, rd, r1, r2, imm, aq, rl, pred, succ⟩ W)
  have tc : (checkE ⟨op, rd, r1, r2, imm, aq, rl, pred, succ⟩ != 0) = true := by simpa using hc
  clear hc
  go_enter Tryz.func37, Tryz.ntmps37
  go_wp2_with (first | (refine wpList_load_mid rfl 26 _ rfl w.heap.size 0 rfl (InsnV.cells ⟨op, rd, r1, r2, imm, aq, rl, pred, succ⟩).toList _ hB.c hu rfl cells_9 ?_) | (go_at_call 65; (with_reducible refine (hK.out _).mono ?_); rintro e w1 ⟨rfl, hb1⟩; replace hB := hB.keep hb1; clear hb1))
  go_ret2
  exact ⟨rfl, hB.bl⟩
end
end Go.Proofs.YtcgflnkgekkidaaGreatDoor
namespace Go.Proofs.YtcgflnkgekkidaaGreatDoor
open Go.RowKit
theorem R3Word_any (i : InsnV) (w : World) : Calls Tryz.prog 37 #[.agg i.cells] w fun e w' => e = .returned (.tuple #[.int .u32 (un32 (wordV i)), .int .i64 (checkE i)]) ∧ Below w.heap.size w w' := by
  rw [← word_same]
  unfold wordR
  obtain ⟨op, rd, r1, r2, imm, aq, rl, pred, succ⟩ := i
  by_cases hc : checkE ⟨op, rd, r1, r2, imm, aq, rl, pred, succ⟩ = 0
  · rw [if_pos hc, hc]
    obtain ⟨-, -, -, -, -, -, f1, f12⟩ := ok_facts _ hc
    simp only at f1 f12 ⊢
    show WordG op rd r1 r2 imm aq rl pred succ _ w
    obtain ⟨f, hf⟩ : ∃ f, (opOf op).form = f := ⟨_, rfl⟩
    have H := WH_of hc hf
    rw [hf] at f1 f12 ⊢
    rcases (show f = 1 ∨ f = 2 ∨ f = 3 ∨ f = 4 ∨ f = 5 ∨ f = 6 ∨ f = 7 ∨ f = 8 ∨ f = 9 ∨ f = 10 ∨ f = 11 ∨ f = 12 by omega) with rfl | rfl | rfl | rfl | rfl | rfl | rfl | rfl | rfl | rfl | rfl | rfl
    · exact R3W_1 H
    · exact R3W_2 H
    · exact R3W_3 H
    · exact R3W_4 H
    · exact R3W_5 H
    · exact R3W_6 H
    · cases h31 : decide (31 < un (bv imm))
      · have e : RWf 7 (rcode op) (rthree op) (rseven op) ⟨op, rd, r1, r2, imm, aq, rl, pred, succ⟩ = Put (Put (Put (Put (Put (Put (bv (rcode op)) 7 5 (Part (bv rd) 0 5)) 12 3 (Part (bv (rthree op)) 0 3)) 15 5 (Part (bv r1) 0 5)) 20 5 (Part (bv r2) 0 5)) 25 7 (Part (bv (rseven op)) 0 7)) 20 5 (Part (bv imm) 0 5) := by
          unfold RWf RW4; simp only [reduceIte, show ¬ ((7 : Int) = 8) by decide, show ¬ ((7 : Int) = 11 ∨ (7 : Int) = 12) by decide, show ¬ ((7 : Int) = 3 ∨ (7 : Int) = 4) by decide, if_neg (of_decide_eq_false h31)]
        rw [e]; exact R3W_7b H h31
      · have e : RWf 7 (rcode op) (rthree op) (rseven op) ⟨op, rd, r1, r2, imm, aq, rl, pred, succ⟩ = Put (Put (Put (Put (Put (Put (bv (rcode op)) 7 5 (Part (bv rd) 0 5)) 12 3 (Part (bv (rthree op)) 0 3)) 15 5 (Part (bv r1) 0 5)) 20 5 (Part (bv r2) 0 5)) 25 7 (Part (bv (rseven op)) 0 7)) 20 5 (Part (bv imm) 0 5) + 33554432#64 := by
          unfold RWf RW4; simp only [reduceIte, show ¬ ((7 : Int) = 8) by decide, show ¬ ((7 : Int) = 11 ∨ (7 : Int) = 12) by decide, show ¬ ((7 : Int) = 3 ∨ (7 : Int) = 4) by decide, if_pos (of_decide_eq_true h31)]
        rw [e]; exact R3W_7a H h31
    · exact R3W_8 H
    · exact R3W_9 H
    · have e : mk64 (op == 65) <<< 20 = mk64 (op == 65) * 1048576#64 := by cases (op == 65) <;> rfl
      have := R3W_10 (w := w) H _ rfl
      rw [← e] at this
      exact this
    · exact R3W_11 H
    · exact R3W_12 H
  · rw [if_neg hc, show checkE ⟨op, rd, r1, r2, imm, aq, rl, pred, succ⟩ = 2 by (have h := hc; unfold checkE at h ⊢; split at h; exact absurd rfl h; split; contradiction; rfl)]
    exact R3W_no hc
end Go.Proofs.YtcgflnkgekkidaaGreatDoor
