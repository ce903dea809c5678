/- The walks of the document's Reads and Writes at a valid instruction. Conditions: none. -/
import Derived.Test.YtdbpnbmaineniaaGreatDoorRefCheck
import Derived.Test.YtdbpnbmaineniaaGreatDoorOwn
import Derived.BigQuiet
import Derived.WalkSpells
set_option linter.unusedVariables false
namespace Go.Proofs.YtdbpnbmaineniaaGreatDoor
open Go.RowKit
/-- Which of the first k registers from 1 on an instruction reads, an ecall left out. -/
def readsK (i : InsnV) (k : Nat) : List Int := ((List.range k).filter fun q : Nat => decide (i.rs1 = (q : Int) + 1) || decide (i.rs2 = (q : Int) + 1)).map fun q : Nat => (q : Int) + 1
def readsL (i : InsnV) : List Int := if i.op = 64 then [10, 17] else readsK i 31
theorem readsK_succ (i : InsnV) (k : Nat) : readsK i (k + 1) = if i.rs1 = (k : Int) + 1 ∨ i.rs2 = (k : Int) + 1 then readsK i k ++ [(k : Int) + 1] else readsK i k := by
  unfold readsK
  rw [List.range_succ, List.filter_append, List.map_append]
  by_cases h : i.rs1 = (k : Int) + 1 ∨ i.rs2 = (k : Int) + 1
  · rw [if_pos h, List.filter_cons_of_pos (by simpa using h)]; rfl
  · rw [if_neg h, List.filter_cons_of_neg (by simpa using h)]; simp
theorem readsK_len (i : InsnV) (k : Nat) : (readsK i k).length ≤ k := by
  unfold readsK
  rw [List.length_map]
  exact Nat.le_trans (List.length_filter_le _ _) (by simp)
theorem Tryz.info_intS : (Tryz.prog.info? 3).map (fun i => (i.zero, i.size, i.bytes)) = some (some (.int .i64 0), 1, 8) := by kernel_rfl
section
attribute [local irreducible] un sn
set_option maxRecDepth 100000 in
theorem R2Writes_ok (i : InsnV) (hc : checkE i = 0) (w : World) :
    Calls Tryz.prog 43 #[.agg i.cells] w fun e w' => e = .returned (.int .i64 i.rd) ∧ Below w.heap.size w w' := by
  have hK := Lib.hid (fun W => R2Check_any i W)
  rw [hc] at hK
  clear hc
  obtain ⟨op, rd, r1, r2, imm, aq, rl, pred, succ⟩ := i
  have hz : ∀ w4, Below (w.alloc (.cells (InsnV.cells ⟨op, rd, r1, r2, imm, aq, rl, pred, succ⟩) 23)).heap.size (w.alloc (.cells (InsnV.cells ⟨op, rd, r1, r2, imm, aq, rl, pred, succ⟩) 23)) w4 → w4.cell? ⟨w.heap.size, 1, none⟩ = some (.int .i64 rd) := fun w4 hb => by
    rw [hb.cell (p := ⟨w.heap.size, 1, none⟩) (by simp), World.cell?_alloc_new]; rfl
  have hz := Lib.hid hz
  unfold InsnV.cells at *
  go_enter Tryz.func43, Tryz.ntmps43
  go_wp2_with (go_at_call 38; refine (hK.out _).mono ?_; rintro e w4 ⟨rfl, hb4⟩; have k1 := hz.out w4 hb4)
  go_ret
  exact ⟨rfl, ((Below.refl _ _).alloc (Nat.le_refl _) _).trans (hb4.mono (by simp))⟩
set_option maxRecDepth 100000 in
theorem Reads_call (op rd r1 r2 imm : Int) (aq rl : Bool) (pred succ : Int) (hc : checkE ⟨op, rd, r1, r2, imm, aq, rl, pred, succ⟩ = 0) (h64 : op = 64) (w : World) :
    Calls Tryz.prog 44 #[.agg (InsnV.cells ⟨op, rd, r1, r2, imm, aq, rl, pred, succ⟩)] w (NewInts w [10, 17]) := by
  have hK := Lib.hid (fun W => R2Check_any ⟨op, rd, r1, r2, imm, aq, rl, pred, succ⟩ W)
  rw [hc] at hK
  clear hc
  have t64 : (op == 64) = true := by rw [h64]; rfl
  clear h64
  have hz : ∀ w4, Below (w.alloc (.cells (InsnV.cells ⟨op, rd, r1, r2, imm, aq, rl, pred, succ⟩) 23)).heap.size (w.alloc (.cells (InsnV.cells ⟨op, rd, r1, r2, imm, aq, rl, pred, succ⟩) 23)) w4 → w4.cell? ⟨w.heap.size, 0, none⟩ = some (.int .i64 op) := fun w4 hb => by
    rw [hb.cell (p := ⟨w.heap.size, 0, none⟩) (by simp), World.cell?_alloc_new]; rfl
  have hz := Lib.hid hz
  unfold InsnV.cells at *
  go_enter Tryz.func44, Tryz.ntmps44
  go_wp2_with (go_at_call 38; refine (hK.out _).mono ?_; rintro e w4 ⟨rfl, hb4⟩; have k0 := hz.out w4 hb4)
  go_ret
  have hb : Below w.heap.size w w4 := ((Below.refl _ _).alloc (Nat.le_refl _) _).trans (hb4.mono (by simp))
  refine ⟨⟨_, rfl, ?_⟩, hb.alloc hb.size _⟩
  have := World.ownsRow_lit (e := 3) (size := 1) w4 #[.int .i64 10, .int .i64 17] 2 (Nat.le_refl _) (by decide) rfl
  exact ownsRow_low this hb.size
/-- The same from 1 on. -/
def readsQ (i : InsnV) (k : Nat) : List Int := readsK i (k - 1)
theorem readsQ_succ (i : InsnV) (k : Nat) (hk : 1 ≤ k) : readsQ i (k + 1) = if i.rs1 = (k : Int) ∨ i.rs2 = (k : Int) then readsQ i k ++ [(k : Int)] else readsQ i k := by
  obtain ⟨j, rfl⟩ : ∃ j, k = j + 1 := ⟨k - 1, by omega⟩
  unfold readsQ
  rw [show j + 1 + 1 - 1 = j + 1 by omega, show j + 1 - 1 = j by omega, readsK_succ]
  rw [show ((j + 1 : Nat) : Int) = (j : Int) + 1 by omega]
set_option maxRecDepth 100000 in
set_option maxHeartbeats 4000000 in
theorem Reads_plain (op rd r1 r2 imm : Int) (aq rl : Bool) (pred succ : Int) (hc : checkE ⟨op, rd, r1, r2, imm, aq, rl, pred, succ⟩ = 0) (h64 : op ≠ 64) (w : World) :
    Calls Tryz.prog 44 #[.agg (InsnV.cells ⟨op, rd, r1, r2, imm, aq, rl, pred, succ⟩)] w (NewInts w (readsQ ⟨op, rd, r1, r2, imm, aq, rl, pred, succ⟩ 32)) := by
  have hK := Lib.hid (fun W => R2Check_any ⟨op, rd, r1, r2, imm, aq, rl, pred, succ⟩ W)
  rw [hc] at hK
  clear hc
  have t64 : (op == 64) = false := by rw [beq_eq_false_iff_ne]; exact h64
  clear h64
  have hz : ∀ w4, Below (w.alloc (.cells (InsnV.cells ⟨op, rd, r1, r2, imm, aq, rl, pred, succ⟩) 23)).heap.size (w.alloc (.cells (InsnV.cells ⟨op, rd, r1, r2, imm, aq, rl, pred, succ⟩) 23)) w4 → w4.cell? ⟨w.heap.size, 0, none⟩ = some (.int .i64 op) ∧ w4.cell? ⟨w.heap.size, 2, none⟩ = some (.int .i64 r1) ∧ w4.cell? ⟨w.heap.size, 3, none⟩ = some (.int .i64 r2) ∧ Below w.heap.size w w4 := fun w4 hb => by
    refine ⟨?_, ?_, ?_, ((Below.refl _ _).alloc (Nat.le_refl _) _).trans (hb.mono (by simp))⟩
    · rw [hb.cell (p := ⟨w.heap.size, 0, none⟩) (by simp), World.cell?_alloc_new]; rfl
    · rw [hb.cell (p := ⟨w.heap.size, 2, none⟩) (by simp), World.cell?_alloc_new]; rfl
    · rw [hb.cell (p := ⟨w.heap.size, 3, none⟩) (by simp), World.cell?_alloc_new]; rfl
  have hz := Lib.hid hz
  have hrs := Lib.hid (readsQ_succ ⟨op, rd, r1, r2, imm, aq, rl, pred, succ⟩)
  have hrl : ∀ k, (readsQ ⟨op, rd, r1, r2, imm, aq, rl, pred, succ⟩ k).length ≤ k := fun k => Nat.le_trans (readsK_len _ _) (Nat.sub_le _ _)
  have hrl := Lib.hid hrl
  obtain ⟨R, hR⟩ : ∃ R, R = readsQ ⟨op, rd, r1, r2, imm, aq, rl, pred, succ⟩ := ⟨_, rfl⟩
  have hR0 : Hid (R 1 = []) := Lib.hid (by rw [hR]; unfold readsQ readsK; rfl)
  rw [← hR] at hrs hrl ⊢
  simp only at hrs
  clear hR
  obtain ⟨i0, hi, hz0, hz1, hz2⟩ := info_parts Tryz.info_intS
  have hi' := Lib.hid hi; have hz0' := Lib.hid hz0; have hz1' := Lib.hid hz1; have hz2' := Lib.hid hz2; clear hi hz0 hz1 hz2
  unfold InsnV.cells at *
  go_enter Tryz.func44, Tryz.ntmps44
  go_wp2_with (go_at_call 38; refine (hK.out _).mono ?_; rintro e w4 ⟨rfl, hb4⟩; have hz4 := Lib.hid (fun W (hW : Below w4.heap.size w4 W) => hz.out W (hb4.trans (hW.mono hb4.size))); have k0 := (hz.out w4 hb4).1)
  go_loopw [3, 4] (fun v i wr => ∃ k : Nat, 1 ≤ k ∧ k ≤ 32 ∧ i = .int .i64 k ∧ wr.ownsRow w4.heap.size 3 1 v (R k).length ((R k).map (Value.int .i64)) ∧ Below w4.heap.size w4 wr) (fun _ i _ => 32 - (intOf i).toNat)
  case atStart => exact ⟨1, Nat.le_refl _, by decide, rfl, by rw [hR0.out]; exact World.ownsRow_nil _ _ _ _, Below.refl _ _⟩
  case round =>
    obtain ⟨k, hk1, hk, rfl, hown, hb⟩ := hrel
    obtain ⟨-, c2, c3, hbw⟩ := hz4.out _ hb
    have hlen := hrl.out k
    have hnx := Lib.hid (hrs.out k hk1)
    by_cases hlt : k < 32
    · by_cases e1 : r1 = (k : Int)
      · have hq : Hid ((R k).map (Value.int .i64) ++ [Value.int .i64 (k : Int)] = (R (k + 1)).map (Value.int .i64) ∧ (R k).length + 1 = (R (k + 1)).length) := Lib.hid (by rw [hnx.out, if_pos (.inl e1)]; simp)
        have t1 : (r1 == (k : Int)) = true := by rw [e1]; simp
        clear e1
        clear hnx
        go_wp2_with (first | (at_builtin; refine wpList_append_own _ rfl _ _ 57 rfl w4.heap.size 3 i0 (.int .i64 0) 1 8 Tryz.underlying57 hi'.out hz0'.out hz1'.out hz2'.out rfl (by decide) _ (R k).length _ rfl (hown.alloc _) ⟨wr.heap.size, 0, none⟩ 1 1 [.int .i64 (k : Int)] rfl rfl ?c1 ?c2 ?c3 ?c4 ?c5 ?_))
        case c1 => exact cell_new1 _ _ _
        case c2 => simp [Value.oneCell']
        case c3 => unfold maxLen; omega
        case c4 => omega
        case c5 => have := hb.size; simp; omega
        intro v' w1 hown' hgrow _
        rw [hq.out.1, hq.out.2] at hown'
        have hb1 : Below w4.heap.size w4 w1 := (hb.alloc hb.size _).grown hgrow (by have := hb.size; simp; omega) (fun j hj => (World.ownsRow.lt hown j hj).1)
        clear hown hb hgrow
        go_wp2
        go_roundw
        case rel => exact ⟨k + 1, by omega, by omega, by go_num, hown', hb1⟩
        case measure => simp [intOf]; omega
      · by_cases e2 : r2 = (k : Int)
        · have hq : Hid ((R k).map (Value.int .i64) ++ [Value.int .i64 (k : Int)] = (R (k + 1)).map (Value.int .i64) ∧ (R k).length + 1 = (R (k + 1)).length) := Lib.hid (by rw [hnx.out, if_pos (.inr e2)]; simp)
          have t1 : (r1 == (k : Int)) = false := by rw [beq_eq_false_iff_ne]; exact e1
          have t2 : (r2 == (k : Int)) = true := by rw [e2]; simp
          clear e1 e2
          clear hnx
          go_wp2_with (first | (at_builtin; refine wpList_append_own _ rfl _ _ 57 rfl w4.heap.size 3 i0 (.int .i64 0) 1 8 Tryz.underlying57 hi'.out hz0'.out hz1'.out hz2'.out rfl (by decide) _ (R k).length _ rfl (hown.alloc _) ⟨wr.heap.size, 0, none⟩ 1 1 [.int .i64 (k : Int)] rfl rfl ?c1 ?c2 ?c3 ?c4 ?c5 ?_))
          case c1 => exact cell_new1 _ _ _
          case c2 => simp [Value.oneCell']
          case c3 => unfold maxLen; omega
          case c4 => omega
          case c5 => have := hb.size; simp; omega
          intro v' w1 hown' hgrow _
          rw [hq.out.1, hq.out.2] at hown'
          have hb1 : Below w4.heap.size w4 w1 := (hb.alloc hb.size _).grown hgrow (by have := hb.size; simp; omega) (fun j hj => (World.ownsRow.lt hown j hj).1)
          clear hown hb hgrow
          go_wp2
          go_roundw
          case rel => exact ⟨k + 1, by omega, by omega, by go_num, hown', hb1⟩
          case measure => simp [intOf]; omega
        · have hq : Hid (R (k + 1) = R k) := Lib.hid (by rw [hnx.out, if_neg (fun hh => hh.elim e1 e2)])
          have t1 : (r1 == (k : Int)) = false := by rw [beq_eq_false_iff_ne]; exact e1
          have t2 : (r2 == (k : Int)) = false := by rw [beq_eq_false_iff_ne]; exact e2
          clear e1 e2 hnx
          go_wp2_with fail
          go_roundw
          case rel => exact ⟨k + 1, by omega, by omega, by go_num, by rw [hq.out]; exact hown, hb⟩
          case measure => simp [intOf]; omega
    · obtain rfl : k = 32 := by omega
      go_wp2_with fail
      go_ret
      exact ⟨⟨_, rfl, ownsRow_low hown ((hz4.out _ (Below.refl _ _)).2.2.2).size⟩, hbw⟩
end
theorem readsL_eq (i : InsnV) (h : i.op ≠ 64) : readsQ i 32 = readsL i := by unfold readsL readsQ; rw [if_neg h]
theorem Reads_any (i : InsnV) (hc : checkE i = 0) (w : World) : Calls Tryz.prog 44 #[.agg i.cells] w (NewInts w (readsL i)) := by
  obtain ⟨op, rd, r1, r2, imm, aq, rl, pred, succ⟩ := i
  by_cases h : op = 64
  · rw [show readsL ⟨op, rd, r1, r2, imm, aq, rl, pred, succ⟩ = [10, 17] from if_pos h]
    exact Reads_call op rd r1 r2 imm aq rl pred succ hc h w
  · rw [← readsL_eq _ h]
    exact Reads_plain op rd r1 r2 imm aq rl pred succ hc h w
theorem readsL_mem (i : InsnV) (r : Nat) (h1 : 1 ≤ r) (h2 : r < 32) (h : (r : Int) ∉ readsL i) : i.op ≠ 64 ∧ i.rs1 ≠ r ∧ i.rs2 ≠ r ∨ i.op = 64 ∧ r ≠ 10 ∧ r ≠ 17 := by
  unfold readsL at h
  by_cases ho : i.op = 64
  · rw [if_pos ho] at h
    simp at h
    exact .inr ⟨ho, by omega, by omega⟩
  · rw [if_neg ho] at h
    refine .inl ⟨ho, fun e => h ?_, fun e => h ?_⟩
    · unfold readsK
      exact List.mem_map.2 ⟨r - 1, List.mem_filter.2 ⟨List.mem_range.2 (by omega), by simp; left; omega⟩, by omega⟩
    · unfold readsK
      exact List.mem_map.2 ⟨r - 1, List.mem_filter.2 ⟨List.mem_range.2 (by omega), by simp; right; omega⟩, by omega⟩
end Go.Proofs.YtdbpnbmaineniaaGreatDoor
