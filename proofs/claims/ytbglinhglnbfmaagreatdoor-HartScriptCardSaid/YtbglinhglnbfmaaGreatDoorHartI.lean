/- The walks of insn.Writes and of Step's closure. Conditions: the work's cells lie as the structure WK says. -/
import Derived.Test.YtbglinhglnbfmaaGreatDoorHartBg
import Derived.Test.YtbglinhglnbfmaaGreatDoorHartG
import Derived.Test.YtbglinhglnbfmaaGreatDoorHartH
set_option linter.unusedVariables false
namespace Go.Proofs.YtbglinhglnbfmaaGreatDoor
open Go.RowKit
/-- Where a hart goes on. -/
def HartV.goes (h : HartV) (n : BitVec 64) : HartV := { h with pc := n }
/-- A hart with another register. -/
def HartV.set (h : HartV) (d : Nat) (v : BitVec 64) : HartV := { h with x := fun r => if r = d then v else h.x r }
theorem setCell_at {W : World} {b o j : Nat} {v u : Value} (hc : W.cell? ⟨b, o, none⟩ = some u) : (W.setCell ⟨b, o, none⟩ v).cell? ⟨b, j, none⟩ = if j = o then some v else W.cell? ⟨b, j, none⟩ := by
  split
  · rename_i e; subst e; exact World.cell?_setCell_same _ _ _ hc
  · rename_i e; exact World.cell?_setCell_other _ _ _ _ (fun h => e (by injection h with _ h2 _; exact h2.symm))
theorem setCell_frozen (W : World) (b o j : Nat) (v : Value) : (W.setCell ⟨b, o, none⟩ v).frozen? ⟨b, j, none⟩ = W.frozen? ⟨b, j, none⟩ := World.frozen?_setCells b [v] o W ⟨b, j, none⟩
theorem setCell_size (W : World) (a : Addr) (v : Value) : W.heap.size ≤ (W.setCell a v).heap.size := ((Below.refl 0 W).setCell (Nat.zero_le _) v).size
theorem WK.setPC {b : Nat} {h : HartV} {i : InsnV} {W : World} (hW : WK b h i W) (n : BitVec 64) : WK b (h.goes n) i (W.setCell ⟨b, 0, none⟩ (.int .u64 (un n))) := by
  have h0 := hW.c 0 (by decide)
  refine ⟨Nat.lt_of_lt_of_le hW.lt (setCell_size _ _ _), fun j hj => ?_, fun j hj => ?_, fun j hj => by rw [setCell_frozen]; exact hW.f j hj⟩
  · rw [setCell_at h0]
    split
    · rename_i e; subst e; rfl
    · rename_i e; rw [hW.c j hj]; unfold hartCell; rw [if_neg e, if_neg e]; rfl
  · rw [setCell_at h0, if_neg (by omega)]; exact hW.i j hj
theorem WK.setX {b : Nat} {h : HartV} {i : InsnV} {W : World} (hW : WK b h i W) (d : Nat) (hd : d < 32) (v : BitVec 64) : WK b (h.set d v) i (W.setCell ⟨b, 1 + d, none⟩ (.int .u64 (un v))) := by
  have h0 := hW.c (1 + d) (by omega)
  refine ⟨Nat.lt_of_lt_of_le hW.lt (setCell_size _ _ _), fun j hj => ?_, fun j hj => ?_, fun j hj => by rw [setCell_frozen]; exact hW.f j hj⟩
  · rw [setCell_at h0]
    split
    · rename_i e; subst e; rw [hartCell_x _ d hd]; simp [HartV.set]
    · rename_i e
      rw [hW.c j hj]; unfold hartCell
      by_cases j0 : j = 0
      · rw [if_pos j0, if_pos j0]; rfl
      · rw [if_neg j0, if_neg j0]
        by_cases j32 : j ≤ 32
        · rw [if_pos j32, if_pos j32]; simp only [HartV.set]; rw [if_neg (by omega)]
        · rw [if_neg j32, if_neg j32]; rfl
  · rw [setCell_at h0, if_neg (by omega)]; exact hW.i j hj
/-- Below n all is as it was, and what lay there is as it was, block b left out. -/
structure Keeps (n b : Nat) (w w' : World) : Prop where
  bl : Below n w w'
  block : ∀ k, k < w.heap.size → k ≠ b → w'.heap[k]? = w.heap[k]?
theorem Tabs.low {w w' : World} {B : Nat} (h : Tabs w) (hb : Below B w w') (hB : 0 < B) : Tabs w' := ⟨var?_below hb Tryz.gSpace hB h.tab, Nat.lt_of_lt_of_le h.lt hb.size⟩
theorem Keeps.of_below {n b : Nat} {w w' : World} (h : Below w.heap.size w w') (hn : n ≤ w.heap.size) : Keeps n b w w' := ⟨h.mono hn, fun k hk _ => h.block k hk⟩
theorem Keeps.trans {n b : Nat} {u v w : World} (h : Keeps n b u v) (k : Keeps n b v w) : Keeps n b u w :=
  ⟨h.bl.trans k.bl, fun j hj hb => (k.block j (Nat.lt_of_lt_of_le hj h.bl.size) hb).trans (h.block j hj hb)⟩
theorem Keeps.setCell {n b : Nat} {u w : World} (h : Keeps n b u w) (hn : n ≤ b) (o : Nat) (v : Value) : Keeps n b u (w.setCell ⟨b, o, none⟩ v) :=
  ⟨h.bl.setCell hn v, fun j hj hb => (Below.heap_setCell w ⟨b, o, none⟩ v j hb).trans (h.block j hj hb)⟩
theorem Keeps.cell {n b : Nat} {w w' : World} (h : Keeps n b w w') {x : Nat} (j : Nat) (hx : x < w.heap.size) (hb : x ≠ b) : w'.cell? ⟨x, j, none⟩ = w.cell? ⟨x, j, none⟩ := World.cell?_of_block (w := w) (h.block x hx hb)
theorem Keeps.frozen {n b : Nat} {w w' : World} (h : Keeps n b w w') {x : Nat} (j : Nat) (hx : x < w.heap.size) (hb : x ≠ b) : w'.frozen? ⟨x, j, none⟩ = w.frozen? ⟨x, j, none⟩ := World.frozen?_of_block (w := w) (h.block x hx hb)
section
attribute [local irreducible] un sn
set_option maxRecDepth 100000 in
theorem Writes_ok (i : InsnV) (hop : i.op ≤ 9223372036854775807) (hc : checkE i = 0) (w : World) (ht : Tabs w) :
    Calls Tryz.prog 26 #[.agg i.cells] w fun e w' => e = .returned (.int .i64 i.rd) ∧ Below w.heap.size w w' := by
  have hK := Lib.hid (fun W (hW : Tabs W) => Check_any i hop W hW)
  rw [hc] at hK
  clear hc hop
  obtain ⟨op, rd, r1, r2, imm, aq, rl, pred, succ⟩ := i
  have hz : ∀ w4, Below (w.alloc (.cells (InsnV.cells ⟨op, rd, r1, r2, imm, aq, rl, pred, succ⟩) 27)).heap.size (w.alloc (.cells (InsnV.cells ⟨op, rd, r1, r2, imm, aq, rl, pred, succ⟩) 27)) w4 → w4.cell? ⟨w.heap.size, 1, none⟩ = some (.int .i64 rd) := fun w4 hb => by
    rw [hb.cell (p := ⟨w.heap.size, 1, none⟩) (by simp), World.cell?_alloc_new]; rfl
  have hz := Lib.hid hz
  unfold InsnV.cells at *
  go_enter Tryz.func26, Tryz.ntmps26
  go_wp2_with (go_at_call 35; refine (hK.out _ (ht.later ((Below.refl _ _).alloc (Nat.le_refl _) _) (Nat.le_refl _))).mono ?_; rintro e w4 ⟨rfl, hb4⟩; have k1 := hz.out w4 hb4)
  go_ret
  exact ⟨rfl, ((Below.refl _ _).alloc (Nat.le_refl _) _).trans (hb4.mono (by simp))⟩
/-- What Step's closure has caught: the work, what was found, whether it won, the instruction. -/
structure SK (p f g c b : Nat) (i : InsnV) (found : BitVec 64) (won : Bool) (W : World) : Prop where
  pw : W.cell? ⟨p, 0, none⟩ = some (.pointer (some ⟨b, 0, none⟩))
  fw : W.cell? ⟨f, 0, none⟩ = some (.int .u64 (un found))
  gw : W.cell? ⟨g, 0, none⟩ = some (.bool won)
  cw : ∀ j, j < 9 → W.cell? ⟨c, j, none⟩ = some (insnCell i j)
  ne : p ≠ b ∧ f ≠ b ∧ g ≠ b ∧ c ≠ b
theorem SK.kept {n p f g c b : Nat} {i : InsnV} {found : BitVec 64} {won : Bool} {W W' : World} (hS : SK p f g c b i found won W) (hk : Keeps n b W W') : SK p f g c b i found won W' := by
  have lt : ∀ (x j : Nat) v, W.cell? ⟨x, j, none⟩ = some v → x < W.heap.size := fun x j v h => World.block_lt_of_cell? W ⟨x, j, none⟩ h
  exact ⟨by rw [hk.cell 0 (lt _ _ _ hS.pw) hS.ne.1]; exact hS.pw, by rw [hk.cell 0 (lt _ _ _ hS.fw) hS.ne.2.1]; exact hS.fw, by rw [hk.cell 0 (lt _ _ _ hS.gw) hS.ne.2.2.1]; exact hS.gw, fun j hj => by rw [hk.cell j (lt _ _ _ (hS.cw j hj)) hS.ne.2.2.2]; exact hS.cw j hj, hS.ne⟩
theorem SK.keep {p f g c b : Nat} {i : InsnV} {found : BitVec 64} {won : Bool} {W W' : World} (hS : SK p f g c b i found won W) (hb : Below W.heap.size W W') : SK p f g c b i found won W' := hS.kept (Keeps.of_below (n := 0) hb (Nat.zero_le _))
theorem SK.drew {p f g c b : Nat} {i : InsnV} {found : BitVec 64} {won : Bool} {W : World} (hS : SK p f g c b i found won W) : SK p f g c b i found won W.drew := hS.keep ((Below.refl _ _).drew)
set_option maxRecDepth 100000 in
set_option maxHeartbeats 8000000 in
theorem Step1_thrown (p f g c b : Nat) (h : HartV) (op : Int) (d r1 r2 : Nat) (imm : Int) (aq rl : Bool) (pred succ : Int) (found : BitVec 64) (won : Bool) (w : World) (hW : WK b h ⟨op, d, r1, r2, imm, aq, rl, pred, succ⟩ w) (hS0 : SK p f g c b ⟨op, d, r1, r2, imm, aq, rl, pred, succ⟩ found won w) (ht : Tabs w) (hop : op ≤ 9223372036854775807) (hd : d < 32) (hr1 : r1 < 32) (hr2 : r2 < 32) (k : Int) (hk : k ≠ 0) (ha : askE h ⟨op, d, r1, r2, imm, aq, rl, pred, succ⟩ = k) :
    Calls Tryz.prog 22 #[.pointer (some ⟨p, 0, none⟩), .pointer (some ⟨f, 0, none⟩), .pointer (some ⟨g, 0, none⟩), .pointer (some ⟨c, 0, none⟩)] w fun e w' => e = .panicked (thrown k) ∧ Below w.heap.size w w' := by
  have hAsk := Lib.hid (fun W (hW : WK b h ⟨op, d, r1, r2, imm, aq, rl, pred, succ⟩ W) (hT : Tabs W) => ask_any b h op d r1 r2 imm aq rl pred succ W hW hT hop hr1 hr2)
  rw [ha, if_neg hk] at hAsk
  have hwk := hW
  clear hW ha
  go_enter Tryz.func22, Tryz.ntmps22
  go_wp2
  refine wp_region_held_drew (S := fun W => SK p f g c b ⟨op, d, r1, r2, imm, aq, rl, pred, succ⟩ found won W) (by kernel_rfl) hS0.drew (fun hHeld => ?_)
  refine wpAnyH_take (i := 0) (v := .pointer (some ⟨b, 0, none⟩)) rfl (by kernel_rfl) (by kernel_rfl) (by kernel_rfl) (fun _ _ _ h => h) (Or.inl ⟨by rfl, fun W hS => by (have k : W.cell? ⟨p, 0, none⟩ = some (.pointer (some ⟨b, 0, none⟩)) := hS.pw); go_simp⟩) hHeld ?_
  try simp only [Act.put, List.getElem_toArray, List.getElem_cons_zero, List.setIfInBounds_toArray, List.set_cons_zero, List.set_cons_succ]
  refine wpAnyH_take (i := 1) (v := .pointer (some ⟨b, 0, none⟩)) rfl (by kernel_rfl) (by kernel_rfl) (by kernel_rfl) (fun _ _ _ h => h) (Or.inl ⟨by rfl, fun W hS => by (have k : W.cell? ⟨p, 0, none⟩ = some (.pointer (some ⟨b, 0, none⟩)) := hS.pw); go_simp⟩) hHeld ?_
  try simp only [Act.put, List.getElem_toArray, List.getElem_cons_succ, List.getElem_cons_zero, List.setIfInBounds_toArray, List.set_cons_zero, List.set_cons_succ]
  refine wpAnyH_take (i := 3) (v := .int .u64 (un found)) rfl (by kernel_rfl) (by kernel_rfl) (by kernel_rfl) (fun _ _ _ h => h) (Or.inl ⟨by rfl, fun W hS => by (have k : W.cell? ⟨f, 0, none⟩ = some (.int .u64 (un found)) := hS.fw); go_simp⟩) hHeld ?_
  try simp only [Act.put, List.getElem_toArray, List.getElem_cons_succ, List.getElem_cons_zero, List.setIfInBounds_toArray, List.set_cons_zero, List.set_cons_succ]
  refine wpAnyH_take (i := 4) (v := .bool won) rfl (by kernel_rfl) (by kernel_rfl) (by kernel_rfl) (fun _ _ _ h => h) (Or.inl ⟨by rfl, fun W hS => by (have k : W.cell? ⟨g, 0, none⟩ = some (.bool won) := hS.gw); go_simp⟩) hHeld ?_
  try simp only [Act.put, List.getElem_toArray, List.getElem_cons_succ, List.getElem_cons_zero, List.setIfInBounds_toArray, List.set_cons_zero, List.set_cons_succ]
  refine wpAnyH_ready (rs := [2]) (by kernel_rfl) (by simp) ?_
  refine AllReadyH.cons rfl (fun K hK2 => ?_) ?_
  · rw [if_pos (by rfl)]
    simp only [List.getElem_toArray, List.getElem_cons_succ, List.getElem_cons_zero]
    go_wp2_with (go_at_call 24; refine (hAsk.out _ (hwk.keep ((Below.refl _ _).drew)) (ht.later ((Below.refl _ _).drew) (Nat.le_refl _))).mono ?_; rintro e w4 ⟨rfl, hb4⟩)
    exact ⟨rfl, rfl, ((Below.refl _ _).drew).trans hb4⟩
  exact AllReadyH.nil
set_option maxRecDepth 100000 in
set_option maxHeartbeats 8000000 in
theorem Step1_0 (p f g c b : Nat) (h : HartV) (op : Int) (d r1 r2 : Nat) (imm : Int) (aq rl : Bool) (pred succ : Int) (found : BitVec 64) (won : Bool) (w : World) (hW : WK b h ⟨op, d, r1, r2, imm, aq, rl, pred, succ⟩ w) (hS0 : SK p f g c b ⟨op, d, r1, r2, imm, aq, rl, pred, succ⟩ found won w) (ht : Tabs w) (hop : op ≤ 9223372036854775807) (hd : d < 32) (hr1 : r1 < 32) (hr2 : r2 < 32) (n0 : Nat) (hn0 : n0 ≤ b) (hg : 0 < n0) (n : BitVec 64) (hn : nextR h ⟨op, d, r1, r2, imm, aq, rl, pred, succ⟩ = some n) (ha : askE h ⟨op, d, r1, r2, imm, aq, rl, pred, succ⟩ = 0) (hck : checkE ⟨op, d, r1, r2, imm, aq, rl, pred, succ⟩ = 0) (hz : d = 0) :
    Calls Tryz.prog 22 #[.pointer (some ⟨p, 0, none⟩), .pointer (some ⟨f, 0, none⟩), .pointer (some ⟨g, 0, none⟩), .pointer (some ⟨c, 0, none⟩)] w fun e w' => e = .returned (.tuple #[]) ∧ WK b (h.goes n) ⟨op, d, r1, r2, imm, aq, rl, pred, succ⟩ w' ∧ Keeps n0 b w w' := by
  have hAsk := Lib.hid (fun W (hW : WK b h ⟨op, d, r1, r2, imm, aq, rl, pred, succ⟩ W) (hT : Tabs W) => ask_any b h op d r1 r2 imm aq rl pred succ W hW hT hop hr1 hr2)
  rw [ha, if_pos rfl] at hAsk
  have hAns := Lib.hid (fun W (hW : WK b h ⟨op, d, r1, r2, imm, aq, rl, pred, succ⟩ W) (hT : Tabs W) => answer_any b h op d r1 r2 imm aq rl pred succ (askV h ⟨op, d, r1, r2, imm, aq, rl, pred, succ⟩) found won W hW hT hop hr1 hr2)
  have hNx : Hid (∀ W, WK b h ⟨op, d, r1, r2, imm, aq, rl, pred, succ⟩ W → Tabs W → Calls Tryz.prog 25 #[.pointer (some ⟨b, 0, none⟩)] W fun e w' => e = .returned (.int .u64 (un n)) ∧ Below W.heap.size W w') := Lib.hid fun W hA hT => by
    have := next_any b h op d r1 r2 imm aq rl pred succ W hA hT hop hr1 hr2
    rw [hn] at this; exact this
  have hWr := Lib.hid (fun W (hT : Tabs W) => Writes_ok ⟨op, d, r1, r2, imm, aq, rl, pred, succ⟩ hop hck W hT)
  unfold InsnV.cells at hWr
  have hwk := hW
  have hlt : 0 ≤ (d : Int) ∧ (d : Int) < 32 := by omega
  have tz : decide (0 < d) = false := by rw [decide_eq_false_iff_not]; omega
  clear ha hck hz
  go_enter Tryz.func22, Tryz.ntmps22
  go_wp2
  refine wp_region_held_drew (S := fun W => SK p f g c b ⟨op, d, r1, r2, imm, aq, rl, pred, succ⟩ found won W) (by kernel_rfl) hS0.drew (fun hHeld => ?_)
  refine wpAnyH_take (i := 0) (v := .pointer (some ⟨b, 0, none⟩)) rfl (by kernel_rfl) (by kernel_rfl) (by kernel_rfl) (fun _ _ _ h => h) (Or.inl ⟨by rfl, fun W hS => by (have k : W.cell? ⟨p, 0, none⟩ = some (.pointer (some ⟨b, 0, none⟩)) := hS.pw); go_simp⟩) hHeld ?_
  try simp only [Act.put, List.getElem_toArray, List.getElem_cons_zero, List.setIfInBounds_toArray, List.set_cons_zero, List.set_cons_succ]
  refine wpAnyH_take (i := 1) (v := .pointer (some ⟨b, 0, none⟩)) rfl (by kernel_rfl) (by kernel_rfl) (by kernel_rfl) (fun _ _ _ h => h) (Or.inl ⟨by rfl, fun W hS => by (have k : W.cell? ⟨p, 0, none⟩ = some (.pointer (some ⟨b, 0, none⟩)) := hS.pw); go_simp⟩) hHeld ?_
  try simp only [Act.put, List.getElem_toArray, List.getElem_cons_succ, List.getElem_cons_zero, List.setIfInBounds_toArray, List.set_cons_zero, List.set_cons_succ]
  refine wpAnyH_take (i := 3) (v := .int .u64 (un found)) rfl (by kernel_rfl) (by kernel_rfl) (by kernel_rfl) (fun _ _ _ h => h) (Or.inl ⟨by rfl, fun W hS => by (have k : W.cell? ⟨f, 0, none⟩ = some (.int .u64 (un found)) := hS.fw); go_simp⟩) hHeld ?_
  try simp only [Act.put, List.getElem_toArray, List.getElem_cons_succ, List.getElem_cons_zero, List.setIfInBounds_toArray, List.set_cons_zero, List.set_cons_succ]
  refine wpAnyH_take (i := 4) (v := .bool won) rfl (by kernel_rfl) (by kernel_rfl) (by kernel_rfl) (fun _ _ _ h => h) (Or.inl ⟨by rfl, fun W hS => by (have k : W.cell? ⟨g, 0, none⟩ = some (.bool won) := hS.gw); go_simp⟩) hHeld ?_
  try simp only [Act.put, List.getElem_toArray, List.getElem_cons_succ, List.getElem_cons_zero, List.setIfInBounds_toArray, List.set_cons_zero, List.set_cons_succ]
  refine wpAnyH_ready (rs := [2]) (by kernel_rfl) (by simp) ?_
  refine AllReadyH.cons rfl (fun K hK2 => ?_) ?_
  · rw [if_pos (by rfl)]
    simp only [List.getElem_toArray, List.getElem_cons_succ, List.getElem_cons_zero]
    go_wp2_with (go_at_call 24; refine (hAsk.out _ (hwk.keep ((Below.refl _ _).drew)) (ht.later ((Below.refl _ _).drew) (Nat.le_refl _))).mono ?_; rintro e w4 ⟨rfl, hb4⟩)
    have hwk4 := (hW.keep ((Below.refl _ _).drew)).keep hb4
    have hbl4 := ((Below.refl _ w).drew).trans hb4
    refine hK2.out _ _ (hHeld.keep hb4) (fun hHeld2 => ?_)
    clear hK2 K hHeld
    have hHeld := hHeld2
    clear hHeld2
    try simp only [Act.put, List.getElem_toArray, List.getElem_cons_succ, List.getElem_cons_zero, List.setIfInBounds_toArray, List.set_cons_zero, List.set_cons_succ]
    refine wpAnyH_ready (rs := [5]) (by kernel_rfl) (by simp) ?_
    refine AllReadyH.cons rfl (fun K hK2 => ?_) ?_
    · rw [if_pos (by rfl)]
      simp only [List.getElem_toArray, List.getElem_cons_succ, List.getElem_cons_zero]
      go_wp2_with (go_at_call 23; refine (hAns.out _ hwk4 (ht.later hbl4 (Nat.le_refl _))).mono ?_; rintro e w5 ⟨rfl, hb5⟩)
      have hwk5 := hwk4.keep hb5
      have hbl5 := hbl4.trans (hb5.mono hbl4.size)
      refine hK2.out _ _ (hHeld.keep hb5) (fun hHeld2 => ?_)
      clear hK2 K hHeld
      have hHeld := hHeld2
      clear hHeld2
      try simp only [Act.put, List.getElem_toArray, List.getElem_cons_succ, List.getElem_cons_zero, List.setIfInBounds_toArray, List.set_cons_zero, List.set_cons_succ]
      refine wpAnyH_take (i := 6) (v := .int .u64 (un (answerV h ⟨op, d, r1, r2, imm, aq, rl, pred, succ⟩ (askV h ⟨op, d, r1, r2, imm, aq, rl, pred, succ⟩) found won))) rfl (by kernel_rfl) (by kernel_rfl) (by kernel_rfl) (fun _ _ _ h => h) (Or.inl ⟨by rfl, fun W _ => by kernel_rfl⟩) hHeld ?_
      try simp only [Act.put, List.getElem_toArray, List.getElem_cons_succ, List.getElem_cons_zero, List.setIfInBounds_toArray, List.set_cons_zero, List.set_cons_succ]
      refine wpAnyH_done (by kernel_rfl) ?_ _
      go_wp2
      refine wp_region_held_drew (S := fun W => SK p f g c b ⟨op, d, r1, r2, imm, aq, rl, pred, succ⟩ found won W) (by kernel_rfl) hHeld.drew (fun hHeld => ?_)
      refine wpAnyH_take (i := 0) (v := .pointer (some ⟨b, 0, none⟩)) rfl (by kernel_rfl) (by kernel_rfl) (by kernel_rfl) (fun _ _ _ h => h) (Or.inl ⟨by rfl, fun W hS => by (have k : W.cell? ⟨p, 0, none⟩ = some (.pointer (some ⟨b, 0, none⟩)) := hS.pw); go_simp⟩) hHeld ?_
      try simp only [Act.put, List.getElem_toArray, List.getElem_cons_zero, List.setIfInBounds_toArray, List.set_cons_zero, List.set_cons_succ]
      refine wpAnyH_take (i := 1) (v := .pointer (some ⟨b, 0, none⟩)) rfl (by kernel_rfl) (by kernel_rfl) (by kernel_rfl) (fun _ _ _ h => h) (Or.inl ⟨by rfl, fun W hS => by (have k : W.cell? ⟨p, 0, none⟩ = some (.pointer (some ⟨b, 0, none⟩)) := hS.pw); go_simp⟩) hHeld ?_
      try simp only [Act.put, List.getElem_toArray, List.getElem_cons_succ, List.getElem_cons_zero, List.setIfInBounds_toArray, List.set_cons_zero, List.set_cons_succ]
      refine wpAnyH_ready (rs := [2]) (by kernel_rfl) (by simp) ?_
      refine AllReadyH.cons rfl (fun K hK2 => ?_) ?_
      · rw [if_pos (by rfl)]
        simp only [List.getElem_toArray, List.getElem_cons_succ, List.getElem_cons_zero]
        go_wp2_with (go_at_call 25; refine (hNx.out _ (hwk5.keep ((Below.refl _ _).drew)) (ht.later hbl5.drew (Nat.le_refl _))).mono ?_; rintro e w6 ⟨rfl, hb6⟩)
        have hwk6 := (hwk5.keep ((Below.refl _ _).drew)).keep hb6
        have hbl6 := hbl5.drew.trans (hb6.mono hbl5.size)
        refine hK2.out _ _ (hHeld.keep hb6) (fun hHeld2 => ?_)
        clear hK2 K hHeld
        have hHeld := hHeld2
        clear hHeld2
        try simp only [Act.put, List.getElem_toArray, List.getElem_cons_succ, List.getElem_cons_zero, List.setIfInBounds_toArray, List.set_cons_zero, List.set_cons_succ]
        refine wpAnyH_take (i := 3) (v := .pointer (some ⟨b, 0, none⟩)) rfl (by kernel_rfl) (by kernel_rfl) (by kernel_rfl) (fun _ _ _ h => h) (Or.inl ⟨by rfl, fun W _ => by kernel_rfl⟩) hHeld ?_
        try simp only [Act.put, List.getElem_toArray, List.getElem_cons_succ, List.getElem_cons_zero, List.setIfInBounds_toArray, List.set_cons_zero, List.set_cons_succ]
        refine wpAnyH_take (i := 4) (v := .pointer (some ⟨b, 0, none⟩)) rfl (by kernel_rfl) (by kernel_rfl) (by kernel_rfl) (fun _ _ _ h => h) (Or.inl ⟨by rfl, fun W _ => by kernel_rfl⟩) hHeld ?_
        try simp only [Act.put, List.getElem_toArray, List.getElem_cons_succ, List.getElem_cons_zero, List.setIfInBounds_toArray, List.set_cons_zero, List.set_cons_succ]
        refine wpAnyH_take (i := 5) (v := .pointer (some ⟨b, 0, none⟩)) rfl (by kernel_rfl) (by kernel_rfl) (by kernel_rfl) (fun _ _ _ h => h) (Or.inl ⟨by rfl, fun W _ => by kernel_rfl⟩) hHeld ?_
        try simp only [Act.put, List.getElem_toArray, List.getElem_cons_succ, List.getElem_cons_zero, List.setIfInBounds_toArray, List.set_cons_zero, List.set_cons_succ]
        refine wpAnyH_ready (rs := [6]) (by kernel_rfl) (by simp) ?_
        refine AllReadyH.cons rfl (fun K hK2 => ?_) ?_
        · rw [if_pos (by rfl)]
          simp only [List.getElem_toArray, List.getElem_cons_succ, List.getElem_cons_zero]
          have q0 : w6.cell? ⟨b, 0, none⟩ = some (.int .u64 (un h.pc)) := hwk6.c 0 (by decide)
          have f0 := hwk6.f 0 (by decide)
          have hk7 : Keeps n0 b w (w6.setCell ⟨b, 0, none⟩ (.int .u64 (un n))) := (Keeps.of_below hbl6 (Nat.le_of_lt (Nat.lt_of_le_of_lt hn0 hW.lt))).setCell hn0 0 _
          have hwk7 := hwk6.setPC n
          have hS7 := hHeld.kept (Keeps.setCell (n := 0) (Keeps.of_below (Below.refl _ _) (Nat.zero_le _)) (Nat.zero_le b) 0 (.int .u64 (un n)))
          go_simp
          refine hK2.out _ _ hS7 (fun hHeld2 => ?_)
          clear hK2 K hHeld hHeld2 q0 f0
          try simp only [Act.put, List.getElem_toArray, List.getElem_cons_succ, List.getElem_cons_zero, List.setIfInBounds_toArray, List.set_cons_zero, List.set_cons_succ]
          generalize World.setCell _ _ _ = W7 at hk7 hwk7 hS7 ⊢
          refine wpAnyH_done (by kernel_rfl) ?_ _
          have k0 : W7.cell? ⟨c, 0, none⟩ = some (Value.int .i64 op) := hS7.cw 0 (by decide)
          have k1 : W7.cell? ⟨c, 1, none⟩ = some (Value.int .i64 d) := hS7.cw 1 (by decide)
          have k2 : W7.cell? ⟨c, 2, none⟩ = some (Value.int .i64 r1) := hS7.cw 2 (by decide)
          have k3 : W7.cell? ⟨c, 3, none⟩ = some (Value.int .i64 r2) := hS7.cw 3 (by decide)
          have k4 : W7.cell? ⟨c, 4, none⟩ = some (Value.int .i64 imm) := hS7.cw 4 (by decide)
          have k5 : W7.cell? ⟨c, 5, none⟩ = some (Value.bool aq) := hS7.cw 5 (by decide)
          have k6 : W7.cell? ⟨c, 6, none⟩ = some (Value.bool rl) := hS7.cw 6 (by decide)
          have k7 : W7.cell? ⟨c, 7, none⟩ = some (Value.int .i64 pred) := hS7.cw 7 (by decide)
          have k8 : W7.cell? ⟨c, 8, none⟩ = some (Value.int .i64 succ) := hS7.cw 8 (by decide)
          have kp := hS7.pw
          have tabs7 := ht.low hk7.bl hg
          go_wp2_with (go_at_call 26; refine (hWr.out _ tabs7).mono ?_; rintro e w8 ⟨rfl, hb8⟩; have hwk8 := hwk7.keep hb8; have kp8 := (hS7.keep hb8).pw; have xd : w8.cell? ⟨b, 1 + d, none⟩ = some (.int .u64 (un (h.x d))) := (hwk8.c (1 + d) (by omega)).trans (congrArg some (hartCell_x (h.goes n) d hd)); have fd : w8.frozen? ⟨b, 1 + d, none⟩ = false := hwk8.f (1 + d) (by omega); have hk8 := hk7.trans (Keeps.of_below (n := n0) (b := b) hb8 (Nat.le_of_lt (Nat.lt_of_le_of_lt hn0 hwk7.lt))))
          exact ⟨rfl, .tuple #[], by simp [results, Tryz.results22], rfl, hwk8, hk8⟩
        exact AllReadyH.nil
      exact AllReadyH.nil
    exact AllReadyH.nil
  exact AllReadyH.nil
set_option maxRecDepth 100000 in
set_option maxHeartbeats 8000000 in
theorem Step1_x (p f g c b : Nat) (h : HartV) (op : Int) (d r1 r2 : Nat) (imm : Int) (aq rl : Bool) (pred succ : Int) (found : BitVec 64) (won : Bool) (w : World) (hW : WK b h ⟨op, d, r1, r2, imm, aq, rl, pred, succ⟩ w) (hS0 : SK p f g c b ⟨op, d, r1, r2, imm, aq, rl, pred, succ⟩ found won w) (ht : Tabs w) (hop : op ≤ 9223372036854775807) (hd : d < 32) (hr1 : r1 < 32) (hr2 : r2 < 32) (n0 : Nat) (hn0 : n0 ≤ b) (hg : 0 < n0) (n : BitVec 64) (hn : nextR h ⟨op, d, r1, r2, imm, aq, rl, pred, succ⟩ = some n) (ha : askE h ⟨op, d, r1, r2, imm, aq, rl, pred, succ⟩ = 0) (hck : checkE ⟨op, d, r1, r2, imm, aq, rl, pred, succ⟩ = 0) (hz : d ≠ 0) :
    Calls Tryz.prog 22 #[.pointer (some ⟨p, 0, none⟩), .pointer (some ⟨f, 0, none⟩), .pointer (some ⟨g, 0, none⟩), .pointer (some ⟨c, 0, none⟩)] w fun e w' => e = .returned (.tuple #[]) ∧ WK b ((h.goes n).set d (answerV h ⟨op, d, r1, r2, imm, aq, rl, pred, succ⟩ (askV h ⟨op, d, r1, r2, imm, aq, rl, pred, succ⟩) found won)) ⟨op, d, r1, r2, imm, aq, rl, pred, succ⟩ w' ∧ Keeps n0 b w w' := by
  have hAsk := Lib.hid (fun W (hW : WK b h ⟨op, d, r1, r2, imm, aq, rl, pred, succ⟩ W) (hT : Tabs W) => ask_any b h op d r1 r2 imm aq rl pred succ W hW hT hop hr1 hr2)
  rw [ha, if_pos rfl] at hAsk
  have hAns := Lib.hid (fun W (hW : WK b h ⟨op, d, r1, r2, imm, aq, rl, pred, succ⟩ W) (hT : Tabs W) => answer_any b h op d r1 r2 imm aq rl pred succ (askV h ⟨op, d, r1, r2, imm, aq, rl, pred, succ⟩) found won W hW hT hop hr1 hr2)
  have hNx : Hid (∀ W, WK b h ⟨op, d, r1, r2, imm, aq, rl, pred, succ⟩ W → Tabs W → Calls Tryz.prog 25 #[.pointer (some ⟨b, 0, none⟩)] W fun e w' => e = .returned (.int .u64 (un n)) ∧ Below W.heap.size W w') := Lib.hid fun W hA hT => by
    have := next_any b h op d r1 r2 imm aq rl pred succ W hA hT hop hr1 hr2
    rw [hn] at this; exact this
  have hWr := Lib.hid (fun W (hT : Tabs W) => Writes_ok ⟨op, d, r1, r2, imm, aq, rl, pred, succ⟩ hop hck W hT)
  unfold InsnV.cells at hWr
  have hwk := hW
  have hlt : 0 ≤ (d : Int) ∧ (d : Int) < 32 := by omega
  have tz : decide (0 < d) = true := by rw [decide_eq_true_iff]; omega
  clear ha hck hz
  go_enter Tryz.func22, Tryz.ntmps22
  go_wp2
  refine wp_region_held_drew (S := fun W => SK p f g c b ⟨op, d, r1, r2, imm, aq, rl, pred, succ⟩ found won W) (by kernel_rfl) hS0.drew (fun hHeld => ?_)
  refine wpAnyH_take (i := 0) (v := .pointer (some ⟨b, 0, none⟩)) rfl (by kernel_rfl) (by kernel_rfl) (by kernel_rfl) (fun _ _ _ h => h) (Or.inl ⟨by rfl, fun W hS => by (have k : W.cell? ⟨p, 0, none⟩ = some (.pointer (some ⟨b, 0, none⟩)) := hS.pw); go_simp⟩) hHeld ?_
  try simp only [Act.put, List.getElem_toArray, List.getElem_cons_zero, List.setIfInBounds_toArray, List.set_cons_zero, List.set_cons_succ]
  refine wpAnyH_take (i := 1) (v := .pointer (some ⟨b, 0, none⟩)) rfl (by kernel_rfl) (by kernel_rfl) (by kernel_rfl) (fun _ _ _ h => h) (Or.inl ⟨by rfl, fun W hS => by (have k : W.cell? ⟨p, 0, none⟩ = some (.pointer (some ⟨b, 0, none⟩)) := hS.pw); go_simp⟩) hHeld ?_
  try simp only [Act.put, List.getElem_toArray, List.getElem_cons_succ, List.getElem_cons_zero, List.setIfInBounds_toArray, List.set_cons_zero, List.set_cons_succ]
  refine wpAnyH_take (i := 3) (v := .int .u64 (un found)) rfl (by kernel_rfl) (by kernel_rfl) (by kernel_rfl) (fun _ _ _ h => h) (Or.inl ⟨by rfl, fun W hS => by (have k : W.cell? ⟨f, 0, none⟩ = some (.int .u64 (un found)) := hS.fw); go_simp⟩) hHeld ?_
  try simp only [Act.put, List.getElem_toArray, List.getElem_cons_succ, List.getElem_cons_zero, List.setIfInBounds_toArray, List.set_cons_zero, List.set_cons_succ]
  refine wpAnyH_take (i := 4) (v := .bool won) rfl (by kernel_rfl) (by kernel_rfl) (by kernel_rfl) (fun _ _ _ h => h) (Or.inl ⟨by rfl, fun W hS => by (have k : W.cell? ⟨g, 0, none⟩ = some (.bool won) := hS.gw); go_simp⟩) hHeld ?_
  try simp only [Act.put, List.getElem_toArray, List.getElem_cons_succ, List.getElem_cons_zero, List.setIfInBounds_toArray, List.set_cons_zero, List.set_cons_succ]
  refine wpAnyH_ready (rs := [2]) (by kernel_rfl) (by simp) ?_
  refine AllReadyH.cons rfl (fun K hK2 => ?_) ?_
  · rw [if_pos (by rfl)]
    simp only [List.getElem_toArray, List.getElem_cons_succ, List.getElem_cons_zero]
    go_wp2_with (go_at_call 24; refine (hAsk.out _ (hwk.keep ((Below.refl _ _).drew)) (ht.later ((Below.refl _ _).drew) (Nat.le_refl _))).mono ?_; rintro e w4 ⟨rfl, hb4⟩)
    have hwk4 := (hW.keep ((Below.refl _ _).drew)).keep hb4
    have hbl4 := ((Below.refl _ w).drew).trans hb4
    refine hK2.out _ _ (hHeld.keep hb4) (fun hHeld2 => ?_)
    clear hK2 K hHeld
    have hHeld := hHeld2
    clear hHeld2
    try simp only [Act.put, List.getElem_toArray, List.getElem_cons_succ, List.getElem_cons_zero, List.setIfInBounds_toArray, List.set_cons_zero, List.set_cons_succ]
    refine wpAnyH_ready (rs := [5]) (by kernel_rfl) (by simp) ?_
    refine AllReadyH.cons rfl (fun K hK2 => ?_) ?_
    · rw [if_pos (by rfl)]
      simp only [List.getElem_toArray, List.getElem_cons_succ, List.getElem_cons_zero]
      go_wp2_with (go_at_call 23; refine (hAns.out _ hwk4 (ht.later hbl4 (Nat.le_refl _))).mono ?_; rintro e w5 ⟨rfl, hb5⟩)
      have hwk5 := hwk4.keep hb5
      have hbl5 := hbl4.trans (hb5.mono hbl4.size)
      refine hK2.out _ _ (hHeld.keep hb5) (fun hHeld2 => ?_)
      clear hK2 K hHeld
      have hHeld := hHeld2
      clear hHeld2
      try simp only [Act.put, List.getElem_toArray, List.getElem_cons_succ, List.getElem_cons_zero, List.setIfInBounds_toArray, List.set_cons_zero, List.set_cons_succ]
      refine wpAnyH_take (i := 6) (v := .int .u64 (un (answerV h ⟨op, d, r1, r2, imm, aq, rl, pred, succ⟩ (askV h ⟨op, d, r1, r2, imm, aq, rl, pred, succ⟩) found won))) rfl (by kernel_rfl) (by kernel_rfl) (by kernel_rfl) (fun _ _ _ h => h) (Or.inl ⟨by rfl, fun W _ => by kernel_rfl⟩) hHeld ?_
      try simp only [Act.put, List.getElem_toArray, List.getElem_cons_succ, List.getElem_cons_zero, List.setIfInBounds_toArray, List.set_cons_zero, List.set_cons_succ]
      refine wpAnyH_done (by kernel_rfl) ?_ _
      go_wp2
      refine wp_region_held_drew (S := fun W => SK p f g c b ⟨op, d, r1, r2, imm, aq, rl, pred, succ⟩ found won W) (by kernel_rfl) hHeld.drew (fun hHeld => ?_)
      refine wpAnyH_take (i := 0) (v := .pointer (some ⟨b, 0, none⟩)) rfl (by kernel_rfl) (by kernel_rfl) (by kernel_rfl) (fun _ _ _ h => h) (Or.inl ⟨by rfl, fun W hS => by (have k : W.cell? ⟨p, 0, none⟩ = some (.pointer (some ⟨b, 0, none⟩)) := hS.pw); go_simp⟩) hHeld ?_
      try simp only [Act.put, List.getElem_toArray, List.getElem_cons_zero, List.setIfInBounds_toArray, List.set_cons_zero, List.set_cons_succ]
      refine wpAnyH_take (i := 1) (v := .pointer (some ⟨b, 0, none⟩)) rfl (by kernel_rfl) (by kernel_rfl) (by kernel_rfl) (fun _ _ _ h => h) (Or.inl ⟨by rfl, fun W hS => by (have k : W.cell? ⟨p, 0, none⟩ = some (.pointer (some ⟨b, 0, none⟩)) := hS.pw); go_simp⟩) hHeld ?_
      try simp only [Act.put, List.getElem_toArray, List.getElem_cons_succ, List.getElem_cons_zero, List.setIfInBounds_toArray, List.set_cons_zero, List.set_cons_succ]
      refine wpAnyH_ready (rs := [2]) (by kernel_rfl) (by simp) ?_
      refine AllReadyH.cons rfl (fun K hK2 => ?_) ?_
      · rw [if_pos (by rfl)]
        simp only [List.getElem_toArray, List.getElem_cons_succ, List.getElem_cons_zero]
        go_wp2_with (go_at_call 25; refine (hNx.out _ (hwk5.keep ((Below.refl _ _).drew)) (ht.later hbl5.drew (Nat.le_refl _))).mono ?_; rintro e w6 ⟨rfl, hb6⟩)
        have hwk6 := (hwk5.keep ((Below.refl _ _).drew)).keep hb6
        have hbl6 := hbl5.drew.trans (hb6.mono hbl5.size)
        refine hK2.out _ _ (hHeld.keep hb6) (fun hHeld2 => ?_)
        clear hK2 K hHeld
        have hHeld := hHeld2
        clear hHeld2
        try simp only [Act.put, List.getElem_toArray, List.getElem_cons_succ, List.getElem_cons_zero, List.setIfInBounds_toArray, List.set_cons_zero, List.set_cons_succ]
        refine wpAnyH_take (i := 3) (v := .pointer (some ⟨b, 0, none⟩)) rfl (by kernel_rfl) (by kernel_rfl) (by kernel_rfl) (fun _ _ _ h => h) (Or.inl ⟨by rfl, fun W _ => by kernel_rfl⟩) hHeld ?_
        try simp only [Act.put, List.getElem_toArray, List.getElem_cons_succ, List.getElem_cons_zero, List.setIfInBounds_toArray, List.set_cons_zero, List.set_cons_succ]
        refine wpAnyH_take (i := 4) (v := .pointer (some ⟨b, 0, none⟩)) rfl (by kernel_rfl) (by kernel_rfl) (by kernel_rfl) (fun _ _ _ h => h) (Or.inl ⟨by rfl, fun W _ => by kernel_rfl⟩) hHeld ?_
        try simp only [Act.put, List.getElem_toArray, List.getElem_cons_succ, List.getElem_cons_zero, List.setIfInBounds_toArray, List.set_cons_zero, List.set_cons_succ]
        refine wpAnyH_take (i := 5) (v := .pointer (some ⟨b, 0, none⟩)) rfl (by kernel_rfl) (by kernel_rfl) (by kernel_rfl) (fun _ _ _ h => h) (Or.inl ⟨by rfl, fun W _ => by kernel_rfl⟩) hHeld ?_
        try simp only [Act.put, List.getElem_toArray, List.getElem_cons_succ, List.getElem_cons_zero, List.setIfInBounds_toArray, List.set_cons_zero, List.set_cons_succ]
        refine wpAnyH_ready (rs := [6]) (by kernel_rfl) (by simp) ?_
        refine AllReadyH.cons rfl (fun K hK2 => ?_) ?_
        · rw [if_pos (by rfl)]
          simp only [List.getElem_toArray, List.getElem_cons_succ, List.getElem_cons_zero]
          have q0 : w6.cell? ⟨b, 0, none⟩ = some (.int .u64 (un h.pc)) := hwk6.c 0 (by decide)
          have f0 := hwk6.f 0 (by decide)
          have hk7 : Keeps n0 b w (w6.setCell ⟨b, 0, none⟩ (.int .u64 (un n))) := (Keeps.of_below hbl6 (Nat.le_of_lt (Nat.lt_of_le_of_lt hn0 hW.lt))).setCell hn0 0 _
          have hwk7 := hwk6.setPC n
          have hS7 := hHeld.kept (Keeps.setCell (n := 0) (Keeps.of_below (Below.refl _ _) (Nat.zero_le _)) (Nat.zero_le b) 0 (.int .u64 (un n)))
          go_simp
          refine hK2.out _ _ hS7 (fun hHeld2 => ?_)
          clear hK2 K hHeld hHeld2 q0 f0
          try simp only [Act.put, List.getElem_toArray, List.getElem_cons_succ, List.getElem_cons_zero, List.setIfInBounds_toArray, List.set_cons_zero, List.set_cons_succ]
          generalize World.setCell _ _ _ = W7 at hk7 hwk7 hS7 ⊢
          refine wpAnyH_done (by kernel_rfl) ?_ _
          have k0 : W7.cell? ⟨c, 0, none⟩ = some (Value.int .i64 op) := hS7.cw 0 (by decide)
          have k1 : W7.cell? ⟨c, 1, none⟩ = some (Value.int .i64 d) := hS7.cw 1 (by decide)
          have k2 : W7.cell? ⟨c, 2, none⟩ = some (Value.int .i64 r1) := hS7.cw 2 (by decide)
          have k3 : W7.cell? ⟨c, 3, none⟩ = some (Value.int .i64 r2) := hS7.cw 3 (by decide)
          have k4 : W7.cell? ⟨c, 4, none⟩ = some (Value.int .i64 imm) := hS7.cw 4 (by decide)
          have k5 : W7.cell? ⟨c, 5, none⟩ = some (Value.bool aq) := hS7.cw 5 (by decide)
          have k6 : W7.cell? ⟨c, 6, none⟩ = some (Value.bool rl) := hS7.cw 6 (by decide)
          have k7 : W7.cell? ⟨c, 7, none⟩ = some (Value.int .i64 pred) := hS7.cw 7 (by decide)
          have k8 : W7.cell? ⟨c, 8, none⟩ = some (Value.int .i64 succ) := hS7.cw 8 (by decide)
          have kp := hS7.pw
          have tabs7 := ht.low hk7.bl hg
          go_wp2_with (go_at_call 26; refine (hWr.out _ tabs7).mono ?_; rintro e w8 ⟨rfl, hb8⟩; have hwk8 := hwk7.keep hb8; have kp8 := (hS7.keep hb8).pw; have xd : w8.cell? ⟨b, 1 + d, none⟩ = some (.int .u64 (un (h.x d))) := (hwk8.c (1 + d) (by omega)).trans (congrArg some (hartCell_x (h.goes n) d hd)); have fd : w8.frozen? ⟨b, 1 + d, none⟩ = false := hwk8.f (1 + d) (by omega); have hk8 := hk7.trans (Keeps.of_below (n := n0) (b := b) hb8 (Nat.le_of_lt (Nat.lt_of_le_of_lt hn0 hwk7.lt))))
          exact ⟨rfl, .tuple #[], by simp [results, Tryz.results22], rfl, hwk8.setX d hd _, hk8.setCell hn0 _ _⟩
        exact AllReadyH.nil
      exact AllReadyH.nil
    exact AllReadyH.nil
  exact AllReadyH.nil
end
end Go.Proofs.YtbglinhglnbfmaaGreatDoor
