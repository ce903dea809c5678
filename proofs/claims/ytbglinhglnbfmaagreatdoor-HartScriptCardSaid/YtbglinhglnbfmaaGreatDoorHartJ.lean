/- The walk of hart.Step at a running hart and a valid instruction. Conditions: the library's table of ASCII spaces lies as its initialiser lays it. -/
import Derived.Test.YtbglinhglnbfmaaGreatDoorHartI
set_option linter.unusedVariables false
namespace Go.Proofs.YtbglinhglnbfmaaGreatDoor
open Go.RowKit
/-- What a hart that goes on is behind an instruction. -/
def goneV (h : HartV) (i : InsnV) (n : BitVec 64) (found : BitVec 64) (won : Bool) : HartV :=
  if i.rd = 0 then h.goes n else (h.goes n).set i.rd.toNat (answerV h i (askV h i) found won)
/-- A hart that ended so. -/
def HartV.ends (h : HartV) (k : Int) : HartV := { h with fin := k }
def HartV.codes (h : HartV) (v : BitVec 64) : HartV := { h with code := v }
def endedV (h : HartV) (k : Int) : HartV := if k = 1 then (h.ends k).codes (h.x 10) else h.ends k
/-- What a hart is behind an instruction. -/
def stepV (h : HartV) (i : InsnV) (found : BitVec 64) (won : Bool) : HartV :=
  if askE h i = 0 then goneV h i ((nextR h i).getD 0#64) found won else endedV h (askE h i)
theorem askE_next {h : HartV} {i : InsnV} (ha : askE h i = 0) : ∃ n, nextR h i = some n := by
  cases hn : nextR h i with
  | none => unfold askE at ha; rw [if_pos hn] at ha; cases ha
  | some n => exact ⟨n, rfl⟩
/-- The cells of a hart in block a. -/
def HC (a : Nat) (h : HartV) (W : World) : Prop := ∀ j, j < 35 → W.cell? ⟨a, j, none⟩ = some (hartCell h j)
theorem HC.ends {a : Nat} {h : HartV} {W : World} (hc : HC a h W) (k : Int) : HC a (h.ends k) (W.setCell ⟨a, 33, none⟩ (.int .i64 k)) := fun j hj => by
  rw [setCell_at (hc 33 (by decide))]
  split
  · rename_i e; subst e; rfl
  · rename_i e
    rw [hc j hj]; unfold hartCell
    by_cases j0 : j = 0
    · rw [if_pos j0, if_pos j0]; rfl
    · rw [if_neg j0, if_neg j0]
      by_cases j32 : j ≤ 32
      · rw [if_pos j32, if_pos j32]; rfl
      · rw [if_neg j32, if_neg j32, if_neg e, if_neg e]; rfl
theorem HC.codes {a : Nat} {h : HartV} {W : World} (hc : HC a h W) (v : BitVec 64) : HC a (h.codes v) (W.setCell ⟨a, 34, none⟩ (.int .u64 (un v))) := fun j hj => by
  rw [setCell_at (hc 34 (by decide))]
  split
  · rename_i e; subst e; rfl
  · rename_i e
    rw [hc j hj]; unfold hartCell
    by_cases j0 : j = 0
    · rw [if_pos j0, if_pos j0]; rfl
    · rw [if_neg j0, if_neg j0]
      by_cases j32 : j ≤ 32
      · rw [if_pos j32, if_pos j32]; rfl
      · rw [if_neg j32, if_neg j32, if_pos (by omega), if_pos (by omega)]; rfl
theorem WK.keepB {b B : Nat} {h : HartV} {i : InsnV} {w w' : World} (hW : WK b h i w) (hB : b < B) (hb : Below B w w') : WK b h i w' :=
  ⟨Nat.lt_of_lt_of_le hW.lt hb.size, fun j hj => by rw [hb.cell (p := ⟨b, j, none⟩) hB]; exact hW.c j hj, fun j hj => by rw [hb.cell (p := ⟨b, 35 + j, none⟩) hB]; exact hW.i j hj, fun j hj => by rw [hb.frozen (p := ⟨b, j, none⟩) hB]; exact hW.f j hj⟩
/-- What Step's frame holds, begun in world w. -/
structure EK (w : World) (h : HartV) (i : InsnV) (found : BitVec 64) (won : Bool) (W : World) : Prop where
  h : HC w.heap.size h W
  hf : ∀ j, j < 35 → W.frozen? ⟨w.heap.size, j, none⟩ = false
  c : ∀ j, j < 9 → W.cell? ⟨w.heap.size + 1, j, none⟩ = some (insnCell i j)
  f : W.cell? ⟨w.heap.size + 2, 0, none⟩ = some (.int .u64 (un found))
  g : W.cell? ⟨w.heap.size + 3, 0, none⟩ = some (.bool won)
  z : W.there (w.heap.size + 4) 0 35
  bl : Below w.heap.size w W
  sz : w.heap.size + 5 ≤ W.heap.size
theorem EK.from {w W W' : World} {h : HartV} {i : InsnV} {found : BitVec 64} {won : Bool} (hE : EK w h i found won W) (hb : ∀ k, k < w.heap.size + 5 → W'.heap[k]? = W.heap[k]?) (hbl : Below w.heap.size w W') (hs : W.heap.size ≤ W'.heap.size) : EK w h i found won W' := by
  have cl : ∀ (x j : Nat), x < w.heap.size + 5 → W'.cell? ⟨x, j, none⟩ = W.cell? ⟨x, j, none⟩ := fun x j hx => World.cell?_of_block (w := W) (hb x hx)
  have fl : ∀ (x j : Nat), x < w.heap.size + 5 → W'.frozen? ⟨x, j, none⟩ = W.frozen? ⟨x, j, none⟩ := fun x j hx => World.frozen?_of_block (w := W) (hb x hx)
  exact ⟨fun j hj => by rw [cl _ _ (by omega)]; exact hE.h j hj, fun j hj => by rw [fl _ _ (by omega)]; exact hE.hf j hj, fun j hj => by rw [cl _ _ (by omega)]; exact hE.c j hj, by rw [cl _ _ (by omega)]; exact hE.f, by rw [cl _ _ (by omega)]; exact hE.g,
    fun j hj => by rw [cl _ _ (by omega), fl _ _ (by omega)]; exact hE.z j hj, hbl, Nat.le_trans hE.sz hs⟩
theorem EK.keep {w W W' : World} {h : HartV} {i : InsnV} {found : BitVec 64} {won : Bool} (hE : EK w h i found won W) {B : Nat} (hB : w.heap.size + 5 ≤ B) (hb : Below B W W') : EK w h i found won W' :=
  hE.from (fun k hk => hb.block k (Nat.lt_of_lt_of_le hk hB)) (hE.bl.trans (hb.mono (by omega))) hb.size
theorem EK.kept {w W W' : World} {h : HartV} {i : InsnV} {found : BitVec 64} {won : Bool} (hE : EK w h i found won W) {b : Nat} (hB : w.heap.size + 5 ≤ b) (hb : Keeps w.heap.size b W W') : EK w h i found won W' :=
  hE.from (fun k hk => hb.block k (Nat.lt_of_lt_of_le hk hE.sz) (by omega)) (hE.bl.trans hb.bl) hb.bl.size
theorem there_fresh (w : World) (cs : Array Value) (t : TypeId) (n : Nat) (hn : n ≤ cs.size) : (w.alloc (.cells cs t)).there w.heap.size 0 n := fun j hj => by
  refine ⟨?_, fresh_thaw w cs t _⟩
  rw [World.cell?_alloc_new, Nat.zero_add, Array.getElem?_eq_getElem (by omega)]; rfl
theorem EK.start (w : World) (h : HartV) (i : InsnV) (found : BitVec 64) (won : Bool) (t1 t2 t3 t4 t5 : TypeId) :
    EK w h i found won (((((w.alloc (.cells (hartArr h) t1)).alloc (.cells i.cells t2)).alloc (.cells #[.int .u64 (un found)] t3)).alloc (.cells #[.bool won] t4)).alloc (.cells #[.int .u64 0, .int .u64 0, .int .u64 0, .int .u64 0, .int .u64 0, .int .u64 0, .int .u64 0, .int .u64 0, .int .u64 0, .int .u64 0, .int .u64 0, .int .u64 0, .int .u64 0, .int .u64 0, .int .u64 0, .int .u64 0, .int .u64 0, .int .u64 0, .int .u64 0, .int .u64 0, .int .u64 0, .int .u64 0, .int .u64 0, .int .u64 0, .int .u64 0, .int .u64 0, .int .u64 0, .int .u64 0, .int .u64 0, .int .u64 0, .int .u64 0, .int .u64 0, .int .u64 0, .int .i64 0, .int .u64 0] t5)) := by
  have n1 : (w.alloc (.cells (hartArr h) t1)).heap.size = w.heap.size + 1 := by simp
  have n2 : ((w.alloc (.cells (hartArr h) t1)).alloc (.cells i.cells t2)).heap.size = w.heap.size + 2 := by simp
  have n3 : (((w.alloc (.cells (hartArr h) t1)).alloc (.cells i.cells t2)).alloc (.cells #[.int .u64 (un found)] t3)).heap.size = w.heap.size + 3 := by simp
  have n4 : ((((w.alloc (.cells (hartArr h) t1)).alloc (.cells i.cells t2)).alloc (.cells #[.int .u64 (un found)] t3)).alloc (.cells #[.bool won] t4)).heap.size = w.heap.size + 4 := by simp
  have k1 : Below (w.heap.size + 1) (w.alloc (.cells (hartArr h) t1)) (((((w.alloc (.cells (hartArr h) t1)).alloc (.cells i.cells t2)).alloc (.cells #[.int .u64 (un found)] t3)).alloc (.cells #[.bool won] t4)).alloc (.cells #[.int .u64 0, .int .u64 0, .int .u64 0, .int .u64 0, .int .u64 0, .int .u64 0, .int .u64 0, .int .u64 0, .int .u64 0, .int .u64 0, .int .u64 0, .int .u64 0, .int .u64 0, .int .u64 0, .int .u64 0, .int .u64 0, .int .u64 0, .int .u64 0, .int .u64 0, .int .u64 0, .int .u64 0, .int .u64 0, .int .u64 0, .int .u64 0, .int .u64 0, .int .u64 0, .int .u64 0, .int .u64 0, .int .u64 0, .int .u64 0, .int .u64 0, .int .u64 0, .int .u64 0, .int .i64 0, .int .u64 0] t5)) :=
    ((((Below.refl _ _).alloc (by omega) _).alloc (by omega) _).alloc (by omega) _).alloc (by omega) _
  have k2 : Below (w.heap.size + 2) ((w.alloc (.cells (hartArr h) t1)).alloc (.cells i.cells t2)) (((((w.alloc (.cells (hartArr h) t1)).alloc (.cells i.cells t2)).alloc (.cells #[.int .u64 (un found)] t3)).alloc (.cells #[.bool won] t4)).alloc (.cells #[.int .u64 0, .int .u64 0, .int .u64 0, .int .u64 0, .int .u64 0, .int .u64 0, .int .u64 0, .int .u64 0, .int .u64 0, .int .u64 0, .int .u64 0, .int .u64 0, .int .u64 0, .int .u64 0, .int .u64 0, .int .u64 0, .int .u64 0, .int .u64 0, .int .u64 0, .int .u64 0, .int .u64 0, .int .u64 0, .int .u64 0, .int .u64 0, .int .u64 0, .int .u64 0, .int .u64 0, .int .u64 0, .int .u64 0, .int .u64 0, .int .u64 0, .int .u64 0, .int .u64 0, .int .i64 0, .int .u64 0] t5)) :=
    (((Below.refl _ _).alloc (by omega) _).alloc (by omega) _).alloc (by omega) _
  refine ⟨fun j hj => ?_, fun j hj => ?_, fun j hj => ?_, ?_, ?_, ?_, ((((( Below.refl _ _).alloc (Nat.le_refl _) _).alloc (by omega) _).alloc (by omega) _).alloc (by omega) _).alloc (by omega) _, by simp⟩
  · rw [k1.cell (p := ⟨w.heap.size, j, none⟩) (by show w.heap.size < _; omega), World.cell?_alloc_new, hartArr_at h j hj]
  · rw [k1.frozen (p := ⟨w.heap.size, j, none⟩) (by show w.heap.size < _; omega)]; exact fresh_thaw _ _ _ _
  · rw [k2.cell (p := ⟨w.heap.size + 1, j, none⟩) (by show w.heap.size + 1 < _; omega), ← n1, World.cell?_alloc_new]
    rcases (show j = 0 ∨ j = 1 ∨ j = 2 ∨ j = 3 ∨ j = 4 ∨ j = 5 ∨ j = 6 ∨ j = 7 ∨ j = 8 by omega) with rfl | rfl | rfl | rfl | rfl | rfl | rfl | rfl | rfl <;> rfl
  · rw [(((Below.refl _ _).alloc (by omega) _).alloc (by omega) _ : Below (w.heap.size + 3) (((w.alloc (.cells (hartArr h) t1)).alloc (.cells i.cells t2)).alloc (.cells #[.int .u64 (un found)] t3)) _).cell (p := ⟨w.heap.size + 2, 0, none⟩) (by show w.heap.size + 2 < _; omega), ← n2, World.cell?_alloc_new]; rfl
  · rw [((Below.refl _ _).alloc (by omega) _ : Below (w.heap.size + 4) ((((w.alloc (.cells (hartArr h) t1)).alloc (.cells i.cells t2)).alloc (.cells #[.int .u64 (un found)] t3)).alloc (.cells #[.bool won] t4)) _).cell (p := ⟨w.heap.size + 3, 0, none⟩) (by show w.heap.size + 3 < _; omega), ← n3, World.cell?_alloc_new]; rfl
  · rw [← n4]; exact there_fresh _ _ _ 35 (by simp)
theorem EK.facts {w W : World} {h : HartV} {op : Int} {d r1 r2 : Nat} {imm : Int} {aq rl : Bool} {pred succ : Int} {found : BitVec 64} {won : Bool} (hE : EK w h ⟨op, d, r1, r2, imm, aq, rl, pred, succ⟩ found won W) :
    W.rangeAt w.heap.size 0 (hartL h) ∧ W.cell? ⟨w.heap.size + 1, 0, none⟩ = some (Value.int .i64 op) ∧ W.cell? ⟨w.heap.size + 1, 1, none⟩ = some (Value.int .i64 d) ∧ W.cell? ⟨w.heap.size + 1, 2, none⟩ = some (Value.int .i64 r1) ∧ W.cell? ⟨w.heap.size + 1, 3, none⟩ = some (Value.int .i64 r2) ∧ W.cell? ⟨w.heap.size + 1, 4, none⟩ = some (Value.int .i64 imm) ∧ W.cell? ⟨w.heap.size + 1, 5, none⟩ = some (Value.bool aq) ∧ W.cell? ⟨w.heap.size + 1, 6, none⟩ = some (Value.bool rl) ∧ W.cell? ⟨w.heap.size + 1, 7, none⟩ = some (Value.int .i64 pred) ∧ W.cell? ⟨w.heap.size + 1, 8, none⟩ = some (Value.int .i64 succ) :=
  ⟨hart_range hE.h, hE.c 0 (by decide), hE.c 1 (by decide), hE.c 2 (by decide), hE.c 3 (by decide), hE.c 4 (by decide), hE.c 5 (by decide), hE.c 6 (by decide), hE.c 7 (by decide), hE.c 8 (by decide)⟩
theorem hartL_one (h : HartV) : (hartL h).toArray.all (·.oneCell') = true := all_oneCell_toArray (fun v hv => by
  obtain ⟨j, _, rfl⟩ := List.mem_map.1 hv
  unfold hartCell
  split
  · rfl
  · split
    · rfl
    · split <;> rfl)
theorem try_off (w : World) (p b : Nat) (h : HartV) (op : Int) (d r1 r2 : Nat) (imm : Int) (aq rl : Bool) (pred succ : Int) (found : BitVec 64) (won : Bool) (W : World) (hE : EK w h ⟨op, d, r1, r2, imm, aq, rl, pred, succ⟩ found won W) (hW : WK b h ⟨op, d, r1, r2, imm, aq, rl, pred, succ⟩ W) (hp : W.cell? ⟨p, 0, none⟩ = some (.pointer (some ⟨b, 0, none⟩))) (hpb : p ≠ b) (hb5 : w.heap.size + 5 ≤ b) (ht : Tabs W) (hg : 0 < w.heap.size) (hop : op ≤ 9223372036854775807) (hd : d < 32) (hr1 : r1 < 32) (hr2 : r2 < 32) (k : Int) (hk : k ≠ 0) (ha : askE h ⟨op, d, r1, r2, imm, aq, rl, pred, succ⟩ = k) :
    Calls Tryz.prog 21 #[.func (Fn.func 22) #[] #[.pointer (some ⟨p, 0, none⟩), .pointer (some ⟨w.heap.size + 2, 0, none⟩), .pointer (some ⟨w.heap.size + 3, 0, none⟩), .pointer (some ⟨w.heap.size + 1, 0, none⟩)]] W fun e w' => e = .returned (.int .i64 k) ∧ EK w h ⟨op, d, r1, r2, imm, aq, rl, pred, succ⟩ found won w' := by
  have hb0 : Below W.heap.size W (W.alloc (.cells #[.int .i64 0] 3)) := (Below.refl _ _).alloc (Nat.le_refl _) _
  have hS : SK p (w.heap.size + 2) (w.heap.size + 3) (w.heap.size + 1) b ⟨op, d, r1, r2, imm, aq, rl, pred, succ⟩ found won W := ⟨hp, hE.f, hE.g, hE.c, hpb, by omega, by omega, by omega⟩
  have c0 : (W.alloc (.cells #[.int .i64 0] 3)).cell? ⟨W.heap.size, 0, none⟩ = some (.int .i64 0) := World.cell?_alloc_new _ _ _ 0
  have z0 := fresh_thaw W #[.int .i64 0] 3 0
  have lt0 : W.heap.size < (W.alloc (.cells #[.int .i64 0] 3)).heap.size := by simp
  have sz := hE.sz
  have plt : p < W.heap.size := World.block_lt_of_cell? W _ hp
  have D : Does 22 #[.pointer (some ⟨p, 0, none⟩), .pointer (some ⟨w.heap.size + 2, 0, none⟩), .pointer (some ⟨w.heap.size + 3, 0, none⟩), .pointer (some ⟨w.heap.size + 1, 0, none⟩)] W (fun _ => False) (fun k' w' => k' = k ∧ Below W.heap.size W w') := ⟨by
    refine (Step1_thrown p _ _ _ b h op d r1 r2 imm aq rl pred succ found won _ (hW.keep hb0) (hS.keep hb0) (ht.later hb0 (Nat.le_refl _)) hop hd hr1 hr2 k hk ha).mono ?_
    rintro e w' ⟨rfl, hb⟩
    exact ⟨.inr ⟨k, rfl, rfl, hb0.trans (hb.mono (Nat.le_of_lt lt0))⟩, by rw [hb.cell (p := ⟨W.heap.size, 0, none⟩) lt0]; exact c0, by rw [hb.frozen (p := ⟨W.heap.size, 0, none⟩) lt0]; exact z0⟩⟩
  refine (try_step _ W _ _ D).mono ?_
  rintro e w' ⟨w1, ⟨-, h1, -⟩ | ⟨k', rfl, ⟨rfl, hb1⟩, rfl⟩⟩
  · exact h1.elim
  · exact ⟨rfl, (hE.keep sz hb1).keep sz ((Below.refl W.heap.size _).setCell (p := ⟨W.heap.size, 0, none⟩) (Nat.le_refl W.heap.size) _)⟩
theorem try_go (w : World) (p b : Nat) (h : HartV) (op : Int) (d r1 r2 : Nat) (imm : Int) (aq rl : Bool) (pred succ : Int) (found : BitVec 64) (won : Bool) (W : World) (hE : EK w h ⟨op, d, r1, r2, imm, aq, rl, pred, succ⟩ found won W) (hW : WK b h ⟨op, d, r1, r2, imm, aq, rl, pred, succ⟩ W) (hp : W.cell? ⟨p, 0, none⟩ = some (.pointer (some ⟨b, 0, none⟩))) (hpb : p ≠ b) (hb5 : w.heap.size + 5 ≤ b) (ht : Tabs W) (hg : 0 < w.heap.size) (hop : op ≤ 9223372036854775807) (hd : d < 32) (hr1 : r1 < 32) (hr2 : r2 < 32) (ha : askE h ⟨op, d, r1, r2, imm, aq, rl, pred, succ⟩ = 0) (hck : checkE ⟨op, d, r1, r2, imm, aq, rl, pred, succ⟩ = 0) :
    Calls Tryz.prog 21 #[.func (Fn.func 22) #[] #[.pointer (some ⟨p, 0, none⟩), .pointer (some ⟨w.heap.size + 2, 0, none⟩), .pointer (some ⟨w.heap.size + 3, 0, none⟩), .pointer (some ⟨w.heap.size + 1, 0, none⟩)]] W fun e w' => e = .returned (.int .i64 0) ∧ EK w h ⟨op, d, r1, r2, imm, aq, rl, pred, succ⟩ found won w' ∧ WK b (stepV h ⟨op, d, r1, r2, imm, aq, rl, pred, succ⟩ found won) ⟨op, d, r1, r2, imm, aq, rl, pred, succ⟩ w' ∧ w'.cell? ⟨p, 0, none⟩ = some (.pointer (some ⟨b, 0, none⟩)) := by
  have hb0 : Below W.heap.size W (W.alloc (.cells #[.int .i64 0] 3)) := (Below.refl _ _).alloc (Nat.le_refl _) _
  have hS : SK p (w.heap.size + 2) (w.heap.size + 3) (w.heap.size + 1) b ⟨op, d, r1, r2, imm, aq, rl, pred, succ⟩ found won W := ⟨hp, hE.f, hE.g, hE.c, hpb, by omega, by omega, by omega⟩
  have c0 : (W.alloc (.cells #[.int .i64 0] 3)).cell? ⟨W.heap.size, 0, none⟩ = some (.int .i64 0) := World.cell?_alloc_new _ _ _ 0
  have z0 := fresh_thaw W #[.int .i64 0] 3 0
  have lt0 : W.heap.size < (W.alloc (.cells #[.int .i64 0] 3)).heap.size := by simp
  have sz := hE.sz
  have plt : p < W.heap.size := World.block_lt_of_cell? W _ hp
  obtain ⟨n, hn⟩ := askE_next ha
  have hv : stepV h ⟨op, d, r1, r2, imm, aq, rl, pred, succ⟩ found won = goneV h ⟨op, d, r1, r2, imm, aq, rl, pred, succ⟩ n found won := by unfold stepV; rw [if_pos ha, hn]; rfl
  rw [hv]
  have blt := hW.lt
  have D : Does 22 #[.pointer (some ⟨p, 0, none⟩), .pointer (some ⟨w.heap.size + 2, 0, none⟩), .pointer (some ⟨w.heap.size + 3, 0, none⟩), .pointer (some ⟨w.heap.size + 1, 0, none⟩)] W (fun w' => WK b (goneV h ⟨op, d, r1, r2, imm, aq, rl, pred, succ⟩ n found won) ⟨op, d, r1, r2, imm, aq, rl, pred, succ⟩ w' ∧ Keeps w.heap.size b W w') (fun _ _ => False) := ⟨by
    by_cases hz : d = 0
    · refine (Step1_0 p _ _ _ b h op d r1 r2 imm aq rl pred succ found won _ (hW.keep hb0) (hS.keep hb0) (ht.later hb0 (Nat.le_refl _)) hop hd hr1 hr2 w.heap.size (by omega) hg n hn ha hck hz).mono ?_
      rintro e w' ⟨rfl, hw, hk⟩
      have hgo : goneV h ⟨op, d, r1, r2, imm, aq, rl, pred, succ⟩ n found won = h.goes n := by unfold goneV; exact if_pos (by rw [hz]; rfl)
      rw [hgo]
      exact ⟨.inl ⟨rfl, hw, (Keeps.of_below hb0 (by omega)).trans hk⟩, by rw [hk.cell 0 lt0 (by omega)]; exact c0, by rw [hk.frozen 0 lt0 (by omega)]; exact z0⟩
    · refine (Step1_x p _ _ _ b h op d r1 r2 imm aq rl pred succ found won _ (hW.keep hb0) (hS.keep hb0) (ht.later hb0 (Nat.le_refl _)) hop hd hr1 hr2 w.heap.size (by omega) hg n hn ha hck hz).mono ?_
      rintro e w' ⟨rfl, hw, hk⟩
      have hgo : goneV h ⟨op, d, r1, r2, imm, aq, rl, pred, succ⟩ n found won = (h.goes n).set d (answerV h ⟨op, d, r1, r2, imm, aq, rl, pred, succ⟩ (askV h ⟨op, d, r1, r2, imm, aq, rl, pred, succ⟩) found won) := by unfold goneV; exact if_neg (fun e => hz (Int.ofNat.inj e))
      rw [hgo]
      exact ⟨.inl ⟨rfl, hw, (Keeps.of_below hb0 (by omega)).trans hk⟩, by rw [hk.cell 0 lt0 (by omega)]; exact c0, by rw [hk.frozen 0 lt0 (by omega)]; exact z0⟩⟩
  refine (try_step _ W _ _ D).mono ?_
  rintro e w' ⟨w1, ⟨rfl, ⟨hw, hk⟩, rfl⟩ | ⟨k', -, h1, -⟩⟩
  · have hset : Below W.heap.size w1 (w1.setCell ⟨W.heap.size, 0, none⟩ (.int .i64 0)) := (Below.refl W.heap.size _).setCell (p := ⟨W.heap.size, 0, none⟩) (Nat.le_refl W.heap.size) _
    exact ⟨rfl, (hE.kept hb5 hk).keep sz hset, hw.keepB blt hset, by rw [hset.cell (p := ⟨p, 0, none⟩) plt, hk.cell 0 plt hpb]; exact hp⟩
  · exact h1.elim
end Go.Proofs.YtbglinhglnbfmaaGreatDoor
