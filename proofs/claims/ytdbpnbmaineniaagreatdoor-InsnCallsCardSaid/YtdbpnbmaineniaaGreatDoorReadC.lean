/- The walk of the document's Read. Conditions: none. -/
import Derived.Test.YtdbpnbmaineniaaGreatDoorReadAD
import Derived.Test.YtdbpnbmaineniaaGreatDoorTextCG
import Derived.Deep.CutBlock
import Derived.Deep.DeepCutAuto
set_option linter.unusedSimpArgs false
namespace Go.Proofs.YtdbpnbmaineniaaGreatDoor
open Go.RowKit
theorem regB_size (p : ByteArray × Bool) : (regB p).2.1.size ≤ p.1.size := Nat.le_trans (rest_size _) (eatB_size _ p)
theorem immB_size (p : ByteArray × Bool) : (immB p).2.1.size ≤ p.1.size := by
  unfold immB
  refine Nat.le_trans (rest_size _) ?_
  split
  · rw [ByteArray.size_extract]; omega
  · exact Nat.le_refl _
theorem partB_size (p : ByteArray × Bool) : (partB p).2.1.size ≤ p.1.size := by
  unfold partB
  split <;> exact rest_size _
/-- The walk's frame: the eater in g, the instruction in b, the answer in the world's first new block. -/
structure RF (w : World) (g b : Nat) (p : ByteArray × Bool) (i : InsnV) (W : World) : Prop where
  e : EC g p W
  c : ∀ j, j < 9 → W.cell? ⟨b, j, none⟩ = i.cells[j]?
  f : ∀ j, j < 9 → W.frozen? ⟨b, j, none⟩ = false
  r : W.there w.heap.size 0 9
  bl : Below w.heap.size w W
  l1 : w.heap.size < g
  l2 : g < b
  lt : b < W.heap.size
theorem RF.eats {w W W' : World} {g b : Nat} {p q : ByteArray × Bool} {i : InsnV} (h : RF w g b p i W) (hE : EC g q W') (hK : KE g W W') : RF w g b q i W' := by
  have h1 := h.l1; have h2 := h.l2; have h3 := h.lt
  exact ⟨hE, fun j hj => by rw [hK.cell j h3 (by omega)]; exact h.c j hj, fun j hj => by rw [hK.frozen j h3 (by omega)]; exact h.f j hj,
    fun j hj => by rw [hK.cell (0 + j) (by omega) (by omega), hK.frozen (0 + j) (by omega) (by omega)]; exact h.r j hj, h.bl.trans (hK.bl.mono (by omega)), h1, h2, Nat.lt_of_lt_of_le h3 hK.bl.size⟩
theorem RF.keep {w W W' : World} {g b : Nat} {p : ByteArray × Bool} {i : InsnV} (h : RF w g b p i W) (hb : Below W.heap.size W W') : RF w g b p i W' :=
  h.eats (h.e.keep hb) (KE.of_below hb (Nat.le_of_lt (Nat.lt_trans h.l2 h.lt)))
theorem RF.put {w W : World} {g b : Nat} {p : ByteArray × Bool} {i i' : InsnV} (h : RF w g b p i W) (j : Nat) (hj : j < 9) (v : Value) (hi : ∀ k, k < 9 → i'.cells[k]? = if k = j then some v else i.cells[k]?) : RF w g b p i' (W.setCell ⟨b, j, none⟩ v) := by
  have h1 := h.l1; have h2 := h.l2; have h3 := h.lt
  have hK : KE b W (W.setCell ⟨b, j, none⟩ v) := (KE.refl b W).setCell j v
  have hu : ∃ u, W.cell? ⟨b, j, none⟩ = some u := by
    rw [h.c j hj]
    exact ⟨i.cells[j]'hj, Array.getElem?_eq_getElem hj⟩
  obtain ⟨u, hu⟩ := hu
  have hge : g < W.heap.size := by omega
  refine ⟨⟨by rw [hK.cell 0 hge (by omega)]; exact h.e.cs, by rw [hK.cell 1 hge (by omega)]; exact h.e.cb, by rw [hK.frozen 0 hge (by omega)]; exact h.e.fs, by rw [hK.frozen 1 hge (by omega)]; exact h.e.fb, Nat.lt_of_lt_of_le hge hK.bl.size⟩, fun k hk => ?_, fun k hk => ?_, fun k hk => ?_, h.bl.trans (hK.bl.mono (by omega)), h1, h2, Nat.lt_of_lt_of_le h3 hK.bl.size⟩
  · rw [setCell_in hu, hi k hk]
    split
    · rfl
    · exact h.c k hk
  · rw [setCell_froz]; exact h.f k hk
  · rw [hK.cell (0 + k) (by omega) (by omega), hK.frozen (0 + k) (by omega) (by omega)]; exact h.r k hk
theorem RF.set_op {w W : World} {g b : Nat} {p : ByteArray × Bool} {i : InsnV} (h : RF w g b p i W) (n : Int) : RF w g b p { i with op := n } (W.setCell ⟨b, 0, none⟩ (.int .i64 n)) := h.put 0 (by decide) _ fun k hk => by
  rcases (show k = 0 ∨ k = 1 ∨ k = 2 ∨ k = 3 ∨ k = 4 ∨ k = 5 ∨ k = 6 ∨ k = 7 ∨ k = 8 by omega) with rfl | rfl | rfl | rfl | rfl | rfl | rfl | rfl | rfl <;> rfl
theorem RF.at_op {w W : World} {g b : Nat} {p : ByteArray × Bool} {i : InsnV} (h : RF w g b p i W) : W.cell? ⟨b, 0, none⟩ = some (.int .i64 i.op) := h.c 0 (by decide)
theorem RF.set_rd {w W : World} {g b : Nat} {p : ByteArray × Bool} {i : InsnV} (h : RF w g b p i W) (n : Int) : RF w g b p { i with rd := n } (W.setCell ⟨b, 1, none⟩ (.int .i64 n)) := h.put 1 (by decide) _ fun k hk => by
  rcases (show k = 0 ∨ k = 1 ∨ k = 2 ∨ k = 3 ∨ k = 4 ∨ k = 5 ∨ k = 6 ∨ k = 7 ∨ k = 8 by omega) with rfl | rfl | rfl | rfl | rfl | rfl | rfl | rfl | rfl <;> rfl
theorem RF.at_rd {w W : World} {g b : Nat} {p : ByteArray × Bool} {i : InsnV} (h : RF w g b p i W) : W.cell? ⟨b, 1, none⟩ = some (.int .i64 i.rd) := h.c 1 (by decide)
theorem RF.set_rs1 {w W : World} {g b : Nat} {p : ByteArray × Bool} {i : InsnV} (h : RF w g b p i W) (n : Int) : RF w g b p { i with rs1 := n } (W.setCell ⟨b, 2, none⟩ (.int .i64 n)) := h.put 2 (by decide) _ fun k hk => by
  rcases (show k = 0 ∨ k = 1 ∨ k = 2 ∨ k = 3 ∨ k = 4 ∨ k = 5 ∨ k = 6 ∨ k = 7 ∨ k = 8 by omega) with rfl | rfl | rfl | rfl | rfl | rfl | rfl | rfl | rfl <;> rfl
theorem RF.at_rs1 {w W : World} {g b : Nat} {p : ByteArray × Bool} {i : InsnV} (h : RF w g b p i W) : W.cell? ⟨b, 2, none⟩ = some (.int .i64 i.rs1) := h.c 2 (by decide)
theorem RF.set_rs2 {w W : World} {g b : Nat} {p : ByteArray × Bool} {i : InsnV} (h : RF w g b p i W) (n : Int) : RF w g b p { i with rs2 := n } (W.setCell ⟨b, 3, none⟩ (.int .i64 n)) := h.put 3 (by decide) _ fun k hk => by
  rcases (show k = 0 ∨ k = 1 ∨ k = 2 ∨ k = 3 ∨ k = 4 ∨ k = 5 ∨ k = 6 ∨ k = 7 ∨ k = 8 by omega) with rfl | rfl | rfl | rfl | rfl | rfl | rfl | rfl | rfl <;> rfl
theorem RF.at_rs2 {w W : World} {g b : Nat} {p : ByteArray × Bool} {i : InsnV} (h : RF w g b p i W) : W.cell? ⟨b, 3, none⟩ = some (.int .i64 i.rs2) := h.c 3 (by decide)
theorem RF.set_imm {w W : World} {g b : Nat} {p : ByteArray × Bool} {i : InsnV} (h : RF w g b p i W) (n : Int) : RF w g b p { i with imm := n } (W.setCell ⟨b, 4, none⟩ (.int .i64 n)) := h.put 4 (by decide) _ fun k hk => by
  rcases (show k = 0 ∨ k = 1 ∨ k = 2 ∨ k = 3 ∨ k = 4 ∨ k = 5 ∨ k = 6 ∨ k = 7 ∨ k = 8 by omega) with rfl | rfl | rfl | rfl | rfl | rfl | rfl | rfl | rfl <;> rfl
theorem RF.at_imm {w W : World} {g b : Nat} {p : ByteArray × Bool} {i : InsnV} (h : RF w g b p i W) : W.cell? ⟨b, 4, none⟩ = some (.int .i64 i.imm) := h.c 4 (by decide)
theorem RF.set_aq {w W : World} {g b : Nat} {p : ByteArray × Bool} {i : InsnV} (h : RF w g b p i W) (n : Bool) : RF w g b p { i with aq := n } (W.setCell ⟨b, 5, none⟩ (.bool n)) := h.put 5 (by decide) _ fun k hk => by
  rcases (show k = 0 ∨ k = 1 ∨ k = 2 ∨ k = 3 ∨ k = 4 ∨ k = 5 ∨ k = 6 ∨ k = 7 ∨ k = 8 by omega) with rfl | rfl | rfl | rfl | rfl | rfl | rfl | rfl | rfl <;> rfl
theorem RF.at_aq {w W : World} {g b : Nat} {p : ByteArray × Bool} {i : InsnV} (h : RF w g b p i W) : W.cell? ⟨b, 5, none⟩ = some (.bool i.aq) := h.c 5 (by decide)
theorem RF.set_rl {w W : World} {g b : Nat} {p : ByteArray × Bool} {i : InsnV} (h : RF w g b p i W) (n : Bool) : RF w g b p { i with rl := n } (W.setCell ⟨b, 6, none⟩ (.bool n)) := h.put 6 (by decide) _ fun k hk => by
  rcases (show k = 0 ∨ k = 1 ∨ k = 2 ∨ k = 3 ∨ k = 4 ∨ k = 5 ∨ k = 6 ∨ k = 7 ∨ k = 8 by omega) with rfl | rfl | rfl | rfl | rfl | rfl | rfl | rfl | rfl <;> rfl
theorem RF.at_rl {w W : World} {g b : Nat} {p : ByteArray × Bool} {i : InsnV} (h : RF w g b p i W) : W.cell? ⟨b, 6, none⟩ = some (.bool i.rl) := h.c 6 (by decide)
theorem RF.set_pred {w W : World} {g b : Nat} {p : ByteArray × Bool} {i : InsnV} (h : RF w g b p i W) (n : Int) : RF w g b p { i with pred := n } (W.setCell ⟨b, 7, none⟩ (.int .i64 n)) := h.put 7 (by decide) _ fun k hk => by
  rcases (show k = 0 ∨ k = 1 ∨ k = 2 ∨ k = 3 ∨ k = 4 ∨ k = 5 ∨ k = 6 ∨ k = 7 ∨ k = 8 by omega) with rfl | rfl | rfl | rfl | rfl | rfl | rfl | rfl | rfl <;> rfl
theorem RF.at_pred {w W : World} {g b : Nat} {p : ByteArray × Bool} {i : InsnV} (h : RF w g b p i W) : W.cell? ⟨b, 7, none⟩ = some (.int .i64 i.pred) := h.c 7 (by decide)
theorem RF.set_succ {w W : World} {g b : Nat} {p : ByteArray × Bool} {i : InsnV} (h : RF w g b p i W) (n : Int) : RF w g b p { i with succ := n } (W.setCell ⟨b, 8, none⟩ (.int .i64 n)) := h.put 8 (by decide) _ fun k hk => by
  rcases (show k = 0 ∨ k = 1 ∨ k = 2 ∨ k = 3 ∨ k = 4 ∨ k = 5 ∨ k = 6 ∨ k = 7 ∨ k = 8 by omega) with rfl | rfl | rfl | rfl | rfl | rfl | rfl | rfl | rfl <;> rfl
theorem RF.at_succ {w W : World} {g b : Nat} {p : ByteArray × Bool} {i : InsnV} (h : RF w g b p i W) : W.cell? ⟨b, 8, none⟩ = some (.int .i64 i.succ) := h.c 8 (by decide)
theorem RF.range {w W : World} {g b : Nat} {p : ByteArray × Bool} {i : InsnV} (h : RF w g b p i W) : W.rangeAt b 0 i.cells.toList := fun j v hv => by
  have hj : j < 9 := by
    rcases Nat.lt_or_ge j 9 with hj | hj
    · exact hj
    · rw [List.getElem?_eq_none (show i.cells.toList.length ≤ j from hj)] at hv; cases hv
  rw [Nat.zero_add, h.c j hj]
  simpa using hv
theorem fresh_thawR (w : World) (cs : Array Value) (t : TypeId) (j : Nat) : (w.alloc (.cells cs t)).frozen? ⟨w.heap.size, j, none⟩ = false := by
  rw [frozen?_alloc_cells]; unfold World.frozen?; rw [Array.getElem?_eq_none (Nat.le_refl _)]
/-- The ends of an operation's name, behind the instruction. -/
structure DC (b : Nat) (W : World) : Prop where
  c : ∀ k, k < 4 → W.cell? ⟨b + 1, k, none⟩ = some (.string (endsB k))
  lt : b + 1 < W.heap.size
theorem DC.keep {b : Nat} {W W' : World} (h : DC b W) (hb : Below W.heap.size W W') : DC b W' := ⟨fun k hk => by rw [hb.cell (p := ⟨b + 1, k, none⟩) h.lt]; exact h.c k hk, Nat.lt_of_lt_of_le h.lt hb.size⟩
theorem DC.put {b j : Nat} {v : Value} {W : World} (h : DC b W) : DC b (W.setCell ⟨b, j, none⟩ v) := by
  have hK : KE b W (W.setCell ⟨b, j, none⟩ v) := (KE.refl b W).setCell j v
  exact ⟨fun k hk => by rw [hK.cell k h.lt (by omega)]; exact h.c k hk, Nat.lt_of_lt_of_le h.lt hK.bl.size⟩
theorem read_start (w : World) (s : ByteArray) (t t2 : TypeId) : EC (w.heap.size + 1) (s, false) ((w.alloc (.cells #[.int .i64 0, .int .i64 0, .int .i64 0, .int .i64 0, .int .i64 0, .bool false, .bool false, .int .i64 0, .int .i64 0] t)).alloc (.cells #[.string s, .bool false] t2)) ∧ ((w.alloc (.cells #[.int .i64 0, .int .i64 0, .int .i64 0, .int .i64 0, .int .i64 0, .bool false, .bool false, .int .i64 0, .int .i64 0] t)).alloc (.cells #[.string s, .bool false] t2)).there w.heap.size 0 9 ∧ Below w.heap.size w ((w.alloc (.cells #[.int .i64 0, .int .i64 0, .int .i64 0, .int .i64 0, .int .i64 0, .bool false, .bool false, .int .i64 0, .int .i64 0] t)).alloc (.cells #[.string s, .bool false] t2)) := by
  have n1 : (w.alloc (.cells #[.int .i64 0, .int .i64 0, .int .i64 0, .int .i64 0, .int .i64 0, .bool false, .bool false, .int .i64 0, .int .i64 0] t)).heap.size = w.heap.size + 1 := by simp
  have h1 : Below (w.alloc (.cells #[.int .i64 0, .int .i64 0, .int .i64 0, .int .i64 0, .int .i64 0, .bool false, .bool false, .int .i64 0, .int .i64 0] t)).heap.size (w.alloc (.cells #[.int .i64 0, .int .i64 0, .int .i64 0, .int .i64 0, .int .i64 0, .bool false, .bool false, .int .i64 0, .int .i64 0] t)) ((w.alloc (.cells #[.int .i64 0, .int .i64 0, .int .i64 0, .int .i64 0, .int .i64 0, .bool false, .bool false, .int .i64 0, .int .i64 0] t)).alloc (.cells #[.string s, .bool false] t2)) := (Below.refl _ _).alloc (Nat.le_refl _) _
  refine ⟨⟨?_, ?_, ?_, ?_, by simp⟩, fun j hj => ?_, ((Below.refl _ _).alloc (Nat.le_refl _) _).alloc (by simp) _⟩
  · rw [← n1, World.cell?_alloc_new]; rfl
  · rw [← n1, World.cell?_alloc_new]; rfl
  · rw [← n1]; exact fresh_thawR _ _ _ _
  · rw [← n1]; exact fresh_thawR _ _ _ _
  · rw [h1.cell (p := ⟨w.heap.size, 0 + j, none⟩) (by rw [n1]; show w.heap.size < _; omega), h1.frozen (p := ⟨w.heap.size, 0 + j, none⟩) (by rw [n1]; show w.heap.size < _; omega)]
    refine ⟨?_, fresh_thawR _ _ _ _⟩
    rw [World.cell?_alloc_new, Nat.zero_add]
    show (zeroI.cells[j]?).isSome = true
    rw [Array.getElem?_eq_getElem (show j < zeroI.cells.size from hj)]; rfl
theorem read_boxed {w w1 : World} {q : ByteArray × Bool} (hE : EC (w.heap.size + 1) q w1) (hr : w1.there w.heap.size 0 9) (hb : Below w.heap.size w w1) (t t2 : TypeId) :
    RF w (w.heap.size + 1) w1.heap.size q zeroI ((w1.alloc (.cells #[.int .i64 0, .int .i64 0, .int .i64 0, .int .i64 0, .int .i64 0, .bool false, .bool false, .int .i64 0, .int .i64 0] t)).alloc (.cells #[.string { data := #[] }, .string { data := #[46, 97, 113] }, .string { data := #[46, 114, 108] }, .string { data := #[46, 97, 113, 114, 108] }] t2)) ∧ DC w1.heap.size ((w1.alloc (.cells #[.int .i64 0, .int .i64 0, .int .i64 0, .int .i64 0, .int .i64 0, .bool false, .bool false, .int .i64 0, .int .i64 0] t)).alloc (.cells #[.string { data := #[] }, .string { data := #[46, 97, 113] }, .string { data := #[46, 114, 108] }, .string { data := #[46, 97, 113, 114, 108] }] t2)) := by
  have n1 : (w1.alloc (.cells #[.int .i64 0, .int .i64 0, .int .i64 0, .int .i64 0, .int .i64 0, .bool false, .bool false, .int .i64 0, .int .i64 0] t)).heap.size = w1.heap.size + 1 := by simp
  have h1 : Below (w1.alloc (.cells #[.int .i64 0, .int .i64 0, .int .i64 0, .int .i64 0, .int .i64 0, .bool false, .bool false, .int .i64 0, .int .i64 0] t)).heap.size (w1.alloc (.cells #[.int .i64 0, .int .i64 0, .int .i64 0, .int .i64 0, .int .i64 0, .bool false, .bool false, .int .i64 0, .int .i64 0] t)) ((w1.alloc (.cells #[.int .i64 0, .int .i64 0, .int .i64 0, .int .i64 0, .int .i64 0, .bool false, .bool false, .int .i64 0, .int .i64 0] t)).alloc (.cells #[.string { data := #[] }, .string { data := #[46, 97, 113] }, .string { data := #[46, 114, 108] }, .string { data := #[46, 97, 113, 114, 108] }] t2)) := (Below.refl _ _).alloc (Nat.le_refl _) _
  have h2 : Below w1.heap.size w1 ((w1.alloc (.cells #[.int .i64 0, .int .i64 0, .int .i64 0, .int .i64 0, .int .i64 0, .bool false, .bool false, .int .i64 0, .int .i64 0] t)).alloc (.cells #[.string { data := #[] }, .string { data := #[46, 97, 113] }, .string { data := #[46, 114, 108] }, .string { data := #[46, 97, 113, 114, 108] }] t2)) := ((Below.refl _ _).alloc (Nat.le_refl _) _).alloc (by simp) _
  have hlt := hE.lt
  refine ⟨⟨hE.keep h2, fun j hj => ?_, fun j hj => ?_, fun j hj => ?_, hb.trans (h2.mono hb.size), by omega, by omega, by simp; omega⟩, ⟨fun k hk => ?_, by simp⟩⟩
  · rw [h1.cell (p := ⟨w1.heap.size, j, none⟩) (by rw [n1]; show w1.heap.size < _; omega), World.cell?_alloc_new]; rfl
  · rw [h1.frozen (p := ⟨w1.heap.size, j, none⟩) (by rw [n1]; show w1.heap.size < _; omega)]; exact fresh_thawR _ _ _ _
  · rw [h2.cell (p := ⟨w.heap.size, 0 + j, none⟩) (by show w.heap.size < _; omega), h2.frozen (p := ⟨w.heap.size, 0 + j, none⟩) (by show w.heap.size < _; omega)]; exact hr j hj
  · rw [← n1, World.cell?_alloc_new]
    rcases (show k = 0 ∨ k = 1 ∨ k = 2 ∨ k = 3 by omega) with rfl | rfl | rfl | rfl <;> rfl
theorem immB_bd (p : ByteArray × Bool) : -9223372036854775808 ≤ (immB p).1 ∧ (immB p).1 ≤ 9223372036854775807 := by
  obtain ⟨s, bad⟩ := p
  have key : (immB (s, bad)).1 = if minusB s then -(valB (headB (if minusB s then s.extract 1 s.size else s))).1 else (valB (headB (if minusB s then s.extract 1 s.size else s))).1 := rfl
  have hb := valB_bd (headB (if minusB s then s.extract 1 s.size else s))
  rw [key]
  generalize valB (headB (if minusB s = true then s.extract 1 s.size else s)) = v at hb ⊢
  split <;> omega
theorem ends_short (k : Nat) : (endsB k).size ≤ 5 := by
  unfold endsB
  repeat' split
  all_goals decide
theorem result_insn (W : World) (a : Nat) (cs : List Value) (hr : W.rangeAt a 0 cs) (h9 : cs.length = 9) : (loadVar 23 ⟨a, 0, none⟩).run Tryz.prog W = .ok (.agg cs.toArray) W := run_loadVar_mid W a 0 23 cs _ hr Tryz.underlying23 rfl (by rw [h9]; kernel_rfl)
theorem below_cells {B a : Nat} {w : World} (ha : B ≤ a) : ∀ (vs : List Value) (o : Nat) (W : World), Below B w W → Below B w (W.setCells a o vs)
  | [], _, _, h => h
  | v :: vs, o, _, h => below_cells ha vs (o + 1) _ (h.setCell ha v)
theorem InsnV.one (i : InsnV) : i.cells.all (·.oneCell') = true := by
  obtain ⟨op, rd, r1, r2, imm, aq, rl, pred, succ⟩ := i; kernel_rfl
end Go.Proofs.YtdbpnbmaineniaaGreatDoor
