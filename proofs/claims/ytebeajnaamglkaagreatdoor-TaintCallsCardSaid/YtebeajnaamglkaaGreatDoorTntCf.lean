/- Frames of TaintCalls: the arguments' boxes, a step's two results in whatever blocks. Conditions: none. -/
import Derived.Test.YtebeajnaamglkaaGreatDoorTntLf
import Derived.Test.YtebeajnaamglkaaGreatDoorTntDb
set_option linter.unusedSimpArgs false
set_option linter.unusedVariables false
namespace Go.Proofs.YtebeajnaamglkaaGreatDoor
open Go.RowKit
/-- The arguments' boxes. -/
structure LC (w W : World) (cs os ics : List Value) (T O : List (List Int)) : Prop where
  r0 : W.rangeAt w.heap.size 0 cs
  r1 : W.rangeAt (w.heap.size + 1) 0 os
  ri : W.rangeAt (w.heap.size + 2) 0 ics
  ts : TS W (fun b => b < w.heap.size) cs T
  ot : TS W (fun b => b < w.heap.size) os O
  bl : Below w.heap.size w W
  lt : w.heap.size + 2 < W.heap.size
theorem LC.keep {w W W' : World} {cs os ics : List Value} {T O : List (List Int)} (h : LC w W cs os ics T O) (hb : Below W.heap.size W W') : LC w W' cs os ics T O :=
  have hl := h.lt
  ⟨tn_range h.r0 (by omega) hb, tn_range h.r1 (by omega) hb, tn_range h.ri hl hb, h.ts.below hb, h.ot.below hb, bl_step h.bl hb, Nat.lt_of_lt_of_le hl hb.size⟩
theorem LC.far {w W : World} {cs os ics : List Value} {T O : List (List Int)} (h : LC w W cs os ics T O) {Y : Nat} (hY : w.heap.size + 2 < Y) (vs : List Value) : LC w (W.setCells Y 0 vs) cs os ics T O :=
  ⟨World.rangeAt_setCells_apart h.r0 _ _ _ (.inl (by omega)), World.rangeAt_setCells_apart h.r1 _ _ _ (.inl (by omega)), World.rangeAt_setCells_apart h.ri _ _ _ (.inl (by omega)), h.ts.cells _ _ _ (by omega), h.ot.cells _ _ _ (by omega), tn_below (by omega) _ _ _ h.bl, by rw [tn_size]; exact h.lt⟩
theorem LC.start (w : World) (cs os ics : Array Value) (T O : List (List Int)) (t1 t2 t3 : TypeId) (h : TS w (fun b => b < w.heap.size) cs.toList T) (g : TS w (fun b => b < w.heap.size) os.toList O) : LC w (((w.alloc (.cells cs t1)).alloc (.cells os t2)).alloc (.cells ics t3)) cs.toList os.toList ics.toList T O := by
  obtain ⟨a1, a2, a3, a4⟩ := new_block w cs t1
  generalize w.alloc (.cells cs t1) = W1 at *
  obtain ⟨b1, b2, b3, b4⟩ := new_block W1 os t2
  generalize W1.alloc (.cells os t2) = W2 at *
  obtain ⟨c1, c2, c3, c4⟩ := new_block W2 ics t3
  generalize W2.alloc (.cells ics t3) = W3 at *
  have hb := bl_step (bl_step a3 b3) c3
  have e2 : W2.heap.size = w.heap.size + 2 := by omega
  rw [a4] at b1
  rw [e2] at c1
  exact ⟨tn_range (tn_range a1 (by omega) b3) (by omega) c3, tn_range b1 (by omega) c3, c1, h.below hb, g.below hb, hb, by omega⟩
/-- A step's results: the taint in the block X, the dependencies in the block Y. -/
structure TY (w W : World) (cs os ics : List Value) (T O : List (List Int)) (X Y : Nat) (ds : List Value) (U : List (List Int)) (va vd vw : Value) (da dd dw : List Int) : Prop where
  lf : LC w W cs os ics T O
  rt : W.rangeAt X 0 ds
  rd : W.rangeAt Y 0 [va, vd, vw]
  ts : TS W (fun _ => True) ds U
  ra : RP W (fun _ => True) va da
  rv : RP W (fun _ => True) vd dd
  rx : RP W (fun _ => True) vw dw
  xl : X < W.heap.size
  yl : Y < W.heap.size
section
variable {w W W' : World} {cs os ics : List Value} {T O : List (List Int)} {X Y : Nat} {ds : List Value} {U : List (List Int)} {va vd vw : Value} {da dd dw : List Int}
theorem TY.keep (h : TY w W cs os ics T O X Y ds U va vd vw da dd dw) (hb : Below W.heap.size W W') : TY w W' cs os ics T O X Y ds U va vd vw da dd dw :=
  ⟨h.lf.keep hb, tn_range h.rt h.xl hb, tn_range h.rd h.yl hb, h.ts.below hb, h.ra.below hb, h.rv.below hb, h.rx.below hb, Nat.lt_of_lt_of_le h.xl hb.size, Nat.lt_of_lt_of_le h.yl hb.size⟩
theorem TY.make (lf : LC w W cs os ics T O) (hx : W.there X 0 33) (hy : W.there Y 0 3) (hxy : X ≠ Y) (h1 : w.heap.size + 2 < X) (h2 : w.heap.size + 2 < Y) (h3 : X < W.heap.size) (h4 : Y < W.heap.size)
    (ts : TS W (fun b => b ≠ X ∧ b ≠ Y) ds U) (ra : RP W (fun b => b ≠ X ∧ b ≠ Y) va da) (rv : RP W (fun b => b ≠ X ∧ b ≠ Y) vd dd) (rx : RP W (fun b => b ≠ X ∧ b ≠ Y) vw dw) :
    TY w ((W.setCells X 0 ds).setCells Y 0 [va, vd, vw]) cs os ics T O X Y ds U va vd vw da dd dw := by
  have nX : ¬ ((X : Nat) ≠ X ∧ X ≠ Y) := fun h => h.1 rfl
  have nY : ¬ ((Y : Nat) ≠ X ∧ Y ≠ Y) := fun h => h.2 rfl
  have key : ∀ {v : Value} {l : List Int}, RP W (fun b => b ≠ X ∧ b ≠ Y) v l → RP ((W.setCells X 0 ds).setCells Y 0 [va, vd, vw]) (fun _ => True) v l := fun hv => ((hv.cells _ _ _ nX).cells _ _ _ nY).mono fun _ _ => trivial
  exact ⟨(lf.far h1 ds).far h2 _, World.rangeAt_setCells_apart (World.rangeAt_setCells_same _ _ _ _ (by rw [ts.lc]; exact hx)) _ _ _ (.inl hxy), World.rangeAt_setCells_same _ _ _ _ (World.there_setCells hy _ _ _),
    ((ts.cells _ _ _ nX).cells _ _ _ nY).mono fun _ _ => trivial, key ra, key rv, key rx, by rw [tn_size, tn_size]; exact h3, by rw [tn_size, tn_size]; exact h4⟩
theorem TY.cx (h : TY w W cs os ics T O X Y ds U va vd vw da dd dw) (k : Nat) (v : Value) (hk : ds[k]? = some v) : W.cell? ⟨X, k, none⟩ = some v := by have := h.rt k v hk; rwa [Nat.zero_add] at this
theorem TY.cy (h : TY w W cs os ics T O X Y ds U va vd vw da dd dw) : W.cell? ⟨Y, 0, none⟩ = some va ∧ W.cell? ⟨Y, 1, none⟩ = some vd ∧ W.cell? ⟨Y, 2, none⟩ = some vw := by
  have a := h.rd 0 _ rfl; have b := h.rd 1 _ rfl; have c := h.rd 2 _ rfl
  rw [Nat.zero_add] at a b c
  exact ⟨a, b, c⟩
theorem TY.rl (h : TY w W cs os ics T O X Y ds U va vd vw da dd dw) (k : Nat) (v : Value) (hk : ds[k]? = some v) : RL W W.heap.size v (U.getD k []) := by
  have hk2 : k < 33 := by have := (List.getElem?_eq_some_iff.1 hk).1; rw [h.ts.lc] at this; exact this
  obtain ⟨u, l, e1, e2, e3, e4⟩ := h.ts.get k hk2
  rw [hk] at e1
  obtain rfl := Option.some.inj e1
  rw [e3]; exact e4.rl
theorem TY.some (h : TY w W cs os ics T O X Y ds U va vd vw da dd dw) (k : Nat) (hk : k < 33) : ∃ v, ds[k]? = some v := ⟨_, List.getElem?_eq_getElem (by rw [h.ts.lc]; exact hk)⟩
end
theorem SR.fullC {w W : World} {cs os ics : List Value} {T O : List (List Int)} {X Y lo hi : Nat} {ds : List Value} {U : List (List Int)} {va vd vw : Value} {da dd dw : List Int} (h : SR W lo hi ds U va vd vw da dd dw)
    (lf : LC w W cs os ics T O) (hx : W.there X 0 33) (hy : W.there Y 0 3) (hxy : X ≠ Y) (h1 : w.heap.size + 2 < X) (h2 : w.heap.size + 2 < Y) (h3 : X < W.heap.size) (h4 : Y < W.heap.size) (nX : X < lo ∨ hi ≤ X) (nY : Y < lo ∨ hi ≤ Y) :
    TY w ((W.setCells X 0 ds).setCells Y 0 [va, vd, vw]) cs os ics T O X Y ds U va vd vw da dd dw :=
  have key : ∀ b, lo ≤ b ∧ b < hi → b ≠ X ∧ b ≠ Y := fun b hb => by omega
  TY.make lf hx hy hxy h1 h2 h3 h4 (h.ts.mono key) (h.ra.mono key) (h.rv.mono key) (h.rx.mono key)
end Go.Proofs.YtebeajnaamglkaaGreatDoor
