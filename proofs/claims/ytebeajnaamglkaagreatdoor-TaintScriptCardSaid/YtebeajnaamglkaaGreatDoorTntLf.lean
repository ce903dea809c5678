/- Frames of TaintLocal: the arguments' boxes, a step's two results in whatever blocks. Conditions: none. -/
import Derived.Test.YtebeajnaamglkaaGreatDoorTntLi
import Derived.Test.YtebeajnaamglkaaGreatDoorTntKt
import Derived.Test.YtebeajnaamglkaaGreatDoorTntLc
import Derived.Test.YtebeajnaamglkaaGreatDoorFieldsPl
set_option linter.unusedSimpArgs false
set_option linter.unusedVariables false
namespace Go.Proofs.YtebeajnaamglkaaGreatDoor
open Go.RowKit
/-- The arguments' boxes. -/
structure LF (w W : World) (cs ics : List Value) (T : List (List Int)) : Prop where
  r0 : W.rangeAt w.heap.size 0 cs
  ri : W.rangeAt (w.heap.size + 1) 0 ics
  ts : TS W (fun b => b < w.heap.size) cs T
  bl : Below w.heap.size w W
  lt : w.heap.size + 1 < W.heap.size
theorem LF.keep {w W W' : World} {cs ics : List Value} {T : List (List Int)} (h : LF w W cs ics T) (hb : Below W.heap.size W W') : LF w W' cs ics T :=
  have hl := h.lt
  ⟨tn_range h.r0 (by omega) hb, tn_range h.ri hl hb, h.ts.below hb, bl_step h.bl hb, Nat.lt_of_lt_of_le hl hb.size⟩
theorem LF.far {w W : World} {cs ics : List Value} {T : List (List Int)} (h : LF w W cs ics T) {Y : Nat} (hY : w.heap.size + 1 < Y) (vs : List Value) : LF w (W.setCells Y 0 vs) cs ics T :=
  ⟨World.rangeAt_setCells_apart h.r0 _ _ _ (.inl (by omega)), World.rangeAt_setCells_apart h.ri _ _ _ (.inl (by omega)), h.ts.cells _ _ _ (by omega), tn_below (by omega) _ _ _ h.bl, by rw [tn_size]; exact h.lt⟩
theorem LF.start (w : World) (cs ics : Array Value) (T : List (List Int)) (t1 t2 : TypeId) (h : TS w (fun b => b < w.heap.size) cs.toList T) : LF w ((w.alloc (.cells cs t1)).alloc (.cells ics t2)) cs.toList ics.toList T := by
  obtain ⟨a1, a2, a3, a4⟩ := new_block w cs t1
  generalize w.alloc (.cells cs t1) = W1 at *
  obtain ⟨b1, b2, b3, b4⟩ := new_block W1 ics t2
  generalize W1.alloc (.cells ics t2) = W2 at *
  have hb := bl_step a3 b3
  rw [a4] at b1
  exact ⟨tn_range a1 (by omega) b3, b1, h.below hb, hb, by omega⟩
theorem LF.cell {w W : World} {cs ics : List Value} {T : List (List Int)} (h : LF w W cs ics T) (k : Nat) (v : Value) (hk : cs[k]? = some v) : W.cell? ⟨w.heap.size, k, none⟩ = some v := by have := h.r0 k v hk; rwa [Nat.zero_add] at this
theorem LF.rl {w W : World} {cs ics : List Value} {T : List (List Int)} (h : LF w W cs ics T) (k : Nat) (v : Value) (hk : cs[k]? = some v) : RL W W.heap.size v (T.getD k []) := by
  have hk2 : k < 33 := by have := (List.getElem?_eq_some_iff.1 hk).1; rw [h.ts.lc] at this; exact this
  obtain ⟨u, l, e1, e2, e3, e4⟩ := h.ts.get k hk2
  rw [hk] at e1
  obtain rfl := Option.some.inj e1
  rw [e3]; exact e4.rl
/-- A step's results: the taint in the block X, the dependencies in the block Y. -/
structure TZ (w W : World) (cs ics : List Value) (T : List (List Int)) (X Y : Nat) (ds : List Value) (U : List (List Int)) (va vd vw : Value) (da dd dw : List Int) : Prop where
  lf : LF w W cs ics T
  rt : W.rangeAt X 0 ds
  rd : W.rangeAt Y 0 [va, vd, vw]
  ts : TS W (fun _ => True) ds U
  ra : RP W (fun _ => True) va da
  rv : RP W (fun _ => True) vd dd
  rx : RP W (fun _ => True) vw dw
  xl : X < W.heap.size
  yl : Y < W.heap.size
section
variable {w W W' : World} {cs ics : List Value} {T : List (List Int)} {X Y : Nat} {ds : List Value} {U : List (List Int)} {va vd vw : Value} {da dd dw : List Int}
theorem TZ.keep (h : TZ w W cs ics T X Y ds U va vd vw da dd dw) (hb : Below W.heap.size W W') : TZ w W' cs ics T X Y ds U va vd vw da dd dw :=
  ⟨h.lf.keep hb, tn_range h.rt h.xl hb, tn_range h.rd h.yl hb, h.ts.below hb, h.ra.below hb, h.rv.below hb, h.rx.below hb, Nat.lt_of_lt_of_le h.xl hb.size, Nat.lt_of_lt_of_le h.yl hb.size⟩
theorem TZ.make (lf : LF w W cs ics T) (hx : W.there X 0 33) (hy : W.there Y 0 3) (hxy : X ≠ Y) (h1 : w.heap.size + 1 < X) (h2 : w.heap.size + 1 < Y) (h3 : X < W.heap.size) (h4 : Y < W.heap.size)
    (ts : TS W (fun b => b ≠ X ∧ b ≠ Y) ds U) (ra : RP W (fun b => b ≠ X ∧ b ≠ Y) va da) (rv : RP W (fun b => b ≠ X ∧ b ≠ Y) vd dd) (rx : RP W (fun b => b ≠ X ∧ b ≠ Y) vw dw) :
    TZ w ((W.setCells X 0 ds).setCells Y 0 [va, vd, vw]) cs ics T X Y ds U va vd vw da dd dw := by
  have nX : ¬ ((X : Nat) ≠ X ∧ X ≠ Y) := fun h => h.1 rfl
  have nY : ¬ ((Y : Nat) ≠ X ∧ Y ≠ Y) := fun h => h.2 rfl
  have key : ∀ {v : Value} {l : List Int}, RP W (fun b => b ≠ X ∧ b ≠ Y) v l → RP ((W.setCells X 0 ds).setCells Y 0 [va, vd, vw]) (fun _ => True) v l := fun hv => ((hv.cells _ _ _ nX).cells _ _ _ nY).mono fun _ _ => trivial
  exact ⟨(lf.far h1 ds).far h2 _, World.rangeAt_setCells_apart (World.rangeAt_setCells_same _ _ _ _ (by rw [ts.lc]; exact hx)) _ _ _ (.inl hxy), World.rangeAt_setCells_same _ _ _ _ (World.there_setCells hy _ _ _),
    ((ts.cells _ _ _ nX).cells _ _ _ nY).mono fun _ _ => trivial, key ra, key rv, key rx, by rw [tn_size, tn_size]; exact h3, by rw [tn_size, tn_size]; exact h4⟩
theorem TZ.cx (h : TZ w W cs ics T X Y ds U va vd vw da dd dw) (k : Nat) (v : Value) (hk : ds[k]? = some v) : W.cell? ⟨X, k, none⟩ = some v := by have := h.rt k v hk; rwa [Nat.zero_add] at this
theorem TZ.cy (h : TZ w W cs ics T X Y ds U va vd vw da dd dw) : W.cell? ⟨Y, 0, none⟩ = some va ∧ W.cell? ⟨Y, 1, none⟩ = some vd ∧ W.cell? ⟨Y, 2, none⟩ = some vw := by
  have a := h.rd 0 _ rfl; have b := h.rd 1 _ rfl; have c := h.rd 2 _ rfl
  rw [Nat.zero_add] at a b c
  exact ⟨a, b, c⟩
theorem TZ.rl (h : TZ w W cs ics T X Y ds U va vd vw da dd dw) (k : Nat) (v : Value) (hk : ds[k]? = some v) : RL W W.heap.size v (U.getD k []) := by
  have hk2 : k < 33 := by have := (List.getElem?_eq_some_iff.1 hk).1; rw [h.ts.lc] at this; exact this
  obtain ⟨u, l, e1, e2, e3, e4⟩ := h.ts.get k hk2
  rw [hk] at e1
  obtain rfl := Option.some.inj e1
  rw [e3]; exact e4.rl
theorem TZ.some (h : TZ w W cs ics T X Y ds U va vd vw da dd dw) (k : Nat) (hk : k < 33) : ∃ v, ds[k]? = some v := ⟨_, List.getElem?_eq_getElem (by rw [h.ts.lc]; exact hk)⟩
end
/-- Lists that lie in a window of blocks. -/
theorem TS.win {w : World} {lo : Nat} {cs : List Value} {T : List (List Int)} (h : TS w (fun b => lo ≤ b) cs T) : TS w (fun b => lo ≤ b ∧ b < w.heap.size) cs T :=
  ⟨h.lc, h.lt, fun j v l h1 h2 => by
    obtain ⟨A, c, rfl, q1, q2, q3⟩ := (h.at_ j v l h1 h2).form
    refine ⟨⟨A, c, rfl, q1, q2, q3.imp id ?_⟩⟩
    rintro ⟨b, o, rfl, hp, hb, hc⟩
    exact ⟨b, o, rfl, ⟨hp, hb⟩, hb, hc⟩⟩
theorem RP.win {w : World} {lo : Nat} {v : Value} {l : List Int} (h : RP w (fun b => lo ≤ b) v l) : RP w (fun b => lo ≤ b ∧ b < w.heap.size) v l := by
  obtain ⟨A, c, rfl, q1, q2, q3⟩ := h.form
  refine ⟨⟨A, c, rfl, q1, q2, q3.imp id ?_⟩⟩
  rintro ⟨b, o, rfl, hp, hb, hc⟩
  exact ⟨b, o, rfl, ⟨hp, hb⟩, hb, hc⟩
/-- A step's results as they come, ahead of their boxes. -/
structure SR (W : World) (lo hi : Nat) (ds : List Value) (U : List (List Int)) (va vd vw : Value) (da dd dw : List Int) : Prop where
  ts : TS W (fun b => lo ≤ b ∧ b < hi) ds U
  ra : RP W (fun b => lo ≤ b ∧ b < hi) va da
  rv : RP W (fun b => lo ≤ b ∧ b < hi) vd dd
  rx : RP W (fun b => lo ≤ b ∧ b < hi) vw dw
theorem SR.keep {W W' : World} {lo hi : Nat} {ds : List Value} {U : List (List Int)} {va vd vw : Value} {da dd dw : List Int} (h : SR W lo hi ds U va vd vw da dd dw) (hb : Below W.heap.size W W') : SR W' lo hi ds U va vd vw da dd dw :=
  ⟨h.ts.below hb, h.ra.below hb, h.rv.below hb, h.rx.below hb⟩
theorem SR.full {w W : World} {cs ics : List Value} {T : List (List Int)} {X Y lo hi : Nat} {ds : List Value} {U : List (List Int)} {va vd vw : Value} {da dd dw : List Int} (h : SR W lo hi ds U va vd vw da dd dw)
    (lf : LF w W cs ics T) (hx : W.there X 0 33) (hy : W.there Y 0 3) (hxy : X ≠ Y) (h1 : w.heap.size + 1 < X) (h2 : w.heap.size + 1 < Y) (h3 : X < W.heap.size) (h4 : Y < W.heap.size) (nX : X < lo ∨ hi ≤ X) (nY : Y < lo ∨ hi ≤ Y) :
    TZ w ((W.setCells X 0 ds).setCells Y 0 [va, vd, vw]) cs ics T X Y ds U va vd vw da dd dw :=
  have key : ∀ b, lo ≤ b ∧ b < hi → b ≠ X ∧ b ≠ Y := fun b hb => by omega
  TZ.make lf hx hy hxy h1 h2 h3 h4 (h.ts.mono key) (h.ra.mono key) (h.rv.mono key) (h.rx.mono key)
end Go.Proofs.YtebeajnaamglkaaGreatDoor
