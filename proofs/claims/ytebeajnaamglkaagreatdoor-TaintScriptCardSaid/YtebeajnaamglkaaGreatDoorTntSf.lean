/- Frames of TaintScript: the two taints' boxes, a step's two results in whatever blocks. Conditions: none. -/
import Derived.Test.YtebeajnaamglkaaGreatDoorTntLf
import Derived.Test.YtebeajnaamglkaaGreatDoorTntPs
import Derived.Test.YtebeajnaamglkaaGreatDoorTntOs
set_option linter.unusedSimpArgs false
set_option linter.unusedVariables false
namespace Go.Proofs.YtebeajnaamglkaaGreatDoor
open Go.RowKit
/-- The two taints' boxes; their lists lie in neither. -/
structure TF (w W : World) (A B : Nat) (ts os : List Value) (T : List (List Int)) : Prop where
  ra : W.rangeAt A 0 ts
  rb : W.rangeAt B 0 os
  ta : W.there A 0 33
  tb : W.there B 0 33
  tt : TS W (fun b => b ≠ A ∧ b ≠ B) ts T
  tu : TS W (fun b => b ≠ A ∧ b ≠ B) os T
  bl : Below w.heap.size w W
  la : w.heap.size ≤ A
  lb : w.heap.size ≤ B
  ne : A ≠ B
  ha : A < W.heap.size
  hb : B < W.heap.size
theorem TF.keep {w W W' : World} {A B : Nat} {ts os : List Value} {T : List (List Int)} (h : TF w W A B ts os T) (hb : Below W.heap.size W W') : TF w W' A B ts os T :=
  ⟨tn_range h.ra h.ha hb, tn_range h.rb h.hb hb, tn_there h.ta h.ha hb, tn_there h.tb h.hb hb, h.tt.below hb, h.tu.below hb, bl_step h.bl hb, h.la, h.lb, h.ne, Nat.lt_of_lt_of_le h.ha hb.size, Nat.lt_of_lt_of_le h.hb hb.size⟩
theorem TF.make {w W : World} {A B : Nat} {ts os : List Value} {T : List (List Int)} (ta : W.there A 0 33) (tb : W.there B 0 33) (bl : Below w.heap.size w W) (la : w.heap.size ≤ A) (lb : w.heap.size ≤ B) (ne : A ≠ B) (ha : A < W.heap.size) (hb : B < W.heap.size)
    (tt : TS W (fun b => b ≠ A ∧ b ≠ B) ts T) (tu : TS W (fun b => b ≠ A ∧ b ≠ B) os T) : TF w ((W.setCells A 0 ts).setCells B 0 os) A B ts os T := by
  have nA : ¬ ((A : Nat) ≠ A ∧ A ≠ B) := fun h => h.1 rfl
  have nB : ¬ ((B : Nat) ≠ A ∧ B ≠ B) := fun h => h.2 rfl
  exact ⟨World.rangeAt_setCells_apart (World.rangeAt_setCells_same _ _ _ _ (by rw [tt.lc]; exact ta)) _ _ _ (.inl ne), World.rangeAt_setCells_same _ _ _ _ (World.there_setCells (by rw [tu.lc]; exact tb) _ _ _), World.there_setCells (World.there_setCells ta _ _ _) _ _ _, World.there_setCells (World.there_setCells tb _ _ _) _ _ _,
    (tt.cells _ _ _ nA).cells _ _ _ nB, (tu.cells _ _ _ nA).cells _ _ _ nB, tn_below lb _ _ _ (tn_below la _ _ _ bl), la, lb, ne, by rw [tn_size, tn_size]; exact ha, by rw [tn_size, tn_size]; exact hb⟩
/-- The boxes, new. -/
theorem TF.new {w w3 : World} (h : Below w.heap.size w w3) (Z : Array Value) (hZ : Z.size = 33) (t : TypeId) :
    ((w3.alloc (.cells Z t)).alloc (.cells Z t)).there w3.heap.size 0 33 ∧ ((w3.alloc (.cells Z t)).alloc (.cells Z t)).there (w3.heap.size + 1) 0 33 ∧
    TF w ((((w3.alloc (.cells Z t)).alloc (.cells Z t)).setCells w3.heap.size 0 zeroTL).setCells (w3.heap.size + 1) 0 zeroTL) w3.heap.size (w3.heap.size + 1) zeroTL zeroTL zeroT := by
  obtain ⟨a1, a2, a3, a4⟩ := new_block w3 Z t
  generalize w3.alloc (.cells Z t) = W1 at *
  obtain ⟨b1, b2, b3, b4⟩ := new_block W1 Z t
  generalize W1.alloc (.cells Z t) = W2 at *
  rw [hZ] at a2 b2
  rw [a4] at b2
  have hs := h.size
  have t1 := tn_there a2 (by omega) b3
  exact ⟨t1, b2, TF.make t1 b2 (bl_step h (a3.trans (b3.mono (by omega)))) hs (by omega) (by omega) (by omega) (by omega) (zeroTS _ _) (zeroTS _ _)⟩
/-- A step's results: the taint in the block X, the dependencies in the block Y. -/
structure TX (W : World) (A B X Y : Nat) (ds : List Value) (U : List (List Int)) (va vd vw : Value) (da dd dw : List Int) : Prop where
  rt : W.rangeAt X 0 ds
  rd : W.rangeAt Y 0 [va, vd, vw]
  ts : TS W (fun b => b ≠ A ∧ b ≠ B) ds U
  ra : RP W (fun _ => True) va da
  rv : RP W (fun _ => True) vd dd
  rx : RP W (fun _ => True) vw dw
  xl : X < W.heap.size
  yl : Y < W.heap.size
  xa : A ≠ X
  xb : B ≠ X
theorem TX.keep {W W' : World} {A B X Y : Nat} {ds : List Value} {U : List (List Int)} {va vd vw : Value} {da dd dw : List Int} (h : TX W A B X Y ds U va vd vw da dd dw) (hb : Below W.heap.size W W') : TX W' A B X Y ds U va vd vw da dd dw :=
  ⟨tn_range h.rt h.xl hb, tn_range h.rd h.yl hb, h.ts.below hb, h.ra.below hb, h.rv.below hb, h.rx.below hb, Nat.lt_of_lt_of_le h.xl hb.size, Nat.lt_of_lt_of_le h.yl hb.size, h.xa, h.xb⟩
theorem TX.make {W : World} {A B X Y lo hi N : Nat} {ds : List Value} {U : List (List Int)} {va vd vw : Value} {da dd dw : List Int} (h : SR W lo hi ds U va vd vw da dd dw) (hx : W.there X 0 33) (hy : W.there Y 0 3) (hxy : X ≠ Y) (h3 : X < W.heap.size) (h4 : Y < W.heap.size)
    (nX : X < lo ∨ hi ≤ X) (nY : Y < lo ∨ hi ≤ Y) (hlo : N ≤ lo) (hXN : N ≤ X) (hA : A < N) (hB : B < N) :
    TX ((W.setCells X 0 ds).setCells Y 0 [va, vd, vw]) A B X Y ds U va vd vw da dd dw := by
  have key : ∀ b, lo ≤ b ∧ b < hi → (b ≠ A ∧ b ≠ B) ∧ b ≠ X ∧ b ≠ Y := fun b hb => by omega
  have ts := h.ts.mono key
  have nX : ¬ (((X : Nat) ≠ A ∧ X ≠ B) ∧ X ≠ X ∧ X ≠ Y) := fun h => h.2.1 rfl
  have nY : ¬ (((Y : Nat) ≠ A ∧ Y ≠ B) ∧ Y ≠ X ∧ Y ≠ Y) := fun h => h.2.2 rfl
  have kp : ∀ {v : Value} {l : List Int}, RP W (fun b => lo ≤ b ∧ b < hi) v l → RP ((W.setCells X 0 ds).setCells Y 0 [va, vd, vw]) (fun _ => True) v l := fun hv => (((hv.mono key).cells _ _ _ nX).cells _ _ _ nY).mono fun _ _ => trivial
  exact ⟨World.rangeAt_setCells_apart (World.rangeAt_setCells_same _ _ _ _ (by rw [ts.lc]; exact hx)) _ _ _ (.inl hxy), World.rangeAt_setCells_same _ _ _ _ (World.there_setCells hy _ _ _),
    ((ts.cells _ _ _ nX).cells _ _ _ nY).mono fun _ hb => hb.1, kp h.ra, kp h.rv, kp h.rx, by rw [tn_size, tn_size]; exact h3, by rw [tn_size, tn_size]; exact h4, by omega, by omega⟩
/-- While the two boxes are written anew: what lies in the two variables stays. -/
structure TH (w W : World) (A B X Y : Nat) (ds cs : List Value) (U : List (List Int)) : Prop where
  rx : W.rangeAt X 0 ds
  ry : W.rangeAt Y 0 cs
  ta : W.there A 0 33
  tb : W.there B 0 33
  ts : TS W (fun b => b ≠ A ∧ b ≠ B) ds U
  tu : TS W (fun b => b ≠ A ∧ b ≠ B) cs U
  bl : Below w.heap.size w W
  la : w.heap.size ≤ A
  lb : w.heap.size ≤ B
  ne : A ≠ B
  ha : A < W.heap.size
  hb : B < W.heap.size
  n1 : A ≠ X ∧ B ≠ X
  n2 : A ≠ Y ∧ B ≠ Y
theorem TH.of {w W : World} {A B X Y X2 Y2 : Nat} {ts os ds cs : List Value} {T U : List (List Int)} {va vd vw ua ud uw : Value} {da dd dw ea ed ew : List Int} (h : TF w W A B ts os T) (g : TX W A B X X2 ds U va vd vw da dd dw) (k : TX W A B Y Y2 cs U ua ud uw ea ed ew) : TH w W A B X Y ds cs U :=
  ⟨g.rt, k.rt, h.ta, h.tb, g.ts, k.ts, h.bl, h.la, h.lb, h.ne, h.ha, h.hb, ⟨g.xa, g.xb⟩, ⟨k.xa, k.xb⟩⟩
theorem TH.drew {w W : World} {A B X Y : Nat} {ds cs : List Value} {U : List (List Int)} (h : TH w W A B X Y ds cs U) : TH w W.drew A B X Y ds cs U :=
  have hb : Below W.heap.size W W.drew := (Below.refl _ _).drew
  ⟨h.rx, h.ry, h.ta, h.tb, h.ts.below hb, h.tu.below hb, h.bl.drew, h.la, h.lb, h.ne, h.ha, h.hb, h.n1, h.n2⟩
theorem TH.put {w W : World} {A B X Y b : Nat} {ds cs vs : List Value} {U : List (List Int)} (h : TH w W A B X Y ds cs U) (hb : b = A ∨ b = B) : TH w (W.setCells b 0 vs) A B X Y ds cs U := by
  have hla := h.la
  have hlb := h.lb
  obtain ⟨h1, h2⟩ := h.n1
  obtain ⟨h3, h4⟩ := h.n2
  have nb : ¬ (b ≠ A ∧ b ≠ B) := fun q => hb.elim q.1 q.2
  exact ⟨World.rangeAt_setCells_apart h.rx _ _ _ (.inl (by omega)), World.rangeAt_setCells_apart h.ry _ _ _ (.inl (by omega)), World.there_setCells h.ta _ _ _, World.there_setCells h.tb _ _ _, h.ts.cells _ _ _ nb, h.tu.cells _ _ _ nb, tn_below (by omega) _ _ _ h.bl, h.la, h.lb, h.ne, by rw [tn_size]; exact h.ha, by rw [tn_size]; exact h.hb, h.n1, h.n2⟩
theorem TH.full {w W : World} {A B X Y : Nat} {ds cs : List Value} {U : List (List Int)} (h : TH w W A B X Y ds cs U) (r1 : W.rangeAt A 0 ds) (r2 : W.rangeAt B 0 cs) : TF w W A B ds cs U :=
  ⟨r1, r2, h.ta, h.tb, h.ts, h.tu, h.bl, h.la, h.lb, h.ne, h.ha, h.hb⟩
end Go.Proofs.YtebeajnaamglkaaGreatDoor
