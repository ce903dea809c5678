/- What taint.Step computes (plain), and the frame of its walk. Conditions: none. -/
import Derived.Test.YtebeajnaamglkaaGreatDoorTntMw
import Derived.Test.YtebeajnaamglkaaGreatDoorInsnRd
import Derived.Test.YtebeajnaamglkaaGreatDoorInsnMemory
set_option linter.unusedSimpArgs false
set_option linter.unusedVariables false
namespace Go.Proofs.YtebeajnaamglkaaGreatDoor
open Go.RowKit
def isMem (i : InsnV) : Bool := (opOf i.op).loads || (opOf i.op).stores
def readT (T : List (List Int)) (i : InsnV) : List Int := onL T (readsP i)
def goesT (i : InsnV) : Bool := (opOf i.op).form == 6 || i.op == 4
def wayT (T : List (List Int)) (i : InsnV) : List Int := if goesT i then mergeL (T.getD 32 []) (readT T i) else T.getD 32 []
def bareT (i : InsnV) : Bool := (opOf i.op).form == 2 || i.op == 4 || (opOf i.op).form == 1
def outT (T : List (List Int)) (i : InsnV) (ev : Int) : List Int := if isMem i then (if 0 ≤ ev then [ev] else []) else if bareT i then [] else readT T i
def stepT (T : List (List Int)) (i : InsnV) (ev : Int) : List (List Int) := if 0 < i.rd then (T.set 32 (wayT T i)).set i.rd.toNat (outT T i ev) else T.set 32 (wayT T i)
def addrT (T : List (List Int)) (i : InsnV) : List Int := if isMem i then onL T [i.rs1] else []
def dataT (T : List (List Int)) (i : InsnV) : List Int := if (opOf i.op).stores then onL T [i.rs2] else []
theorem onL_one (T : List (List Int)) (r : Int) : onL T [r] = T.getD r.toNat [] := by
  show mergeL [] _ = _
  unfold mergeL
  exact mergeF_nil1 _ _
/-- Where Step stands: the taint's box, the instruction's box, the results' blocks, the dependencies' block D. -/
structure SD (w W : World) (cs : List Value) (D : Nat) (T : List (List Int)) (da dd dw : List Int) : Prop where
  tb : ∃ c', W.rangeAt w.heap.size 0 c' ∧ TS W (fun b => w.heap.size + 4 ≤ b ∧ b ≠ D) c' T
  th : W.there w.heap.size 0 33
  ib : W.rangeAt (w.heap.size + 1) 0 cs
  z6 : W.there (w.heap.size + 2) 0 33
  z7 : W.there (w.heap.size + 3) 0 3
  dt : W.there D 0 3
  db : ∃ va vd vw, W.rangeAt D 0 [va, vd, vw] ∧ RP W (fun b => w.heap.size + 4 ≤ b ∧ b ≠ D) va da ∧ RP W (fun b => w.heap.size + 4 ≤ b ∧ b ≠ D) vd dd ∧ RP W (fun b => w.heap.size + 4 ≤ b ∧ b ≠ D) vw dw
  bl : Below w.heap.size w W
  lt : w.heap.size + 3 < W.heap.size
  dlo : w.heap.size + 4 ≤ D
  dhi : D < W.heap.size
theorem tn_range {W W' : World} {b : Nat} {cs : List Value} (h : W.rangeAt b 0 cs) (hl : b < W.heap.size) (hb : Below W.heap.size W W') : W'.rangeAt b 0 cs := fun j v hv => by
  rw [hb.cell (p := ⟨b, 0 + j, none⟩) hl]; exact h j v hv
theorem tn_there {W W' : World} {b n : Nat} (h : W.there b 0 n) (hl : b < W.heap.size) (hb : Below W.heap.size W W') : W'.there b 0 n := fun j hj => by
  rw [hb.cell (p := ⟨b, 0 + j, none⟩) hl, hb.frozen (p := ⟨b, 0 + j, none⟩) hl]; exact h j hj
theorem tn_range1 {W : World} {b X k : Nat} {cs : List Value} (h : W.rangeAt b 0 cs) (hne : b ≠ X) (v : Value) : (W.setCell ⟨X, k, none⟩ v).rangeAt b 0 cs := World.rangeAt_setCells_apart h X k [v] (.inl hne)
theorem tn_set {W : World} {b k : Nat} {cs : List Value} (h : W.rangeAt b 0 cs) (hk : k < cs.length) (v : Value) : (W.setCell ⟨b, k, none⟩ v).rangeAt b 0 (cs.set k v) := fun j u hu => by
  have hc0 : W.cell? ⟨b, k, none⟩ = some cs[k] := by have := h k cs[k] (List.getElem?_eq_getElem hk); rwa [Nat.zero_add] at this
  rw [Nat.zero_add]
  by_cases e : k = j
  · subst e
    rw [List.getElem?_set_self hk] at hu
    cases hu
    exact World.cell?_setCell_same _ _ _ hc0
  · rw [List.getElem?_set_ne e] at hu
    rw [World.cell?_setCell_other _ _ _ _ (fun q => e (by injection q))]
    have := h j u hu
    rw [Nat.zero_add] at this; exact this
theorem SD.keep {w W W' : World} {cs : List Value} {D : Nat} {T : List (List Int)} {da dd dw : List Int} (h : SD w W cs D T da dd dw) (hb : Below W.heap.size W W') : SD w W' cs D T da dd dw := by
  have hl := h.lt
  obtain ⟨c', t1, t2⟩ := h.tb
  obtain ⟨va, vd, vw, d1, d2, d3, d4⟩ := h.db
  exact ⟨⟨c', tn_range t1 (by omega) hb, t2.below hb⟩, tn_there h.th (by omega) hb, tn_range h.ib (by omega) hb, tn_there h.z6 (by omega) hb, tn_there h.z7 (by omega) hb, tn_there h.dt h.dhi hb,
    ⟨va, vd, vw, tn_range d1 h.dhi hb, d2.below hb, d3.below hb, d4.below hb⟩, h.bl.trans (hb.mono (by omega)), Nat.lt_of_lt_of_le h.lt hb.size, h.dlo, Nat.lt_of_lt_of_le h.dhi hb.size⟩
/-- A list of the taint turned. -/
theorem SD.putT {w W : World} {cs : List Value} {D : Nat} {T : List (List Int)} {da dd dw : List Int} (h : SD w W cs D T da dd dw) (k : Nat) (hk : k < 33) {v : Value} {l : List Int} (hv : RP W (fun b => w.heap.size + 4 ≤ b ∧ b ≠ D) v l) :
    SD w (W.setCell ⟨w.heap.size, k, none⟩ v) cs D (T.set k l) da dd dw := by
  have hD := h.dlo
  obtain ⟨c', t1, t2⟩ := h.tb
  obtain ⟨va, vd, vw, d1, d2, d3, d4⟩ := h.db
  have hp : ¬ (w.heap.size + 4 ≤ (⟨w.heap.size, k, none⟩ : Addr).block ∧ (⟨w.heap.size, k, none⟩ : Addr).block ≠ D) := fun e => by have := e.1; simp at this; omega
  exact ⟨⟨_, tn_set t1 (by rw [t2.lc]; exact hk) v, (t2.set k v l hv).setCell _ v hp⟩, World.there_setCells h.th _ k [v], tn_range1 h.ib (by omega) v, World.there_setCells h.z6 _ k [v], World.there_setCells h.z7 _ k [v], World.there_setCells h.dt _ k [v],
    ⟨va, vd, vw, tn_range1 d1 (by omega) v, d2.setCell _ v hp, d3.setCell _ v hp, d4.setCell _ v hp⟩, h.bl.setCell (Nat.le_refl _) v, by simpa using h.lt, h.dlo, by simpa using h.dhi⟩
/-- The address's dependencies turned. -/
theorem SD.putA {w W : World} {cs : List Value} {D : Nat} {T : List (List Int)} {da dd dw : List Int} (h : SD w W cs D T da dd dw) {v : Value} {l : List Int} (hv : RP W (fun b => w.heap.size + 4 ≤ b ∧ b ≠ D) v l) :
    SD w (W.setCell ⟨D, 0, none⟩ v) cs D T l dd dw := by
  have hD := h.dlo
  obtain ⟨c', t1, t2⟩ := h.tb
  obtain ⟨va, vd, vw, d1, d2, d3, d4⟩ := h.db
  have hp : ¬ (w.heap.size + 4 ≤ (⟨D, 0, none⟩ : Addr).block ∧ (⟨D, 0, none⟩ : Addr).block ≠ D) := fun e => e.2 rfl
  exact ⟨⟨_, tn_range1 t1 (by omega) v, t2.setCell _ v hp⟩, World.there_setCells h.th _ 0 [v], tn_range1 h.ib (by omega) v, World.there_setCells h.z6 _ 0 [v], World.there_setCells h.z7 _ 0 [v], World.there_setCells h.dt _ 0 [v],
    ⟨v, vd, vw, tn_set d1 (by simp) v, hv.setCell _ v hp, d3.setCell _ v hp, d4.setCell _ v hp⟩, h.bl.setCell (p := ⟨D, 0, none⟩) (by simp; omega) v, by simpa using h.lt, h.dlo, by simpa using h.dhi⟩
/-- The data's dependencies turned. -/
theorem SD.putD {w W : World} {cs : List Value} {D : Nat} {T : List (List Int)} {da dd dw : List Int} (h : SD w W cs D T da dd dw) {v : Value} {l : List Int} (hv : RP W (fun b => w.heap.size + 4 ≤ b ∧ b ≠ D) v l) :
    SD w (W.setCell ⟨D, 1, none⟩ v) cs D T da l dw := by
  have hD := h.dlo
  obtain ⟨c', t1, t2⟩ := h.tb
  obtain ⟨va, vd, vw, d1, d2, d3, d4⟩ := h.db
  have hp : ¬ (w.heap.size + 4 ≤ (⟨D, 1, none⟩ : Addr).block ∧ (⟨D, 1, none⟩ : Addr).block ≠ D) := fun e => e.2 rfl
  exact ⟨⟨_, tn_range1 t1 (by omega) v, t2.setCell _ v hp⟩, World.there_setCells h.th _ 1 [v], tn_range1 h.ib (by omega) v, World.there_setCells h.z6 _ 1 [v], World.there_setCells h.z7 _ 1 [v], World.there_setCells h.dt _ 1 [v],
    ⟨va, v, vw, tn_set d1 (by simp) v, d2.setCell _ v hp, hv.setCell _ v hp, d4.setCell _ v hp⟩, h.bl.setCell (p := ⟨D, 1, none⟩) (by simp; omega) v, by simpa using h.lt, h.dlo, by simpa using h.dhi⟩
/-- A list made later lies where the frame's lists may. -/
theorem SD.fresh {w W W' : World} {cs : List Value} {D : Nat} {T : List (List Int)} {da dd dw : List Int} (h : SD w W cs D T da dd dw) {v : Value} {l : List Int} (hv : RP W' (fun b => W.heap.size ≤ b) v l) : RP W' (fun b => w.heap.size + 4 ≤ b ∧ b ≠ D) v l :=
  hv.mono fun b hb => by have := h.lt; have := h.dhi; omega
end Go.Proofs.YtebeajnaamglkaaGreatDoor
