/- Plain: the registers that an instruction reads, and what makes an instruction invalid; blocks that hold cells. Conditions: none. -/
import Derived.Test.YtebeajnaamglkaaGreatDoorInsnRd
import Derived.Test.YtebeajnaamglkaaGreatDoorInsnOk
import Derived.OrdersHeld
set_option linter.unusedSimpArgs false
set_option linter.unusedVariables false
namespace Go.Proofs.YtebeajnaamglkaaGreatDoor
open Go.RowKit
theorem checkE_ne {i : InsnV} (h : checkE i ≠ 0) : checkE i = 2 := by unfold checkE at h ⊢; cases hk : checkOk i <;> simp_all
theorem bad_rd {i : InsnV} (h : 32 ≤ i.rd ∨ i.rd < 0) : checkE i = 2 := checkE_ne fun e => by have := (ok_facts i e).1; omega
theorem bad_rs1 {i : InsnV} (h : 32 ≤ i.rs1 ∨ i.rs1 < 0) : checkE i = 2 := checkE_ne fun e => by have := (ok_facts i e).2.1; omega
theorem bad_rs2 {i : InsnV} (h : 32 ≤ i.rs2 ∨ i.rs2 < 0) : checkE i = 2 := checkE_ne fun e => by have := (ok_facts i e).2.2.1; omega
theorem bad_pred {i : InsnV} (h : 16 ≤ i.pred) : checkE i = 2 := checkE_ne fun e => by have := (ok_facts i e).2.2.2.1; omega
/-- Another flag: valid just where the form has flags. -/
theorem flag_flip (i : InsnV) (h : checkE i = 0) : checkE { i with aq := !i.aq } = if (opOf i.op).form = 11 ∨ (opOf i.op).form = 12 then 0 else 2 := by
  by_cases hf : (opOf i.op).form = 11 ∨ (opOf i.op).form = 12
  · rw [if_pos hf]
    have hk : checkOk i = true := by unfold checkE at h; cases hk : checkOk i <;> simp_all
    have : checkOk { i with aq := !i.aq } = true := by
      unfold checkOk at hk ⊢
      unfold formOk at hk ⊢
      rcases hf with e | e <;> simp only [e] at hk ⊢ <;> simpa using hk
    unfold checkE; rw [this]; rfl
  · rw [if_neg hf]
    refine checkE_ne fun e => ?_
    have h1 := (ok_facts _ e).2.2.2.2.2.1
    have h2 := (ok_facts _ h).2.2.2.2.2.1
    rcases h1 with h1 | h1 | h1
    · exact hf (.inl h1)
    · exact hf (.inr h1)
    · rcases h2 with h2 | h2 | h2
      · exact hf (.inl h2)
      · exact hf (.inr h2)
      · simp only [h2.1] at h1; exact absurd h1.1 (by decide)
theorem compact2 (a b : Int) : Lib.compact [a, b] = if a = b then [a] else [a, b] := by
  unfold Lib.compact Lib.compactUpTo
  by_cases h : a = b
  · subst h; simp [List.range_succ, Lib.keeps]
  · simp [List.range_succ, Lib.keeps, h, fun e => h (Eq.symm e), eq_comm]
/-- What is read: ascending, each among the registers, at most two. -/
theorem reads_form (i : InsnV) (h : checkE i = 0) : readsP i = [] ∨ (∃ x, readsP i = [x] ∧ 1 ≤ x ∧ x ≤ 31 ∧ (i.op = 64 ∨ x = i.rs1 ∨ x = i.rs2)) ∨
    ∃ x y, readsP i = [x, y] ∧ 1 ≤ x ∧ x < y ∧ y ≤ 31 ∧ (i.op = 64 ∨ x = i.rs1 ∨ x = i.rs2) ∧ (i.op = 64 ∨ y = i.rs1 ∨ y = i.rs2) := by
  obtain ⟨-, r1, r2, -⟩ := ok_facts i h
  unfold readsP
  by_cases h64 : i.op = 64
  · rw [if_pos h64, ms2, if_pos (by decide), compact2, if_neg (by decide)]
    exact .inr (.inr ⟨10, 17, rfl, by decide, by decide, by decide, .inl h64, .inl h64⟩)
  · rw [if_neg h64, ms2]
    generalize i.rs1 = a at *
    generalize i.rs2 = b at *
    have key : ∀ x y : Int, 0 ≤ x → x ≤ y → y ≤ 31 → (x = a ∨ x = b) → (y = a ∨ y = b) → (Lib.compact [x, y]).filter (fun x => !(x == 0)) = [] ∨ (∃ z, (Lib.compact [x, y]).filter (fun x => !(x == 0)) = [z] ∧ 1 ≤ z ∧ z ≤ 31 ∧ (i.op = 64 ∨ z = a ∨ z = b)) ∨
        ∃ z t, (Lib.compact [x, y]).filter (fun x => !(x == 0)) = [z, t] ∧ 1 ≤ z ∧ z < t ∧ t ≤ 31 ∧ (i.op = 64 ∨ z = a ∨ z = b) ∧ (i.op = 64 ∨ t = a ∨ t = b) := by
      intro x y h0 hxy h31 hx hy
      rw [compact2]
      by_cases e : x = y
      · rw [if_pos e]
        by_cases z : x = 0
        · exact .inl (by simp [z])
        · exact .inr (.inl ⟨x, by simp [z], by omega, by omega, .inr hx⟩)
      · rw [if_neg e]
        by_cases z : x = 0
        · exact .inr (.inl ⟨y, by simp [z, show y ≠ 0 by omega], by omega, by omega, .inr hy⟩)
        · exact .inr (.inr ⟨x, y, by simp [z, show y ≠ 0 by omega], by omega, by omega, by omega, .inr hx, .inr hy⟩)
    by_cases hab : a ≤ b
    · rw [if_pos hab]; exact key a b r1.1 hab r2.2 (.inl rfl) (.inr rfl)
    · rw [if_neg hab]; exact key b a r2.1 (by omega) r1.2 (.inr rfl) (.inl rfl)
theorem wpList_yieldsF {P : Program} {ops : Array Oper} {rest : List Oper} {op : Oper} {a : Act} {w : World} {Q : Exit → Act → World → Prop} {S : World → Prop} {v : Value} (hy : YieldsIf P ops S op v a) (hS : S w) (h : wpList P ops Q rest (a.put op.dst v) w) : wpList P ops Q (op :: rest) a w :=
  wpList_step fun K hK => by
    rcases hy with ⟨hw, hv⟩ | ⟨hw, rfl⟩
    · rw [if_pos hw]; unfold Oper.wp; simp only [hv w hS, Oper.upon]; exact hK _ _ h
    · rw [if_neg (by simp [hw])]; exact hK _ _ h
/-- A load of many cells, where its guard is met. -/
theorem wpList_load_midG {P : Program} {ops : Array Oper} {rest : List Oper} {op : Oper} {a : Act} {w : World} {Q : Exit → Act → World → Prop} (ty : TypeId) (x : Operand) (ho : op.op = .load ty x) (hw : Region.wanted op (yielded ops a.tmps) = true)
    (b o : Nat) (hx : a.eval x = .pointer (some ⟨b, o, none⟩)) (cs : List Value) (d : TypeDesc) (hc : w.rangeAt b o cs)
    (hu : P.underlying ty = some d) (hd : d.isRow = true) (hi : (P.info? ty).map (·.size) = some cs.length)
    (h : wpList P ops Q rest (a.put op.dst (.agg cs.toArray)) w) : wpList P ops Q (op :: rest) a w :=
  wpList_yieldsF (S := fun W => W = w) (yieldsIf_load_mid hw ty x ho b o hx cs d (fun W hW => by rw [hW]; exact hc) hu hd hi) rfl h
/-- A block of the call's own that holds nine cells. -/
structure BK (w W : World) (X : Nat) (cs : List Value) : Prop where
  r : W.rangeAt X 0 cs
  t : W.there X 0 9
  lo : w.heap.size < X
  hi : X < W.heap.size
theorem BK.keep {w W W' : World} {X : Nat} {cs : List Value} (h : BK w W X cs) (hb : Below W.heap.size W W') : BK w W' X cs :=
  ⟨fun j v hv => by rw [hb.cell (p := ⟨X, 0 + j, none⟩) h.hi]; exact h.r j v hv,
   fun j hj => by rw [hb.cell (p := ⟨X, 0 + j, none⟩) h.hi, hb.frozen (p := ⟨X, 0 + j, none⟩) h.hi]; exact h.t j hj, h.lo, Nat.lt_of_lt_of_le h.hi hb.size⟩
theorem bk_size (b : Nat) : ∀ (vs : List Value) (o : Nat) (w : World), (w.setCells b o vs).heap.size = w.heap.size
  | [], _, _ => rfl
  | v :: r, o, w => by rw [World.setCells, bk_size b r]; simp
theorem BK.far {w W : World} {X Y : Nat} {cs : List Value} (h : BK w W X cs) (hne : X ≠ Y) (o : Nat) (vs : List Value) : BK w (W.setCells Y o vs) X cs :=
  ⟨World.rangeAt_setCells_apart h.r Y o vs (.inl hne), World.there_setCells h.t Y o vs, h.lo, by rw [bk_size]; exact h.hi⟩
theorem BK.far1 {w W : World} {X Y : Nat} {cs : List Value} (h : BK w W X cs) (hne : X ≠ Y) (o : Nat) (v : Value) : BK w (W.setCell ⟨Y, o, none⟩ v) X cs := h.far hne o [v]
theorem BK.fill {w W : World} {X : Nat} {cs cs' : List Value} (h : BK w W X cs) (hl : cs'.length = 9) : BK w (W.setCells X 0 cs') X cs' :=
  ⟨World.rangeAt_setCells_same W X 0 cs' (by rw [hl]; exact h.t), World.there_setCells h.t X 0 cs', h.lo, by rw [bk_size]; exact h.hi⟩
theorem BK.set {w W : World} {X : Nat} {cs : List Value} (h : BK w W X cs) (o : Nat) (v : Value) : BK w (W.setCell ⟨X, o, none⟩ v) X (cs.set o v) :=
  ⟨fun j u hj => by
    rw [Nat.zero_add]
    have h1 : o < 9 ∨ 9 ≤ o := by omega
    by_cases e : o = j
    · subst e
      have hlt : o < cs.length := by
        have := (List.getElem?_eq_some_iff.1 hj).1
        simpa using this
      rw [List.getElem?_set_self hlt] at hj
      cases hj
      obtain ⟨x, hx⟩ : ∃ x, W.cell? ⟨X, o, none⟩ = some x := ⟨_, by have := h.r o cs[o] (List.getElem?_eq_getElem hlt); rw [Nat.zero_add] at this; exact this⟩
      exact World.cell?_setCell_same _ _ _ hx
    · rw [List.getElem?_set_ne e] at hj
      rw [World.cell?_setCell_other _ _ _ _ (fun k => e (by injection k))]
      have := h.r j u hj
      rw [Nat.zero_add] at this; exact this,
   World.there_setCells h.t X o [v], h.lo, by simpa using h.hi⟩
theorem BK.cell {w W : World} {X : Nat} {cs : List Value} (h : BK w W X cs) (j : Nat) (v : Value) (hj : cs[j]? = some v) : W.cell? ⟨X, j, none⟩ = some v := by have := h.r j v hj; rwa [Nat.zero_add] at this
theorem BK.thaw {w W : World} {X : Nat} {cs : List Value} (h : BK w W X cs) (j : Nat) (hj : j < 9) : W.frozen? ⟨X, j, none⟩ = false := by have := (h.t j hj).2; rwa [Nat.zero_add] at this
theorem BK.new {w W : World} (Z : Array Value) (t : TypeId) (hZ : Z.size = 9) (h : w.heap.size < W.heap.size) : BK w (W.alloc (.cells Z t)) W.heap.size Z.toList :=
  ⟨fun j v hv => by rw [World.cell?_alloc_new, Nat.zero_add]; simpa using hv,
   fun j hj => ⟨by rw [World.cell?_alloc_new]; simp; omega, by simp [go_sem]⟩, h, by simp⟩
theorem bk_below {B a : Nat} {w : World} (ha : B ≤ a) : ∀ (vs : List Value) (o : Nat) (W : World), Below B w W → Below B w (W.setCells a o vs)
  | [], _, _, h => h
  | v :: r, o, W, h => bk_below ha r (o + 1) _ (h.setCell ha _)
theorem XB.far {w W : World} {cs : List Value} (h : XB w cs W) {Y : Nat} (hne : w.heap.size < Y) (o : Nat) (vs : List Value) : XB w cs (W.setCells Y o vs) :=
  ⟨World.rangeAt_setCells_apart h.c Y o vs (.inl (Nat.ne_of_lt hne)), bk_below (Nat.le_of_lt hne) vs o _ h.bl, by rw [bk_size]; exact h.lt⟩
end Go.Proofs.YtebeajnaamglkaaGreatDoor
