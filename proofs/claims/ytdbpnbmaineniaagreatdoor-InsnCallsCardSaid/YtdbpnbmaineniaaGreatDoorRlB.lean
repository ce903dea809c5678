/- Lists of ints in memory, and the walks of taint.Rising, slices.Clip and taint.merge. Conditions: none. -/
import Derived.Test.YtdbpnbmaineniaaGreatDoorOwn
import Derived.Test.YtdbpnbmaineniaaGreatDoorShelf
import Derived.Deep.MidRow
import Derived.Deep.QuietTactic
import Derived.BigQuiet
set_option linter.unusedSimpArgs false
set_option linter.unusedVariables false
namespace Go.Proofs.YtdbpnbmaineniaaGreatDoor
open Go.RowKit
/-- A slice's value reads as a list of ints, in blocks below B. -/
structure RL (w : World) (B : Nat) (v : Value) (l : List Int) : Prop where
  form : ∃ A c, v = .slice A l.length c ∧ l.length ≤ c ∧ c ≤ maxLen ∧ (l = [] ∨ ∃ b o, A = some ⟨b, o, none⟩ ∧ b < B ∧ ∀ j x, l[j]? = some x → w.cell? ⟨b, o + j, none⟩ = some (.int .i64 x))
theorem RL.nil (w : World) (B : Nat) : RL w B (.slice none 0 0) [] := ⟨⟨none, 0, rfl, Nat.le_refl _, by simp [maxLen], .inl rfl⟩⟩
theorem RL.keep {w w' : World} {B : Nat} {v : Value} {l : List Int} (h : RL w B v l) (hk : ∀ p : Addr, p.block < B → w'.cell? p = w.cell? p) : RL w' B v l := by
  obtain ⟨A, c, rfl, h1, h2, h3⟩ := h.form
  refine ⟨⟨A, c, rfl, h1, h2, h3.imp id ?_⟩⟩
  rintro ⟨b, o, rfl, hb, hc⟩
  exact ⟨b, o, rfl, hb, fun j x hx => (hk ⟨b, o + j, none⟩ hb).trans (hc j x hx)⟩
theorem RL.below {w w' : World} {B C : Nat} {v : Value} {l : List Int} (h : RL w B v l) (hb : Below C w w') (hC : B ≤ C) : RL w' B v l := h.keep fun p hp => hb.cell (p := p) (Nat.lt_of_lt_of_le hp hC)
theorem RL.more {w : World} {B B' : Nat} {v : Value} {l : List Int} (h : RL w B v l) (hB : B ≤ B') : RL w B' v l := by
  obtain ⟨A, c, rfl, h1, h2, h3⟩ := h.form
  refine ⟨⟨A, c, rfl, h1, h2, h3.imp id ?_⟩⟩
  rintro ⟨b, o, rfl, hb, hc⟩
  exact ⟨b, o, rfl, by omega, hc⟩
/-- A row of the call's own reads as its list. -/
theorem RL.of_own {w : World} {base : Nat} {e : TypeId} {v : Value} {l : List Int} {n : Nat} (h : w.ownsRow base e 1 v n (l.map (Value.int .i64))) (hn : n = l.length) : RL w w.heap.size v l := by
  subst hn
  rcases h.2 with ⟨rfl, h0⟩ | ⟨g, cap, cur, rfl, hb, hh, hnc, hcap, hcs⟩
  · have hl : l = [] := List.eq_nil_of_length_eq_zero h0
    subst hl
    exact RL.nil _ _
  · have hg : g < w.heap.size := by
      have := h.lt g rfl
      exact this.2
    refine ⟨⟨some ⟨g, 0, none⟩, cap, rfl, hnc, hcap, .inr ⟨g, 0, rfl, hg, fun j x hx => ?_⟩⟩⟩
    have := h.cells (g := g) rfl j (.int .i64 x) (by rw [List.getElem?_map, hx]; rfl)
    rw [Addr.add_lit] at this
    exact this
theorem RL.clip {w : World} {B : Nat} {A : Option Addr} {n c : Nat} {l : List Int} (h : RL w B (.slice A n c) l) : RL w B (.slice A n n) l := by
  obtain ⟨A', c', he, h1, h2, h3⟩ := h.form
  simp only [Value.slice.injEq] at he
  obtain ⟨rfl, rfl, rfl⟩ := he
  exact ⟨⟨A, l.length, rfl, Nat.le_refl _, Nat.le_trans h1 h2, h3⟩⟩
theorem own_slice2 {w : World} {base : Nat} {e : TypeId} {v : Value} {n : Nat} {xs : List Value} (h : w.ownsRow base e 1 v n xs) : ∃ (ao : Option Addr) (cap : Nat), v = .slice ao n cap ∧ n ≤ cap ∧ cap ≤ 9223372036854775807 ∧ (ao = none → n = 0) := by
  rcases h.2 with ⟨rfl, h0⟩ | ⟨g, cap, cur, rfl, h2, h3, h4, h5, h6⟩
  · exact ⟨none, 0, by rw [h0], by omega, by omega, fun _ => h0⟩
  · exact ⟨_, cap, rfl, h4, by unfold maxLen at h5; omega, fun e => by cases e⟩
/-- A slice's value reads as a list of ints, in blocks that P lets. -/
structure RP (w : World) (P : Nat → Prop) (v : Value) (l : List Int) : Prop where
  form : ∃ A c, v = .slice A l.length c ∧ l.length ≤ c ∧ c ≤ maxLen ∧ (l = [] ∨ ∃ b o, A = some ⟨b, o, none⟩ ∧ P b ∧ b < w.heap.size ∧ ∀ j x, l[j]? = some x → w.cell? ⟨b, o + j, none⟩ = some (.int .i64 x))
theorem RP.nil (w : World) (P : Nat → Prop) : RP w P (.slice none 0 0) [] := ⟨⟨none, 0, rfl, Nat.le_refl _, by simp [maxLen], .inl rfl⟩⟩
theorem RP.rl {w : World} {P : Nat → Prop} {v : Value} {l : List Int} (h : RP w P v l) : RL w w.heap.size v l := by
  obtain ⟨A, c, rfl, h1, h2, h3⟩ := h.form
  refine ⟨⟨A, c, rfl, h1, h2, h3.imp id ?_⟩⟩
  rintro ⟨b, o, rfl, -, hb, hc⟩
  exact ⟨b, o, rfl, hb, hc⟩
theorem RL.rp {w : World} {B : Nat} {v : Value} {l : List Int} (h : RL w B v l) (hB : B ≤ w.heap.size) : RP w (fun b => b < B) v l := by
  obtain ⟨A, c, rfl, h1, h2, h3⟩ := h.form
  refine ⟨⟨A, c, rfl, h1, h2, h3.imp id ?_⟩⟩
  rintro ⟨b, o, rfl, hb, hc⟩
  exact ⟨b, o, rfl, hb, Nat.lt_of_lt_of_le hb hB, hc⟩
theorem RP.mono {w : World} {P Q : Nat → Prop} {v : Value} {l : List Int} (h : RP w P v l) (hq : ∀ b, P b → Q b) : RP w Q v l := by
  obtain ⟨A, c, rfl, h1, h2, h3⟩ := h.form
  refine ⟨⟨A, c, rfl, h1, h2, h3.imp id ?_⟩⟩
  rintro ⟨b, o, rfl, hp, hb, hc⟩
  exact ⟨b, o, rfl, hq b hp, hb, hc⟩
theorem RP.keep {w w' : World} {P : Nat → Prop} {v : Value} {l : List Int} (h : RP w P v l) (hk : ∀ p : Addr, P p.block → p.block < w.heap.size → w'.cell? p = w.cell? p) (hs : w.heap.size ≤ w'.heap.size) : RP w' P v l := by
  obtain ⟨A, c, rfl, h1, h2, h3⟩ := h.form
  refine ⟨⟨A, c, rfl, h1, h2, h3.imp id ?_⟩⟩
  rintro ⟨b, o, rfl, hp, hb, hc⟩
  exact ⟨b, o, rfl, hp, Nat.lt_of_lt_of_le hb hs, fun j x hx => (hk ⟨b, o + j, none⟩ hp hb).trans (hc j x hx)⟩
theorem RP.below {w w' : World} {P : Nat → Prop} {v : Value} {l : List Int} (h : RP w P v l) (hb : Below w.heap.size w w') : RP w' P v l := h.keep (fun p _ hp => hb.cell (p := p) hp) hb.size
theorem RP.setCell {w : World} {P : Nat → Prop} {v : Value} {l : List Int} (h : RP w P v l) (p : Addr) (u : Value) (hp : ¬ P p.block) : RP (w.setCell p u) P v l :=
  h.keep (fun q hq _ => World.cell?_setCell_other w p q u (fun e => by subst e; exact hp hq)) (by simp)
theorem RP.of_own {w : World} {base : Nat} {e : TypeId} {v : Value} {l : List Int} {n : Nat} (h : w.ownsRow base e 1 v n (l.map (Value.int .i64))) (hn : n = l.length) : RP w (fun b => base ≤ b) v l := by
  subst hn
  rcases h.2 with ⟨rfl, h0⟩ | ⟨g, cap, cur, rfl, hb, hh, hnc, hcap, hcs⟩
  · have hl : l = [] := List.eq_nil_of_length_eq_zero h0
    subst hl
    exact RP.nil _ _
  · refine ⟨⟨some ⟨g, 0, none⟩, cap, rfl, hnc, hcap, .inr ⟨g, 0, rfl, hb, (h.lt g rfl).2, fun j x hx => ?_⟩⟩⟩
    have := h.cells (g := g) rfl j (.int .i64 x) (by rw [List.getElem?_map, hx]; rfl)
    rw [Addr.add_lit] at this
    exact this
theorem RP.clip {w : World} {P : Nat → Prop} {A : Option Addr} {n c : Nat} {l : List Int} (h : RP w P (.slice A n c) l) : RP w P (.slice A n n) l := by
  obtain ⟨A', c', he, h1, h2, h3⟩ := h.form
  simp only [Value.slice.injEq] at he
  obtain ⟨rfl, rfl, rfl⟩ := he
  exact ⟨⟨A, l.length, rfl, Nat.le_refl _, Nat.le_trans h1 h2, h3⟩⟩
theorem RP.one {w : World} {P : Nat → Prop} {v : Value} {l : List Int} (h : RP w P v l) : v.oneCell' = true := by
  obtain ⟨A, c, rfl, -⟩ := h.form; rfl
/-- taint.Rising, from a number on. -/
def risingF : Int → List Int → Bool
  | _, [] => true
  | a, x :: l => decide (a < x) && risingF x l
def risingB (l : List Int) : Bool := risingF (-1) l
theorem risingF_no {a x : Int} {l : List Int} (h : x ≤ a) : risingF a (x :: l) = false := by
  unfold risingF; rw [decide_eq_false (by omega)]; rfl
theorem risingF_yes {a x : Int} {l : List Int} (h : a < x) : risingF a (x :: l) = risingF x l := by
  rw [risingF, decide_eq_true h]; rfl
theorem drop_at {l : List Int} {k : Nat} (h : k < l.length) : ∃ x, l[k]? = some x ∧ l.drop k = x :: l.drop (k + 1) := ⟨l[k], List.getElem?_eq_getElem h, List.drop_eq_getElem_cons h⟩
end Go.Proofs.YtdbpnbmaineniaaGreatDoor
