/- Frames of TaintChains: a list of pairs, the model's array, and the law's same. Conditions: none. -/
import Derived.Test.YtebeajnaamglkaaDoorTntLi
import Derived.Test.YtebeajnaamglkaaDoorTntKt
import Derived.Test.YtebeajnaamglkaaDoorTntCh
import Derived.Test.YtebeajnaamglkaaDoorFieldsPl
set_option linter.unusedSimpArgs false
set_option linter.unusedVariables false
namespace Go.Proofs.YtebeajnaamglkaaDoor
open Go.RowKit
/-- A slice of pairs. -/
structure PL (w : World) (v : Value) (F : List (Int × Int)) : Prop where
  form : ∃ A c, v = .slice A F.length c ∧ F.length ≤ c ∧ c ≤ maxLen ∧ (F = [] ∨ ∃ b o, A = some ⟨b, o, none⟩ ∧ b < w.heap.size ∧ ∀ j x y, F[j]? = some (x, y) → w.cell? ⟨b, o + j * 2, none⟩ = some (.int .i64 x) ∧ w.cell? ⟨b, o + j * 2 + 1, none⟩ = some (.int .i64 y))
/-- The model's array. -/
structure MD (W : World) (M : Nat) (m : Nat → Int) : Prop where
  c : ∀ r, r < 32 → W.cell? ⟨M, r, none⟩ = some (.int .i64 (m r))
  t : ∀ r, r < 32 → W.frozen? ⟨M, r, none⟩ = false
  lt : M < W.heap.size
theorem MD.keep {W W' : World} {M : Nat} {m : Nat → Int} (h : MD W M m) (hb : Below W.heap.size W W') : MD W' M m :=
  ⟨fun r hr => by rw [hb.cell (p := ⟨M, r, none⟩) h.lt]; exact h.c r hr, fun r hr => by rw [hb.frozen (p := ⟨M, r, none⟩) h.lt]; exact h.t r hr, Nat.lt_of_lt_of_le h.lt hb.size⟩
theorem MD.far {W : World} {M Y : Nat} {m : Nat → Int} (h : MD W M m) (hne : M ≠ Y) (o : Nat) (vs : List Value) : MD (W.setCells Y o vs) M m :=
  ⟨fun r hr => by rw [World.cell?_setCells_out Y vs o W ⟨M, r, none⟩ (fun e _ => absurd e hne)]; exact h.c r hr, fun r hr => by rw [World.frozen?_setCells]; exact h.t r hr, by rw [tn_size]; exact h.lt⟩
theorem MD.put {W : World} {M : Nat} {m : Nat → Int} (h : MD W M m) (k : Nat) (hk : k < 32) (n : Int) : MD (W.setCell ⟨M, k, none⟩ (.int .i64 n)) M (fun r => if r = k then n else m r) := by
  refine ⟨fun r hr => ?_, fun r hr => by simpa using h.t r hr, by simpa using h.lt⟩
  by_cases e : r = k
  · subst e
    rw [World.cell?_setCell_same _ _ _ (h.c r hr), if_pos rfl]
  · rw [World.cell?_setCell_other _ _ _ _ (fun q => e (by injection q with _ q; exact q.symm)), if_neg e]; exact h.c r hr
theorem MD.new (W : World) (t : TypeId) : MD (W.alloc (.cells #[.int .i64 0, .int .i64 0, .int .i64 0, .int .i64 0, .int .i64 0, .int .i64 0, .int .i64 0, .int .i64 0, .int .i64 0, .int .i64 0, .int .i64 0, .int .i64 0, .int .i64 0, .int .i64 0, .int .i64 0, .int .i64 0, .int .i64 0, .int .i64 0, .int .i64 0, .int .i64 0, .int .i64 0, .int .i64 0, .int .i64 0, .int .i64 0, .int .i64 0, .int .i64 0, .int .i64 0, .int .i64 0, .int .i64 0, .int .i64 0, .int .i64 0, .int .i64 0] t)) W.heap.size (fun _ => 0) := by
  obtain ⟨h1, h2, -, h4⟩ := new_block W #[.int .i64 0, .int .i64 0, .int .i64 0, .int .i64 0, .int .i64 0, .int .i64 0, .int .i64 0, .int .i64 0, .int .i64 0, .int .i64 0, .int .i64 0, .int .i64 0, .int .i64 0, .int .i64 0, .int .i64 0, .int .i64 0, .int .i64 0, .int .i64 0, .int .i64 0, .int .i64 0, .int .i64 0, .int .i64 0, .int .i64 0, .int .i64 0, .int .i64 0, .int .i64 0, .int .i64 0, .int .i64 0, .int .i64 0, .int .i64 0, .int .i64 0, .int .i64 0] t
  have h5 : ∀ r, r < 32 → (W.alloc (.cells #[.int .i64 0, .int .i64 0, .int .i64 0, .int .i64 0, .int .i64 0, .int .i64 0, .int .i64 0, .int .i64 0, .int .i64 0, .int .i64 0, .int .i64 0, .int .i64 0, .int .i64 0, .int .i64 0, .int .i64 0, .int .i64 0, .int .i64 0, .int .i64 0, .int .i64 0, .int .i64 0, .int .i64 0, .int .i64 0, .int .i64 0, .int .i64 0, .int .i64 0, .int .i64 0, .int .i64 0, .int .i64 0, .int .i64 0, .int .i64 0, .int .i64 0, .int .i64 0] t)).frozen? ⟨W.heap.size, r, none⟩ = false := fun r hr => by
    have h6 := (h2 r hr).2
    rw [Nat.zero_add] at h6
    exact h6
  refine ⟨fun r hr => ?_, h5, by rw [h4]; exact Nat.lt_succ_self _⟩
  have h3 : (List.replicate 32 (Value.int .i64 0))[r]? = some (.int .i64 0) := by rw [List.getElem?_replicate, if_pos hr]
  have := h1 r _ h3
  rwa [Nat.zero_add] at this
/-- Where TaintChains stands: the taint's box X, the model's array M. -/
structure CL (w W : World) (X M : Nat) (cs : List Value) (T : List (List Int)) (m : Nat → Int) : Prop where
  tb : TB W X (fun b => b ≠ X ∧ b ≠ M) cs T
  md : MD W M m
  ch : Chain T m
  bl : Below w.heap.size w W
  xl : w.heap.size ≤ X
  ml : w.heap.size ≤ M
  ne : X ≠ M
theorem CL.keep {w W W' : World} {X M : Nat} {cs : List Value} {T : List (List Int)} {m : Nat → Int} (h : CL w W X M cs T m) (hb : Below W.heap.size W W') : CL w W' X M cs T m :=
  ⟨h.tb.keep hb, h.md.keep hb, h.ch, bl_step h.bl hb, h.xl, h.ml, h.ne⟩
theorem CL.far {w W : World} {X M Y : Nat} {cs : List Value} {T : List (List Int)} {m : Nat → Int} (h : CL w W X M cs T m) (hY : W.heap.size ≤ Y) (vs : List Value) : CL w (W.setCells Y 0 vs) X M cs T m := h.keep (tn_below hY vs 0 W (Below.refl _ _))
set_option maxRecDepth 100000 in
set_option maxHeartbeats 4000000 in
/-- The law's same, where it holds. -/
theorem Same1_any (v : Value) (n : Int) (B : Nat) (w : World) (h0 : 0 ≤ n) (h1 : n ≤ 1000) (h : RL w B v (oneL n)) :
    Calls Tryd.prog 11 #[v, .int .i64 n] w fun e w' => e = .returned (.bool true) ∧ w = w' := by
  obtain ⟨A, c, rfl, a1, a2, a3⟩ := h.form
  unfold maxLen at a2
  clear h
  by_cases hn : n = 0
  · subst hn
    clear a3 h0 h1
    rw [show (oneL 0).length = 0 from rfl] at *
    go_enter Tryd.func11, Tryd.ntmps11
    go_wp2_with fail
    go_ret
    exact ⟨rfl, rfl⟩
  · have e1 : oneL n = [n - 1] := by unfold oneL; rw [if_neg hn]
    rw [e1] at a1 a3 ⊢
    obtain ⟨b, o, rfl, -, hc⟩ := a3.resolve_left (by simp)
    have hc0 : w.cell? ⟨b, o, none⟩ = some (.int .i64 (n - 1)) := by have := hc 0 (n - 1) rfl; rwa [Nat.add_zero] at this
    clear a3 hc e1
    have t1 : (n == 0) = false := by simpa using hn
    have t2 : decide (0 < n) = true := by simp; omega
    have t3 : wrap64 (n - 1) = n - 1 := IntWalk.wrap64_in _ (by omega)
    have t4 : IntKind.i64.wrap (n - 1) = n - 1 := by rw [IntKind.wrap_i64]; omega
    have a1 : 1 ≤ c := by simpa using a1
    simp only [List.length_cons, List.length_nil, Nat.zero_add]
    clear hn h0 h1
    go_enter Tryd.func11, Tryd.ntmps11
    go_wp2_with fail
    go_ret
    exact ⟨ret_bool (by simp [t3, t4]), rfl⟩
end Go.Proofs.YtebeajnaamglkaaDoor
