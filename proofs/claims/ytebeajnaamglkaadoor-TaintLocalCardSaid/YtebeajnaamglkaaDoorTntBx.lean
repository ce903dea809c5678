/- A step's taint and dependencies in boxes of their own. Conditions: none. -/
import Derived.Test.YtebeajnaamglkaaDoorTntLv
set_option linter.unusedSimpArgs false
set_option linter.unusedVariables false
namespace Go.Proofs.YtebeajnaamglkaaDoor
open Go.RowKit
/-- A taint in the block X, dependencies in the next one; their lists lie in elder blocks. -/
structure TQ (W : World) (X : Nat) (cs : List Value) (T : List (List Int)) (va vd vw : Value) (da dd dw : List Int) : Prop where
  rt : W.rangeAt X 0 cs
  rd : W.rangeAt (X + 1) 0 [va, vd, vw]
  tt : W.there X 0 33
  td : W.there (X + 1) 0 3
  ts : TS W (fun b => b < X) cs T
  ra : RP W (fun b => b < X) va da
  rv : RP W (fun b => b < X) vd dd
  rx : RP W (fun b => b < X) vw dw
  lt : X + 1 < W.heap.size
theorem TQ.keep {W W' : World} {X : Nat} {cs : List Value} {T : List (List Int)} {va vd vw : Value} {da dd dw : List Int} (h : TQ W X cs T va vd vw da dd dw) (hb : Below W.heap.size W W') : TQ W' X cs T va vd vw da dd dw :=
  have hl := h.lt
  ⟨tn_range h.rt (by omega) hb, tn_range h.rd hl hb, tn_there h.tt (by omega) hb, tn_there h.td hl hb, h.ts.below hb, h.ra.below hb, h.rv.below hb, h.rx.below hb, Nat.lt_of_lt_of_le hl hb.size⟩
theorem TQ.one {W : World} {X : Nat} {cs : List Value} {T : List (List Int)} {va vd vw : Value} {da dd dw : List Int} (h : TQ W X cs T va vd vw da dd dw) : ∀ v ∈ [va, vd, vw], v.oneCell' = true := fun v hv => by
  simp only [List.mem_cons, List.not_mem_nil, or_false] at hv
  rcases hv with rfl | rfl | rfl
  · exact h.ra.one
  · exact h.rv.one
  · exact h.rx.one
theorem TQ.reg {W : World} {X : Nat} {cs : List Value} {T : List (List Int)} {va vd vw : Value} {da dd dw : List Int} (h : TQ W X cs T va vd vw da dd dw) (k : Nat) (hk : k < 33) : ∃ v, W.cell? ⟨X, k, none⟩ = some v ∧ RP W (fun b => b < X) v (T.getD k []) := by
  obtain ⟨v, l, e1, e2, e3, e4⟩ := h.ts.get k hk
  have := h.rt k v e1
  rw [Nat.zero_add] at this
  exact ⟨v, this, by rw [e3]; exact e4⟩
/-- The two boxes made, then filled. -/
structure T0 (w W : World) : Prop where
  tt : W.there w.heap.size 0 33
  td : W.there (w.heap.size + 1) 0 3
  bl : Below w.heap.size w W
  sz : W.heap.size = w.heap.size + 2
theorem T0.new (w : World) (Z : Array Value) (Y : Array Value) (t1 t2 : TypeId) (hZ : Z.size = 33) (hY : Y.size = 3) : T0 w ((w.alloc (.cells Z t1)).alloc (.cells Y t2)) := by
  obtain ⟨a1, a2, a3, a4⟩ := new_block w Z t1
  generalize w.alloc (.cells Z t1) = W1 at *
  obtain ⟨b1, b2, b3, b4⟩ := new_block W1 Y t2
  generalize W1.alloc (.cells Y t2) = W2 at *
  rw [hZ] at a2
  rw [hY] at b2
  exact ⟨tn_there a2 (by omega) b3, by rw [← a4]; exact b2, a3.trans (b3.mono (by omega)), by omega⟩
theorem T0.cells {w W : World} (h : T0 w W) (b : Nat) (hb : w.heap.size ≤ b) (vs : List Value) : T0 w (W.setCells b 0 vs) :=
  ⟨World.there_setCells h.tt _ _ _, World.there_setCells h.td _ _ _, tn_below hb _ _ _ h.bl, by rw [tn_size]; exact h.sz⟩
theorem T0.full {w W : World} (h : T0 w W) {P : Nat → Prop} {cs : List Value} {T : List (List Int)} {va vd vw : Value} {da dd dw : List Int} (hT : TS w P cs T) (ha : RP w P va da) (hd : RP w P vd dd) (hw : RP w P vw dw) :
    TQ ((W.setCells w.heap.size 0 cs).setCells (w.heap.size + 1) 0 [va, vd, vw]) w.heap.size cs T va vd vw da dd dw ∧ Below w.heap.size w ((W.setCells w.heap.size 0 cs).setCells (w.heap.size + 1) 0 [va, vd, vw]) := by
  have h1 := h.cells w.heap.size (Nat.le_refl _) cs
  have h2 := h1.cells (w.heap.size + 1) (Nat.le_succ _) [va, vd, vw]
  have key : ∀ {v : Value} {l : List Int}, RP w P v l → RP ((W.setCells w.heap.size 0 cs).setCells (w.heap.size + 1) 0 [va, vd, vw]) (fun b => b < w.heap.size) v l := fun hv => (hv.rl.rp (Nat.le_refl _)).below h2.bl
  refine ⟨⟨World.rangeAt_setCells_apart (World.rangeAt_setCells_same _ _ _ _ (by rw [hT.lc]; exact h.tt)) _ _ _ (.inl (by omega)), World.rangeAt_setCells_same _ _ _ _ h1.td, h2.tt, h2.td, (hT.old).below h2.bl, key ha, key hd, key hw, by rw [h2.sz]; omega⟩, h2.bl⟩
theorem lit_rl2 (W : World) (a b : Int) (t : TypeId) : RL (W.alloc (.cells #[.int .i64 a, .int .i64 b] t)) (W.alloc (.cells #[.int .i64 a, .int .i64 b] t)).heap.size (.slice (some ⟨W.heap.size, 0, none⟩) 2 2) [a, b] :=
  ⟨⟨_, 2, rfl, Nat.le_refl _, by simp [maxLen], .inr ⟨_, _, rfl, by simp, fun j x hx => by rw [World.cell?_alloc_new, Nat.zero_add]; rcases j with _ | _ | j <;> simp at hx ⊢ <;> exact hx⟩⟩⟩
theorem lit_rl3 (W : World) (a b c : Int) (t : TypeId) : RL (W.alloc (.cells #[.int .i64 a, .int .i64 b, .int .i64 c] t)) (W.alloc (.cells #[.int .i64 a, .int .i64 b, .int .i64 c] t)).heap.size (.slice (some ⟨W.heap.size, 0, none⟩) 3 3) [a, b, c] :=
  ⟨⟨_, 3, rfl, Nat.le_refl _, by simp [maxLen], .inr ⟨_, _, rfl, by simp, fun j x hx => by rw [World.cell?_alloc_new, Nat.zero_add]; rcases j with _ | _ | _ | j <;> simp at hx ⊢ <;> exact hx⟩⟩⟩
/-- A list whatever, and a literal: are they the same? -/
theorem Same_lit1 (v : Value) (l : List Int) (P : Nat → Prop) (w : World) (h : RP w P v l) (a : Int) :
    Calls Tryd.prog 15 #[v, .slice (some ⟨w.heap.size, 0, none⟩) 1 1] (w.alloc (.cells #[.int .i64 a] 3)) (Quiet (w.alloc (.cells #[.int .i64 a] 3)) (.bool (l == [a]))) :=
  Same_any _ _ l [a] _ _ _ (h.rl.below ((Below.refl _ _).alloc (Nat.le_refl _) _) (Nat.le_refl _)) (RL.lit w a 3)
theorem Same_lit2 (v : Value) (l : List Int) (P : Nat → Prop) (w : World) (h : RP w P v l) (a b : Int) :
    Calls Tryd.prog 15 #[v, .slice (some ⟨w.heap.size, 0, none⟩) 2 2] (w.alloc (.cells #[.int .i64 a, .int .i64 b] 3)) (Quiet (w.alloc (.cells #[.int .i64 a, .int .i64 b] 3)) (.bool (l == [a, b]))) :=
  Same_any _ _ l [a, b] _ _ _ (h.rl.below ((Below.refl _ _).alloc (Nat.le_refl _) _) (Nat.le_refl _)) (lit_rl2 w a b 3)
theorem Same_lit3 (v : Value) (l : List Int) (P : Nat → Prop) (w : World) (h : RP w P v l) (a b c : Int) :
    Calls Tryd.prog 15 #[v, .slice (some ⟨w.heap.size, 0, none⟩) 3 3] (w.alloc (.cells #[.int .i64 a, .int .i64 b, .int .i64 c] 3)) (Quiet (w.alloc (.cells #[.int .i64 a, .int .i64 b, .int .i64 c] 3)) (.bool (l == [a, b, c]))) :=
  Same_any _ _ l [a, b, c] _ _ _ (h.rl.below ((Below.refl _ _).alloc (Nat.le_refl _) _) (Nat.le_refl _)) (lit_rl3 w a b c 3)
theorem bl_step {w W W' : World} (h : Below w.heap.size w W) (g : Below W.heap.size W W') : Below w.heap.size w W' := h.trans (g.mono h.size)
theorem Quiet.below {w w' : World} {v : Value} {e : Ending} (h : Quiet w v e w') : e = .returned v ∧ Below w.heap.size w w' := by
  obtain ⟨he, q, rfl⟩ := h
  exact ⟨he, ⟨rfl, rfl, rfl, Nat.le_refl _, fun _ _ => rfl⟩⟩
/-- A taint in the box X, its lists where P lets, and not in X. -/
structure TB (W : World) (X : Nat) (P : Nat → Prop) (cs : List Value) (T : List (List Int)) : Prop where
  rt : W.rangeAt X 0 cs
  tt : W.there X 0 33
  ts : TS W P cs T
  lt : X < W.heap.size
  np : ¬ P X
theorem TB.keep {W W' : World} {X : Nat} {P : Nat → Prop} {cs : List Value} {T : List (List Int)} (h : TB W X P cs T) (hb : Below W.heap.size W W') : TB W' X P cs T :=
  ⟨tn_range h.rt h.lt hb, tn_there h.tt h.lt hb, h.ts.below hb, Nat.lt_of_lt_of_le h.lt hb.size, h.np⟩
theorem TB.reg {W : World} {X : Nat} {P : Nat → Prop} {cs : List Value} {T : List (List Int)} (h : TB W X P cs T) (k : Nat) (hk : k < 33) : ∃ v, W.cell? ⟨X, k, none⟩ = some v ∧ RP W P v (T.getD k []) := by
  obtain ⟨v, l, e1, e2, e3, e4⟩ := h.ts.get k hk
  have := h.rt k v e1
  rw [Nat.zero_add] at this
  exact ⟨v, this, by rw [e3]; exact e4⟩
theorem TB.thaw {W : World} {X : Nat} {P : Nat → Prop} {cs : List Value} {T : List (List Int)} (h : TB W X P cs T) (k : Nat) (hk : k < 33) : W.frozen? ⟨X, k, none⟩ = false := by
  have := (h.tt k hk).2; rwa [Nat.zero_add] at this
theorem TB.put {W : World} {X : Nat} {P : Nat → Prop} {cs : List Value} {T : List (List Int)} (h : TB W X P cs T) (k : Nat) (hk : k < 33) {v : Value} {l : List Int} (hv : RP W P v l) : TB (W.setCell ⟨X, k, none⟩ v) X P (cs.set k v) (T.set k l) :=
  ⟨tn_set h.rt (by rw [h.ts.lc]; exact hk) v, World.there_setCells h.tt _ k [v], (h.ts.set k v l hv).setCell _ v h.np, by simpa using h.lt, h.np⟩
theorem TB.fill {W : World} {X : Nat} {P : Nat → Prop} {cs cs' : List Value} {T T' : List (List Int)} (h : TB W X P cs T) (hT : TS W P cs' T') : TB (W.setCells X 0 cs') X P cs' T' :=
  ⟨World.rangeAt_setCells_same _ _ _ _ (by rw [hT.lc]; exact h.tt), World.there_setCells h.tt _ _ _, hT.cells _ _ _ h.np, by rw [tn_size]; exact h.lt, h.np⟩
theorem TB.far {W : World} {X Y : Nat} {P : Nat → Prop} {cs : List Value} {T : List (List Int)} (h : TB W X P cs T) (hne : X ≠ Y) (hP : ¬ P Y) (o : Nat) (vs : List Value) : TB (W.setCells Y o vs) X P cs T :=
  ⟨World.rangeAt_setCells_apart h.rt _ _ _ (.inl hne), World.there_setCells h.tt _ _ _, h.ts.cells _ _ _ hP, by rw [tn_size]; exact h.lt, h.np⟩
theorem TB.mono {W : World} {X : Nat} {P Q : Nat → Prop} {cs : List Value} {T : List (List Int)} (h : TB W X P cs T) (hq : ∀ b, P b → Q b) (hX : ¬ Q X) : TB W X Q cs T := ⟨h.rt, h.tt, h.ts.mono hq, h.lt, hX⟩
/-- A new box filled. -/
theorem TB.new {w : World} {P : Nat → Prop} {cs : List Value} {T : List (List Int)} (hT : TS w P cs T) (Z : Array Value) (t : TypeId) (hZ : Z.size = 33) :
    (w.alloc (.cells Z t)).there w.heap.size 0 33 ∧ TB ((w.alloc (.cells Z t)).setCells w.heap.size 0 cs) w.heap.size (fun b => b ≠ w.heap.size) cs T ∧ Below w.heap.size w ((w.alloc (.cells Z t)).setCells w.heap.size 0 cs) := by
  obtain ⟨a1, a2, a3, a4⟩ := new_block w Z t
  rw [hZ] at a2
  have hT' : TS (w.alloc (.cells Z t)) (fun b => b ≠ w.heap.size) cs T := ((hT.old).below a3).mono fun b hb => by omega
  exact ⟨a2, ⟨World.rangeAt_setCells_same _ _ _ _ (by rw [hT.lc]; exact a2), World.there_setCells a2 _ _ _, hT'.cells _ _ _ (by simp), by rw [tn_size, a4]; exact Nat.lt_succ_self _, by simp⟩, tn_below (Nat.le_refl _) _ _ _ a3⟩
/-- What Step hands back, an error's number with it. -/
def StepE (w : World) (T : List (List Int)) (da dd dw : List Int) (E : Int) (e : Ending) (w' : World) : Prop := ∃ cs' va vd vw, e = .returned (.tuple #[.agg cs'.toArray, .agg #[va, vd, vw], .int .i64 E]) ∧
  TS w' (fun b => w.heap.size ≤ b) cs' T ∧ RP w' (fun b => w.heap.size ≤ b) va da ∧ RP w' (fun b => w.heap.size ≤ b) vd dd ∧ RP w' (fun b => w.heap.size ≤ b) vw dw ∧ Below w.heap.size w w'
theorem StepE.of_bad {w w' : World} {e : Ending} (h : StepBad w e w') : StepE w zeroT [] [] [] 2 e w' := by
  obtain ⟨rfl, hb⟩ := h
  exact ⟨zeroTL, _, _, _, rfl, zeroTS _ _, RP.nil _ _, RP.nil _ _, RP.nil _ _, hb⟩
/-- May the step be made? -/
def mayT (T : List (List Int)) (i : InsnV) (ev : Int) : Bool := decide (taintE T = 0) && decide (checkE i = 0) && decide (-1 ≤ ev)
def resT (T : List (List Int)) (i : InsnV) (ev : Int) : List (List Int) := if mayT T i ev then stepT T i ev else zeroT
def resA (T : List (List Int)) (i : InsnV) (ev : Int) : List Int := if mayT T i ev then addrT T i else []
def resD (T : List (List Int)) (i : InsnV) (ev : Int) : List Int := if mayT T i ev then dataT T i else []
def resW (T : List (List Int)) (i : InsnV) (ev : Int) : List Int := if mayT T i ev then T.getD 32 [] else []
def resE (T : List (List Int)) (i : InsnV) (ev : Int) : Int := if mayT T i ev then 0 else 2
theorem taintE_ne {T : List (List Int)} (h : taintE T ≠ 0) : taintE T = 2 := by
  unfold taintE at h ⊢
  cases hk : (T.getD 0 []).isEmpty && risingB (T.getD 32 []) && !((T.take 32).any fun l => !risingB l)
  · rfl
  · rw [hk] at h; exact absurd rfl h
/-- taint.Step, whatever comes. -/
theorem Step_any (cs : List Value) (T : List (List Int)) (P : Nat → Prop) (i : InsnV) (ev : Int) (w : World) (h : TS w P cs T) (hlen : ∀ l ∈ T, l.length ≤ 100000) (hop : i.op ≤ 9223372036854775807) (ht : Tabs w) :
    Calls Tryd.prog 10 #[.agg cs.toArray, .agg i.cells, .int .i64 ev] w (StepE w (resT T i ev) (resA T i ev) (resD T i ev) (resW T i ev) (resE T i ev)) := by
  have bad : mayT T i ev = false → Calls Tryd.prog 10 #[.agg cs.toArray, .agg i.cells, .int .i64 ev] w (StepBad w) → Calls Tryd.prog 10 #[.agg cs.toArray, .agg i.cells, .int .i64 ev] w (StepE w (resT T i ev) (resA T i ev) (resD T i ev) (resW T i ev) (resE T i ev)) := fun hm hc => by
    unfold resT resA resD resW resE
    simp only [hm]
    exact hc.mono fun e w' => StepE.of_bad
  by_cases h1 : taintE T = 0
  · by_cases h2 : checkE i = 0
    · by_cases h3 : -1 ≤ ev
      · have hm : mayT T i ev = true := by unfold mayT; simp [h1, h2, h3]
        unfold resT resA resD resW resE
        simp only [hm]
        exact (Step_ok cs T P i ev w h hlen h1 h2 h3 hop ht).mono fun e w' hp => hp
      · exact bad (by unfold mayT; simp [h3]) (Step_bad3 cs T P i ev w h h1 h2 (by omega) hop ht)
    · exact bad (by unfold mayT; simp [h2]) (Step_bad2 cs T P i ev w h h1 (checkE_ne h2) hop ht)
  · exact bad (by unfold mayT; simp [h1]) (Step_bad1 cs T P i ev w h (taintE_ne h1) hop ht)
/-- Dependencies, and none. -/
theorem Deps_lit0 (va vd vw : Value) (w : World) {P Q R : Nat → Prop} (ha : RP w P va []) (hd : RP w Q vd []) (hw : RP w R vw []) :
    Calls Tryd.prog 21 #[.agg #[va, vd, vw], .agg #[.slice none 0 0, .slice none 0 0, .slice none 0 0]] w fun e w' => e = .returned (.bool true) ∧ Below w.heap.size w w' :=
  Deps_any _ _ _ _ _ _ [] [] [] [] [] [] w ha.rl hd.rl hw.rl (RL.nil _ _) (RL.nil _ _) (RL.nil _ _)
/-- Dependencies, and one event each for address and data. -/
theorem Deps_lit2 (va vd vw : Value) (w : World) {P Q R : Nat → Prop} {a b : Int} (ha : RP w P va [a]) (hd : RP w Q vd [b]) (hw : RP w R vw []) :
    Calls Tryd.prog 21 #[.agg #[va, vd, vw], .agg #[.slice (some ⟨w.heap.size, 0, none⟩) 1 1, .slice (some ⟨w.heap.size + 1, 0, none⟩) 1 1, .slice none 0 0]] ((w.alloc (.cells #[.int .i64 a] 3)).alloc (.cells #[.int .i64 b] 3))
      fun e w' => e = .returned (.bool true) ∧ Below ((w.alloc (.cells #[.int .i64 a] 3)).alloc (.cells #[.int .i64 b] 3)).heap.size ((w.alloc (.cells #[.int .i64 a] 3)).alloc (.cells #[.int .i64 b] 3)) w' := by
  have h1 := RL.lit w a 3
  have s1 : (w.alloc (.cells #[.int .i64 a] 3)).heap.size = w.heap.size + 1 := by simp
  have b1 : Below w.heap.size w (w.alloc (.cells #[.int .i64 a] 3)) := (Below.refl _ _).alloc (Nat.le_refl _) _
  generalize w.alloc (.cells #[.int .i64 a] 3) = W1 at *
  have h2 := RL.lit W1 b 3
  have b2 : Below W1.heap.size W1 (W1.alloc (.cells #[.int .i64 b] 3)) := (Below.refl _ _).alloc (Nat.le_refl _) _
  have hb := bl_step b1 b2
  rw [s1] at h2
  generalize W1.alloc (.cells #[.int .i64 b] 3) = W2 at *
  have key := Deps_any va vd vw (.slice (some ⟨w.heap.size, 0, none⟩) 1 1) (.slice (some ⟨w.heap.size + 1, 0, none⟩) 1 1) (.slice none 0 0) [a] [b] [] [a] [b] [] W2 (ha.rl.below hb (Nat.le_refl _) |>.more hb.size) (hd.rl.below hb (Nat.le_refl _) |>.more hb.size) (hw.rl.below hb (Nat.le_refl _) |>.more hb.size) (h1.below b2 (Nat.le_refl _) |>.more b2.size) h2 (RL.nil _ _)
  rw [show (([a] : List Int) == [a] && ([b] : List Int) == [b] && ([] : List Int) == []) = true by simp] at key
  exact key
end Go.Proofs.YtebeajnaamglkaaDoor
