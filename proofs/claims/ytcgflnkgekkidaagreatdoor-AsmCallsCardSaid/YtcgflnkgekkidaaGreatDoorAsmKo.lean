/- A copy of items; items in a row of their own. Conditions: none. -/
import Derived.Test.YtcgflnkgekkidaaGreatDoorAsmLv
set_option linter.unusedSimpArgs false
set_option linter.unusedVariables false
namespace Go.Proofs.YtcgflnkgekkidaaGreatDoor
open Go.RowKit Go.Maps
theorem Tryz.info_item : (Tryz.prog.info? 29).map (fun i => (i.zero, i.size, i.bytes)) = some (some (.agg #[.int .i64 0, .int .i64 0, .int .i64 0, .int .i64 0, .int .i64 0, .int .i64 0, .bool false, .bool false, .int .i64 0, .int .i64 0, .int .i64 0, .int .u64 0]), 12, 88) := by kernel_rfl
theorem wp_appI {P : Program} {w w' : World} {o : Oper} {a : Act} {K : Act → World → Prop} {Q : Exit → Act → World → Prop} (s x : Operand) (t : TypeId)
    (ho : o.op = .call { callee := .builtin .append, args := #[s, x], argTypes := #[t, t] }) (v u v' : Value) (hs : a.eval s = v) (hx : a.eval x = u)
    (hr : (Builtin.append_ #[t, t] o.type #[v, u]).run P w = .ok v' w') (h : K (a.put o.dst v') w') : o.wp P a w K Q := by
  unfold Oper.wp execOp
  simp only [ho, resolve, invoke, builtin, Sem.run_bind, Sem.run_pure, Result.andThen_ok, List.map_toArray, List.map_cons, List.map_nil, hs, hx, hr]
  exact h
theorem wpList_appI {P : Program} {w w' : World} {ops : Array Oper} {rest : List Oper} {o : Oper} {a : Act} {Q : Exit → Act → World → Prop} (hgd : o.guard = none) (s x : Operand) (t : TypeId)
    (ho : o.op = .call { callee := .builtin .append, args := #[s, x], argTypes := #[t, t] }) (v u v' : Value) (hs : a.eval s = v) (hx : a.eval x = u)
    (hr : (Builtin.append_ #[t, t] o.type #[v, u]).run P w = .ok v' w') (h : wpList P ops Q rest (a.put o.dst v') w') : wpList P ops Q (o :: rest) a w :=
  wpList_plain hgd fun _ hK => wp_appI s x t ho v u v' hs hx hr (hK _ _ h)
/-- The first n items, cell by cell. -/
def itemsL (F : Nat → ItemV) (n : Nat) : List ItemV := (List.range n).map F
theorem itemsL_len (F : Nat → ItemV) (n : Nat) : (itemsL F n).length = n := by simp [itemsL]
theorem itemsL_at (F : Nat → ItemV) (n k : Nat) (h : k < n) : itemsF (itemsL F n) k = F k := by simp [itemsF, itemsL, h]
theorem itemsC_len (l : List ItemV) : (itemsC l).length = l.length * 12 := by
  induction l with
  | nil => rfl
  | cons x l ih => unfold itemsC at *; rw [List.flatMap_cons, List.length_append, ih, List.length_cons, show x.cells.toList.length = 12 from rfl]; omega
theorem itemsC_one (l : List ItemV) : ∀ u ∈ itemsC l, u.oneCell' = true := fun u hu => by
  unfold itemsC at hu
  obtain ⟨i, -, hi⟩ := List.mem_flatMap.1 hu
  have := i.one
  rw [Array.all_eq_true_iff_forall_mem] at this
  exact this u (by simpa using hi)
/-- The row's cells, the other way. -/
theorem itemsC_ex (l : List ItemV) : ∀ (q : Nat) (v : Value), (itemsC l)[q]? = some v → ∃ j m, j < l.length ∧ q = j * 12 + m ∧ (itemsF l j).cells[m]? = some v := by
  induction l with
  | nil => intro q v h; simp [itemsC] at h
  | cons x l ih =>
    intro q v h
    have e : itemsC (x :: l) = x.cells.toList ++ itemsC l := by unfold itemsC; rw [List.flatMap_cons]
    have hx : x.cells.toList.length = 12 := rfl
    rw [e] at h
    rcases Nat.lt_or_ge q 12 with hq | hq
    · rw [List.getElem?_append_left (by rw [hx]; exact hq)] at h
      exact ⟨0, q, by simp, by omega, by simpa [itemsF] using h⟩
    · rw [List.getElem?_append_right (by rw [hx]; exact hq), hx] at h
      obtain ⟨j, m, h1, h2, h3⟩ := ih _ v h
      exact ⟨j + 1, m, by simpa using h1, by omega, by simpa [itemsF] using h3⟩
theorem ItemsAt.of {W : World} {lo : Nat} {A : Option Addr} {cap n : Nat} {F : Nat → ItemV} (h : W.ownsRow lo 29 12 (.slice A n cap) n (itemsC (itemsL F n))) : ItemsAt W A n F := fun hn => by
  rcases h.2 with ⟨_, h0⟩ | ⟨g, cap', cur, e, h2⟩
  · omega
  · injection e with e e1 e2
    subst e
    refine ⟨g, 0, rfl, (h.lt g rfl).2, fun k hk j v hv => ?_⟩
    have hj : j < 12 := (Array.getElem?_eq_some_iff.1 hv).1
    rw [Nat.zero_add, h.cellAt (k * 12 + j) (by omega)]
    exact itemsC_at _ k j v (by rw [itemsL_len]; exact hk) (by rw [itemsL_at F n k hk]; exact hv)
set_option maxRecDepth 100000 in
set_option maxHeartbeats 8000000 in
/-- A copy of items. -/
theorem KOwnI_any (ao : Option Addr) (n cap : Nat) (F : Nat → ItemV) (w : World) (h : ItemsAt w ao n F) (hn : n ≤ 100000) :
    Calls Tryz.prog 13 #[.slice ao n cap] w fun e w' => (∃ A c, e = .returned (.slice A n c) ∧ ItemsAt w' A n F ∧ w'.ownsRow w.heap.size 29 12 (.slice A n c) n (itemsC (itemsL F n))) ∧ Below w.heap.size w w' := by
  obtain ⟨i0, q0, q1, q2, q3⟩ := info_parts Tryz.info_item
  have hu := Tryz.underlying22
  have hown : (w.alloc (.cells #[] 29)).ownsRow w.heap.size 29 12 (.slice (some ⟨w.heap.size, 0, none⟩) 0 0) 0 [] := World.ownsRow_lit w #[] 0 (Nat.le_refl _) (Nat.zero_le _) rfl
  have hb0 : Below w.heap.size w (w.alloc (.cells #[] 29)) := (Below.refl _ _).alloc (Nat.le_refl _) _
  have key : ∃ v' w', (Builtin.append_ #[22, 22] 22 #[.slice (some ⟨w.heap.size, 0, none⟩) 0 0, .slice ao n cap]).run Tryz.prog (w.alloc (.cells #[] 29)) = .ok v' w' ∧ w'.ownsRow w.heap.size 29 12 v' n (itemsC (itemsL F n)) ∧ Below w.heap.size w w' := by
    rcases ao with _ | ad
    · have hn0 : n = 0 := by
        rcases Nat.eq_zero_or_pos n with h0 | h0
        · exact h0
        · obtain ⟨b, o, e, -⟩ := h h0; cases e
      subst hn0
      refine ⟨_, _, ?_, hown, hb0⟩
      simp [Builtin.append_, run_underlying hu, sizeOf, typeInfo, q0, Builtin.lenOf, Builtin.firstCells, storeCells]
    · have hc : ∀ j u, (itemsC (itemsL F n))[j]? = some u → (w.alloc (.cells #[] 29)).cell? (ad.add j) = some u := by
        intro q u hq
        obtain ⟨j, m, h1, rfl, h3⟩ := itemsC_ex _ q u hq
        rw [itemsL_len] at h1
        rw [itemsL_at F n j h1] at h3
        obtain ⟨b, o, e, hl, hcc⟩ := h (by omega)
        obtain rfl := Option.some.inj e
        rw [Addr.add_mid, hb0.cell (p := ⟨b, o + (j * 12 + m), none⟩) hl, ← Nat.add_assoc]
        exact hcc j h1 m u h3
      obtain ⟨v', w', hr, h2, h3, -, h5⟩ := run_append_own_at (P := Tryz.prog) (w.alloc (.cells #[] 29)) w.heap.size 22 22 29 i0 _ 12 88 hu q0 q1 q2 q3 rfl (by decide) _ 0 [] hown ad n cap (itemsC (itemsL F n)) (by rw [itemsC_len, itemsL_len]) hc (itemsC_one _) (by simp only [maxLen]; omega) (by omega) hb0.size
      refine ⟨v', w', hr, by simpa using h2, hb0.grown h3 hb0.size (fun k hk => (hown.lt k hk).1)⟩
  obtain ⟨v', w', hr, ho, hB⟩ := key
  obtain ⟨A, c, rfl⟩ := own_sliceN ho
  replace hr := Lib.hid hr
  clear h hown hb0 q0 q1 q2 q3
  go_enter Tryz.func13, Tryz.ntmps13
  go_wp2_with (at_builtin; refine wpList_appI rfl (.tmp 3) (.tmp 4) 22 rfl _ _ _ rfl rfl hr.out ?_)
  go_ret
  exact ⟨⟨A, c, rfl, ItemsAt.of ho, ho⟩, hB⟩
/-- A slice of the call's own, at any world from its making on. -/
theorem SlAt.open {lo m : Nat} {v : Value} {f : Nat → Value} {W : World} (h : SlAt lo v m f W) : ∃ A c b, v = .slice A m c ∧ m ≤ c ∧ (0 < m → A = some ⟨b, 0, none⟩) ∧ (0 < m → ∀ W', Below W.heap.size W W' → ∀ k, k < m → W'.cell? ⟨b, k, none⟩ = some (f k)) := by
  obtain ⟨A, c, e, hc, h⟩ := h
  by_cases hm : 0 < m
  · obtain ⟨b, e2, -, hv⟩ := h hm
    exact ⟨A, c, b, e, hc, fun _ => e2, fun _ W' hb k hk => (hv.keep hb).c k hk⟩
  · exact ⟨A, c, 0, e, hc, fun h => absurd h hm, fun h => absurd h hm⟩
theorem itemsL_snoc (F : Nat → ItemV) (m : Nat) : itemsC (itemsL F (m + 1)) = itemsC (itemsL F m) ++ (F m).cells.toList := by
  unfold itemsL itemsC
  rw [List.range_succ, List.map_append, List.flatMap_append]
  simp
theorem lit_cellX (w : World) (cs : Array Value) (l : List Value) (h : cs.toList = l) (t : TypeId) : ∀ (j : Nat) (u : Value), l[j]? = some u → (w.alloc (.cells cs t)).cell? ((⟨w.heap.size, 0, none⟩ : Addr).add j) = some u := fun j u hu => by
  subst h
  rw [show (⟨w.heap.size, 0, none⟩ : Addr).add j = ⟨w.heap.size, j, none⟩ by rw [Addr.add_mid, Nat.zero_add], World.cell?_alloc_new]
  simpa using hu
theorem item_ones (i : ItemV) : ∀ u ∈ i.cells.toList, u.oneCell' = true := fun u h => by
  have := i.one
  rw [Array.all_eq_true_iff_forall_mem] at this
  exact this u (by simpa using h)
/-- One more item in its row. -/
def OwnI (lo : Nat) (v : Value) (F : Nat → ItemV) (m : Nat) (W : World) : Prop := W.ownsRow lo 29 12 v m (itemsC (itemsL F m))
theorem OwnI.snoc {lo m : Nat} {v : Value} {F : Nat → ItemV} {W : World} {l : List Value} (h : W.ownsRow lo 29 12 v (m + 1) (itemsC (itemsL F m) ++ l)) (hl : l = (F m).cells.toList) : OwnI lo v F (m + 1) W := by
  unfold OwnI; rw [itemsL_snoc, ← hl]; exact h
theorem OwnI.keep {lo m : Nat} {v : Value} {F : Nat → ItemV} {W W' : World} (h : OwnI lo v F m W) (hb : Below W.heap.size W W') : OwnI lo v F m W' := own_keep h hb
end Go.Proofs.YtcgflnkgekkidaaGreatDoor
