/- Plain: sizes, places and words of a layout. No program in sight. AsmPlaces, whatever comes. Conditions: as each theorem says. -/
import Derived.Test.YtcgflnkgekkidaaGreatDoorAsmBu
import Derived.Test.YtcgflnkgekkidaaGreatDoorAsmLv
namespace Go.Proofs.YtcgflnkgekkidaaGreatDoor
theorem growF_kind (F : Nat → ItemV) (n : Nat) : ∀ (f : Nat) (L : Nat → Bool), (∀ k, L k = true → (F k).kind = 3) → ∀ k, growF F n f L k = true → (F k).kind = 3
  | 0, L, h, k, hk => h k hk
  | f + 1, L, h, k, hk => by
    unfold growF at hk
    split at hk
    · refine growF_kind F n f _ (fun j hj => ?_) k hk
      unfold stepF at hj
      rcases Bool.or_eq_true_iff.1 hj with hj | hj
      · exact h j hj
      · unfold condF at hj; simp at hj; exact hj.1.1
    · exact h k hk
theorem longV_kind (F : Nat → ItemV) (n k : Nat) (h : longV F n k = true) : (F k).kind = 3 := growF_kind F n (n + 1) _ (fun j hj => by cases hj) k h
theorem lenV_long (i : ItemV) (l : Bool) (h : l = true → i.kind = 3) : lenV i l = sizeW i l := by
  unfold sizeW lenV
  cases l with
  | false => simp
  | true =>
    have h3 := h rfl
    rw [if_neg (by rw [h3]; decide), if_neg (by rw [h3]; decide), if_pos ⟨h3, rfl⟩, if_neg (by rw [h3]; decide), if_neg (by rw [h3]; decide), if_neg (by simp)]
    rfl
theorem insns_size (F : Nat → ItemV) (n : Nat) (L : Nat → Bool) (k : Nat) (h : L k = true → (F k).kind = 3) : ((insnsV F n L k).length : Int) = sizeW (F k) (L k) := by
  rw [← lenV_long _ _ h]
  unfold insnsV lenV
  by_cases k2 : (F k).kind = 2
  · rw [if_pos k2, if_pos k2]; rfl
  rw [if_neg k2, if_neg k2]
  by_cases k5 : (F k).kind = 5
  · rw [if_pos k5, if_pos k5]
  rw [if_neg k5, if_neg k5]
  by_cases hL : L k = true
  · have k3 := h hL
    rw [if_pos (.inl k3), if_pos hL, if_pos ⟨k3, hL⟩]; rfl
  · rw [if_neg (c := (F k).kind = 3 ∧ L k = true) (fun hh => hL hh.2)]
    split
    · rfl
    · rfl
theorem words_len (F : Nat → ItemV) (n : Nat) (L : Nat → Bool) (h : ∀ k, L k = true → (F k).kind = 3) : ∀ k, ((wordsF F n L k).length : Int) = placeF F L k
  | 0 => rfl
  | k + 1 => by
    have ih := words_len F n L h k
    have hs := insns_size F n L k (h k)
    show (((wordsF F n L k ++ (insnsV F n L k).map wordV).length : Nat) : Int) = placeF F L k + sizeW (F k) (L k)
    rw [List.length_append, List.length_map]; omega
theorem words_at (F : Nat → ItemV) (n : Nat) (L : Nat → Bool) (k j : Nat) (i : InsnV) (hi : (insnsV F n L k)[j]? = some i) : ∀ m, k < m → (wordsF F n L m)[(wordsF F n L k).length + j]? = some (wordV i)
  | 0, h => absurd h (Nat.not_lt_zero _)
  | m + 1, h => by
    have hj : j < (insnsV F n L k).length := (List.getElem?_eq_some_iff.1 hi).1
    show (wordsF F n L m ++ (insnsV F n L m).map wordV)[_]? = _
    by_cases e : k = m
    · subst e
      rw [List.getElem?_append_right (Nat.le_add_right _ _), Nat.add_sub_cancel_left, List.getElem?_map, hi]; rfl
    · have ih := words_at F n L k j i hi m (by omega)
      rw [List.getElem?_append_left (List.getElem?_eq_some_iff.1 ih).1]; exact ih
theorem placeF_mono (F : Nat → ItemV) (L : Nat → Bool) (k : Nat) : ∀ m, k ≤ m → placeF F L k ≤ placeF F L m
  | 0, h => by obtain rfl : k = 0 := by omega
               exact Int.le_refl _
  | m + 1, h => by
    by_cases e : k = m + 1
    · rw [e]; exact Int.le_refl _
    · have ih := placeF_mono F L k m (by omega)
      have := (lenV_bd (F m) false).1
      show placeF F L k ≤ placeF F L m + sizeW (F m) (L m)
      unfold sizeW
      split <;> omega
theorem numF_pos (f : Nat) (rd : Int) (x : BitVec 64) : 1 ≤ (numF (f + 1) rd x).length := by
  unfold numF
  repeat' split
  all_goals simp only [List.length_append, List.length_cons, List.length_nil]
  all_goals omega
theorem size_pos (i : ItemV) (l : Bool) (h2 : i.kind ≠ 2) : 1 ≤ sizeW i l := by
  unfold sizeW lenV
  rw [if_neg h2]
  have hp : 1 ≤ (numV i.insn.rd i.addr).length := numF_pos 5 _ _
  split
  · split <;> omega
  · rw [if_neg (by simp)]; split <;> omega
theorem check_may {F : Nat → ItemV} {n : Nat} (h : checkV F n = 0) (k : Nat) (hk : k < n) : mayV (F k) = true := by
  unfold checkV at h
  rw [if_neg (by have := check_n (F := F) (n := n) (by unfold checkV; exact h); omega)] at h
  by_cases e : anyB (fun k => !mayV (F k)) n = true
  · rw [if_pos e] at h; cases h
  · have := anyB_no (p := fun k => !mayV (F k)) (n := n) (by simpa using e) k hk
    simpa using this
theorem may_insn {i : ItemV} (h : mayV i = true) (hk : i.kind = 1) : checkE i.insn = 0 := by
  unfold mayV at h
  rw [if_pos hk] at h
  simp only [Bool.and_eq_true, beq_iff_eq] at h
  exact h.1.1.1.1.1
theorem may_num {i : ItemV} (h : mayV i = true) (hk : i.kind = 5) : 1 ≤ i.insn.rd ∧ i.insn.rd ≤ 31 := by
  unfold mayV at h
  rw [if_neg (by rw [hk]; decide), if_neg (by rw [hk]; decide), if_neg (by rw [hk]; decide), if_neg (by rw [hk]; decide), if_pos hk] at h
  simp only [Bool.and_eq_true, decide_eq_true_eq] at h
  exact h.1.1
theorem reg_ok {r : Int} (h0 : 0 ≤ r) (h1 : r ≤ 31) : regBad r = false := by
  unfold regBad
  rw [decide_eq_false (by omega), decide_eq_false (by omega)]; rfl
theorem ck_addi (rd r imm : Int) (h : Fits imm 12 = true) (d0 : 0 ≤ rd) (d1 : rd ≤ 31) (r0 : 0 ≤ r) (r1 : r ≤ 31) : checkE ⟨22, rd, r, 0, imm, false, false, 0, 0⟩ = 0 := by
  have hf : (opOf 22).form = 3 := by decide +kernel
  unfold checkE checkOk
  rw [if_pos]
  show formOk (opOf 22).form _ _ = true
  rw [hf]
  show ((0 : Int) == 0 && !false && !false && (0 : Int) == 0 && (0 : Int) == 0 && Fits imm 12 && !badIn [rd, r]) = true
  rw [h]
  simp [badIn, reg_ok d0 d1, reg_ok r0 r1]
theorem ck_addiw (rd r imm : Int) (h : Fits imm 12 = true) (d0 : 0 ≤ rd) (d1 : rd ≤ 31) (r0 : 0 ≤ r) (r1 : r ≤ 31) : checkE ⟨31, rd, r, 0, imm, false, false, 0, 0⟩ = 0 := by
  have hf : (opOf 31).form = 3 := by decide +kernel
  unfold checkE checkOk
  rw [if_pos]
  show formOk (opOf 31).form _ _ = true
  rw [hf]
  show ((0 : Int) == 0 && !false && !false && (0 : Int) == 0 && (0 : Int) == 0 && Fits imm 12 && !badIn [rd, r]) = true
  rw [h]
  simp [badIn, reg_ok d0 d1, reg_ok r0 r1]
theorem ck_lui (rd imm : Int) (h : Fits imm 20 = true) (d0 : 0 ≤ rd) (d1 : rd ≤ 31) : checkE ⟨1, rd, 0, 0, imm, false, false, 0, 0⟩ = 0 := by
  have hf : (opOf 1).form = 1 := by decide +kernel
  unfold checkE checkOk
  rw [if_pos]
  show formOk (opOf 1).form _ _ = true
  rw [hf]
  show ((0 : Int) == 0 && (0 : Int) == 0 && !false && !false && (0 : Int) == 0 && (0 : Int) == 0 && Fits imm 20 && !badIn [rd]) = true
  rw [h]
  simp [badIn, reg_ok d0 d1]
theorem ck_slli (rd : Int) (d0 : 0 ≤ rd) (d1 : rd ≤ 31) : checkE ⟨28, rd, rd, 0, 12, false, false, 0, 0⟩ = 0 := by
  have hf : (opOf 28).form = 7 := by decide +kernel
  have hs : shortName (opOf 28).name = false := by decide +kernel
  unfold checkE checkOk
  rw [if_pos]
  show formOk (opOf 28).form (shortName (opOf 28).name) _ = true
  rw [hf, hs]
  show (decide ((0 : Int) ≤ 12) && decide ((12 : Int) ≤ 63) && (!false || decide ((12 : Int) ≤ 31)) && (0 : Int) == 0 && !false && !false && (0 : Int) == 0 && (0 : Int) == 0 && !badIn [rd, rd]) = true
  simp [badIn, reg_ok d0 d1]
theorem numF_ok (rd : Int) (d0 : 0 ≤ rd) (d1 : rd ≤ 31) : ∀ (f : Nat) (x : BitVec 64), ∀ i ∈ numF f rd x, checkE i = 0
  | 0, _, i, h => by cases h
  | f + 1, x, i, h => by
    have ih := numF_ok rd d0 d1 f (upV x)
    have hr := rest_bd x
    have hfr := fits12 (restV x) hr.1 hr.2
    unfold numF at h
    by_cases h1 : Fits (sn x) 12 = true
    · rw [if_pos h1] at h
      rw [List.mem_singleton] at h; subst h
      exact ck_addi rd 0 _ h1 d0 d1 (by decide) (by decide)
    · rw [if_neg h1] at h
      by_cases h2 : (Fits (sn x) 32 && Fits (sn (upV x)) 20) = true
      · rw [if_pos h2] at h
        have h3 := (Bool.and_eq_true_iff.1 h2).2
        split at h
        · rw [List.mem_singleton] at h; subst h
          exact ck_lui rd _ h3 d0 d1
        · rcases List.mem_cons.1 h with h | h
          · subst h; exact ck_lui rd _ h3 d0 d1
          · rw [List.mem_singleton] at h; subst h
            exact ck_addiw rd rd _ hfr d0 d1 d0 d1
      · rw [if_neg h2] at h
        split at h
        · rcases List.mem_append.1 h with h | h
          · exact ih i h
          · rw [List.mem_singleton] at h; subst h; exact ck_slli rd d0 d1
        · rcases List.mem_append.1 h with h | h
          · rcases List.mem_append.1 h with h | h
            · exact ih i h
            · rw [List.mem_singleton] at h; subst h; exact ck_slli rd d0 d1
          · rw [List.mem_singleton] at h; subst h
            exact ck_addi rd rd _ hfr d0 d1 d0 d1
theorem numV_ok (rd : Int) (x : BitVec 64) (h : 1 ≤ rd ∧ rd ≤ 31) : ∀ i ∈ numV rd x, checkE i = 0 := numF_ok rd (by omega) h.2 6 x
end Go.Proofs.YtcgflnkgekkidaaGreatDoor
namespace Go.Proofs.YtcgflnkgekkidaaGreatDoor
open Go.RowKit Go.Maps
theorem Tryz.info_item : (Tryz.prog.info? 29).map (fun i => (i.zero, i.size, i.bytes)) = some (some (.agg #[.int .i64 0, .int .i64 0, .int .i64 0, .int .i64 0, .int .i64 0, .int .i64 0, .bool false, .bool false, .int .i64 0, .int .i64 0, .int .i64 0, .int .u64 0]), 12, 88) := by kernel_rfl
theorem wp_appI {P : Program} {w w' : World} {o : Oper} {a : Act} {K : Act → World → Prop} {Q : Exit → Act → World → Prop} (s x : Operand) (t : TypeId)
    (ho : o.op = .call { callee := .builtin .append, args := #[s, x], argTypes := #[t, t] }) (v u v' : Value) (hs : a.eval s = v) (hx : a.eval x = u)
    (hr : (Builtin.append_ #[t, t] o.type #[v, u]).run P w = .ok v' w') (h : K (a.put o.dst v') w') : o.wp P a w K Q := by
  unfold Oper.wp execOp
  simp only [ho, resolve, invoke, builtin, Sem.run_bind, Sem.run_pure, Result.andThen_ok, List.map_toArray, List.map_cons, List.map_nil, hs, hx, hr]
  exact h
theorem wpList_appI {P : Program} {w w' : World} {ops : Array Oper} {rest : List Oper} {o : Oper} {a : Act} {Q : Exit → Act → World → Prop} (hgd : o.guard = none) (s x : Operand) (t : TypeId)
    (ho : o.op = .call { callee := .builtin .append, args := #[s, x], argTypes := #[t, t] }) (v u v' : Value) (hs : a.eval s = v) (hx : a.eval x = u)
    (hr : (Builtin.append_ #[t, t] o.type #[v, u]).run P w = .ok v' w') (h : wpList P ops Q rest (a.put o.dst v') w') : wpList P ops Q (o :: rest) a w :=
  wpList_plain hgd fun _ hK => wp_appI s x t ho v u v' hs hx hr (hK _ _ h)
/-- The first n items, cell by cell. -/
def itemsL (F : Nat → ItemV) (n : Nat) : List ItemV := (List.range n).map F
theorem itemsL_len (F : Nat → ItemV) (n : Nat) : (itemsL F n).length = n := by simp [itemsL]
theorem itemsL_at (F : Nat → ItemV) (n k : Nat) (h : k < n) : itemsF (itemsL F n) k = F k := by simp [itemsF, itemsL, h]
theorem itemsC_len (l : List ItemV) : (itemsC l).length = l.length * 12 := by
  induction l with
  | nil => rfl
  | cons x l ih => unfold itemsC at *; rw [List.flatMap_cons, List.length_append, ih, List.length_cons, show x.cells.toList.length = 12 from rfl]; omega
theorem itemsC_one (l : List ItemV) : ∀ u ∈ itemsC l, u.oneCell' = true := fun u hu => by
  unfold itemsC at hu
  obtain ⟨i, -, hi⟩ := List.mem_flatMap.1 hu
  have := i.one
  rw [Array.all_eq_true_iff_forall_mem] at this
  exact this u (by simpa using hi)
/-- The row's cells, the other way. -/
theorem itemsC_ex (l : List ItemV) : ∀ (q : Nat) (v : Value), (itemsC l)[q]? = some v → ∃ j m, j < l.length ∧ q = j * 12 + m ∧ (itemsF l j).cells[m]? = some v := by
  induction l with
  | nil => intro q v h; simp [itemsC] at h
  | cons x l ih =>
    intro q v h
    have e : itemsC (x :: l) = x.cells.toList ++ itemsC l := by unfold itemsC; rw [List.flatMap_cons]
    have hx : x.cells.toList.length = 12 := rfl
    rw [e] at h
    rcases Nat.lt_or_ge q 12 with hq | hq
    · rw [List.getElem?_append_left (by rw [hx]; exact hq)] at h
      exact ⟨0, q, by simp, by omega, by simpa [itemsF] using h⟩
    · rw [List.getElem?_append_right (by rw [hx]; exact hq), hx] at h
      obtain ⟨j, m, h1, h2, h3⟩ := ih _ v h
      exact ⟨j + 1, m, by simpa using h1, by omega, by simpa [itemsF] using h3⟩
theorem ItemsAt.of {W : World} {lo : Nat} {A : Option Addr} {cap n : Nat} {F : Nat → ItemV} (h : W.ownsRow lo 29 12 (.slice A n cap) n (itemsC (itemsL F n))) : ItemsAt W A n F := fun hn => by
  rcases h.2 with ⟨_, h0⟩ | ⟨g, cap', cur, e, h2⟩
  · omega
  · injection e with e e1 e2
    subst e
    refine ⟨g, 0, rfl, (h.lt g rfl).2, fun k hk j v hv => ?_⟩
    have hj : j < 12 := (Array.getElem?_eq_some_iff.1 hv).1
    rw [Nat.zero_add, h.cellAt (k * 12 + j) (by omega)]
    exact itemsC_at _ k j v (by rw [itemsL_len]; exact hk) (by rw [itemsL_at F n k hk]; exact hv)
set_option maxRecDepth 100000 in
set_option maxHeartbeats 8000000 in
/-- A copy of items. -/
theorem KOwnI_any (ao : Option Addr) (n cap : Nat) (F : Nat → ItemV) (w : World) (h : ItemsAt w ao n F) (hn : n ≤ 100000) :
    Calls Tryz.prog 13 #[.slice ao n cap] w fun e w' => (∃ A c, e = .returned (.slice A n c) ∧ ItemsAt w' A n F ∧ w'.ownsRow w.heap.size 29 12 (.slice A n c) n (itemsC (itemsL F n))) ∧ Below w.heap.size w w' := by
  obtain ⟨i0, q0, q1, q2, q3⟩ := info_parts Tryz.info_item
  have hu := Tryz.underlying22
  have hown : (w.alloc (.cells #[] 29)).ownsRow w.heap.size 29 12 (.slice (some ⟨w.heap.size, 0, none⟩) 0 0) 0 [] := World.ownsRow_lit w #[] 0 (Nat.le_refl _) (Nat.zero_le _) rfl
  have hb0 : Below w.heap.size w (w.alloc (.cells #[] 29)) := (Below.refl _ _).alloc (Nat.le_refl _) _
  have key : ∃ v' w', (Builtin.append_ #[22, 22] 22 #[.slice (some ⟨w.heap.size, 0, none⟩) 0 0, .slice ao n cap]).run Tryz.prog (w.alloc (.cells #[] 29)) = .ok v' w' ∧ w'.ownsRow w.heap.size 29 12 v' n (itemsC (itemsL F n)) ∧ Below w.heap.size w w' := by
    rcases ao with _ | ad
    · have hn0 : n = 0 := by
        rcases Nat.eq_zero_or_pos n with h0 | h0
        · exact h0
        · obtain ⟨b, o, e, -⟩ := h h0; cases e
      subst hn0
      refine ⟨_, _, ?_, hown, hb0⟩
      simp [Builtin.append_, run_underlying hu, sizeOf, typeInfo, q0, Builtin.lenOf, Builtin.firstCells, storeCells]
    · have hc : ∀ j u, (itemsC (itemsL F n))[j]? = some u → (w.alloc (.cells #[] 29)).cell? (ad.add j) = some u := by
        intro q u hq
        obtain ⟨j, m, h1, rfl, h3⟩ := itemsC_ex _ q u hq
        rw [itemsL_len] at h1
        rw [itemsL_at F n j h1] at h3
        obtain ⟨b, o, e, hl, hcc⟩ := h (by omega)
        obtain rfl := Option.some.inj e
        rw [Addr.add_mid, hb0.cell (p := ⟨b, o + (j * 12 + m), none⟩) hl, ← Nat.add_assoc]
        exact hcc j h1 m u h3
      obtain ⟨v', w', hr, h2, h3, -, h5⟩ := run_append_own_at (P := Tryz.prog) (w.alloc (.cells #[] 29)) w.heap.size 22 22 29 i0 _ 12 88 hu q0 q1 q2 q3 rfl (by decide) _ 0 [] hown ad n cap (itemsC (itemsL F n)) (by rw [itemsC_len, itemsL_len]) hc (itemsC_one _) (by simp only [maxLen]; omega) (by omega) hb0.size
      refine ⟨v', w', hr, by simpa using h2, hb0.grown h3 hb0.size (fun k hk => (hown.lt k hk).1)⟩
  obtain ⟨v', w', hr, ho, hB⟩ := key
  obtain ⟨A, c, rfl⟩ := own_sliceN ho
  replace hr := Lib.hid hr
  clear h hown hb0 q0 q1 q2 q3
  go_enter Tryz.func13, Tryz.ntmps13
  go_wp2_with (at_builtin; refine wpList_appI rfl (.tmp 3) (.tmp 4) 22 rfl _ _ _ rfl rfl hr.out ?_)
  go_ret
  exact ⟨⟨A, c, rfl, ItemsAt.of ho, ho⟩, hB⟩
set_option maxRecDepth 100000 in
set_option maxHeartbeats 16000000 in
theorem AsmPlaces_far (ao : Option Addr) (n cap : Nat) (w : World) (ht : Tabs w) (hfl : Flds w) (hn : 60 < n) :
    Calls Tryz.prog 8 #[.slice ao n cap] w fun e w' => e = .returned (.bool true) ∧ Below w.heap.size w w' := by
  have d1 : decide ((n : Int) > 60) = true := decide_eq_true (by omega)
  have hn2 : (60 : Int) < (n : Int) := by omega
  have hLv := Lib.hid (Lives15_any w ht hfl)
  go_enter Tryz.func8, Tryz.ntmps8
  go_wp2_with (go_at_call 9; (with_reducible refine hLv.out.mono ?_); rintro e w1 ⟨rfl, hb1⟩; clear hLv)
  go_ret
  exact ⟨rfl, hb1⟩
/-- A slice of the call's own, at any world from its making on. -/
theorem SlAt.open {lo m : Nat} {v : Value} {f : Nat → Value} {W : World} (h : SlAt lo v m f W) : ∃ A c b, v = .slice A m c ∧ m ≤ c ∧ (0 < m → A = some ⟨b, 0, none⟩) ∧ (0 < m → ∀ W', Below W.heap.size W W' → ∀ k, k < m → W'.cell? ⟨b, k, none⟩ = some (f k)) := by
  obtain ⟨A, c, e, hc, h⟩ := h
  by_cases hm : 0 < m
  · obtain ⟨b, e2, -, hv⟩ := h hm
    exact ⟨A, c, b, e, hc, fun _ => e2, fun _ W' hb k hk => (hv.keep hb).c k hk⟩
  · exact ⟨A, c, 0, e, hc, fun h => absurd h hm, fun h => absurd h hm⟩
theorem idx_add (q j len M n : Nat) (h1 : q + len ≤ M) (h2 : j < len) (h3 : M ≤ 12 * n) (h4 : n ≤ 60) : q + j < M ∧ wrap64 ((q : Int) + (j : Int)) = ((q + j : Nat) : Int) ∧ (q : Int) + (j : Int) = ((q + j : Nat) : Int) ∧ (0 : Int) ≤ ((q + j : Nat) : Int) ∧ ((q + j : Nat) : Int) < (M : Int) :=
  ⟨by omega, by rw [IntWalk.wrap64_in _ ⟨by omega, by omega⟩]; omega, by omega, by omega, by omega⟩
theorem item_mid {W : World} {b o : Nat} {i : ItemV} (h : W.rangeAt b o i.cells.toList) : W.rangeAt b (o + 1) i.insn.cells.toList := fun j v hv => by
  have hj : j < 9 := (List.getElem?_eq_some_iff.1 hv).1
  have e : i.cells.toList[j + 1]? = some v := by
    obtain ⟨kind, ⟨op, rd, r1, r2, imm, aq, rl, pred, succ⟩, label, addr⟩ := i
    rcases (show j = 0 ∨ j = 1 ∨ j = 2 ∨ j = 3 ∨ j = 4 ∨ j = 5 ∨ j = 6 ∨ j = 7 ∨ j = 8 by omega) with rfl | rfl | rfl | rfl | rfl | rfl | rfl | rfl | rfl <;> exact hv
  have := h (j + 1) v e
  rwa [show o + (j + 1) = o + 1 + j by omega] at this
set_option maxRecDepth 100000 in
set_option maxHeartbeats 16000000 in
theorem AsmPlaces_go (ao : Option Addr) (n cap : Nat) (F : Nat → ItemV) (w : World) (hI : ItemsAt w ao n F) (hF : FitF F n) (hlo : ∀ k, k < n → -9223372036854775808 ≤ (F k).insn.op) (ht : Tabs w) (hfl : Flds w) (hn : n ≤ 60) :
    Calls Tryz.prog 8 #[.slice ao n cap] w fun e w' => e = .returned (.bool true) ∧ Below w.heap.size w w' := by
  have hmk : Tryz.prog.follows .mixedOrders = true := by kernel_rfl
  have d1 : decide ((n : Int) > 60) = false := decide_eq_false (by omega)
  have hn2 : ¬ (60 : Int) < (n : Int) := by omega
  have hLv := Lib.hid (Lives15_any w ht hfl)
  have hOw := Lib.hid (fun (W : World) (hW : Below w.heap.size w W) => KOwnI_any ao n cap F W (hI.keep hW) (by omega))
  have hBd := Lib.hid (fun (W : World) (A : Option Addr) (c : Nat) (hW : Below w.heap.size w W) (hA : ItemsAt W A n F) => Build_any A n c F W hA hF hlo (ht.later hW (Nat.le_refl _)) (hfl.later hW))
  have hLg := Lib.hid (fun (W : World) (hW : Below w.heap.size w W) => Long_any ao n cap F W (hI.keep hW) hF (ht.later hW (Nat.le_refl _)))
  have hSz := Lib.hid (fun (W : World) (hW : Below w.heap.size w W) (k : Nat) (hk : k < n) (l : Bool) => Size_any (F k) l (hF k hk).1 W (ht.later hW (Nat.le_refl _)))
  replace hI := Lib.hid hI
  clear hF hlo ht hfl
  by_cases hz : checkV F n = 0
  · have e1 : outW F n = wordsF F n (longV F n) n := if_pos hz
    have e2 : outN F n = n := if_pos hz
    have hlk := longV_kind F n
    have hwl := words_len F n (longV F n) hlk n
    have hmay := Lib.hid (fun k (hk : k < n) => check_may hz k hk)
    unfold BuildR at hBd
    unfold LongR at hLg
    rw [e1, hz, e2] at hBd
    rw [hz, e2] at hLg
    clear e1 e2 hz
    have hsz9 : Hid (∀ k, k < n → sizeV (F k) (longV F n k) = ((insnsV F n (longV F n) k).length : Int)) := Lib.hid fun k hk => by
      unfold sizeV
      rw [if_pos (hmay.out k hk), insns_size F n (longV F n) k (hlk k), lenV_long _ _ (hlk k)]
    have hPL : Hid (∀ k, placeF F (longV F n) k = ((wordsF F n (longV F n) k).length : Int)) := Lib.hid fun k => (words_len F n (longV F n) hlk k).symm
    have hPS : Hid (∀ k, (wordsF F n (longV F n) (k + 1)).length = (wordsF F n (longV F n) k).length + (insnsV F n (longV F n) k).length) := Lib.hid fun k => by
      show (wordsF F n (longV F n) k ++ _).length = _
      rw [List.length_append, List.length_map]
    have hPM : Hid (∀ k, k ≤ n → (wordsF F n (longV F n) k).length ≤ (wordsF F n (longV F n) n).length) := Lib.hid fun k hk => by
      have h1 := placeF_mono F (longV F n) k n hk
      rw [hPL.out k, hPL.out n] at h1; omega
    have hs1 : Hid (∀ k, (F k).kind ≠ 2 → 1 ≤ (insnsV F n (longV F n) k).length) := Lib.hid fun k h2 => by
      have h1 := size_pos (F k) (longV F n k) h2
      rw [← insns_size F n (longV F n) k (hlk k)] at h1; omega
    have hWat : Hid (∀ k, k < n → ∀ j i, (insnsV F n (longV F n) k)[j]? = some i → (wordsF F n (longV F n) n).getD ((wordsF F n (longV F n) k).length + j) 0#32 = wordV i) := Lib.hid fun k hk j i hi => by
      rw [List.getD_eq_getElem?_getD, words_at F n (longV F n) k j i hi n hk]; rfl
    have hbig : (wordsF F n (longV F n) n).length ≤ 12 * n := wordsF_len _ _ _ _
    have hin : Hid (∀ k, insnsV F n (longV F n) k = (if (F k).kind = 2 then [] else if (F k).kind = 5 then numV (F k).insn.rd (F k).addr else if (F k).kind = 3 ∨ (F k).kind = 4 then insnsV F n (longV F n) k else [(F k).insn])) := Lib.hid fun k => by
      by_cases k2 : (F k).kind = 2
      · rw [if_pos k2]; unfold insnsV; rw [if_pos k2]
      · rw [if_neg k2]
        by_cases k5 : (F k).kind = 5
        · rw [if_pos k5]; unfold insnsV; rw [if_neg k2, if_pos k5]
        · rw [if_neg k5]
          by_cases k34 : (F k).kind = 3 ∨ (F k).kind = 4
          · rw [if_pos k34]
          · rw [if_neg k34]; unfold insnsV; rw [if_neg k2, if_neg k5, if_neg k34]
    clear hlk hwl
    generalize hWS : wordsF F n (longV F n) n = WS at hBd hPM hWat hbig
    have hPn : Hid ((wordsF F n (longV F n) n).length = WS.length) := Lib.hid (by rw [hWS])
    clear hWS
    have hP0w : (wordsF F n (longV F n) 0).length = 0 := rfl
    generalize hPLe : (fun k => (wordsF F n (longV F n) k).length) = PL
    have hpl : ∀ k, (wordsF F n (longV F n) k).length = PL k := fun k => by rw [← hPLe]
    have hP0 : Hid (PL 0 = 0) := Lib.hid (by rw [← hpl 0]; rfl)
    clear hP0w
    simp only [hpl] at hPL hPS hPM hWat hPn
    simp only [hPL.out] at hBd
    clear hpl hPLe hPL
    generalize longV F n = L at *
    have tnn : ((n : Int) != (n : Int)) = false := by simp
    go_enter Tryz.func8, Tryz.ntmps8
    go_wp2_with (first | (go_at_call 9; (with_reducible refine hLv.out.mono ?_); rintro e w1 ⟨rfl, hb1⟩; clear hLv) | (go_at_call 13; (with_reducible refine (hOw.out _ hb1).mono ?_); rintro e w2 ⟨⟨A, c, rfl, hA, -⟩, hb2⟩; replace hb2 := hb1.trans (hb2.mono hb1.size); clear hb1) | (go_at_call 12; (with_reducible refine (hBd.out _ A c hb2 hA).mono ?_); rintro e w3 ⟨⟨v, u, rfl, hsv, hsu⟩, hb3⟩; replace hb3 := hb2.trans (hb3.mono hb2.size); clear hb2 hA; obtain ⟨A1, c1, b1, rfl, hc1, hA1, hV1⟩ := hsv.open; obtain ⟨A2, c2, b2, rfl, hc2, hA2, hU1⟩ := hsu.open; replace hV1 := Lib.hid hV1; replace hU1 := Lib.hid hU1; replace hA1 := Lib.hid hA1; replace hA2 := Lib.hid hA2; clear hsv hsu) | (go_at_call 21; (with_reducible refine (hLg.out _ hb3).mono ?_); rintro e w4 ⟨⟨v4, rfl, hsl⟩, hb34⟩; have hb4 := hb3.trans (hb34.mono hb3.size); clear hb3; obtain ⟨A3, c3, b3, rfl, hc3, hA3, hL1⟩ := hsl.open; replace hL1 := Lib.hid hL1; replace hA3 := Lib.hid hA3; clear hsl))
    clear hOw hBd hLg
    have hV : Hid (∀ W', Below w4.heap.size w4 W' → ∀ k, k < WS.length → W'.cell? ⟨b1, k, none⟩ = some (.int .u32 (un32 (WS.getD k 0#32)))) := Lib.hid fun W' hW k hk => hV1.out (by omega) W' (hb34.trans (hW.mono hb34.size)) k hk
    have hU : Hid (∀ W', Below w4.heap.size w4 W' → ∀ k, k < n → W'.cell? ⟨b2, k, none⟩ = some (.int .i64 (PL k))) := Lib.hid fun W' hW k hk => hU1.out (by omega) W' (hb34.trans (hW.mono hb34.size)) k hk
    have hLl : Hid (∀ W', Below w4.heap.size w4 W' → ∀ k, k < n → W'.cell? ⟨b3, k, none⟩ = some (.bool (L k))) := Lib.hid fun W' hW k hk => hL1.out (by omega) W' hW k hk
    clear hV1 hU1 hL1 hb34
    go_loopw [8, 9] (fun s8 s9 wr => ∃ k : Nat, k ≤ n ∧ s8 = .int .i64 (PL k) ∧ s9 = .int .i64 k ∧ Below w4.heap.size w4 wr) (fun _ s9 _ => n - (intOf s9).toNat)
    case atStart => exact ⟨0, Nat.zero_le _, by rw [hP0.out]; rfl, rfl, Below.refl _ _⟩
    case round =>
      obtain ⟨k, hk, rfl, rfl, hb⟩ := hrel
      by_cases hlt : k < n
      · have hn0 : 0 < n := by omega
        obtain rfl := hA2.out hn0
        obtain rfl := hA3.out hn0
        obtain ⟨ib, io, rfl, hib, hcc⟩ := hI.out hn0
        have hRi : Hid (∀ W, Below w4.heap.size w4 W → W.rangeAt ib (io + k * 12) (F k).cells.toList) := Lib.hid fun W hW => item_range fun j v hv => by
          rw [(hb4.trans (hW.mono hb4.size)).cell (p := ⟨ib, io + k * 12 + j, none⟩) hib]; exact hcc k hlt j v hv
        have hSk : Hid (∀ W, Below w4.heap.size w4 W → Calls Tryz.prog 27 #[.agg (F k).cells, .bool (L k)] W fun e w' => e = .returned (.int .i64 ((insnsV F n L k).length : Int)) ∧ Below W.heap.size W w') := Lib.hid fun W hW => by
          rw [← hsz9.out k hlt]; exact hSz.out W (hb4.trans (hW.mono hb4.size)) k hlt (L k)
        have hs1k := hs1.out k
        have hWk := hWat.out k hlt
        have hmk2 := hmay.out k hlt
        have hq1 := hPS.out k
        have hq2 := hPM.out (k + 1) (by omega)
        have hik := hin.out k
        have huc : Hid (∀ W', Below w4.heap.size w4 W' → W'.cell? ⟨b2, k, none⟩ = some (.int .i64 (PL k))) := Lib.hid fun W' hW => hU.out W' hW k hlt
        have hlc : Hid (∀ W', Below w4.heap.size w4 W' → W'.cell? ⟨b3, k, none⟩ = some (.bool (L k))) := Lib.hid fun W' hW => hLl.out W' hW k hlt
        obtain ⟨l, hl⟩ : ∃ l, insnsV F n L k = l := ⟨_, rfl⟩
        rw [hl] at hSk hs1k hWk hq1 hik
        obtain ⟨q, hq⟩ : ∃ q, PL k = q := ⟨_, rfl⟩
        rw [hq] at hWk hq1 huc ⊢
        obtain ⟨q', hq'⟩ : ∃ q, PL (k + 1) = q := ⟨_, rfl⟩
        rw [hq'] at hq1 hq2
        obtain ⟨lk, hlk⟩ : ∃ x, L k = x := ⟨_, rfl⟩
        rw [hlk] at hSk hlc
        obtain ⟨it, hit⟩ : ∃ it, F k = it := ⟨_, rfl⟩
        rw [hit] at hRi hSk hs1k hmk2 hik
        replace hq' := Lib.hid hq'
        clear hcc hl hq hlk hit hs1 hsz9
        obtain ⟨kind, ⟨op, rd, r1, r2, imm, aq, rl, pred, succ⟩, label, addr⟩ := it
        simp only at hs1k hik
        replace hik := Lib.hid hik
        replace hs1k := Lib.hid hs1k
        have hk1 : (0 : Int) ≤ (k : Int) := by omega
        have hk2 : (k : Int) < (n : Int) := by omega
        have hk3 : decide ((k : Int) < (n : Int)) = true := decide_eq_true hk2
        have tq : ((q : Int) != (q : Int)) = false := by simp
        have e1 : wrap64 ((q : Int) + (l.length : Int)) = (q' : Int) := by rw [IntWalk.wrap64_in _ ⟨by omega, by omega⟩]; omega
        have g1' : ¬ (WS.length : Int) < (q' : Int) := Int.not_lt.2 (Int.ofNat_le.2 hq2)
        have g1 : decide ((q' : Int) > (WS.length : Int)) = false := decide_eq_false g1'
        have g2' : ¬ (q' : Int) < (q : Int) := Int.not_lt.2 (Int.ofNat_le.2 (by rw [hq1]; exact Nat.le_add_right _ _))
        have g2 : decide ((q' : Int) < (q : Int)) = false := decide_eq_false g2'
        have hui := Tryz.underlying29
        have cu := huc.out wr hb
        go_upto_region 17 with fail
        clear cu
        replace hq1 := Lib.hid hq1
        replace hq2 := Lib.hid hq2
        refine wp_region_held_drew (S := fun W => Below w4.heap.size w4 W) hmk hb.drew (fun hHeld => ?_)
        generalize World.drew _ = w5 at hHeld ⊢
        clear hb
        refine wpAnyH_take (i := 0) (v := .int .i64 q) rfl (by kernel_rfl) (by kernel_rfl) (by kernel_rfl) (fun _ _ _ h => h) (Or.inl ⟨by rfl, fun W _ => by kernel_rfl⟩) hHeld ?_
        try simp only [Act.put, List.getElem_toArray, List.getElem_cons_zero, List.setIfInBounds_toArray, List.set_cons_zero, List.set_cons_succ]
        refine wpAnyH_take (i := 1) (v := .slice (some ⟨ib, io, none⟩) n cap) rfl (by kernel_rfl) (by kernel_rfl) (by kernel_rfl) (fun _ _ _ h => h) (Or.inl ⟨by rfl, fun W _ => by kernel_rfl⟩) hHeld ?_
        try simp only [Act.put, List.getElem_toArray, List.getElem_cons_succ, List.getElem_cons_zero, List.setIfInBounds_toArray, List.set_cons_zero, List.set_cons_succ]
        refine wpAnyH_take (i := 2) (v := .int .i64 k) rfl (by kernel_rfl) (by kernel_rfl) (by kernel_rfl) (fun _ _ _ h => h) (Or.inl ⟨by rfl, fun W _ => by kernel_rfl⟩) hHeld ?_
        try simp only [Act.put, List.getElem_toArray, List.getElem_cons_succ, List.getElem_cons_zero, List.setIfInBounds_toArray, List.set_cons_zero, List.set_cons_succ]
        refine wpAnyH_take (i := 3) (v := .pointer (some ⟨ib, io + k * 12, none⟩)) rfl (by kernel_rfl) (by kernel_rfl) (by kernel_rfl) (fun _ _ _ h => h) (Or.inl ⟨by rfl, fun W _ => by go_simp⟩) hHeld ?_
        try simp only [Act.put, List.getElem_toArray, List.getElem_cons_succ, List.getElem_cons_zero, List.setIfInBounds_toArray, List.set_cons_zero, List.set_cons_succ]
        refine wpAnyH_take (i := 4) rfl (by kernel_rfl) (by kernel_rfl) (by kernel_rfl) (fun _ _ _ h => h) (yieldsIf_load_mid (by rfl) _ _ rfl ib (io + k * 12) rfl (ItemV.cells ⟨kind, ⟨op, rd, r1, r2, imm, aq, rl, pred, succ⟩, label, addr⟩).toList _ (fun W hS => hRi.out W hS) hui rfl (by kernel_rfl)) hHeld ?_
        try simp only [Act.put, List.getElem_toArray, List.getElem_cons_succ, List.getElem_cons_zero, List.setIfInBounds_toArray, List.set_cons_zero, List.set_cons_succ]
        refine wpAnyH_take (i := 5) (v := .slice (some ⟨b3, 0, none⟩) n c3) rfl (by kernel_rfl) (by kernel_rfl) (by kernel_rfl) (fun _ _ _ h => h) (Or.inl ⟨by rfl, fun W _ => by kernel_rfl⟩) hHeld ?_
        try simp only [Act.put, List.getElem_toArray, List.getElem_cons_succ, List.getElem_cons_zero, List.setIfInBounds_toArray, List.set_cons_zero, List.set_cons_succ]
        refine wpAnyH_take (i := 6) (v := .int .i64 k) rfl (by kernel_rfl) (by kernel_rfl) (by kernel_rfl) (fun _ _ _ h => h) (Or.inl ⟨by rfl, fun W _ => by kernel_rfl⟩) hHeld ?_
        try simp only [Act.put, List.getElem_toArray, List.getElem_cons_succ, List.getElem_cons_zero, List.setIfInBounds_toArray, List.set_cons_zero, List.set_cons_succ]
        refine wpAnyH_take (i := 7) (v := .pointer (some ⟨b3, k, none⟩)) rfl (by kernel_rfl) (by kernel_rfl) (by kernel_rfl) (fun _ _ _ h => h) (Or.inl ⟨by rfl, fun W _ => by go_simp⟩) hHeld ?_
        try simp only [Act.put, List.getElem_toArray, List.getElem_cons_succ, List.getElem_cons_zero, List.setIfInBounds_toArray, List.set_cons_zero, List.set_cons_succ]
        refine wpAnyH_take (i := 8) (v := .bool lk) rfl (by kernel_rfl) (by kernel_rfl) (by kernel_rfl) (fun _ _ _ h => h) (Or.inl ⟨by rfl, fun W hS => by (have k4 := hlc.out W hS; go_simp)⟩) hHeld ?_
        try simp only [Act.put, List.getElem_toArray, List.getElem_cons_succ, List.getElem_cons_zero, List.setIfInBounds_toArray, List.set_cons_zero, List.set_cons_succ]
        refine wpAnyH_ready (rs := [9]) (by kernel_rfl) (by simp) (AllReadyH.cons rfl (fun K hK2 => ?_) AllReadyH.nil)
        rw [if_pos (by rfl)]
        simp only [List.getElem_toArray, List.getElem_cons_succ, List.getElem_cons_zero]
        go_wp2_with (go_at_call 27; refine (hSk.out _ hHeld).mono ?_; rintro e w6 ⟨rfl, hb6⟩)
        refine hK2.out _ _ (hHeld.trans (hb6.mono hHeld.size)) (fun hHeld2 => ?_)
        clear hK2 K hHeld
        have hHeld := hHeld2
        clear hHeld2 hb6 hSk
        try simp only [Act.put, List.getElem_toArray, List.getElem_cons_succ, List.getElem_cons_zero, List.setIfInBounds_toArray, List.set_cons_zero, List.set_cons_succ]
        refine wpAnyH_take (i := 10) (v := .int .i64 q') rfl (by kernel_rfl) (by kernel_rfl) (by kernel_rfl) (fun _ _ _ h => h) (Or.inl ⟨by rfl, fun W _ => by (go_simp; rw [IntWalk.i64_left]; exact e1)⟩) hHeld ?_
        try simp only [Act.put, List.getElem_toArray, List.getElem_cons_succ, List.getElem_cons_zero, List.setIfInBounds_toArray, List.set_cons_zero, List.set_cons_succ]
        refine wpAnyH_take (i := 11) (v := .int .i64 q') rfl (by kernel_rfl) (by kernel_rfl) (by kernel_rfl) (fun _ _ _ h => h) (Or.inl ⟨by rfl, fun W _ => by kernel_rfl⟩) hHeld ?_
        try simp only [Act.put, List.getElem_toArray, List.getElem_cons_succ, List.getElem_cons_zero, List.setIfInBounds_toArray, List.set_cons_zero, List.set_cons_succ]
        refine wpAnyH_done (by kernel_rfl) ?_ _
        have hb : Below w4.heap.size w4 w6 := hHeld
        clear hHeld
        replace e1 := Lib.hid e1
        clear hlc
        have cu := huc.out w6 hb
        have ck : w6.cell? ⟨ib, io + k * 12, none⟩ = some (.int .i64 kind) := hRi.out w6 hb 0 _ rfl
        by_cases k2 : kind = 2
        · subst k2
          have hlz : q' = q := by rw [hq1.out, hik.out, if_pos rfl]; rfl
          have g3 : ((q' : Int) == (q : Int)) = true := by rw [hlz]; simp
          clear hik hs1k hlz
          go_wp2_with fail
          go_roundw
          case rel => exact ⟨k + 1, by omega, by rw [hq'.out], by go_num, hb⟩
          case measure => simp [intOf]; omega
        have hl1 := hs1k.out k2
        have g3 : ((q' : Int) == (q : Int)) = false := by
          have := hq1.out
          simp; omega
        have k2b : (kind != 2) = true := by simpa using k2
        replace hik := hik.out
        rw [if_neg k2] at hik
        replace hik := Lib.hid hik
        by_cases k1 : kind = 1
        · subst k1
          have hck := may_insn hmk2 rfl
          have hl1' : l = [⟨op, rd, r1, r2, imm, aq, rl, pred, succ⟩] := by
            have h9 := hik.out
            rw [if_neg (by decide), if_neg (by decide)] at h9
            exact h9
          have hx : WS.getD q 0#32 = wordV ⟨op, rd, r1, r2, imm, aq, rl, pred, succ⟩ := by
            have := hWk 0 _ (by rw [hl1']; rfl)
            rwa [Nat.add_zero] at this
          have hqM : q < WS.length := by
            have h1 := hq1.out
            have h2 := hq2.out
            rw [hl1'] at h1
            simp at h1
            omega
          obtain rfl := hA1.out (by omega)
          have hcv : Hid (∀ W', Below w4.heap.size w4 W' → W'.cell? ⟨b1, q, none⟩ = some (.int .u32 (un32 (wordV ⟨op, rd, r1, r2, imm, aq, rl, pred, succ⟩)))) := Lib.hid fun W' hW => by rw [← hx]; exact hV.out W' hW q hqM
          have hWr := Lib.hid (fun W => R3Word_any ⟨op, rd, r1, r2, imm, aq, rl, pred, succ⟩ W)
          simp only at hck
          rw [hck] at hWr
          generalize un32 (wordV ⟨op, rd, r1, r2, imm, aq, rl, pred, succ⟩) = X at hcv hWr
          have hRm : w6.rangeAt ib (io + k * 12 + 1) [.int .i64 op, .int .i64 rd, .int .i64 r1, .int .i64 r2, .int .i64 imm, .bool aq, .bool rl, .int .i64 pred, .int .i64 succ] := item_mid (hRi.out w6 hb)
          replace hRm := Lib.hid hRm
          have n1 : (0 : Int) ≤ (q : Int) := Int.natCast_nonneg q
          have n2 : (q : Int) < (WS.length : Int) := Int.ofNat_lt.2 hqM
          have tX : (X != X) = false := by simp
          clear hx hl1' hck hWk hmk2 hqM
          go_upto_region 21 with fail
          go_wp2_with (first | (refine wpList_load_mid rfl 26 _ rfl ib (io + k * 12 + 1) rfl [.int .i64 op, .int .i64 rd, .int .i64 r1, .int .i64 r2, .int .i64 imm, .bool aq, .bool rl, .int .i64 pred, .int .i64 succ] _ hRm.out Tryz.underlying26 rfl (by kernel_rfl) ?_) | (go_at_call 37; refine (hWr.out _).mono ?_; rintro e w7 ⟨rfl, hb7⟩; have hb8 := hb.trans (hb7.mono hb.size); have cu2 := huc.out _ hb8; have cv2 := hcv.out _ hb8; have ck2 : w7.cell? ⟨ib, io + k * 12, none⟩ = some (.int .i64 1) := hRi.out w7 hb8 0 _ rfl))
          go_roundw
          case rel => exact ⟨k + 1, by omega, by rw [hq'.out], by go_num, hb8⟩
          case measure => simp [intOf]; omega
        by_cases k5 : kind = 5
        · subst k5
          have hrd := may_num hmk2 rfl
          simp only at hrd
          have hl5 : l = numV rd addr := by
            have h9 := hik.out
            rw [if_pos rfl] at h9
            exact h9
          have hok := Lib.hid (numV_ok rd addr hrd)
          have hNm : Hid (∀ W, Calls Tryz.prog 17 #[.int .i64 rd, .int .u64 (un addr)] W fun e w' => (∃ v, e = .returned (.tuple #[v, .int .i64 0]) ∧ w'.ownsRow W.heap.size 26 9 v l.length (insnsC l)) ∧ Below W.heap.size W w') := Lib.hid fun W => by
            have := Number_any rd addr W
            unfold NumR at this
            rw [if_pos hrd, if_pos hrd, ← hl5] at this
            exact this
          rw [← hl5] at hok
          have hqM : q + l.length ≤ WS.length := by rw [← hq1.out]; exact hq2.out
          obtain rfl := hA1.out (by omega)
          have hrdc : Hid (∀ W', Below w4.heap.size w4 W' → W'.cell? ⟨ib, io + k * 12 + 1 + 1, none⟩ = some (.int .i64 rd)) := Lib.hid fun W' hW => hRi.out W' hW 2 _ rfl
          have hadc : Hid (∀ W', Below w4.heap.size w4 W' → W'.cell? ⟨ib, io + k * 12 + 11, none⟩ = some (.int .u64 (un addr))) := Lib.hid fun W' hW => hRi.out W' hW 11 _ rfl
          have tqq' : ((q : Int) + (l.length : Int) != (q' : Int)) = false := by
            have h9 := hq1.out
            rw [h9]; simp
          replace hWk := Lib.hid hWk
          clear hl5 hrd hmk2 hik
          go_upto_region 25 with fail
          clear cu ck
          refine wp_region_held_drew (S := fun W => Below w4.heap.size w4 W) hmk hb.drew (fun hHeld => ?_)
          generalize World.drew _ = w7 at hHeld ⊢
          clear hb
          refine wpAnyH_take (i := 0) (v := .slice (some ⟨ib, io, none⟩) n cap) rfl (by kernel_rfl) (by kernel_rfl) (by kernel_rfl) (fun _ _ _ h => h) (Or.inl ⟨by rfl, fun W _ => by kernel_rfl⟩) hHeld ?_
          try simp only [Act.put, List.getElem_toArray, List.getElem_cons_zero, List.setIfInBounds_toArray, List.set_cons_zero, List.set_cons_succ]
          refine wpAnyH_take (i := 1) (v := .int .i64 k) rfl (by kernel_rfl) (by kernel_rfl) (by kernel_rfl) (fun _ _ _ h => h) (Or.inl ⟨by rfl, fun W _ => by kernel_rfl⟩) hHeld ?_
          try simp only [Act.put, List.getElem_toArray, List.getElem_cons_succ, List.getElem_cons_zero, List.setIfInBounds_toArray, List.set_cons_zero, List.set_cons_succ]
          refine wpAnyH_take (i := 2) (v := .pointer (some ⟨ib, io + k * 12, none⟩)) rfl (by kernel_rfl) (by kernel_rfl) (by kernel_rfl) (fun _ _ _ h => h) (Or.inl ⟨by rfl, fun W _ => by go_simp⟩) hHeld ?_
          try simp only [Act.put, List.getElem_toArray, List.getElem_cons_succ, List.getElem_cons_zero, List.setIfInBounds_toArray, List.set_cons_zero, List.set_cons_succ]
          refine wpAnyH_take (i := 3) (v := .pointer (some ⟨ib, io + k * 12 + 1, none⟩)) rfl (by kernel_rfl) (by kernel_rfl) (by kernel_rfl) (fun _ _ _ h => h) (Or.inl ⟨by rfl, fun W _ => by go_simp⟩) hHeld ?_
          try simp only [Act.put, List.getElem_toArray, List.getElem_cons_succ, List.getElem_cons_zero, List.setIfInBounds_toArray, List.set_cons_zero, List.set_cons_succ]
          refine wpAnyH_take (i := 4) (v := .pointer (some ⟨ib, io + k * 12 + 1 + 1, none⟩)) rfl (by kernel_rfl) (by kernel_rfl) (by kernel_rfl) (fun _ _ _ h => h) (Or.inl ⟨by rfl, fun W _ => by go_simp⟩) hHeld ?_
          try simp only [Act.put, List.getElem_toArray, List.getElem_cons_succ, List.getElem_cons_zero, List.setIfInBounds_toArray, List.set_cons_zero, List.set_cons_succ]
          refine wpAnyH_take (i := 5) (v := .int .i64 rd) rfl (by kernel_rfl) (by kernel_rfl) (by kernel_rfl) (fun _ _ _ h => h) (Or.inl ⟨by rfl, fun W hS => by (have k4 := hrdc.out W hS; go_simp)⟩) hHeld ?_
          try simp only [Act.put, List.getElem_toArray, List.getElem_cons_succ, List.getElem_cons_zero, List.setIfInBounds_toArray, List.set_cons_zero, List.set_cons_succ]
          refine wpAnyH_take (i := 6) (v := .slice (some ⟨ib, io, none⟩) n cap) rfl (by kernel_rfl) (by kernel_rfl) (by kernel_rfl) (fun _ _ _ h => h) (Or.inl ⟨by rfl, fun W _ => by kernel_rfl⟩) hHeld ?_
          try simp only [Act.put, List.getElem_toArray, List.getElem_cons_succ, List.getElem_cons_zero, List.setIfInBounds_toArray, List.set_cons_zero, List.set_cons_succ]
          refine wpAnyH_take (i := 7) (v := .int .i64 k) rfl (by kernel_rfl) (by kernel_rfl) (by kernel_rfl) (fun _ _ _ h => h) (Or.inl ⟨by rfl, fun W _ => by kernel_rfl⟩) hHeld ?_
          try simp only [Act.put, List.getElem_toArray, List.getElem_cons_succ, List.getElem_cons_zero, List.setIfInBounds_toArray, List.set_cons_zero, List.set_cons_succ]
          refine wpAnyH_take (i := 8) (v := .pointer (some ⟨ib, io + k * 12, none⟩)) rfl (by kernel_rfl) (by kernel_rfl) (by kernel_rfl) (fun _ _ _ h => h) (Or.inl ⟨by rfl, fun W _ => by go_simp⟩) hHeld ?_
          try simp only [Act.put, List.getElem_toArray, List.getElem_cons_succ, List.getElem_cons_zero, List.setIfInBounds_toArray, List.set_cons_zero, List.set_cons_succ]
          refine wpAnyH_take (i := 9) (v := .pointer (some ⟨ib, io + k * 12 + 11, none⟩)) rfl (by kernel_rfl) (by kernel_rfl) (by kernel_rfl) (fun _ _ _ h => h) (Or.inl ⟨by rfl, fun W _ => by go_simp⟩) hHeld ?_
          try simp only [Act.put, List.getElem_toArray, List.getElem_cons_succ, List.getElem_cons_zero, List.setIfInBounds_toArray, List.set_cons_zero, List.set_cons_succ]
          refine wpAnyH_take (i := 10) (v := .int .u64 (un addr)) rfl (by kernel_rfl) (by kernel_rfl) (by kernel_rfl) (fun _ _ _ h => h) (Or.inl ⟨by rfl, fun W hS => by (have k4 := hadc.out W hS; go_simp)⟩) hHeld ?_
          try simp only [Act.put, List.getElem_toArray, List.getElem_cons_succ, List.getElem_cons_zero, List.setIfInBounds_toArray, List.set_cons_zero, List.set_cons_succ]
          refine wpAnyH_ready (rs := [11]) (by kernel_rfl) (by simp) (AllReadyH.cons rfl (fun K hK2 => ?_) AllReadyH.nil)
          rw [if_pos (by rfl)]
          simp only [List.getElem_toArray, List.getElem_cons_succ, List.getElem_cons_zero]
          go_wp2_with (go_at_call 17; (with_reducible refine (hNm.out _).mono ?_); rintro e w8 ⟨⟨v8, rfl, hir⟩, hb8⟩; obtain ⟨A6, c6, rfl⟩ := own_sliceN hir)
          refine hK2.out _ _ (hHeld.trans (hb8.mono hHeld.size)) (fun hHeld2 => ?_)
          clear hK2 K hHeld
          have hHeld := hHeld2
          clear hHeld2 hb8 hNm hrdc hadc
          have hIr := InsR.of (own_base hir (Nat.zero_le _))
          clear hir
          try simp only [Act.put, List.getElem_toArray, List.getElem_cons_succ, List.getElem_cons_zero, List.setIfInBounds_toArray, List.set_cons_zero, List.set_cons_succ]
          refine wpAnyH_take (i := 12) (v := .tuple #[.slice A6 l.length c6, .int .i64 0]) rfl (by kernel_rfl) (by kernel_rfl) (by kernel_rfl) (fun _ _ _ h => h) (Or.inl ⟨by rfl, fun W _ => by kernel_rfl⟩) hHeld ?_
          try simp only [Act.put, List.getElem_toArray, List.getElem_cons_succ, List.getElem_cons_zero, List.setIfInBounds_toArray, List.set_cons_zero, List.set_cons_succ]
          refine wpAnyH_take (i := 13) (v := .slice A6 l.length c6) rfl (by kernel_rfl) (by kernel_rfl) (by kernel_rfl) (fun _ _ _ h => h) (Or.inl ⟨by rfl, fun W _ => by kernel_rfl⟩) hHeld ?_
          try simp only [Act.put, List.getElem_toArray, List.getElem_cons_succ, List.getElem_cons_zero, List.setIfInBounds_toArray, List.set_cons_zero, List.set_cons_succ]
          refine wpAnyH_take (i := 14) (v := .int .i64 0) rfl (by kernel_rfl) (by kernel_rfl) (by kernel_rfl) (fun _ _ _ h => h) (Or.inl ⟨by rfl, fun W _ => by kernel_rfl⟩) hHeld ?_
          try simp only [Act.put, List.getElem_toArray, List.getElem_cons_succ, List.getElem_cons_zero, List.setIfInBounds_toArray, List.set_cons_zero, List.set_cons_succ]
          refine wpAnyH_take (i := 15) (v := .slice A6 l.length c6) rfl (by kernel_rfl) (by kernel_rfl) (by kernel_rfl) (fun _ _ _ h => h) (Or.inl ⟨by rfl, fun W _ => by kernel_rfl⟩) hHeld ?_
          try simp only [Act.put, List.getElem_toArray, List.getElem_cons_succ, List.getElem_cons_zero, List.setIfInBounds_toArray, List.set_cons_zero, List.set_cons_succ]
          refine wpAnyH_take (i := 16) (v := .int .i64 0) rfl (by kernel_rfl) (by kernel_rfl) (by kernel_rfl) (fun _ _ _ h => h) (Or.inl ⟨by rfl, fun W _ => by kernel_rfl⟩) hHeld ?_
          try simp only [Act.put, List.getElem_toArray, List.getElem_cons_succ, List.getElem_cons_zero, List.setIfInBounds_toArray, List.set_cons_zero, List.set_cons_succ]
          refine wpAnyH_done (by kernel_rfl) ?_ _
          have hb : Below w4.heap.size w4 w8 := hHeld
          clear hHeld
          have cu2 := huc.out _ hb
          go_upto_region 28 with fail
          clear cu2
          go_wp2_with fail
          go_loopw [14] (fun s14 wz => ∃ j : Nat, j ≤ l.length ∧ s14 = .int .i64 j ∧ Below w8.heap.size w8 wz) (fun s14 _ => l.length - (intOf s14).toNat)
          case atStart => exact ⟨0, Nat.zero_le _, rfl, Below.refl _ _⟩
          case round =>
            obtain ⟨j, hj, rfl, hbz⟩ := hrel
            have hbw := hb.trans (hbz.mono hb.size)
            by_cases hjl : j < l.length
            · obtain ⟨i, hi⟩ : ∃ i, l[j]? = some i := ⟨_, List.getElem?_eq_getElem hjl⟩
              obtain ⟨g, rfl, -, hg, hr⟩ := hIr.keep hbz j i hi
              have hck := hok.out i (List.mem_of_getElem? hi)
              have hx := hWk.out j i hi
              have hcv : Hid (∀ W', Below w4.heap.size w4 W' → W'.cell? ⟨b1, q + j, none⟩ = some (.int .u32 (un32 (wordV i)))) := Lib.hid fun W' hW => by rw [← hx]; exact hV.out W' hW (q + j) (Nat.lt_of_lt_of_le (Nat.add_lt_add_left hjl q) hqM)
              have hWr : Hid (∀ W, Calls Tryz.prog 37 #[.agg i.cells.toList.toArray] W fun e w' => e = .returned (.tuple #[.int .u32 (un32 (wordV i)), .int .i64 0]) ∧ Below W.heap.size W w') := Lib.hid fun W => by rw [Array.toArray_toList, ← hck]; exact R3Word_any i W
              have hs9 := Lib.hid (size_insn i)
              replace hr := Lib.hid hr
              generalize un32 (wordV i) = X at hcv hWr
              have m1 : (0 : Int) ≤ (j : Int) := Int.natCast_nonneg j
              have m2 : (j : Int) < (l.length : Int) := Int.ofNat_lt.2 hjl
              have m3 : decide ((j : Int) < (l.length : Int)) = true := decide_eq_true m2
              obtain ⟨hqj, e3, hti, n1, n2⟩ := idx_add q j l.length WS.length n hqM hjl hbig hn
              obtain ⟨t, ht⟩ : ∃ t : Nat, q + j = t := ⟨_, rfl⟩
              rw [ht] at hcv e3 hti n1 n2
              have tX : (X != X) = false := by simp
              replace hti := Lib.hid hti
              have hll : l.length ≤ 720 := Nat.le_trans (Nat.le_trans (Nat.le_add_left _ _) hqM) (Nat.le_trans hbig (Nat.mul_le_mul_left 12 hn))
              have n3 : (0 : Int) ≤ (q : Int) + (j : Int) := by rw [hti.out]; exact n1
              have n4 : (q : Int) + (j : Int) < (WS.length : Int) := by rw [hti.out]; exact n2
              replace ht := Lib.hid ht
              clear hqj hqM hl1 g1 g1' g2 g2' g3 tqq' tq k2 k2b k1
              clear hx hck hi
              go_upto_region 32 with (first | (refine wpList_load_mid rfl 26 _ rfl g (j * 9) (by first | rfl | simp) i.cells.toList _ hr.out Tryz.underlying26 rfl hs9.out ?_) | (go_at_call 37; (with_reducible refine (hWr.out _).mono ?_); rintro e w9 ⟨rfl, hb9⟩))
              have hbx := hbw.trans (hb9.mono hbw.size)
              have cu2 := huc.out _ hbx
              have cv2 := hcv.out _ hbx
              have cv3 := cv2
              rw [← ht.out] at cv3
              replace hbz := hbz.trans (hb9.mono hbz.size)
              clear hb9
              go_wp2_with fail
              go_roundw
              case rel => exact ⟨j + 1, by omega, by go_num, hbz⟩
              case measure => simp [intOf]; omega
            · obtain rfl : l.length = j := by omega
              go_wp2_with fail
              go_roundw
              case rel => exact ⟨k + 1, by omega, by rw [hq'.out], by go_num, hbw⟩
              case measure => simp [intOf]; omega
        have t1 : (kind == 1) = false := by simpa using k1
        have t5 : (kind == 5) = false := by simpa using k5
        clear hik hs1k
        go_wp2_with fail
        go_roundw
        case rel => exact ⟨k + 1, by omega, by rw [hq'.out], by go_num, hb⟩
        case measure => simp [intOf]; omega
      · obtain rfl : k = n := by omega
        have hPn2 := hPn.out
        rw [hPn2]
        have tqq : ((WS.length : Int) == (WS.length : Int)) = true := by simp
        go_wp2_with fail
        go_ret
        exact ⟨rfl, hb4.trans (hb.mono hb4.size)⟩
  · have e1 : outW F n = [] := if_neg hz
    have e2 : outN F n = 0 := if_neg hz
    unfold BuildR at hBd
    unfold LongR at hLg
    rw [e1, e2] at hBd
    rw [e2] at hLg
    clear e1 e2 hSz
    generalize checkV F n = E at hz hBd hLg
    have tE : (E != 0) = true := by simpa using hz
    have tEE : (E == E) = true := by simp
    go_enter Tryz.func8, Tryz.ntmps8
    go_wp2_with (first | (go_at_call 9; (with_reducible refine hLv.out.mono ?_); rintro e w1 ⟨rfl, hb1⟩; clear hLv) | (go_at_call 13; (with_reducible refine (hOw.out _ hb1).mono ?_); rintro e w2 ⟨⟨A, c, rfl, hA, -⟩, hb2⟩; replace hb2 := hb1.trans (hb2.mono hb1.size); clear hb1) | (go_at_call 12; (with_reducible refine (hBd.out _ A c hb2 hA).mono ?_); rintro e w3 ⟨⟨v, u, rfl, ⟨A1, c1, rfl, -, -⟩, ⟨A2, c2, rfl, -, -⟩⟩, hb3⟩; replace hb3 := hb2.trans (hb3.mono hb2.size); clear hb2 hA) | (go_at_call 21; (with_reducible refine (hLg.out _ hb3).mono ?_); rintro e w4 ⟨⟨v4, rfl, ⟨A3, c3, rfl, -, -⟩⟩, hb4⟩; replace hb4 := hb3.trans (hb4.mono hb3.size); clear hb3))
    go_ret
    exact ⟨rfl, hb4⟩
/-- AsmPlaces, whatever the items. -/
theorem AsmPlaces_any (ao : Option Addr) (n cap : Nat) (F : Nat → ItemV) (w : World) (hI : ItemsAt w ao n F) (hF : FitF F n) (hlo : ∀ k, k < n → -9223372036854775808 ≤ (F k).insn.op) (ht : Tabs w) (hfl : Flds w) :
    Calls Tryz.prog 8 #[.slice ao n cap] w fun e w' => e = .returned (.bool true) ∧ Below w.heap.size w w' := by
  by_cases hn : 60 < n
  · exact AsmPlaces_far ao n cap w ht hfl hn
  · exact AsmPlaces_go ao n cap F w hI hF hlo ht hfl (by omega)
end Go.Proofs.YtcgflnkgekkidaaGreatDoor
