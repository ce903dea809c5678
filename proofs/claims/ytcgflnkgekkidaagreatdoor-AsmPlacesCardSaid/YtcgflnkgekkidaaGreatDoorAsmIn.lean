/- The walk of a layout's insns: an item's instructions. Conditions: none. -/
import Derived.Test.YtcgflnkgekkidaaGreatDoorAsmLa
import Derived.Test.YtcgflnkgekkidaaGreatDoorAsmMy
set_option linter.unusedSimpArgs false
set_option linter.unusedVariables false
namespace Go.Proofs.YtcgflnkgekkidaaGreatDoor
open Go.RowKit Go.Maps
theorem fresh9 (w : World) (Z : Array Value) (hZ : Z.size = 9) (t : TypeId) : (w.alloc (.cells Z t)).there w.heap.size 0 9 := fun j hj => by
  refine ⟨?_, fresh_thawR w Z t _⟩
  rw [World.cell?_alloc_new, Nat.zero_add, Array.getElem?_eq_getElem (by omega)]; rfl
theorem range_setA {W : World} {b : Nat} {cs : List Value} (h : W.rangeAt b 0 cs) (j : Nat) (hj : j < cs.length) (v : Value) : (W.setCell ⟨b, j, none⟩ v).rangeAt b 0 (cs.set j v) := fun m u hu => by
  rw [Nat.zero_add]
  by_cases e : m = j
  · subst e
    rw [List.getElem?_set_self hj] at hu
    injection hu with hu
    rw [← hu]
    have := h m _ (List.getElem?_eq_getElem hj)
    rw [Nat.zero_add] at this
    exact World.cell?_setCell_same W ⟨b, m, none⟩ v this
  · rw [List.getElem?_set_ne (fun e2 => e e2.symm)] at hu
    rw [World.cell?_setCell_other W ⟨b, j, none⟩ ⟨b, m, none⟩ v (by intro e2; injection e2 with _ e3 _; exact e e3.symm)]
    have := h m u hu
    rwa [Nat.zero_add] at this
/-- An instruction in a box that may be written. -/
structure BI (b : Nat) (cs : List Value) (W : World) : Prop where
  r : W.rangeAt b 0 cs
  t : W.there b 0 9
  lt : b < W.heap.size
theorem BI.keep {b : Nat} {cs : List Value} {W W' : World} (h : BI b cs W) (hb : Below W.heap.size W W') : BI b cs W' :=
  ⟨fun j v hv => by rw [hb.cell (p := ⟨b, 0 + j, none⟩) h.lt]; exact h.r j v hv, fun j hj => by rw [hb.cell (p := ⟨b, 0 + j, none⟩) h.lt, hb.frozen (p := ⟨b, 0 + j, none⟩) h.lt]; exact h.t j hj, Nat.lt_of_lt_of_le h.lt hb.size⟩
theorem BI.set {b : Nat} {cs : List Value} {W : World} (h : BI b cs W) (j : Nat) (hj : j < cs.length) (v : Value) : BI b (cs.set j v) (W.setCell ⟨b, j, none⟩ v) :=
  ⟨range_setA h.r j hj v, World.there_setCells h.t b j [v], by rw [World.size_setCell]; exact h.lt⟩
theorem own_base {w : World} {b b' : Nat} {e : TypeId} {size : Nat} {v : Value} {n : Nat} {xs : List Value} (h : w.ownsRow b e size v n xs) (hb : b' ≤ b) : w.ownsRow b' e size v n xs := by
  refine ⟨h.1, ?_⟩
  rcases h.2 with h2 | ⟨g, cap, cur, h3, h4, h5⟩
  · exact .inl h2
  · exact .inr ⟨g, cap, cur, h3, Nat.le_trans hb h4, h5⟩
theorem lit_insn2 (w : World) (i j : InsnV) : (w.alloc (.cells (i.cells ++ j.cells) 26)).ownsRow w.heap.size 26 9 (.slice (some ⟨w.heap.size, 0, none⟩) 2 2) [i, j].length (insnsC [i, j]) := by
  have := World.ownsRow_lit (base := w.heap.size) (e := 26) (size := 9) w (i.cells ++ j.cells) 2 (Nat.le_refl _) (by decide) rfl
  rw [show insnsC [i, j] = (i.cells ++ j.cells).toList by unfold insnsC; simp]; exact this
set_option maxRecDepth 100000 in
set_option maxHeartbeats 16000000 in
theorem Insns_any {B y bs bl bp bm : Nat} {ao : Option Addr} {n cap c : Nat} {F : Nat → ItemV} {L : Nat → Bool} (W : World) (h : LY B y bs bl bp bm ao n cap c F L (placeF F L) (labV F L n) W) (hF : FitF F n) (k : Nat) (hk : k < n) (hn : n ≤ 16384) :
    Calls Tryz.prog 41 #[.pointer (some ⟨y, 0, none⟩), .int .i64 k] W (NewInsns W (insnsV F n L k)) := by
  have hmk : Tryz.prog.follows .mixedOrders = true := by kernel_rfl
  have hWay : Hid (∀ b : Int, 0 ≤ b → b ≤ 1 → ∀ W', Below W.heap.size W W' → Calls Tryz.prog 74 #[.pointer (some ⟨y, 0, none⟩), .int .i64 k, .int .i64 b] W' fun e w' => e = .returned (.int .i64 (wayF F L (labV F L n) k b)) ∧ Below W'.heap.size W' w') := Lib.hid fun b hb0 hb1 W' hW => by
    have hp := placeF_bd F L k
    exact Way_any W' (h.keep hW) hF k b hk hn (labV_bd F L n _) (by omega) hb0 hb1
  obtain ⟨ib, io, rfl, hib, hcc⟩ := h.it (by omega)
  have hR0 := Lib.hid (item_range (hcc k hk))
  have hql := h.vl.c k hk
  unfold insnsV
  obtain ⟨V0, hV0⟩ : ∃ x, wayF F L (labV F L n) k 0 = x := ⟨_, rfl⟩
  obtain ⟨V1, hV1⟩ : ∃ x, wayF F L (labV F L n) k 1 = x := ⟨_, rfl⟩
  have hW0 := Lib.hid (hWay.out 0 (by decide) (by decide))
  have hW1 := Lib.hid (hWay.out 1 (by decide) (by decide))
  rw [hV0] at hW0 ⊢
  rw [hV1] at hW1 ⊢
  clear hWay hV0 hV1
  obtain ⟨lk, hlk⟩ : ∃ x, L k = x := ⟨_, rfl⟩
  rw [hlk]
  simp only [hlk] at hql
  obtain ⟨it, hit⟩ : ∃ it, F k = it := ⟨_, rfl⟩
  rw [hit] at hR0 ⊢
  clear hcc hlk hit
  obtain ⟨kind, ⟨op, rd, r1, r2, imm, aq, rl, pred, succ⟩, label, addr⟩ := it
  simp only
  have hN := Lib.hid (fun X => ANumber_any rd addr X)
  have hT := Lib.hid (fun X => Turned_any op X)
  obtain ⟨NL, hNL⟩ : ∃ x, numV rd addr = x := ⟨_, rfl⟩
  obtain ⟨top, htp⟩ : ∃ x, turnedV op = x := ⟨_, rfl⟩
  rw [hNL] at hN ⊢
  rw [htp] at hT ⊢
  clear hNL htp
  have q0 := h.c0
  have q2 := h.c2
  have hlbl := h.vl.lt
  have hly := h.lt
  clear h hF
  have hk1 : (0 : Int) ≤ (k : Int) := by omega
  have hk2 : (k : Int) < (n : Int) := by omega
  have hpt := Lib.hid (ItB.put W ⟨kind, ⟨op, rd, r1, r2, imm, aq, rl, pred, succ⟩, label, addr⟩ #[.int .i64 0, .int .i64 0, .int .i64 0, .int .i64 0, .int .i64 0, .int .i64 0, .bool false, .bool false, .int .i64 0, .int .i64 0, .int .i64 0, .int .u64 0] rfl 29)
  have hth := Lib.hid (fresh12 W #[.int .i64 0, .int .i64 0, .int .i64 0, .int .i64 0, .int .i64 0, .int .i64 0, .bool false, .bool false, .int .i64 0, .int .i64 0, .int .i64 0, .int .u64 0] rfl 29)
  have hon := Lib.hid (ItemV.one ⟨kind, ⟨op, rd, r1, r2, imm, aq, rl, pred, succ⟩, label, addr⟩)
  go_enter Tryz.func41, Tryz.ntmps41
  go_upto_region 2 with (first | (refine wpList_load_mid rfl 29 _ rfl ib (io + k * 12) rfl _ _ hR0.out Tryz.underlying29 rfl (by kernel_rfl) ?_) | (refine wpList_store_mid rfl 29 _ _ rfl W.heap.size 0 (ItemV.cells ⟨kind, ⟨op, rd, r1, r2, imm, aq, rl, pred, succ⟩, label, addr⟩) rfl rfl (fun j hj => hth.out j hj) (by kernel_rfl) hon.out ?_))
  replace hpt := hpt.out
  clear hth hon hR0
  generalize World.setCells _ W.heap.size 0 _ = w1 at hpt ⊢
  obtain ⟨hbx, hb1⟩ := hpt
  generalize W.heap.size = b5 at hbx ⊢
  have hmid : Hid (w1.rangeAt b5 1 [.int .i64 op, .int .i64 rd, .int .i64 r1, .int .i64 r2, .int .i64 imm, .bool aq, .bool rl, .int .i64 pred, .int .i64 succ]) := Lib.hid hbx.mid
  have hth9 := Lib.hid (fresh9 w1 #[.int .i64 0, .int .i64 0, .int .i64 0, .int .i64 0, .int .i64 0, .bool false, .bool false, .int .i64 0, .int .i64 0] rfl 26)
  have hB6 : Hid (BI w1.heap.size [.int .i64 op, .int .i64 rd, .int .i64 r1, .int .i64 r2, .int .i64 imm, .bool aq, .bool rl, .int .i64 pred, .int .i64 succ] (World.setCells (w1.alloc (.cells #[.int .i64 0, .int .i64 0, .int .i64 0, .int .i64 0, .int .i64 0, .bool false, .bool false, .int .i64 0, .int .i64 0] 26)) w1.heap.size 0 [.int .i64 op, .int .i64 rd, .int .i64 r1, .int .i64 r2, .int .i64 imm, .bool aq, .bool rl, .int .i64 pred, .int .i64 succ])) := Lib.hid ⟨World.rangeAt_setCells_same _ _ 0 [.int .i64 op, .int .i64 rd, .int .i64 r1, .int .i64 r2, .int .i64 imm, .bool aq, .bool rl, .int .i64 pred, .int .i64 succ] hth9.out, World.there_setCells hth9.out _ _ _, by rw [size_setCells]; simp⟩
  have hb6 : Hid (Below w1.heap.size w1 (World.setCells (w1.alloc (.cells #[.int .i64 0, .int .i64 0, .int .i64 0, .int .i64 0, .int .i64 0, .bool false, .bool false, .int .i64 0, .int .i64 0] 26)) w1.heap.size 0 [.int .i64 op, .int .i64 rd, .int .i64 r1, .int .i64 r2, .int .i64 imm, .bool aq, .bool rl, .int .i64 pred, .int .i64 succ])) := Lib.hid (below_cells (Nat.le_refl _) _ 0 _ ((Below.refl _ _).alloc (Nat.le_refl _) _))
  go_upto_region 3 with (first | (refine wpList_load_mid rfl 26 _ rfl b5 1 rfl [.int .i64 op, .int .i64 rd, .int .i64 r1, .int .i64 r2, .int .i64 imm, .bool aq, .bool rl, .int .i64 pred, .int .i64 succ] _ hmid.out Tryz.underlying26 rfl (by kernel_rfl) ?_) | (refine wpList_store_mid rfl 26 _ _ rfl w1.heap.size 0 #[.int .i64 op, .int .i64 rd, .int .i64 r1, .int .i64 r2, .int .i64 imm, .bool aq, .bool rl, .int .i64 pred, .int .i64 succ] rfl rfl (fun j hj => hth9.out j hj) (by kernel_rfl) (by kernel_rfl) ?_))
  replace hB6 := hB6.out
  replace hb6 := hb6.out
  clear hth9 hmid
  change Code.wp _ _ _ _ (World.setCells (w1.alloc (.cells #[.int .i64 0, .int .i64 0, .int .i64 0, .int .i64 0, .int .i64 0, .bool false, .bool false, .int .i64 0, .int .i64 0] 26)) w1.heap.size 0 [.int .i64 op, .int .i64 rd, .int .i64 r1, .int .i64 r2, .int .i64 imm, .bool aq, .bool rl, .int .i64 pred, .int .i64 succ])
  generalize World.setCells (w1.alloc (.cells #[.int .i64 0, .int .i64 0, .int .i64 0, .int .i64 0, .int .i64 0, .bool false, .bool false, .int .i64 0, .int .i64 0] 26)) w1.heap.size 0 [.int .i64 op, .int .i64 rd, .int .i64 r1, .int .i64 r2, .int .i64 imm, .bool aq, .bool rl, .int .i64 pred, .int .i64 succ] = w2 at hB6 hb6 ⊢
  have hbx2 := hbx.keep hb6
  have hb2 := hb1.trans (hb6.mono hb1.size)
  have hge6 : W.heap.size ≤ w1.heap.size := hb1.size
  clear hbx hb1 hb6
  generalize w1.heap.size = b6 at hB6 hge6 ⊢
  have c0 : w2.cell? ⟨b5, 0, none⟩ = some (.int .i64 kind) := hbx2.c 0 _ rfl
  by_cases k2 : kind = 2
  · subst k2
    clear hB6 hbx2 hW0 hW1
    go_wp2_with fail
    go_ret
    exact ⟨⟨_, rfl, World.ownsRow_nil _ _ _ _⟩, hb2⟩
  rw [if_neg k2]
  have t2 : (kind == 2) = false := by simpa using k2
  by_cases k5 : kind = 5
  · rw [if_pos k5]
    subst k5
    have c11 : w2.cell? ⟨b5, 11, none⟩ = some (.int .u64 (un addr)) := hbx2.c 11 _ rfl
    have d1 : w2.cell? ⟨b6, 1, none⟩ = some (.int .i64 rd) := hB6.r 1 _ rfl
    clear k2 t2 hB6 hbx2 hW0 hW1
    go_wp2_with (go_at_call 43; (with_reducible refine (hN.out _).mono ?_); rintro e w4 ⟨⟨v, rfl, hown⟩, hb4⟩)
    go_ret
    exact ⟨⟨_, rfl, own_base hown hb2.size⟩, hb2.trans (hb4.mono hb2.size)⟩
  rw [if_neg k5]
  have t5 : (kind == 5) = false := by simpa using k5
  by_cases k34 : kind = 3 ∨ kind = 4
  · rw [if_pos k34]
    have q0' := hb2.cell (p := ⟨y, 2, none⟩) hly
    rw [q2] at q0'
    have ql' := hb2.cell (p := ⟨bl, k, none⟩) hlbl
    rw [hql] at ql'
    cases lk with
    | true =>
      rw [if_pos rfl]
      have d0 : w2.cell? ⟨b6, 0, none⟩ = some (.int .i64 op) := hB6.r 0 _ rfl
      clear q0 q2 hql hbx2 hW0
      replace hB6 := Lib.hid hB6
      have hgo : ∀ kd : Int, kd = 3 ∨ kd = 4 → True := fun _ _ => trivial
      rcases k34 with rfl | rfl
      all_goals
        clear hgo k2 k5 t2 t5
        go_upto_region 11 with fail
        go_upto_region 12 with (go_at_call 26; (with_reducible refine (hT.out _).mono ?_); rintro e w3 ⟨rfl, hb3⟩; have hB7 := hB6.out.keep hb3; have e0 : w3.cell? ⟨b6, 0, none⟩ = some (.int .i64 op) := hB7.r 0 _ rfl; have g0 : w3.frozen? ⟨b6, 0, none⟩ = false := (hB7.t 0 (by decide)).2; have e4 : w3.cell? ⟨b6, 4, none⟩ = some (.int .i64 imm) := hB7.r 4 _ rfl; have g4 : w3.frozen? ⟨b6, 4, none⟩ = false := by have := (hB7.t 4 (by decide)).2; rwa [Nat.zero_add] at this)
        have hB8 := (hB7.set 0 (show 0 < 9 by decide) (.int .i64 top)).set 4 (show 4 < 9 by decide) (.int .i64 8)
        have hb8 : Below W.heap.size W ((w3.setCell ⟨b6, 0, none⟩ (.int .i64 top)).setCell ⟨b6, 4, none⟩ (.int .i64 8)) := ((hb2.trans (hb3.mono hb2.size)).setCell hge6 _).setCell hge6 _
        change BI b6 [.int .i64 top, .int .i64 rd, .int .i64 r1, .int .i64 r2, .int .i64 8, .bool aq, .bool rl, .int .i64 pred, .int .i64 succ] _ at hB8
        clear e0 g0 e4 g4 hB7 hB6 hb2
        generalize World.setCell (World.setCell w3 _ _) _ _ = w4 at hB8 hb8 ⊢
        refine wp_region_held_drew (S := fun W' => BI b6 [.int .i64 top, .int .i64 rd, .int .i64 r1, .int .i64 r2, .int .i64 8, .bool aq, .bool rl, .int .i64 pred, .int .i64 succ] W' ∧ Below W.heap.size W W') hmk ⟨hB8.keep (Below.refl _ _).drew, hb8.drew⟩ (fun hHeld => ?_)
        clear hB8 hb8
        generalize World.drew _ = w5 at hHeld ⊢
        have hui := Tryz.underlying26
        refine wpAnyH_take (i := 0) rfl (by kernel_rfl) (by kernel_rfl) (by kernel_rfl) (fun _ _ _ h => h) (yieldsIf_load_mid (by rfl) _ _ rfl b6 0 rfl [.int .i64 top, .int .i64 rd, .int .i64 r1, .int .i64 r2, .int .i64 8, .bool aq, .bool rl, .int .i64 pred, .int .i64 succ] _ (fun W hS => hS.1.r) hui rfl (by kernel_rfl)) hHeld ?_
        try simp only [Act.put, List.getElem_toArray, List.getElem_cons_succ, List.getElem_cons_zero, List.setIfInBounds_toArray, List.set_cons_zero, List.set_cons_succ]
        refine wpAnyH_take (i := 1) (v := .pointer (some ⟨y, 0, none⟩)) rfl (by kernel_rfl) (by kernel_rfl) (by kernel_rfl) (fun _ _ _ h => h) (Or.inl ⟨by rfl, fun W _ => by kernel_rfl⟩) hHeld ?_
        try simp only [Act.put, List.getElem_toArray, List.getElem_cons_succ, List.getElem_cons_zero, List.setIfInBounds_toArray, List.set_cons_zero, List.set_cons_succ]
        refine wpAnyH_take (i := 2) (v := .int .i64 k) rfl (by kernel_rfl) (by kernel_rfl) (by kernel_rfl) (fun _ _ _ h => h) (Or.inl ⟨by rfl, fun W _ => by kernel_rfl⟩) hHeld ?_
        try simp only [Act.put, List.getElem_toArray, List.getElem_cons_succ, List.getElem_cons_zero, List.setIfInBounds_toArray, List.set_cons_zero, List.set_cons_succ]
        refine wpAnyH_ready (rs := [3]) (by kernel_rfl) (by simp) (AllReadyH.cons rfl (fun K hK2 => ?_) AllReadyH.nil)
        rw [if_pos (by rfl)]
        simp only [List.getElem_toArray, List.getElem_cons_succ, List.getElem_cons_zero]
        go_wp2_with (go_at_call 74; (with_reducible refine (hW1.out _ hHeld.2).mono ?_); rintro e w6 ⟨rfl, hb6⟩)
        refine hK2.out _ _ ⟨hHeld.1.keep hb6, hHeld.2.trans (hb6.mono hHeld.2.size)⟩ (fun hHeld2 => ?_)
        clear hK2 K hHeld
        have hHeld := hHeld2
        clear hHeld2 hb6
        try simp only [Act.put, List.getElem_toArray, List.getElem_cons_succ, List.getElem_cons_zero, List.setIfInBounds_toArray, List.set_cons_zero, List.set_cons_succ]
        refine wpAnyH_take (i := 4) (v := .agg #[.int .i64 3, .int .i64 0, .int .i64 0, .int .i64 0, .int .i64 V1, .bool false, .bool false, .int .i64 0, .int .i64 0]) rfl (by kernel_rfl) (by kernel_rfl) (by kernel_rfl) (fun _ _ _ h => h) (Or.inl ⟨by rfl, fun W _ => by kernel_rfl⟩) hHeld ?_
        try simp only [Act.put, List.getElem_toArray, List.getElem_cons_succ, List.getElem_cons_zero, List.setIfInBounds_toArray, List.set_cons_zero, List.set_cons_succ]
        refine wpAnyH_ready (rs := [5]) (by kernel_rfl) (by simp) (AllReadyH.cons rfl (fun K hK2 => ?_) AllReadyH.nil)
        rw [if_pos (by rfl)]
        simp only [List.getElem_toArray, List.getElem_cons_succ, List.getElem_cons_zero]
        have hnew := own_base (lit_insn2 w6 ⟨top, rd, r1, r2, 8, aq, rl, pred, succ⟩ ⟨3, 0, 0, 0, V1, false, false, 0, 0⟩) hHeld.2.size
        have hbn := hHeld.2.alloc hHeld.2.size (.cells (InsnV.cells ⟨top, rd, r1, r2, 8, aq, rl, pred, succ⟩ ++ InsnV.cells ⟨3, 0, 0, 0, V1, false, false, 0, 0⟩) 26)
        have hBn := hHeld.1.keep ((Below.refl _ _).alloc (Nat.le_refl _) (.cells (InsnV.cells ⟨top, rd, r1, r2, 8, aq, rl, pred, succ⟩ ++ InsnV.cells ⟨3, 0, 0, 0, V1, false, false, 0, 0⟩) 26))
        go_wp2_with fail
        refine hK2.out _ _ ⟨hBn, hbn⟩ (fun hHeld2 => ?_)
        clear hK2 K hHeld
        have hHeld := hHeld2
        clear hHeld2
        try simp only [Act.put, List.getElem_toArray, List.getElem_cons_succ, List.getElem_cons_zero, List.setIfInBounds_toArray, List.set_cons_zero, List.set_cons_succ]
        refine wpAnyH_take (i := 6) (v := .slice (some ⟨w6.heap.size, 0, none⟩) 2 2) rfl (by kernel_rfl) (by kernel_rfl) (by kernel_rfl) (fun _ _ _ h => h) (Or.inl ⟨by rfl, fun W _ => by kernel_rfl⟩) hHeld ?_
        try simp only [Act.put, List.getElem_toArray, List.getElem_cons_succ, List.getElem_cons_zero, List.setIfInBounds_toArray, List.set_cons_zero, List.set_cons_succ]
        refine wpAnyH_done (by kernel_rfl) ?_ _
        go_wp2_with fail
        go_ret
        exact ⟨⟨_, rfl, hnew⟩, hbn⟩
    | false =>
      rw [if_neg (by decide)]
      replace hB6 := Lib.hid hB6
      clear q0 q2 hql hbx2 hW1 hT
      rcases k34 with rfl | rfl
      all_goals
        clear k2 k5 t2 t5
        go_upto_region 14 with (go_at_call 74; (with_reducible refine (hW0.out _ hb2).mono ?_); rintro e w3 ⟨rfl, hb3⟩; have hB7 := hB6.out.keep hb3; have e4 : w3.cell? ⟨b6, 4, none⟩ = some (.int .i64 imm) := hB7.r 4 _ rfl; have g4 : w3.frozen? ⟨b6, 4, none⟩ = false := by have := (hB7.t 4 (by decide)).2; rwa [Nat.zero_add] at this)
        have hB8 := hB7.set 4 (show 4 < 9 by decide) (.int .i64 V0)
        have hb8 : Below W.heap.size W (w3.setCell ⟨b6, 4, none⟩ (.int .i64 V0)) := (hb2.trans (hb3.mono hb2.size)).setCell hge6 _
        change BI b6 [.int .i64 op, .int .i64 rd, .int .i64 r1, .int .i64 r2, .int .i64 V0, .bool aq, .bool rl, .int .i64 pred, .int .i64 succ] _ at hB8
        clear e4 g4 hB7 hB6 hb2 hb3
        generalize World.setCell w3 _ _ = w4 at hB8 hb8 ⊢
        go_wp2_with (refine wpList_load_mid rfl 26 _ rfl b6 0 rfl [.int .i64 op, .int .i64 rd, .int .i64 r1, .int .i64 r2, .int .i64 V0, .bool aq, .bool rl, .int .i64 pred, .int .i64 succ] _ hB8.r Tryz.underlying26 rfl (by kernel_rfl) ?_)
        go_ret
        exact ⟨⟨_, rfl, own_base (lit_insn w4 ⟨op, rd, r1, r2, V0, aq, rl, pred, succ⟩) hb8.size⟩, hb8.alloc hb8.size _⟩
  · rw [if_neg k34]
    have t3 : (kind == 3) = false := by simp; exact fun e => k34 (.inl e)
    have t4 : (kind == 4) = false := by simp; exact fun e => k34 (.inr e)
    have hR6 := Lib.hid hB6.r
    clear hB6 hbx2 hW0 hW1 hT hN hql q0 q2
    go_wp2_with (refine wpList_load_mid rfl 26 _ rfl b6 0 rfl [.int .i64 op, .int .i64 rd, .int .i64 r1, .int .i64 r2, .int .i64 imm, .bool aq, .bool rl, .int .i64 pred, .int .i64 succ] _ hR6.out Tryz.underlying26 rfl (by kernel_rfl) ?_)
    go_ret
    first | rw [if_neg k2, if_neg k5, if_neg k34] | skip
    exact ⟨⟨_, rfl, own_base (lit_insn w2 ⟨op, rd, r1, r2, imm, aq, rl, pred, succ⟩) hb2.size⟩, hb2.alloc hb2.size _⟩
end Go.Proofs.YtcgflnkgekkidaaGreatDoor
