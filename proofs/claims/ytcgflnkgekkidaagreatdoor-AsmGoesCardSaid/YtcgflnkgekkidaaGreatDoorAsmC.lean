/- The walk of a layout's insns: an item's instructions. The walks of asm.Build, Long, Size and Number. Conditions: as each theorem says. -/
import Derived.Test.YtcgflnkgekkidaaGreatDoorAsmB
import Derived.Test.YtcgflnkgekkidaaGreatDoorAsmMy
import Derived.Test.YtcgflnkgekkidaaGreatDoorAsmCk
import Derived.Test.YtcgflnkgekkidaaGreatDoorAsmLd
import Derived.Test.YtcgflnkgekkidaaGreatDoorCodeWC
import Derived.Maps.AppendAt
set_option linter.unusedSimpArgs false
set_option linter.unusedVariables false
namespace Go.Proofs.YtcgflnkgekkidaaGreatDoor
open Go.RowKit Go.Maps
theorem fresh9 (w : World) (Z : Array Value) (hZ : Z.size = 9) (t : TypeId) : (w.alloc (.cells Z t)).there w.heap.size 0 9 := fun j hj => by
  refine ⟨?_, fresh_thawR w Z t _⟩
  rw [World.cell?_alloc_new, Nat.zero_add, Array.getElem?_eq_getElem (by omega)]; rfl
theorem range_setA {W : World} {b : Nat} {cs : List Value} (h : W.rangeAt b 0 cs) (j : Nat) (hj : j < cs.length) (v : Value) : (W.setCell ⟨b, j, none⟩ v).rangeAt b 0 (cs.set j v) := fun m u hu => by
  rw [Nat.zero_add]
  by_cases e : m = j
  · subst e
    rw [List.getElem?_set_self hj] at hu
    injection hu with hu
    rw [← hu]
    have := h m _ (List.getElem?_eq_getElem hj)
    rw [Nat.zero_add] at this
    exact World.cell?_setCell_same W ⟨b, m, none⟩ v this
  · rw [List.getElem?_set_ne (fun e2 => e e2.symm)] at hu
    rw [World.cell?_setCell_other W ⟨b, j, none⟩ ⟨b, m, none⟩ v (by intro e2; injection e2 with _ e3 _; exact e e3.symm)]
    have := h m u hu
    rwa [Nat.zero_add] at this
/-- An instruction in a box that may be written. -/
structure BI (b : Nat) (cs : List Value) (W : World) : Prop where
  r : W.rangeAt b 0 cs
  t : W.there b 0 9
  lt : b < W.heap.size
theorem BI.keep {b : Nat} {cs : List Value} {W W' : World} (h : BI b cs W) (hb : Below W.heap.size W W') : BI b cs W' :=
  ⟨fun j v hv => by rw [hb.cell (p := ⟨b, 0 + j, none⟩) h.lt]; exact h.r j v hv, fun j hj => by rw [hb.cell (p := ⟨b, 0 + j, none⟩) h.lt, hb.frozen (p := ⟨b, 0 + j, none⟩) h.lt]; exact h.t j hj, Nat.lt_of_lt_of_le h.lt hb.size⟩
theorem BI.set {b : Nat} {cs : List Value} {W : World} (h : BI b cs W) (j : Nat) (hj : j < cs.length) (v : Value) : BI b (cs.set j v) (W.setCell ⟨b, j, none⟩ v) :=
  ⟨range_setA h.r j hj v, World.there_setCells h.t b j [v], by rw [World.size_setCell]; exact h.lt⟩
theorem own_base {w : World} {b b' : Nat} {e : TypeId} {size : Nat} {v : Value} {n : Nat} {xs : List Value} (h : w.ownsRow b e size v n xs) (hb : b' ≤ b) : w.ownsRow b' e size v n xs := by
  refine ⟨h.1, ?_⟩
  rcases h.2 with h2 | ⟨g, cap, cur, h3, h4, h5⟩
  · exact .inl h2
  · exact .inr ⟨g, cap, cur, h3, Nat.le_trans hb h4, h5⟩
theorem lit_insn2 (w : World) (i j : InsnV) : (w.alloc (.cells (i.cells ++ j.cells) 26)).ownsRow w.heap.size 26 9 (.slice (some ⟨w.heap.size, 0, none⟩) 2 2) [i, j].length (insnsC [i, j]) := by
  have := World.ownsRow_lit (base := w.heap.size) (e := 26) (size := 9) w (i.cells ++ j.cells) 2 (Nat.le_refl _) (by decide) rfl
  rw [show insnsC [i, j] = (i.cells ++ j.cells).toList by unfold insnsC; simp]; exact this
set_option maxRecDepth 100000 in
set_option maxHeartbeats 16000000 in
theorem Insns_any {B y bs bl bp bm : Nat} {ao : Option Addr} {n cap c : Nat} {F : Nat → ItemV} {L : Nat → Bool} (W : World) (h : LY B y bs bl bp bm ao n cap c F L (placeF F L) (labV F L n) W) (hF : FitF F n) (k : Nat) (hk : k < n) (hn : n ≤ 16384) :
    Calls Tryz.prog 41 #[.pointer (some ⟨y, 0, none⟩), .int .i64 k] W (NewInsns W (insnsV F n L k)) := by
  have hmk : Tryz.prog.follows .mixedOrders = true := by kernel_rfl
  have hWay : Hid (∀ b : Int, 0 ≤ b → b ≤ 1 → ∀ W', Below W.heap.size W W' → Calls Tryz.prog 74 #[.pointer (some ⟨y, 0, none⟩), .int .i64 k, .int .i64 b] W' fun e w' => e = .returned (.int .i64 (wayF F L (labV F L n) k b)) ∧ Below W'.heap.size W' w') := Lib.hid fun b hb0 hb1 W' hW => by
    have hp := placeF_bd F L k
    exact Way_any W' (h.keep hW) hF k b hk hn (labV_bd F L n _) (by omega) hb0 hb1
  obtain ⟨ib, io, rfl, hib, hcc⟩ := h.it (by omega)
  have hR0 := Lib.hid (item_range (hcc k hk))
  have hql := h.vl.c k hk
  unfold insnsV
  obtain ⟨V0, hV0⟩ : ∃ x, wayF F L (labV F L n) k 0 = x := ⟨_, rfl⟩
  obtain ⟨V1, hV1⟩ : ∃ x, wayF F L (labV F L n) k 1 = x := ⟨_, rfl⟩
  have hW0 := Lib.hid (hWay.out 0 (by decide) (by decide))
  have hW1 := Lib.hid (hWay.out 1 (by decide) (by decide))
  rw [hV0] at hW0 ⊢
  rw [hV1] at hW1 ⊢
  clear hWay hV0 hV1
  obtain ⟨lk, hlk⟩ : ∃ x, L k = x := ⟨_, rfl⟩
  rw [hlk]
  simp only [hlk] at hql
  obtain ⟨it, hit⟩ : ∃ it, F k = it := ⟨_, rfl⟩
  rw [hit] at hR0 ⊢
  clear hcc hlk hit
  obtain ⟨kind, ⟨op, rd, r1, r2, imm, aq, rl, pred, succ⟩, label, addr⟩ := it
  simp only
  have hN := Lib.hid (fun X => ANumber_any rd addr X)
  have hT := Lib.hid (fun X => Turned_any op X)
  obtain ⟨NL, hNL⟩ : ∃ x, numV rd addr = x := ⟨_, rfl⟩
  obtain ⟨top, htp⟩ : ∃ x, turnedV op = x := ⟨_, rfl⟩
  rw [hNL] at hN ⊢
  rw [htp] at hT ⊢
  clear hNL htp
  have q0 := h.c0
  have q2 := h.c2
  have hlbl := h.vl.lt
  have hly := h.lt
  clear h hF
  have hk1 : (0 : Int) ≤ (k : Int) := by omega
  have hk2 : (k : Int) < (n : Int) := by omega
  have hpt := Lib.hid (ItB.put W ⟨kind, ⟨op, rd, r1, r2, imm, aq, rl, pred, succ⟩, label, addr⟩ #[.int .i64 0, .int .i64 0, .int .i64 0, .int .i64 0, .int .i64 0, .int .i64 0, .bool false, .bool false, .int .i64 0, .int .i64 0, .int .i64 0, .int .u64 0] rfl 29)
  have hth := Lib.hid (fresh12 W #[.int .i64 0, .int .i64 0, .int .i64 0, .int .i64 0, .int .i64 0, .int .i64 0, .bool false, .bool false, .int .i64 0, .int .i64 0, .int .i64 0, .int .u64 0] rfl 29)
  have hon := Lib.hid (ItemV.one ⟨kind, ⟨op, rd, r1, r2, imm, aq, rl, pred, succ⟩, label, addr⟩)
  go_enter Tryz.func41, Tryz.ntmps41
  go_upto_region 2 with (first | (refine wpList_load_mid rfl 29 _ rfl ib (io + k * 12) rfl _ _ hR0.out Tryz.underlying29 rfl (by kernel_rfl) ?_) | (refine wpList_store_mid rfl 29 _ _ rfl W.heap.size 0 (ItemV.cells ⟨kind, ⟨op, rd, r1, r2, imm, aq, rl, pred, succ⟩, label, addr⟩) rfl rfl (fun j hj => hth.out j hj) (by kernel_rfl) hon.out ?_))
  replace hpt := hpt.out
  clear hth hon hR0
  generalize World.setCells _ W.heap.size 0 _ = w1 at hpt ⊢
  obtain ⟨hbx, hb1⟩ := hpt
  generalize W.heap.size = b5 at hbx ⊢
  have hmid : Hid (w1.rangeAt b5 1 [.int .i64 op, .int .i64 rd, .int .i64 r1, .int .i64 r2, .int .i64 imm, .bool aq, .bool rl, .int .i64 pred, .int .i64 succ]) := Lib.hid hbx.mid
  have hth9 := Lib.hid (fresh9 w1 #[.int .i64 0, .int .i64 0, .int .i64 0, .int .i64 0, .int .i64 0, .bool false, .bool false, .int .i64 0, .int .i64 0] rfl 26)
  have hB6 : Hid (BI w1.heap.size [.int .i64 op, .int .i64 rd, .int .i64 r1, .int .i64 r2, .int .i64 imm, .bool aq, .bool rl, .int .i64 pred, .int .i64 succ] (World.setCells (w1.alloc (.cells #[.int .i64 0, .int .i64 0, .int .i64 0, .int .i64 0, .int .i64 0, .bool false, .bool false, .int .i64 0, .int .i64 0] 26)) w1.heap.size 0 [.int .i64 op, .int .i64 rd, .int .i64 r1, .int .i64 r2, .int .i64 imm, .bool aq, .bool rl, .int .i64 pred, .int .i64 succ])) := Lib.hid ⟨World.rangeAt_setCells_same _ _ 0 [.int .i64 op, .int .i64 rd, .int .i64 r1, .int .i64 r2, .int .i64 imm, .bool aq, .bool rl, .int .i64 pred, .int .i64 succ] hth9.out, World.there_setCells hth9.out _ _ _, by rw [size_setCells]; simp⟩
  have hb6 : Hid (Below w1.heap.size w1 (World.setCells (w1.alloc (.cells #[.int .i64 0, .int .i64 0, .int .i64 0, .int .i64 0, .int .i64 0, .bool false, .bool false, .int .i64 0, .int .i64 0] 26)) w1.heap.size 0 [.int .i64 op, .int .i64 rd, .int .i64 r1, .int .i64 r2, .int .i64 imm, .bool aq, .bool rl, .int .i64 pred, .int .i64 succ])) := Lib.hid (below_cells (Nat.le_refl _) _ 0 _ ((Below.refl _ _).alloc (Nat.le_refl _) _))
  go_upto_region 3 with (first | (refine wpList_load_mid rfl 26 _ rfl b5 1 rfl [.int .i64 op, .int .i64 rd, .int .i64 r1, .int .i64 r2, .int .i64 imm, .bool aq, .bool rl, .int .i64 pred, .int .i64 succ] _ hmid.out Tryz.underlying26 rfl (by kernel_rfl) ?_) | (refine wpList_store_mid rfl 26 _ _ rfl w1.heap.size 0 #[.int .i64 op, .int .i64 rd, .int .i64 r1, .int .i64 r2, .int .i64 imm, .bool aq, .bool rl, .int .i64 pred, .int .i64 succ] rfl rfl (fun j hj => hth9.out j hj) (by kernel_rfl) (by kernel_rfl) ?_))
  replace hB6 := hB6.out
  replace hb6 := hb6.out
  clear hth9 hmid
  change Code.wp _ _ _ _ (World.setCells (w1.alloc (.cells #[.int .i64 0, .int .i64 0, .int .i64 0, .int .i64 0, .int .i64 0, .bool false, .bool false, .int .i64 0, .int .i64 0] 26)) w1.heap.size 0 [.int .i64 op, .int .i64 rd, .int .i64 r1, .int .i64 r2, .int .i64 imm, .bool aq, .bool rl, .int .i64 pred, .int .i64 succ])
  generalize World.setCells (w1.alloc (.cells #[.int .i64 0, .int .i64 0, .int .i64 0, .int .i64 0, .int .i64 0, .bool false, .bool false, .int .i64 0, .int .i64 0] 26)) w1.heap.size 0 [.int .i64 op, .int .i64 rd, .int .i64 r1, .int .i64 r2, .int .i64 imm, .bool aq, .bool rl, .int .i64 pred, .int .i64 succ] = w2 at hB6 hb6 ⊢
  have hbx2 := hbx.keep hb6
  have hb2 := hb1.trans (hb6.mono hb1.size)
  have hge6 : W.heap.size ≤ w1.heap.size := hb1.size
  clear hbx hb1 hb6
  generalize w1.heap.size = b6 at hB6 hge6 ⊢
  have c0 : w2.cell? ⟨b5, 0, none⟩ = some (.int .i64 kind) := hbx2.c 0 _ rfl
  by_cases k2 : kind = 2
  · subst k2
    clear hB6 hbx2 hW0 hW1
    go_wp2_with fail
    go_ret
    exact ⟨⟨_, rfl, World.ownsRow_nil _ _ _ _⟩, hb2⟩
  rw [if_neg k2]
  have t2 : (kind == 2) = false := by simpa using k2
  by_cases k5 : kind = 5
  · rw [if_pos k5]
    subst k5
    have c11 : w2.cell? ⟨b5, 11, none⟩ = some (.int .u64 (un addr)) := hbx2.c 11 _ rfl
    have d1 : w2.cell? ⟨b6, 1, none⟩ = some (.int .i64 rd) := hB6.r 1 _ rfl
    clear k2 t2 hB6 hbx2 hW0 hW1
    go_wp2_with (go_at_call 43; (with_reducible refine (hN.out _).mono ?_); rintro e w4 ⟨⟨v, rfl, hown⟩, hb4⟩)
    go_ret
    exact ⟨⟨_, rfl, own_base hown hb2.size⟩, hb2.trans (hb4.mono hb2.size)⟩
  rw [if_neg k5]
  have t5 : (kind == 5) = false := by simpa using k5
  by_cases k34 : kind = 3 ∨ kind = 4
  · rw [if_pos k34]
    have q0' := hb2.cell (p := ⟨y, 2, none⟩) hly
    rw [q2] at q0'
    have ql' := hb2.cell (p := ⟨bl, k, none⟩) hlbl
    rw [hql] at ql'
    cases lk with
    | true =>
      rw [if_pos rfl]
      have d0 : w2.cell? ⟨b6, 0, none⟩ = some (.int .i64 op) := hB6.r 0 _ rfl
      clear q0 q2 hql hbx2 hW0
      replace hB6 := Lib.hid hB6
      have hgo : ∀ kd : Int, kd = 3 ∨ kd = 4 → True := fun _ _ => trivial
      rcases k34 with rfl | rfl
      all_goals
        clear hgo k2 k5 t2 t5
        go_upto_region 11 with fail
        go_upto_region 12 with (go_at_call 26; (with_reducible refine (hT.out _).mono ?_); rintro e w3 ⟨rfl, hb3⟩; have hB7 := hB6.out.keep hb3; have e0 : w3.cell? ⟨b6, 0, none⟩ = some (.int .i64 op) := hB7.r 0 _ rfl; have g0 : w3.frozen? ⟨b6, 0, none⟩ = false := (hB7.t 0 (by decide)).2; have e4 : w3.cell? ⟨b6, 4, none⟩ = some (.int .i64 imm) := hB7.r 4 _ rfl; have g4 : w3.frozen? ⟨b6, 4, none⟩ = false := by have := (hB7.t 4 (by decide)).2; rwa [Nat.zero_add] at this)
        have hB8 := (hB7.set 0 (show 0 < 9 by decide) (.int .i64 top)).set 4 (show 4 < 9 by decide) (.int .i64 8)
        have hb8 : Below W.heap.size W ((w3.setCell ⟨b6, 0, none⟩ (.int .i64 top)).setCell ⟨b6, 4, none⟩ (.int .i64 8)) := ((hb2.trans (hb3.mono hb2.size)).setCell hge6 _).setCell hge6 _
        change BI b6 [.int .i64 top, .int .i64 rd, .int .i64 r1, .int .i64 r2, .int .i64 8, .bool aq, .bool rl, .int .i64 pred, .int .i64 succ] _ at hB8
        clear e0 g0 e4 g4 hB7 hB6 hb2
        generalize World.setCell (World.setCell w3 _ _) _ _ = w4 at hB8 hb8 ⊢
        refine wp_region_held_drew (S := fun W' => BI b6 [.int .i64 top, .int .i64 rd, .int .i64 r1, .int .i64 r2, .int .i64 8, .bool aq, .bool rl, .int .i64 pred, .int .i64 succ] W' ∧ Below W.heap.size W W') hmk ⟨hB8.keep (Below.refl _ _).drew, hb8.drew⟩ (fun hHeld => ?_)
        clear hB8 hb8
        generalize World.drew _ = w5 at hHeld ⊢
        have hui := Tryz.underlying26
        refine wpAnyH_take (i := 0) rfl (by kernel_rfl) (by kernel_rfl) (by kernel_rfl) (fun _ _ _ h => h) (yieldsIf_load_mid (by rfl) _ _ rfl b6 0 rfl [.int .i64 top, .int .i64 rd, .int .i64 r1, .int .i64 r2, .int .i64 8, .bool aq, .bool rl, .int .i64 pred, .int .i64 succ] _ (fun W hS => hS.1.r) hui rfl (by kernel_rfl)) hHeld ?_
        try simp only [Act.put, List.getElem_toArray, List.getElem_cons_succ, List.getElem_cons_zero, List.setIfInBounds_toArray, List.set_cons_zero, List.set_cons_succ]
        refine wpAnyH_take (i := 1) (v := .pointer (some ⟨y, 0, none⟩)) rfl (by kernel_rfl) (by kernel_rfl) (by kernel_rfl) (fun _ _ _ h => h) (Or.inl ⟨by rfl, fun W _ => by kernel_rfl⟩) hHeld ?_
        try simp only [Act.put, List.getElem_toArray, List.getElem_cons_succ, List.getElem_cons_zero, List.setIfInBounds_toArray, List.set_cons_zero, List.set_cons_succ]
        refine wpAnyH_take (i := 2) (v := .int .i64 k) rfl (by kernel_rfl) (by kernel_rfl) (by kernel_rfl) (fun _ _ _ h => h) (Or.inl ⟨by rfl, fun W _ => by kernel_rfl⟩) hHeld ?_
        try simp only [Act.put, List.getElem_toArray, List.getElem_cons_succ, List.getElem_cons_zero, List.setIfInBounds_toArray, List.set_cons_zero, List.set_cons_succ]
        refine wpAnyH_ready (rs := [3]) (by kernel_rfl) (by simp) (AllReadyH.cons rfl (fun K hK2 => ?_) AllReadyH.nil)
        rw [if_pos (by rfl)]
        simp only [List.getElem_toArray, List.getElem_cons_succ, List.getElem_cons_zero]
        go_wp2_with (go_at_call 74; (with_reducible refine (hW1.out _ hHeld.2).mono ?_); rintro e w6 ⟨rfl, hb6⟩)
        refine hK2.out _ _ ⟨hHeld.1.keep hb6, hHeld.2.trans (hb6.mono hHeld.2.size)⟩ (fun hHeld2 => ?_)
        clear hK2 K hHeld
        have hHeld := hHeld2
        clear hHeld2 hb6
        try simp only [Act.put, List.getElem_toArray, List.getElem_cons_succ, List.getElem_cons_zero, List.setIfInBounds_toArray, List.set_cons_zero, List.set_cons_succ]
        refine wpAnyH_take (i := 4) (v := .agg #[.int .i64 3, .int .i64 0, .int .i64 0, .int .i64 0, .int .i64 V1, .bool false, .bool false, .int .i64 0, .int .i64 0]) rfl (by kernel_rfl) (by kernel_rfl) (by kernel_rfl) (fun _ _ _ h => h) (Or.inl ⟨by rfl, fun W _ => by kernel_rfl⟩) hHeld ?_
        try simp only [Act.put, List.getElem_toArray, List.getElem_cons_succ, List.getElem_cons_zero, List.setIfInBounds_toArray, List.set_cons_zero, List.set_cons_succ]
        refine wpAnyH_ready (rs := [5]) (by kernel_rfl) (by simp) (AllReadyH.cons rfl (fun K hK2 => ?_) AllReadyH.nil)
        rw [if_pos (by rfl)]
        simp only [List.getElem_toArray, List.getElem_cons_succ, List.getElem_cons_zero]
        have hnew := own_base (lit_insn2 w6 ⟨top, rd, r1, r2, 8, aq, rl, pred, succ⟩ ⟨3, 0, 0, 0, V1, false, false, 0, 0⟩) hHeld.2.size
        have hbn := hHeld.2.alloc hHeld.2.size (.cells (InsnV.cells ⟨top, rd, r1, r2, 8, aq, rl, pred, succ⟩ ++ InsnV.cells ⟨3, 0, 0, 0, V1, false, false, 0, 0⟩) 26)
        have hBn := hHeld.1.keep ((Below.refl _ _).alloc (Nat.le_refl _) (.cells (InsnV.cells ⟨top, rd, r1, r2, 8, aq, rl, pred, succ⟩ ++ InsnV.cells ⟨3, 0, 0, 0, V1, false, false, 0, 0⟩) 26))
        go_wp2_with fail
        refine hK2.out _ _ ⟨hBn, hbn⟩ (fun hHeld2 => ?_)
        clear hK2 K hHeld
        have hHeld := hHeld2
        clear hHeld2
        try simp only [Act.put, List.getElem_toArray, List.getElem_cons_succ, List.getElem_cons_zero, List.setIfInBounds_toArray, List.set_cons_zero, List.set_cons_succ]
        refine wpAnyH_take (i := 6) (v := .slice (some ⟨w6.heap.size, 0, none⟩) 2 2) rfl (by kernel_rfl) (by kernel_rfl) (by kernel_rfl) (fun _ _ _ h => h) (Or.inl ⟨by rfl, fun W _ => by kernel_rfl⟩) hHeld ?_
        try simp only [Act.put, List.getElem_toArray, List.getElem_cons_succ, List.getElem_cons_zero, List.setIfInBounds_toArray, List.set_cons_zero, List.set_cons_succ]
        refine wpAnyH_done (by kernel_rfl) ?_ _
        go_wp2_with fail
        go_ret
        exact ⟨⟨_, rfl, hnew⟩, hbn⟩
    | false =>
      rw [if_neg (by decide)]
      replace hB6 := Lib.hid hB6
      clear q0 q2 hql hbx2 hW1 hT
      rcases k34 with rfl | rfl
      all_goals
        clear k2 k5 t2 t5
        go_upto_region 14 with (go_at_call 74; (with_reducible refine (hW0.out _ hb2).mono ?_); rintro e w3 ⟨rfl, hb3⟩; have hB7 := hB6.out.keep hb3; have e4 : w3.cell? ⟨b6, 4, none⟩ = some (.int .i64 imm) := hB7.r 4 _ rfl; have g4 : w3.frozen? ⟨b6, 4, none⟩ = false := by have := (hB7.t 4 (by decide)).2; rwa [Nat.zero_add] at this)
        have hB8 := hB7.set 4 (show 4 < 9 by decide) (.int .i64 V0)
        have hb8 : Below W.heap.size W (w3.setCell ⟨b6, 4, none⟩ (.int .i64 V0)) := (hb2.trans (hb3.mono hb2.size)).setCell hge6 _
        change BI b6 [.int .i64 op, .int .i64 rd, .int .i64 r1, .int .i64 r2, .int .i64 V0, .bool aq, .bool rl, .int .i64 pred, .int .i64 succ] _ at hB8
        clear e4 g4 hB7 hB6 hb2 hb3
        generalize World.setCell w3 _ _ = w4 at hB8 hb8 ⊢
        go_wp2_with (refine wpList_load_mid rfl 26 _ rfl b6 0 rfl [.int .i64 op, .int .i64 rd, .int .i64 r1, .int .i64 r2, .int .i64 V0, .bool aq, .bool rl, .int .i64 pred, .int .i64 succ] _ hB8.r Tryz.underlying26 rfl (by kernel_rfl) ?_)
        go_ret
        exact ⟨⟨_, rfl, own_base (lit_insn w4 ⟨op, rd, r1, r2, V0, aq, rl, pred, succ⟩) hb8.size⟩, hb8.alloc hb8.size _⟩
  · rw [if_neg k34]
    have t3 : (kind == 3) = false := by simp; exact fun e => k34 (.inl e)
    have t4 : (kind == 4) = false := by simp; exact fun e => k34 (.inr e)
    have hR6 := Lib.hid hB6.r
    clear hB6 hbx2 hW0 hW1 hT hN hql q0 q2
    go_wp2_with (refine wpList_load_mid rfl 26 _ rfl b6 0 rfl [.int .i64 op, .int .i64 rd, .int .i64 r1, .int .i64 r2, .int .i64 imm, .bool aq, .bool rl, .int .i64 pred, .int .i64 succ] _ hR6.out Tryz.underlying26 rfl (by kernel_rfl) ?_)
    go_ret
    first | rw [if_neg k2, if_neg k5, if_neg k34] | skip
    exact ⟨⟨_, rfl, own_base (lit_insn w2 ⟨op, rd, r1, r2, imm, aq, rl, pred, succ⟩) hb2.size⟩, hb2.alloc hb2.size _⟩
end Go.Proofs.YtcgflnkgekkidaaGreatDoor
namespace Go.Proofs.YtcgflnkgekkidaaGreatDoor
open Go.RowKit Go.Maps
/-- Ops that a word of 64 bits can hold. -/
def opFit (i : InsnV) : Prop := -9223372036854775808 ≤ i.op ∧ i.op ≤ 9223372036854775807
theorem numF_op : ∀ (f : Nat) (rd : Int) (x : BitVec 64), ∀ i ∈ numF f rd x, opFit i
  | 0, _, _, i, h => by cases h
  | f + 1, rd, x, i, h => by
    have ih := numF_op f rd (upV x)
    unfold numF at h
    unfold opFit
    split at h
    · simp at h; subst h; simp
    · split at h
      · split at h
        · simp at h; subst h; simp
        · simp at h; rcases h with rfl | rfl <;> simp
      · split at h
        · rcases List.mem_append.1 h with h | h
          · exact ih i h
          · simp at h; subst h; simp
        · rcases List.mem_append.1 h with h | h
          · rcases List.mem_append.1 h with h | h
            · exact ih i h
            · simp at h; subst h; simp
          · simp at h; subst h; simp
theorem turnedV_bd (op : Int) : 0 ≤ turnedV op ∧ turnedV op ≤ 10 := by
  unfold turnedV
  repeat' split
  all_goals omega
theorem insnsV_op (F : Nat → ItemV) (n : Nat) (L : Nat → Bool) (k : Nat) (h : opFit (F k).insn) : ∀ i ∈ insnsV F n L k, opFit i := fun i hi => by
  have ht := turnedV_bd (F k).insn.op
  unfold insnsV at hi
  split at hi
  · cases hi
  · split at hi
    · exact numF_op _ _ _ i hi
    · split at hi
      · split at hi
        · simp at hi
          rcases hi with rfl | rfl
          · unfold opFit; simp only; omega
          · unfold opFit; simp
        · simp at hi; subst hi; exact h
      · simp at hi; subst hi; exact h
theorem insnsV_len (F : Nat → ItemV) (n : Nat) (L : Nat → Bool) (k : Nat) : (insnsV F n L k).length ≤ 12 := by
  have h : (numV (F k).insn.rd (F k).addr).length ≤ 12 := numF_len 6 _ _
  unfold insnsV
  split
  · simp
  · split
    · exact h
    · split
      · split <;> simp
      · simp
/-- The words of k items. -/
def wordsF (F : Nat → ItemV) (n : Nat) (L : Nat → Bool) : Nat → List (BitVec 32)
  | 0 => []
  | k + 1 => wordsF F n L k ++ (insnsV F n L k).map wordV
theorem wordsF_len (F : Nat → ItemV) (n : Nat) (L : Nat → Bool) : ∀ k, (wordsF F n L k).length ≤ 12 * k
  | 0 => Nat.le_refl _
  | k + 1 => by
    have := wordsF_len F n L k
    have := insnsV_len F n L k
    unfold wordsF
    rw [List.length_append, List.length_map]; omega
def w32C (l : List (BitVec 32)) : List Value := l.map fun x => .int .u32 (un32 x)
def outW (F : Nat → ItemV) (n : Nat) : List (BitVec 32) := if checkV F n = 0 then wordsF F n (longV F n) n else []
def outN (F : Nat → ItemV) (n : Nat) : Nat := if checkV F n = 0 then n else 0
/-- A slice of one-cell elements that begins a block. -/
def SlAt (lo : Nat) (v : Value) (m : Nat) (f : Nat → Value) (W : World) : Prop := ∃ A cap, v = .slice A m cap ∧ m ≤ cap ∧ (0 < m → ∃ b, A = some ⟨b, 0, none⟩ ∧ lo ≤ b ∧ VR b m f W)
theorem SlAt.keep {lo : Nat} {v : Value} {m : Nat} {f : Nat → Value} {W W' : World} (h : SlAt lo v m f W) (hb : Below W.heap.size W W') : SlAt lo v m f W' := by
  obtain ⟨A, cap, e, hc, h⟩ := h
  exact ⟨A, cap, e, hc, fun hm => by obtain ⟨b, e2, h2, h3⟩ := h hm; exact ⟨b, e2, h2, h3.keep hb⟩⟩
/-- Instructions of a row. -/
def InsR (A : Option Addr) (l : List InsnV) (lo : Nat) (W : World) : Prop := ∀ j i, l[j]? = some i → ∃ g, A = some ⟨g, 0, none⟩ ∧ lo ≤ g ∧ g < W.heap.size ∧ W.rangeAt g (j * 9) i.cells.toList
theorem insnsC_at (l : List InsnV) : ∀ (j : Nat) (i : InsnV) (m : Nat) (v : Value), l[j]? = some i → i.cells.toList[m]? = some v → (insnsC l)[j * 9 + m]? = some v := by
  induction l with
  | nil => intro j i m v h; simp at h
  | cons x l ih =>
    intro j i m v h hv
    have hm : m < 9 := (List.getElem?_eq_some_iff.1 hv).1
    have e : insnsC (x :: l) = x.cells.toList ++ insnsC l := by unfold insnsC; rw [List.flatMap_cons]
    have hx : x.cells.toList.length = 9 := rfl
    rw [e]
    cases j with
    | zero =>
      simp at h
      subst h
      rw [Nat.zero_mul, Nat.zero_add, List.getElem?_append_left (by rw [hx]; exact hm)]; exact hv
    | succ j =>
      rw [List.getElem?_append_right (by rw [hx]; omega), hx, show (j + 1) * 9 + m - 9 = j * 9 + m by omega]
      exact ih j i m v (by simpa using h) hv
theorem InsR.of {W : World} {lo : Nat} {A : Option Addr} {cap : Nat} {l : List InsnV} (h : W.ownsRow lo 26 9 (.slice A l.length cap) l.length (insnsC l)) : InsR A l lo W := fun j i hi => by
  have hj : j < l.length := (List.getElem?_eq_some_iff.1 hi).1
  rcases h.2 with ⟨_, h0⟩ | ⟨g, cap', cur, e, h2⟩
  · omega
  · injection e with e e1 e2
    refine ⟨g, e, ?_, ?_, fun m v hv => ?_⟩
    · exact h2.1
    · subst e; exact (h.lt g rfl).2
    · subst e
      have hm : m < 9 := (List.getElem?_eq_some_iff.1 hv).1
      rw [h.cellAt (j * 9 + m) (by omega)]
      exact insnsC_at l j i m v hi hv
theorem InsR.grown {A : Option Addr} {l : List InsnV} {lo : Nat} {W W' : World} {q : Option Nat} (h : InsR A l lo W) (hg : W.grownBy W' q) (hq : ∀ g, A = some ⟨g, 0, none⟩ → some g ≠ q) : InsR A l lo W' := fun j i hi => by
  obtain ⟨g, e, h1, h2, h3⟩ := h j i hi
  exact ⟨g, e, h1, Nat.lt_of_lt_of_le h2 hg.size, fun m v hv => by rw [World.cell?_of_block (a := ⟨g, j * 9 + m, none⟩) (hg.block g h2 (hq g e))]; exact h3 m v hv⟩
theorem InsR.keep {A : Option Addr} {l : List InsnV} {lo : Nat} {W W' : World} (h : InsR A l lo W) (hb : Below W.heap.size W W') : InsR A l lo W' := h.grown (below_grown hb) (fun _ _ => by simp)
theorem Tryz.info_u32A : (Tryz.prog.info? 38).map (fun i => (i.zero, i.size, i.bytes)) = some (some (.int .u32 0), 1, 4) := by kernel_rfl
/-- What Build answers. -/
def BuildR (F : Nat → ItemV) (n : Nat) (w : World) (e : Ending) (w' : World) : Prop := (∃ v u, e = .returned (.tuple #[v, u, .int .i64 (checkV F n)]) ∧ SlAt w.heap.size v (outW F n).length (fun j => .int .u32 (un32 ((outW F n).getD j 0#32))) w' ∧ SlAt w.heap.size u (outN F n) (fun k => .int .i64 (placeF F (longV F n) k)) w') ∧ Below w.heap.size w w'
theorem SlAt.of {W : World} {lo : Nat} {v : Value} {l : List (BitVec 32)} (h : W.ownsRow lo 38 1 v l.length (w32C l)) : SlAt lo v l.length (fun j => .int .u32 (un32 (l.getD j 0#32))) W := by
  rcases h.2 with ⟨rfl, h0⟩ | ⟨g, cap, cur, rfl, h2, h3, h4, h5⟩
  · exact ⟨none, 0, by rw [h0], by omega, fun hm => by omega⟩
  · refine ⟨_, cap, rfl, h4, fun _ => ⟨g, rfl, h2, fun k hk => ?_, fun k _ => h.frozenAt k, (h.lt g rfl).2⟩⟩
    rw [h.cellAt k (by omega)]
    unfold w32C
    rw [List.getElem?_map, List.getElem?_eq_getElem hk, List.getD_eq_getElem?_getD, List.getElem?_eq_getElem hk]; rfl
theorem own_ge {W : World} {lo : Nat} {e : TypeId} {size : Nat} {A : Option Addr} {n cap : Nat} {xs : List Value} (h : W.ownsRow lo e size (.slice A n cap) n xs) {g : Nat} (hg : A = some ⟨g, 0, none⟩) : lo ≤ g := by
  rcases h.2 with ⟨h0, _⟩ | ⟨g2, cap', cur, e, h2, _⟩
  · injection h0 with h0; rw [h0] at hg; cases hg
  · injection e with e
    rw [hg] at e
    injection e with e
    injection e with e
    rw [e]; exact h2
theorem check_n {F : Nat → ItemV} {n : Nat} (h : checkV F n = 0) : n ≤ 16384 := by
  unfold checkV at h
  by_cases e : 16384 < n
  · rw [if_pos e] at h; cases h
  · omega
set_option maxRecDepth 100000 in
set_option maxHeartbeats 16000000 in
theorem Build_any (ao : Option Addr) (n cap : Nat) (F : Nat → ItemV) (w : World) (hI : ItemsAt w ao n F) (hF : FitF F n) (hlo : ∀ k, k < n → -9223372036854775808 ≤ (F k).insn.op) (ht : Tabs w) (hfl : Flds w) :
    Calls Tryz.prog 12 #[.slice ao n cap] w (BuildR F n w) := by
  have hmk : Tryz.prog.follows .mixedOrders = true := by kernel_rfl
  have hCk := Lib.hid (ACheck_any ao n cap F w hI hF ht)
  by_cases hz : checkV F n = 0
  · have hn := check_n hz
    have e1 : Hid (outW F n = wordsF F n (longV F n) n) := Lib.hid (if_pos hz)
    have e2 : Hid (outN F n = n) := Lib.hid (if_pos hz)
    have hz0 : Hid (checkV F n = 0) := Lib.hid hz
    rw [hz] at hCk
    have hLd : Hid (∀ W, Below w.heap.size w W → Calls Tryz.prog 40 #[.slice ao n cap] W fun e w' => (∃ y bs bl bp bm c, e = .returned (.tuple #[.pointer (some ⟨y, 0, none⟩), .int .i64 0]) ∧ LY W.heap.size y bs bl bp bm ao n cap c F (longV F n) (placeF F (longV F n)) (labV F (longV F n) n) w') ∧ Below W.heap.size W w') := Lib.hid fun W hW => Laid_any ao n cap F W (hI.keep hW) hF hn
    have hIns : Hid (∀ B y bs bl bp bm c W, LY B y bs bl bp bm ao n cap c F (longV F n) (placeF F (longV F n)) (labV F (longV F n) n) W → ∀ k, k < n → Calls Tryz.prog 41 #[.pointer (some ⟨y, 0, none⟩), .int .i64 k] W (NewInsns W (insnsV F n (longV F n) k))) := Lib.hid fun B y bs bl bp bm c W h k hk => Insns_any W h hF k hk hn
    have hfo : Hid (∀ k, k < n → ∀ i ∈ insnsV F n (longV F n) k, opFit i) := Lib.hid fun k hk => insnsV_op F n (longV F n) k ⟨hlo k hk, (hF k hk).1⟩
    have hil : Hid (∀ k, (insnsV F n (longV F n) k).length ≤ 12) := Lib.hid fun k => insnsV_len F n (longV F n) k
    have hwl : Hid (∀ k, (wordsF F n (longV F n) k).length ≤ 12 * k) := Lib.hid (wordsF_len F n (longV F n))
    have hwS : Hid (∀ k, wordsF F n (longV F n) (k + 1) = wordsF F n (longV F n) k ++ (insnsV F n (longV F n) k).map wordV) := Lib.hid fun _ => rfl
    clear hz hI hF hlo
    unfold BuildR
    rw [e1.out, e2.out, hz0.out]
    clear e1 e2 hz0
    generalize longV F n = L at *
    obtain ⟨i0, hi, hq0, hq1, hq2⟩ := info_parts Tryz.info_u32A
    have hi' := Lib.hid hi; have hz0' := Lib.hid hq0; have hz1' := Lib.hid hq1; have hz2' := Lib.hid hq2; clear hi hq0 hq1 hq2
    replace ht := Lib.hid ht
    replace hfl := Lib.hid hfl
    go_enter Tryz.func12, Tryz.ntmps12
    go_upto_region 2 with (go_at_call 28; (with_reducible refine hCk.out.mono ?_); rintro e w1 ⟨rfl, hb1⟩; clear hCk)
    go_upto_region 7 with (go_at_call 40; (with_reducible refine (hLd.out _ hb1).mono ?_); rintro e w2 ⟨⟨y, bs, bl, bp, bm, c, rfl, hL⟩, hb2⟩; clear hLd)
    replace hb2 := hb1.trans (hb2.mono hb1.size)
    have hgw : w.heap.size ≤ w1.heap.size := hb1.size
    clear hb1
    replace hL := Lib.hid hL
    go_wp2_with fail
    go_loopw [8, 29] (fun s8 s29 wr => ∃ k : Nat, k ≤ n ∧ s29 = .int .i64 k ∧ wr.ownsRow w2.heap.size 38 1 s8 (wordsF F n L k).length (w32C (wordsF F n L k)) ∧ Below w2.heap.size w2 wr) (fun _ s29 _ => n - (intOf s29).toNat)
    case atStart => exact ⟨0, Nat.zero_le _, rfl, World.ownsRow_nil _ _ _ _, Below.refl _ _⟩
    case round =>
      obtain ⟨k, hk, rfl, hown, hb⟩ := hrel
      have hLr := hL.out.keep hb
      by_cases hlt : k < n
      · have hcl := Lib.hid (hIns.out _ _ _ _ _ _ _ _ hLr k hlt)
        have hop := Lib.hid (hfo.out k hlt)
        have hll := hil.out k
        have hwk := hwl.out k
        have hws := Lib.hid (hwS.out k)
        generalize insnsV F n L k = l at hcl hop hll hws
        generalize hWK : wordsF F n L k = WK at hwk hws hown
        clear hLr hWK
        have hk1 : (0 : Int) ≤ (k : Int) := by omega
        have hk2 : (k : Int) < (n : Int) := by omega
        have hk3 : decide ((k : Int) < (n : Int)) = true := decide_eq_true hk2
        go_wp2_with (go_at_call 41; (with_reducible refine hcl.out.mono ?_); rintro e w4 ⟨⟨v4, rfl, hir⟩, hb4⟩; obtain ⟨A4, c4, rfl⟩ := own_sliceN hir)
        clear hcl
        have hIr := InsR.of (own_base hir (Nat.zero_le _))
        have hne0 : Hid (∀ g, A4 = some ⟨g, 0, none⟩ → u8.ownBlock ≠ some g) := Lib.hid fun g e e2 => by
          have h1 := (hown.lt g e2).2
          have h2 := own_ge hir e
          omega
        replace hown := own_keep hown hb4
        have hbr := hb.trans (hb4.mono hb.size)
        clear hir hb4 hb
        go_loopw [8, 36] (fun s8 s36 wz => ∃ j : Nat, j ≤ l.length ∧ s36 = .int .i64 j ∧ wz.ownsRow w2.heap.size 38 1 s8 (WK ++ (l.take j).map wordV).length (w32C (WK ++ (l.take j).map wordV)) ∧ InsR A4 l 0 wz ∧ Hid (∀ g, A4 = some ⟨g, 0, none⟩ → s8.ownBlock ≠ some g) ∧ Below w2.heap.size w2 wz) (fun _ s36 _ => l.length - (intOf s36).toNat)
        case atStart => exact ⟨0, Nat.zero_le _, rfl, by rw [List.take_zero, List.map_nil, List.append_nil]; exact hown, hIr, hne0, hbr⟩
        case round =>
          clear hown hIr hne0 hbr
          obtain ⟨j, hj, rfl, hown, hIr, hne, hb⟩ := hrel
          by_cases hjl : j < l.length
          · obtain ⟨i, hi⟩ : ∃ i, l[j]? = some i := ⟨_, List.getElem?_eq_getElem hjl⟩
            have hfi := hop.out i (List.mem_of_getElem? hi)
            obtain ⟨g, rfl, -, hg, hr⟩ := hIr j i hi
            have hWd : Hid (∀ W, Below w2.heap.size w2 W → Calls Tryz.prog 42 #[.agg i.cells.toList.toArray] W fun e w' => e = .returned (.tuple #[.int .u32 (un32 (wordV i)), .int .i64 (checkE i)]) ∧ Below W.heap.size W w') := Lib.hid fun W hW => word_list i hfi.1 hfi.2 W (ht.out.later (hb2.trans (hW.mono hb2.size)) (Nat.le_refl _)) (hfl.out.later (hb2.trans (hW.mono hb2.size)))
            have htk : Hid (WK ++ (l.take (j + 1)).map wordV = (WK ++ (l.take j).map wordV) ++ [wordV i]) := Lib.hid (by rw [List.take_add_one, hi, List.map_append, List.append_assoc]; rfl)
            have hlj : (WK ++ (l.take j).map wordV).length ≤ 12 * k + 12 := by rw [List.length_append, List.length_map, List.length_take]; omega
            generalize hWJ : WK ++ (l.take j).map wordV = WJ at hown htk hlj
            clear hWJ
            have hrr := Lib.hid hr
            have hth9 := Lib.hid (fresh9 wr #[.int .i64 0, .int .i64 0, .int .i64 0, .int .i64 0, .int .i64 0, .bool false, .bool false, .int .i64 0, .int .i64 0] rfl 26)
            have hB6 : Hid (BI wr.heap.size i.cells.toList (World.setCells (wr.alloc (.cells #[.int .i64 0, .int .i64 0, .int .i64 0, .int .i64 0, .int .i64 0, .bool false, .bool false, .int .i64 0, .int .i64 0] 26)) wr.heap.size 0 i.cells.toList)) := Lib.hid ⟨World.rangeAt_setCells_same _ _ 0 i.cells.toList hth9.out, World.there_setCells hth9.out _ _ _, by rw [size_setCells]; simp⟩
            have hb6 : Hid (Below wr.heap.size wr (World.setCells (wr.alloc (.cells #[.int .i64 0, .int .i64 0, .int .i64 0, .int .i64 0, .int .i64 0, .bool false, .bool false, .int .i64 0, .int .i64 0] 26)) wr.heap.size 0 i.cells.toList)) := Lib.hid (below_cells (Nat.le_refl _) _ 0 _ ((Below.refl _ _).alloc (Nat.le_refl _) _))
            have hone := Lib.hid i.one
            have hs9 := Lib.hid (size_insn i)
            replace hi := Lib.hid hi
            clear hfi hr
            have hk1 : (0 : Int) ≤ (j : Int) := by omega
            have hk2 : (j : Int) < (l.length : Int) := by omega
            have hk3' : decide ((j : Int) < (l.length : Int)) = true := decide_eq_true hk2
            go_upto_region 14 with (first | (refine wpList_load_mid rfl 26 _ rfl g (j * 9) (by first | rfl | simp) i.cells.toList _ hrr.out Tryz.underlying26 rfl hs9.out ?_) | (refine wpList_store_mid rfl 26 _ _ rfl wr.heap.size 0 i.cells rfl rfl (fun j hj => hth9.out j hj) (by kernel_rfl) hone.out ?_))
            replace hB6 := hB6.out
            replace hb6 := hb6.out
            clear hth9 hrr hone
            generalize World.setCells _ wr.heap.size 0 _ = w5 at hB6 hb6 ⊢
            replace hown := own_keep hown hb6
            replace hIr := hIr.keep hb6
            replace hb := hb.trans (hb6.mono hb.size)
            clear hb6
            generalize wr.heap.size = bx at hB6 ⊢
            replace hB6 := Lib.hid hB6.r
            go_wp2_with (first | (refine wpList_load_mid rfl 26 _ rfl bx 0 rfl i.cells.toList _ hB6.out Tryz.underlying26 rfl hs9.out ?_) | (go_at_call 42; (with_reducible refine (hWd.out _ hb).mono ?_); rintro e w7 ⟨rfl, hb7⟩; replace hown := own_keep hown hb7; replace hIr := hIr.keep hb7; have hb8 := hb.trans (hb7.mono hb.size)) | (at_builtin; refine wpList_append_own_at _ rfl _ _ 31 rfl w2.heap.size 38 i0 (.int .u32 0) 1 4 Tryz.underlying31 hi'.out hz0'.out hz1'.out hz2'.out rfl (by decide) _ _ _ rfl (hown.alloc _) ⟨w7.heap.size, 0, none⟩ 1 1 [.int .u32 (un32 (wordV i))] rfl rfl ?c1 ?c2 ?c3 ?c4 ?c5 ?_))
            case c1 => exact cell_new1 _ _ _
            case c2 => simp [Value.oneCell']
            case c3 => unfold maxLen; omega
            case c4 => omega
            case c5 => have := hb8.size; simp; omega
            intro v' w9 hown' hgrow _ hloc
            have hb9 : Below w2.heap.size w2 w9 := (hb8.alloc hb8.size _).grown hgrow (by have := hb8.size; simp; omega) (fun j hj => (World.ownsRow.lt hown j hj).1)
            have hg7 : g < w7.heap.size := by
              obtain ⟨g', e, -, h3, -⟩ := hIr j i hi.out
              injection e with e
              injection e with e
              rw [e]; exact h3
            replace hIr : InsR (some ⟨g, 0, none⟩) l 0 w9 := (hIr.keep ((Below.refl _ _).alloc (Nat.le_refl _) _)).grown hgrow (fun g2 e e2 => hne.out g2 e e2.symm)
            replace hne : Hid (∀ g2, some (⟨g, 0, none⟩ : Addr) = some ⟨g2, 0, none⟩ → v'.ownBlock ≠ some g2) := Lib.hid fun g2 e e2 => by
              rcases hloc with h | h
              · exact hne.out g2 e (h ▸ e2)
              · rw [h] at e2
                injection e2 with e2
                injection e with e
                injection e with e
                omega
            go_wp2_with fail
            go_roundw
            case rel => exact ⟨j + 1, by omega, by go_num, by rw [htk.out]; unfold w32C at hown' ⊢; rw [List.length_append, List.map_append]; exact hown', hIr, hne, hb9⟩
            case measure => simp [intOf]; omega
          · obtain rfl : l.length = j := by omega
            go_wp2_with fail
            go_roundw
            case rel => exact ⟨k + 1, by omega, by go_num, by rw [hws.out]; rw [List.take_length] at hown; exact hown, hb⟩
            case measure => simp [intOf]; omega
      · obtain rfl : k = n := by omega
        clear hIns hfo hil hwS
        have q3 := hLr.c3
        have hvp := hLr.vp
        have hge := hLr.ge.2.2.2.1
        have hbw := hb2.trans (hb.mono hb2.size)
        replace hvp := Lib.hid hvp
        clear hLr
        go_wp2_with fail
        go_quiet (fail)
        go_wp2_with fail
        go_ret3
        exact ⟨⟨_, _, rfl, (SlAt.of (own_base hown hb2.size)).keep (bl_drewN (Below.refl _ _) nq), ⟨_, _, rfl, Nat.le_refl _, fun _ => ⟨bp, rfl, Nat.le_trans hgw hge, hvp.out.keep (bl_drewN (Below.refl _ _) nq)⟩⟩⟩, bl_drewN hbw nq⟩
  · have e1 : Hid (outW F n = []) := Lib.hid (if_neg hz)
    have e2 : Hid (outN F n = 0) := Lib.hid (if_neg hz)
    unfold BuildR
    rw [e1.out, e2.out]
    clear e1 e2 hI hF hlo ht hfl
    generalize checkV F n = E at hCk hz ⊢
    have tE : (E != 0) = true := by simpa using hz
    go_enter Tryz.func12, Tryz.ntmps12
    go_wp2_with (go_at_call 28; (with_reducible refine hCk.out.mono ?_); rintro e w1 ⟨rfl, hb1⟩)
    go_ret3
    exact ⟨⟨_, _, rfl, ⟨none, 0, rfl, Nat.le_refl _, fun h => absurd h (Nat.lt_irrefl 0)⟩, ⟨none, 0, rfl, Nat.le_refl _, fun h => absurd h (Nat.lt_irrefl 0)⟩⟩, hb1⟩
/-- What Long answers. -/
def LongR (F : Nat → ItemV) (n : Nat) (w : World) (e : Ending) (w' : World) : Prop := (∃ v, e = .returned (.tuple #[v, .int .i64 (checkV F n)]) ∧ SlAt w.heap.size v (outN F n) (fun k => .bool (longV F n k)) w') ∧ Below w.heap.size w w'
set_option maxRecDepth 100000 in
set_option maxHeartbeats 16000000 in
theorem Long_any (ao : Option Addr) (n cap : Nat) (F : Nat → ItemV) (w : World) (hI : ItemsAt w ao n F) (hF : FitF F n) (ht : Tabs w) :
    Calls Tryz.prog 21 #[.slice ao n cap] w (LongR F n w) := by
  have hCk := Lib.hid (ACheck_any ao n cap F w hI hF ht)
  by_cases hz : checkV F n = 0
  · have hn := check_n hz
    have e2 : Hid (outN F n = n) := Lib.hid (if_pos hz)
    have hz0 : Hid (checkV F n = 0) := Lib.hid hz
    rw [hz] at hCk
    have hLd : Hid (∀ W, Below w.heap.size w W → Calls Tryz.prog 40 #[.slice ao n cap] W fun e w' => (∃ y bs bl bp bm c, e = .returned (.tuple #[.pointer (some ⟨y, 0, none⟩), .int .i64 0]) ∧ LY W.heap.size y bs bl bp bm ao n cap c F (longV F n) (placeF F (longV F n)) (labV F (longV F n) n) w') ∧ Below W.heap.size W w') := Lib.hid fun W hW => Laid_any ao n cap F W (hI.keep hW) hF hn
    unfold LongR
    rw [e2.out, hz0.out]
    clear e2 hz0 hz hI hF ht
    generalize longV F n = L at *
    go_enter Tryz.func21, Tryz.ntmps21
    go_upto_region 2 with (go_at_call 28; (with_reducible refine hCk.out.mono ?_); rintro e w1 ⟨rfl, hb1⟩; clear hCk)
    go_upto_region 7 with (go_at_call 40; (with_reducible refine (hLd.out _ hb1).mono ?_); rintro e w2 ⟨⟨y, bs, bl, bp, bm, c, rfl, hL⟩, hb2⟩; clear hLd)
    have q2 := hL.c2
    have hge := hL.ge.2.2.1
    have hvl := Lib.hid hL.vl
    have hgw : w.heap.size ≤ w1.heap.size := hb1.size
    replace hb2 := hb1.trans (hb2.mono hb1.size)
    clear hL hb1
    go_wp2_with fail
    go_ret2
    exact ⟨⟨_, rfl, ⟨_, _, rfl, Nat.le_refl _, fun _ => ⟨bl, rfl, Nat.le_trans hgw hge, hvl.out⟩⟩⟩, hb2⟩
  · have e2 : Hid (outN F n = 0) := Lib.hid (if_neg hz)
    unfold LongR
    rw [e2.out]
    clear e2 hI hF ht
    generalize checkV F n = E at hCk hz ⊢
    have tE : (E != 0) = true := by simpa using hz
    go_enter Tryz.func21, Tryz.ntmps21
    go_wp2_with (go_at_call 28; (with_reducible refine hCk.out.mono ?_); rintro e w1 ⟨rfl, hb1⟩)
    go_ret2
    exact ⟨⟨_, rfl, ⟨none, 0, rfl, Nat.le_refl _, fun h => absurd h (Nat.lt_irrefl 0)⟩⟩, hb1⟩
/-- How many words an item has. -/
def sizeV (i : ItemV) (long : Bool) : Int := if mayV i = true then lenV i long else 0
set_option maxRecDepth 100000 in
set_option maxHeartbeats 16000000 in
theorem Size_any (i : ItemV) (long : Bool) (hop : i.insn.op ≤ 9223372036854775807) (w : World) (ht : Tabs w) :
    Calls Tryz.prog 27 #[.agg i.cells, .bool long] w fun e w' => e = .returned (.int .i64 (sizeV i long)) ∧ Below w.heap.size w w' := by
  obtain ⟨hI, hb⟩ := ItB.new w i 29
  have hM : Hid (∀ W, Below w.heap.size w W → Calls Tryz.prog 54 #[.agg i.cells] W fun e w' => e = .returned (.bool (mayV i)) ∧ Below W.heap.size W w') := Lib.hid fun W hW => may_any i hop W (ht.later hW (Nat.le_refl _))
  have hN : Hid (∀ W, Calls Tryz.prog 55 #[.agg i.cells, .bool long] W fun e w' => e = .returned (.int .i64 (lenV i long)) ∧ Below W.heap.size W w') := Lib.hid fun W => Length_any i long W
  have hR : Hid (∀ W, Below (w.alloc (.cells i.cells 29)).heap.size (w.alloc (.cells i.cells 29)) W → W.rangeAt w.heap.size 0 i.cells.toList) := Lib.hid fun W hW j v hv => by rw [Nat.zero_add, hW.cell (p := ⟨w.heap.size, j, none⟩) hI.lt]; exact hI.c j v (by simpa using hv)
  have hsz : Hid ((Tryz.prog.info? 29).map (·.size) = some i.cells.toList.length) := Lib.hid (by rw [show i.cells.toList.length = 12 from rfl]; kernel_rfl)
  clear hI ht
  unfold sizeV
  obtain ⟨MB, hMB⟩ : ∃ x, mayV i = x := ⟨_, rfl⟩
  rw [hMB] at hM ⊢
  generalize lenV i long = NL at hN ⊢
  clear hMB
  generalize i.cells = cs at *
  have hR0 := Lib.hid (hR.out _ (Below.refl _ _))
  cases MB with
  | false =>
    rw [if_neg (by decide)]
    clear hN hR
    go_enter Tryz.func27, Tryz.ntmps27
    go_wp2_with (first | (refine wpList_load_mid rfl 29 _ rfl w.heap.size 0 rfl _ _ hR0.out Tryz.underlying29 rfl hsz.out ?_) | (go_at_call 54; (with_reducible refine (hM.out _ hb).mono ?_); rintro e w' ⟨rfl, hb'⟩))
    go_ret
    exact ⟨rfl, hb.trans (hb'.mono hb.size)⟩
  | true =>
    rw [if_pos rfl]
    go_enter Tryz.func27, Tryz.ntmps27
    go_upto_region 3 with (first | (refine wpList_load_mid rfl 29 _ rfl w.heap.size 0 rfl _ _ hR0.out Tryz.underlying29 rfl hsz.out ?_) | (go_at_call 54; (with_reducible refine (hM.out _ hb).mono ?_); rintro e w' ⟨rfl, hb'⟩))
    replace hR := Lib.hid (hR.out _ hb')
    replace hb' := hb.trans (hb'.mono hb.size)
    go_wp2_with (first | (refine wpList_load_mid rfl 29 _ rfl w.heap.size 0 rfl _ _ hR.out Tryz.underlying29 rfl hsz.out ?_) | (go_at_call 55; (with_reducible refine (hN.out _).mono ?_); rintro e w5 ⟨rfl, hb5⟩))
    go_ret
    exact ⟨rfl, hb'.trans (hb5.mono hb'.size)⟩
/-- What Number answers. -/
def NumR (rd : Int) (x : BitVec 64) (w : World) (e : Ending) (w' : World) : Prop := (∃ v, e = .returned (.tuple #[v, .int .i64 (if 1 ≤ rd ∧ rd ≤ 31 then 0 else 2)]) ∧ w'.ownsRow w.heap.size 26 9 v (if 1 ≤ rd ∧ rd ≤ 31 then numV rd x else []).length (insnsC (if 1 ≤ rd ∧ rd ≤ 31 then numV rd x else []))) ∧ Below w.heap.size w w'
set_option maxRecDepth 100000 in
set_option maxHeartbeats 16000000 in
theorem Number_any (rd : Int) (x : BitVec 64) (w : World) : Calls Tryz.prog 17 #[.int .i64 rd, .int .u64 (un x)] w (NumR rd x w) := by
  have hN := Lib.hid (ANumber_any rd x w)
  unfold NumR
  obtain ⟨NL, hNL⟩ : ∃ l, numV rd x = l := ⟨_, rfl⟩
  rw [hNL] at hN ⊢
  clear hNL
  by_cases h : 1 ≤ rd ∧ rd ≤ 31
  · rw [if_pos h, if_pos h]
    have t1 : decide (rd < 1) = false := decide_eq_false (by omega)
    have t2 : decide (rd > 31) = false := decide_eq_false (by omega)
    clear h
    go_enter Tryz.func17, Tryz.ntmps17
    go_wp2_with (go_at_call 43; (with_reducible refine hN.out.mono ?_); rintro e w4 ⟨⟨v4, rfl, hir⟩, hb4⟩)
    go_ret2
    exact ⟨⟨_, rfl, hir⟩, hb4⟩
  · rw [if_neg h, if_neg h]
    clear hN
    by_cases h1 : rd < 1
    · have t1 : decide (rd < 1) = true := decide_eq_true h1
      clear h h1
      go_enter Tryz.func17, Tryz.ntmps17
      go_wp2_with fail
      go_ret2
      exact ⟨⟨_, rfl, World.ownsRow_nil _ _ _ _⟩, Below.refl _ _⟩
    · have t1 : decide (rd < 1) = false := decide_eq_false h1
      have t2 : decide (rd > 31) = true := decide_eq_true (by omega)
      clear h h1
      go_enter Tryz.func17, Tryz.ntmps17
      go_wp2_with fail
      go_ret2
      exact ⟨⟨_, rfl, World.ownsRow_nil _ _ _ _⟩, Below.refl _ _⟩
end Go.Proofs.YtcgflnkgekkidaaGreatDoor
