/- AsmNames: many items; long branches, built; the chapter's examples. Conditions: the variables lie as their initialisers lay them. -/
import Derived.Test.YtcgflnkgekkidaaGreatDoorAsmNp
import Derived.Test.YtcgflnkgekkidaaGreatDoorAsmKo
set_option linter.unusedSimpArgs false
set_option linter.unusedVariables false
namespace Go.Proofs.YtcgflnkgekkidaaGreatDoor
open Go.RowKit Go.Maps
set_option maxRecDepth 100000 in
set_option maxHeartbeats 8000000 in
/-- fencepostlaw15.far. -/
theorem Far_any (m : Nat) (hm : m ≤ 3000) (w : World) :
    Calls Tryz.prog 23 #[.int .i64 m] w fun e w' => (∃ A c, e = .returned (.slice A (m + 2) c) ∧ ItemsAt w' A (m + 2) (farF m)) ∧ Below w.heap.size w w' := by
  obtain ⟨i0, q0, q1, q2, q3⟩ := info_parts Tryz.info_item
  replace q0 := Lib.hid q0
  replace q1 := Lib.hid q1
  replace q2 := Lib.hid q2
  replace q3 := Lib.hid q3
  go_enter Tryz.func23, Tryz.ntmps23
  go_upto_region 3 with (go_at_call 24; refine (Br_any 0 _).mono ?_; rintro e w1 ⟨rfl, hb1⟩)
  have hl0 := (World.ownsRow_lit (base := w.heap.size) (e := 29) (size := 12) w1 (brV 0).cells 1 hb1.size (by decide) rfl)
  have hown0 := OwnI.snoc (F := farF m) (m := 0) (l := (brV 0).cells.toList) hl0 (by rw [far_0])
  have hbA := hb1.alloc hb1.size (.cells (brV 0).cells 29)
  clear hl0
  go_wp2_with fail
  go_loopw [3, 4] (fun s3 s4 wr => ∃ k : Nat, k ≤ m ∧ s4 = .int .i64 k ∧ OwnI w.heap.size s3 (farF m) (k + 1) wr ∧ Below w.heap.size w wr) (fun _ s4 _ => m - (intOf s4).toNat)
  case atStart => exact ⟨0, Nat.zero_le _, rfl, hown0, hbA⟩
  case round =>
    obtain ⟨k, hk, rfl, hown, hb⟩ := hrel
    clear hown0 hbA hb1
    obtain ⟨A7, c7, rfl⟩ := own_sliceN hown
    by_cases hlt : k < m
    · go_wp2_with (first | (go_at_call 38; (with_reducible refine (Nop_any _).mono ?_); rintro e w2 ⟨rfl, hb2⟩) | (at_builtin; refine wpList_append_own _ rfl _ _ 22 rfl w.heap.size 29 i0 (.agg #[.int .i64 0, .int .i64 0, .int .i64 0, .int .i64 0, .int .i64 0, .int .i64 0, .bool false, .bool false, .int .i64 0, .int .i64 0, .int .i64 0, .int .u64 0]) 12 88 Tryz.underlying22 q0.out q1.out q2.out q3.out rfl (by decide) _ (k + 1) _ rfl ((hown.keep hb2).alloc _) ⟨w2.heap.size, 0, none⟩ 1 1 (ItemV.cells nopV).toList rfl rfl ?c1 ?c2 ?c3 ?c4 ?c5 ?_))
      case c1 => exact lit_cellX w2 _ _ rfl _
      case c2 => exact item_ones _
      case c3 => (first | (unfold maxLen; omega) | omega)
      case c4 => (first | (unfold maxLen; omega) | omega)
      case c5 => have := hb2.size; have := hb.size; simp; omega
      intro v3 w3 hown3 hgrow3 _
      have hb3 := ((hb.trans (hb2.mono hb.size)).alloc (by have := hb2.size; have := hb.size; omega) _).grown hgrow3 (by have := hb2.size; have := hb.size; simp; omega) (fun j hj => (World.ownsRow.lt hown j hj).1)
      have hown4 : OwnI w.heap.size v3 (farF m) (k + 1 + 1) w3 := OwnI.snoc hown3 (by rw [far_n (by omega) (by omega)])
      clear hown3 hgrow3 hb2 hown
      go_wp2_with fail
      go_roundw
      case rel => exact ⟨k + 1, by omega, by go_num, hown4, hb3⟩
      case measure => simp [intOf]; omega
    · obtain rfl : k = m := by omega
      go_wp2_with (first | (go_at_call 11; (with_reducible refine (Lb_any _ _).mono ?_); rintro e w2 ⟨rfl, hb2⟩) | (at_builtin; refine wpList_append_own _ rfl _ _ 22 rfl w.heap.size 29 i0 (.agg #[.int .i64 0, .int .i64 0, .int .i64 0, .int .i64 0, .int .i64 0, .int .i64 0, .bool false, .bool false, .int .i64 0, .int .i64 0, .int .i64 0, .int .u64 0]) 12 88 Tryz.underlying22 q0.out q1.out q2.out q3.out rfl (by decide) _ (k + 1) _ rfl ((hown.keep hb2).alloc _) ⟨w2.heap.size, 0, none⟩ 1 1 (ItemV.cells (lbV 0)).toList rfl rfl ?c1 ?c2 ?c3 ?c4 ?c5 ?_))
      case c1 => exact lit_cellX w2 _ _ rfl _
      case c2 => exact item_ones _
      case c3 => (first | (unfold maxLen; omega) | omega)
      case c4 => (first | (unfold maxLen; omega) | omega)
      case c5 => have := hb2.size; have := hb.size; simp; omega
      intro v3 w3 hown3 hgrow3 _
      have hb3 := ((hb.trans (hb2.mono hb.size)).alloc (by have := hb2.size; have := hb.size; omega) _).grown hgrow3 (by have := hb2.size; have := hb.size; simp; omega) (fun j hj => (World.ownsRow.lt hown j hj).1)
      have hown4 : OwnI w.heap.size v3 (farF k) (k + 1 + 1) w3 := OwnI.snoc hown3 (by rw [far_l])
      obtain ⟨A8, c8, rfl⟩ := own_sliceN hown4
      clear hown3 hgrow3 hb2 hown
      go_wp2_with fail
      go_ret
      exact ⟨⟨A8, c8, rfl, ItemsAt.of hown4⟩, hb3⟩
/-- A cell of memory. -/
def CellAt (b k : Nat) (v : Value) (W : World) : Prop := b < W.heap.size ∧ W.cell? ⟨b, k, none⟩ = some v
theorem CellAt.keep {b k : Nat} {v : Value} {W W' : World} (h : CellAt b k v W) (hb : Below W.heap.size W W') : CellAt b k v W' := ⟨Nat.lt_of_lt_of_le h.1 hb.size, (hb.cell (p := ⟨b, k, none⟩) h.1).trans h.2⟩
/-- A slice of one-cell elements, its first ones. -/
theorem SlAt.cell {lo m : Nat} {v : Value} {f : Nat → Value} {W : World} (h : SlAt lo v m f W) (hm : 0 < m) : ∃ b c, v = .slice (some ⟨b, 0, none⟩) m c ∧ m ≤ c ∧ ∀ k, k < m → CellAt b k (f k) W := by
  obtain ⟨A, c, e, hc, h⟩ := h
  obtain ⟨b, rfl, -, hv⟩ := h hm
  exact ⟨b, c, e, hc, fun k hk => ⟨hv.lt, hv.c k hk⟩⟩
theorem nm_long (m n : Nat) (hm : m + 2 ≤ 16384) (hn : n = m + 2) (v0 : Bool) (h0 : longV (farF m) n 0 = v0) (A : Option Addr) (c : Nat) (W : World) (hA : ItemsAt W A n (farF m)) (ht : Tabs W) :
    Calls Tryz.prog 21 #[.slice A n c] W fun e w' => (∃ b c1, e = .returned (.tuple #[.slice (some ⟨b, 0, none⟩) n c1, .int .i64 0]) ∧ CellAt b 0 (.bool v0) w') ∧ Below W.heap.size W w' := by
  subst hn
  refine (Long_any A (m + 2) c (farF m) W hA (far_fit m) ht).mono ?_
  rintro e w' ⟨⟨v, rfl, h1⟩, hb⟩
  rw [far_outN m hm] at h1
  rw [far_check m hm]
  obtain ⟨b, c1, rfl, -, hc⟩ := h1.cell (by omega)
  refine ⟨⟨b, c1, rfl, ?_⟩, hb⟩
  have := hc 0 (by omega)
  rwa [h0] at this
theorem nm_build (A : Option Addr) (c : Nat) (W : World) (hA : ItemsAt W A 1025 (farF 1023)) (ht : Tabs W) (hfl : Flds W) :
    Calls Tryz.prog 12 #[.slice A 1025 c] W fun e w' => (∃ A1 c1 b2 c2, e = .returned (.tuple #[.slice A1 1025 c1, .slice (some ⟨b2, 0, none⟩) 1025 c2, .int .i64 0]) ∧ SlAt W.heap.size (.slice A1 1025 c1) 1025 (fun j => .int .u32 (un32 ((outW (farF 1023) 1025).getD j 0#32))) w' ∧ CellAt b2 1 (.int .i64 2) w') ∧ Below W.heap.size W w' := by
  refine (Build_any A 1025 c (farF 1023) W hA (far_fit 1023) (far_lo 1023) ht hfl).mono ?_
  rintro e w' ⟨⟨v, u, rfl, h1, h2⟩, hb⟩
  have e0 : checkV (farF 1023) 1025 = 0 := far_check 1023 (by decide)
  have e1 : outN (farF 1023) 1025 = 1025 := far_outN 1023 (by decide)
  rw [far_built.1] at h1
  rw [e1] at h2
  rw [e0]
  have h1' := h1
  obtain ⟨A1, c1, rfl, -, -⟩ := h1
  obtain ⟨b2, c2, rfl, -, hc⟩ := h2.cell (by decide)
  refine ⟨⟨A1, c1, b2, c2, rfl, h1', ?_⟩, hb⟩
  have := hc 1 (by decide)
  rwa [far_built.2.2.2] at this
theorem nm_text (lo : Nat) (v : Value) (W : World) (h : SlAt lo v 1025 (fun j => .int .u32 (un32 ((outW (farF 1023) 1025).getD j 0#32))) W) :
    Calls Tryz.prog 25 #[v] W fun e w' => (∃ b c, e = .returned (.slice (some ⟨b, 0, none⟩) 1025 c) ∧ CellAt b 0 (.string { data := #[98, 110, 101, 32, 120, 49, 44, 32, 120, 50, 44, 32, 56] }) w' ∧ CellAt b 1 (.string { data := #[106, 97, 108, 32, 120, 48, 44, 32, 52, 48, 57, 54] }) w') ∧ Below W.heap.size W w' := by
  obtain ⟨ws, hws⟩ : ∃ ws, ws = outW (farF 1023) 1025 := ⟨_, rfl⟩
  have f1 := far_built.1
  have f2 := far_built.2.1
  have f3 := far_built.2.2.1
  rw [← hws] at h f1 f2 f3
  clear hws
  rw [← f1] at h
  refine (Text15_any lo v ws (by omega) W h).mono ?_
  rintro e w' ⟨⟨u, rfl, h1⟩, hb⟩
  rw [f1] at h1
  obtain ⟨b, c, rfl, -, hc⟩ := h1.cell (by decide)
  refine ⟨⟨b, c, rfl, ?_, ?_⟩, hb⟩
  · have := hc 0 (by decide)
    rwa [f2, nm_d0] at this
  · have := hc 1 (by decide)
    rwa [f3, nm_d1] at this
theorem nm_err (l : List ItemV) (E : Int) (ao : Option Addr) (cap : Nat) (w : World) (hI : ItemsAt w ao l.length (itemsF l)) (ht : Tabs w) (hfl : Flds w) (hF : FitF (itemsF l) l.length) (hlo : ∀ k, k < l.length → -9223372036854775808 ≤ (itemsF l k).insn.op)
    (hc : checkV (itemsF l) l.length = E) : Calls Tryz.prog 12 #[.slice ao l.length cap] w fun e w' => (∃ v u, e = .returned (.tuple #[v, u, .int .i64 E])) ∧ Below w.heap.size w w' := by
  refine (Build_any ao l.length cap (itemsF l) w hI hF hlo ht hfl).mono ?_
  rintro e w' ⟨⟨v, u, rfl, -, -⟩, hb⟩
  exact ⟨⟨v, u, by rw [hc]⟩, hb⟩
theorem nm_f1 : FitF (itemsF [brV 1]) 1 := by unfold FitF; decide +kernel
theorem nm_l1 : ∀ k, k < 1 → -9223372036854775808 ≤ (itemsF [brV 1] k).insn.op := by decide +kernel
theorem nm_f2 : FitF (itemsF [lbV 1, lbV 1]) 2 := by unfold FitF; decide +kernel
theorem nm_l2 : ∀ k, k < 2 → -9223372036854775808 ≤ (itemsF [lbV 1, lbV 1] k).insn.op := by decide +kernel
theorem nm_f3 : FitF (itemsF [⟨0, ⟨0, 0, 0, 0, 0, false, false, 0, 0⟩, 0, 0#64⟩]) 1 := by unfold FitF; decide +kernel
theorem nm_s1 : sizeV (brV 0) true = 2 := by decide +kernel
theorem nm_s2 : sizeV (lbV 0) false = 0 := by decide +kernel
set_option maxRecDepth 100000 in
set_option maxHeartbeats 16000000 in
/-- AsmNames. -/
theorem AsmNames_any (w : World) (ht : Tabs w) (hfl : Flds w) : Calls Tryz.prog 6 #[] w fun e w' => e = .returned (.bool true) ∧ Below w.heap.size w w' := by
  have hLv := Lib.hid (fun (W : World) (hW : Below w.heap.size w W) => Lives15_any W (ht.later hW (Nat.le_refl _)) (hfl.later hW))
  have hF2 : Hid (∀ W, Calls Tryz.prog 23 #[.int .i64 1022] W fun e w' => (∃ A c, e = .returned (.slice A 1024 c) ∧ ItemsAt w' A 1024 (farF 1022)) ∧ Below W.heap.size W w') := Lib.hid (Far_any 1022 (by decide))
  have hF3 : Hid (∀ W, Calls Tryz.prog 23 #[.int .i64 1023] W fun e w' => (∃ A c, e = .returned (.slice A 1025 c) ∧ ItemsAt w' A 1025 (farF 1023)) ∧ Below W.heap.size W w') := Lib.hid (Far_any 1023 (by decide))
  have hL2 := Lib.hid (fun (W : World) (A : Option Addr) (c : Nat) (hW : Below w.heap.size w W) (hA : ItemsAt W A 1024 (farF 1022)) => nm_long 1022 1024 (by decide) rfl false (by rw [far_short]) A c W hA (ht.later hW (Nat.le_refl _)))
  have hL3 := Lib.hid (fun (W : World) (A : Option Addr) (c : Nat) (hW : Below w.heap.size w W) (hA : ItemsAt W A 1025 (farF 1023)) => nm_long 1023 1025 (by decide) rfl true far_long.2 A c W hA (ht.later hW (Nat.le_refl _)))
  have hB3 := Lib.hid (fun (W : World) (A : Option Addr) (c : Nat) (hW : Below w.heap.size w W) (hA : ItemsAt W A 1025 (farF 1023)) => nm_build A c W hA (ht.later hW (Nat.le_refl _)) (hfl.later hW))
  have hN : Hid (∀ W, Calls Tryz.prog 17 #[.int .i64 0, .int .u64 5] W fun e w' => (∃ v, e = .returned (.tuple #[v, .int .i64 2])) ∧ Below W.heap.size W w') := Lib.hid fun W => by
    refine (Number_any 0 5#64 W).mono ?_
    rintro e w' ⟨⟨v, rfl, -⟩, hb⟩
    exact ⟨⟨v, rfl⟩, hb⟩
  have hE1 := Lib.hid (fun (W : World) (t : TypeId) (hW : Below w.heap.size w W) => nm_err [brV 1] 6 (some ⟨W.heap.size, 0, none⟩) 1 (W.alloc (.cells #[.int .i64 3, .int .i64 5, .int .i64 0, .int .i64 1, .int .i64 2, .int .i64 0, .bool false, .bool false, .int .i64 0, .int .i64 0, .int .i64 1, .int .u64 0] t)) (items_lit W [brV 1] _ _ rfl) (ht.later (hW.alloc hW.size _) (Nat.le_refl _)) (hfl.later (hW.alloc hW.size _)) nm_f1 nm_l1 nm_none)
  have hE2 := Lib.hid (fun (W : World) (cs : Array Value) (t : TypeId) (h : cs.toList = itemsC [lbV 1, lbV 1]) (hW : Below w.heap.size w W) => nm_err [lbV 1, lbV 1] 8 (some ⟨W.heap.size, 0, none⟩) 2 (W.alloc (.cells cs t)) (items_lit W [lbV 1, lbV 1] _ _ h) (ht.later (hW.alloc hW.size _) (Nat.le_refl _)) (hfl.later (hW.alloc hW.size _)) nm_f2 nm_l2 nm_there)
  have hT1 : Hid (∀ W, Calls Tryz.prog 26 #[.int .i64 9] W fun e w' => e = .returned (.int .i64 10) ∧ Below W.heap.size W w') := Lib.hid (Turned_any 9)
  have hT2 : Hid (∀ W, Calls Tryz.prog 26 #[.int .i64 3] W fun e w' => e = .returned (.int .i64 0) ∧ Below W.heap.size W w') := Lib.hid (Turned_any 3)
  have hS1 : Hid (∀ W, Below w.heap.size w W → Calls Tryz.prog 27 #[.agg #[.int .i64 3, .int .i64 5, .int .i64 0, .int .i64 1, .int .i64 2, .int .i64 0, .bool false, .bool false, .int .i64 0, .int .i64 0, .int .i64 0, .int .u64 0], .bool true] W fun e w' => e = .returned (.int .i64 2) ∧ Below W.heap.size W w') := Lib.hid fun W hW => by
    have := Size_any (brV 0) true (by decide) W (ht.later hW (Nat.le_refl _))
    rw [nm_s1] at this; exact this
  have hS2 : Hid (∀ W, Below w.heap.size w W → Calls Tryz.prog 27 #[.agg #[.int .i64 2, .int .i64 0, .int .i64 0, .int .i64 0, .int .i64 0, .int .i64 0, .bool false, .bool false, .int .i64 0, .int .i64 0, .int .i64 0, .int .u64 0], .bool false] W fun e w' => e = .returned (.int .i64 0) ∧ Below W.heap.size W w') := Lib.hid fun W hW => by
    have := Size_any (lbV 0) false (by decide) W (ht.later hW (Nat.le_refl _))
    rw [nm_s2] at this; exact this
  have hCk := Lib.hid (fun (W : World) (t : TypeId) (hW : Below w.heap.size w W) => ACheck_any (some ⟨W.heap.size, 0, none⟩) 1 1 (itemsF [⟨0, ⟨0, 0, 0, 0, 0, false, false, 0, 0⟩, 0, 0#64⟩]) (W.alloc (.cells #[.int .i64 0, .int .i64 0, .int .i64 0, .int .i64 0, .int .i64 0, .int .i64 0, .bool false, .bool false, .int .i64 0, .int .i64 0, .int .i64 0, .int .u64 0] t)) (items_lit W [⟨0, ⟨0, 0, 0, 0, 0, false, false, 0, 0⟩, 0, 0#64⟩] _ _ rfl) nm_f3 (ht.later (hW.alloc hW.size _) (Nat.le_refl _)))
  rw [nm_arg] at hCk
  clear ht hfl
  have hbc := Below.refl w.heap.size w
  go_enter Tryz.func6, Tryz.ntmps6
  go_upto_region 2 with (first | (go_at_call 23; (with_reducible refine (hF2.out _).mono ?_); rintro e w1 ⟨⟨A1, c1, rfl, hA1⟩, hb1⟩; replace hbc := hbc.trans (hb1.mono hbc.size); clear hb1) | (go_at_call 21; (with_reducible refine (hL2.out _ _ _ hbc hA1).mono ?_); rintro e w2 ⟨⟨b2, c2, rfl, hC2⟩, hb2⟩; replace hbc := hbc.trans (hb2.mono hbc.size); clear hb2 hA1))
  clear hF2 hL2
  have hbd := Below.refl w2.heap.size w2
  go_upto_region 3 with (first | (go_at_call 23; (with_reducible refine (hF3.out _).mono ?_); rintro e w3 ⟨⟨A3, c3, rfl, hA3⟩, hb3⟩; replace hbc := hbc.trans (hb3.mono hbc.size); replace hbd := hbd.trans (hb3.mono hbd.size); clear hb3) | (go_at_call 21; (with_reducible refine (hL3.out _ _ _ hbc hA3).mono ?_); rintro e w4 ⟨⟨b4, c4, rfl, hC4⟩, hb4⟩; replace hbc := hbc.trans (hb4.mono hbc.size); replace hbd := hbd.trans (hb4.mono hbd.size); clear hb4 hA3))
  replace hC2 := hC2.keep hbd
  clear hL3 hbd
  have hbd := Below.refl w4.heap.size w4
  go_upto_region 4 with (first | (go_at_call 23; (with_reducible refine (hF3.out _).mono ?_); rintro e w5 ⟨⟨A5, c5, rfl, hA5⟩, hb5⟩; replace hbc := hbc.trans (hb5.mono hbc.size); replace hbd := hbd.trans (hb5.mono hbd.size); clear hb5) | (go_at_call 12; (with_reducible refine (hB3.out _ _ _ hbc hA5).mono ?_); rintro e w6 ⟨⟨A6, c6, b7, c7, rfl, hW6, hC7⟩, hb6⟩; replace hbc := hbc.trans (hb6.mono hbc.size); replace hbd := hbd.trans (hb6.mono hbd.size); clear hb6 hA5))
  replace hC2 := hC2.keep hbd
  replace hC4 := hC4.keep hbd
  clear hF3 hB3 hbd
  have hbd := Below.refl w6.heap.size w6
  go_upto_region 5 with (first | (go_at_call 24; (with_reducible refine (Br_any 1 _).mono ?_); rintro e w8 ⟨rfl, hb8⟩; replace hbc := hbc.trans (hb8.mono hbc.size); replace hbd := hbd.trans (hb8.mono hbd.size); clear hb8) | (go_at_call 12; refine (hE1.out w8 _ hbc).mono ?_; rintro e w9 ⟨⟨v9, u9, rfl⟩, hb9⟩; replace hbc := (hbc.alloc hbc.size _).trans (hb9.mono (by have := hbc.size; simp; omega)); replace hbd := (hbd.alloc hbd.size _).trans (hb9.mono (by have := hbd.size; simp; omega)); clear hb9))
  clear hE1
  go_upto_region 6 with (first | (go_at_call 11; (with_reducible refine (Lb_any 1 _).mono ?_); rintro e wA ⟨rfl, hbA⟩; replace hbc := hbc.trans (hbA.mono hbc.size); replace hbd := hbd.trans (hbA.mono hbd.size); clear hbA) | (go_at_call 12; refine (hE2.out _ _ _ (by rfl) hbc).mono ?_; rintro e wB ⟨⟨vB, uB, rfl⟩, hbB⟩; replace hbc := (hbc.alloc hbc.size _).trans (hbB.mono (by have := hbc.size; simp; omega)); replace hbd := (hbd.alloc hbd.size _).trans (hbB.mono (by have := hbd.size; simp; omega)); clear hbB))
  clear hE2
  go_upto_region 7 with (first | (go_at_call 17; (with_reducible refine (hN.out _).mono ?_); rintro e wC ⟨⟨vC, rfl⟩, hbC⟩; replace hbc := hbc.trans (hbC.mono hbc.size); replace hbd := hbd.trans (hbC.mono hbd.size); clear hbC))
  clear hN
  go_upto_region 9 with (first | (go_at_call 9; (with_reducible refine (hLv.out _ hbc).mono ?_); rintro e wD ⟨rfl, hbD⟩; replace hbc := hbc.trans (hbD.mono hbc.size); replace hbd := hbd.trans (hbD.mono hbd.size); clear hbD))
  clear hLv
  replace hC2 := hC2.keep hbd
  replace hC4 := hC4.keep hbd
  replace hC7 := hC7.keep hbd
  replace hW6 := hW6.keep hbd
  have hC7f : Hid (∀ W, Below wD.heap.size wD W → W.cell? ⟨b7, 1, none⟩ = some (.int .i64 2)) := Lib.hid fun W hW => (hC7.keep hW).2
  have k2 := hC2.2
  have k4 := hC4.2
  have hTx := Lib.hid (fun (W : World) (hW : Below wD.heap.size wD W) => nm_text _ _ W (hW6.keep hW))
  have hbe := Below.refl wD.heap.size wD
  clear hC2 hC4 hC7 hW6 hbd
  go_wp2_with (first | (go_at_call 25; (with_reducible refine (hTx.out _ hbe).mono ?_); rintro e wE ⟨⟨bE, cE, rfl, hE0, hE1⟩, hbE⟩; replace hbe := hbe.trans (hbE.mono hbe.size); replace hbc := hbc.trans (hbE.mono hbc.size); clear hbE; have kE0 := hE0.2; have kE1 := hE1.2; have k7 := hC7f.out _ hbe; clear hE0 hE1) | (go_at_call 26; (first | (with_reducible refine (hT1.out _).mono ?_) | (with_reducible refine (hT2.out _).mono ?_)); rintro e wF ⟨rfl, hbF⟩; replace hbc := hbc.trans (hbF.mono hbc.size); clear hbF) | (go_at_call 24; (with_reducible refine (Br_any 0 _).mono ?_); rintro e wG ⟨rfl, hbG⟩; replace hbc := hbc.trans (hbG.mono hbc.size); clear hbG) | (go_at_call 11; (with_reducible refine (Lb_any 0 _).mono ?_); rintro e wH ⟨rfl, hbH⟩; replace hbc := hbc.trans (hbH.mono hbc.size); clear hbH) | (go_at_call 27; (first | (with_reducible refine (hS1.out _ hbc).mono ?_) | (with_reducible refine (hS2.out _ hbc).mono ?_)); rintro e wI ⟨rfl, hbI⟩; replace hbc := hbc.trans (hbI.mono hbc.size); clear hbI) | (go_at_call 28; refine (hCk.out _ _ hbc).mono ?_; rintro e wJ ⟨rfl, hbJ⟩; replace hbc := (hbc.alloc hbc.size _).trans (hbJ.mono (by have := hbc.size; simp; omega)); clear hbJ))

  go_ret
  exact ⟨rfl, hbc⟩
end Go.Proofs.YtcgflnkgekkidaaGreatDoor
