/- Items, with many that do nothing put at a place. Conditions: none. -/
import Derived.Test.YtcgflnkgekkidaaGreatDoorAsmLK
import Derived.Test.YtcgflnkgekkidaaGreatDoorRefDf
set_option linter.unusedSimpArgs false
set_option linter.unusedVariables false
namespace Go.Proofs.YtcgflnkgekkidaaGreatDoor
open Go.RowKit Go.Maps
/-- Items with m that do nothing put at place a. -/
def padF (a m : Nat) (F : Nat → ItemV) (k : Nat) : ItemV := if k < a then F k else if k < a + m then nopV else F (k - m)
theorem pad_lo {a m k : Nat} (F : Nat → ItemV) (h : k < a) : padF a m F k = F k := if_pos h
theorem pad_mid {a m k : Nat} (F : Nat → ItemV) (h : a ≤ k) (h2 : k < a + m) : padF a m F k = nopV := (if_neg (by omega)).trans (if_pos h2)
theorem pad_hi {a m k : Nat} (F : Nat → ItemV) (h : a + m ≤ k) : padF a m F k = F (k - m) := (if_neg (by omega)).trans (if_neg (by omega))
theorem itemsL_congr {F G : Nat → ItemV} {n : Nat} (h : ∀ k, k < n → F k = G k) : itemsL F n = itemsL G n := by
  unfold itemsL
  exact List.map_congr_left fun k hk => h k (List.mem_range.1 hk)
theorem itemsL_add (F : Nat → ItemV) (a : Nat) : ∀ b, itemsC (itemsL F (a + b)) = itemsC (itemsL F a) ++ itemsC (itemsL (fun j => F (a + j)) b)
  | 0 => by show _ = _ ++ []; rw [List.append_nil]; rfl
  | b + 1 => by rw [← Nat.add_assoc, itemsL_snoc, itemsL_snoc, itemsL_add F a b, List.append_assoc]
/-- append of items to a row, the source nil, empty or not. -/
theorem run_appI {w : World} {base : Nat} (v : Value) (F G : Nat → ItemV) (m r : Nat) (A : Option Addr) (c : Nat) (hown : OwnI base v F m w) (hbase : base ≤ w.heap.size) (hn : m + r ≤ 1000000) (hG : ItemsAt w A r G) :
    ∃ v' w', (Builtin.append_ #[22, 22] 22 #[v, .slice A r c]).run Tryz.prog w = .ok v' w' ∧ w'.ownsRow base 29 12 v' (m + r) (itemsC (itemsL F m) ++ itemsC (itemsL G r)) ∧ w.grownBy w' v.ownBlock := by
  obtain ⟨i0, q0, q1, q2, q3⟩ := info_parts Tryz.info_item
  have hu := Tryz.underlying22
  rcases A with _ | ad
  · have hr0 : r = 0 := by
      rcases Nat.eq_zero_or_pos r with h0 | h0
      · exact h0
      · obtain ⟨b, o, e, -⟩ := hG h0; cases e
    subst hr0
    refine ⟨v, w, ?_, by rw [show itemsC (itemsL G 0) = [] from rfl, List.append_nil]; exact hown, World.grownBy.refl w _⟩
    rcases hown.2 with ⟨rfl, h0⟩ | ⟨g, cap, cur, rfl, _, _, hnc, _⟩
    · simp [Builtin.append_, run_underlying hu, sizeOf, typeInfo, q0, Builtin.lenOf, Builtin.firstCells]
    · simp [Builtin.append_, run_underlying hu, sizeOf, typeInfo, q0, Builtin.lenOf, Builtin.firstCells, hnc, storeCells]
  · have hc : ∀ j u, (itemsC (itemsL G r))[j]? = some u → w.cell? (ad.add j) = some u := by
      intro q u hq
      obtain ⟨j, x, h1, rfl, h3⟩ := itemsC_ex _ q u hq
      rw [itemsL_len] at h1
      rw [itemsL_at G r j h1] at h3
      obtain ⟨b, o, e, hl, hcc⟩ := hG (by omega)
      obtain rfl := Option.some.inj e
      rw [Addr.add_mid, ← Nat.add_assoc]
      exact hcc j h1 x u h3
    obtain ⟨v', w', hr, h2, h3, -, -⟩ := run_append_own_at (P := Tryz.prog) w base 22 22 29 i0 _ 12 88 hu q0 q1 q2 q3 rfl (by decide) v m (itemsC (itemsL F m)) hown ad r c (itemsC (itemsL G r)) (by rw [itemsC_len, itemsL_len]) hc (itemsC_one _) (by simp only [maxLen]; omega) (by omega) hbase
    exact ⟨v', w', hr, h2, h3⟩
/-- A row's items behind a place. -/
theorem ItemsAt.tail {W : World} {ao : Option Addr} {n cap : Nat} {F : Nat → ItemV} (h : ItemsAt W ao n F) (a : Nat) (ha : a ≤ n) (hc : n ≤ cap) : ItemsAt W (if cap = a then ao else ao.map (·.add (a * 12))) (n - a) (fun j => F (a + j)) := fun hn => by
  obtain ⟨b, off, rfl, hb, hcc⟩ := h (by omega)
  refine ⟨b, off + a * 12, ?_, hb, fun k hk j v hv => ?_⟩
  · rw [if_neg (by omega)]; exact congrArg some (Addr.add_mid _ _ _)
  · have := hcc (a + k) (by omega) j v hv
    rwa [show off + a * 12 + k * 12 + j = off + (a + k) * 12 + j by omega]
theorem ItemsAt.head {W : World} {ao : Option Addr} {n : Nat} {F : Nat → ItemV} (h : ItemsAt W ao n F) (a : Nat) (ha : a ≤ n) : ItemsAt W ao a F := fun hn => by
  obtain ⟨b, off, e, hb, hcc⟩ := h (by omega)
  exact ⟨b, off, e, hb, fun k hk => hcc k (by omega)⟩
set_option maxRecDepth 100000 in
set_option maxHeartbeats 8000000 in
/-- fencepostlaw15.padded. -/
theorem Padded_any (ao : Option Addr) (n cap : Nat) (F : Nat → ItemV) (at1 : Int) (m : Nat) (hn : n ≤ 60) (hc : n ≤ cap) (hcm : cap ≤ maxLen) (hm : m ≤ 3000) : ∃ ka : Nat, ka ≤ n ∧ ∀ w : World, ItemsAt w ao n F →
    Calls Tryz.prog 20 #[.slice ao n cap, .int .i64 at1, .int .i64 m] w fun e w' => (∃ A c, e = .returned (.slice A (n + m) c) ∧ ItemsAt w' A (n + m) (padF ka m F)) ∧ Below w.heap.size w w' := by
  obtain ⟨ka, hka, hPa⟩ := Pick_nat_any at1 ((n : Int) + 1) (by omega) (by omega)
  have hka2 : ka ≤ n := by omega
  refine ⟨ka, hka2, fun w hI => ?_⟩
  obtain ⟨i0, q0, q1, q2, q3⟩ := info_parts Tryz.info_item
  have hOw := Lib.hid (fun (W : World) (hW : Below w.heap.size w W) => KOwnI_any ao ka cap F W ((hI.head ka hka2).keep hW) (by omega))
  have hT := Lib.hid (fun (W : World) (hW : Below w.heap.size w W) => (hI.keep hW).tail (cap := cap) ka hka2 hc)
  replace q0 := Lib.hid q0
  replace q1 := Lib.hid q1
  replace q2 := Lib.hid q2
  replace q3 := Lib.hid q3
  replace hI := Lib.hid hI
  have ha1 : (0 : Int) ≤ (ka : Int) := Int.natCast_nonneg ka
  have ha2 : (ka : Int) ≤ (cap : Int) := by omega
  have ha3 : (ka : Int) ≤ (n : Int) := by omega
  have ha4 : ¬ cap < ka := by omega
  have ha5 : ¬ n < ka := by omega
  obtain ⟨P8, hP8⟩ : ∃ P8 : Option Addr, P8 = if cap = ka then ao else ao.map (·.add (ka * 12)) := ⟨_, rfl⟩
  rw [← hP8] at hT
  replace hP8 := Lib.hid hP8
  have hb0 : Below w.heap.size w w := Below.refl _ _
  go_enter Tryz.func20, Tryz.ntmps20
  go_wp2_with (first | (go_at_call 10; (with_reducible refine (hPa.out _).mono ?_); rintro e w1 ⟨rfl, rfl⟩) | (go_at_call 13; (with_reducible refine (hOw.out _ hb0).mono ?_); rintro e w1 ⟨⟨A, c, rfl, -, hown0⟩, hb1⟩))
  go_loopw [7, 8] (fun s7 s8 wr => ∃ k : Nat, k ≤ m ∧ s8 = .int .i64 k ∧ OwnI w.heap.size s7 (padF ka m F) (ka + k) wr ∧ Below w.heap.size w wr) (fun _ s8 _ => m - (intOf s8).toNat)
  case atStart => exact ⟨0, Nat.zero_le _, rfl, by unfold OwnI; rw [Nat.add_zero, itemsL_congr (fun k hk => pad_lo F hk)]; exact hown0, hb1⟩
  case round =>
    obtain ⟨k, hk, rfl, hown, hb⟩ := hrel
    clear hown0 hb1
    obtain ⟨A7, c7, rfl⟩ := own_sliceN hown
    by_cases hlt : k < m
    · go_wp2_with (first | (go_at_call 38; (with_reducible refine (Nop_any _).mono ?_); rintro e w2 ⟨rfl, hb2⟩) | (at_builtin; refine wpList_append_own _ rfl _ _ 22 rfl w.heap.size 29 i0 (.agg #[.int .i64 0, .int .i64 0, .int .i64 0, .int .i64 0, .int .i64 0, .int .i64 0, .bool false, .bool false, .int .i64 0, .int .i64 0, .int .i64 0, .int .u64 0]) 12 88 Tryz.underlying22 q0.out q1.out q2.out q3.out rfl (by decide) _ (ka + k) _ rfl ((hown.keep hb2).alloc _) ⟨w2.heap.size, 0, none⟩ 1 1 (ItemV.cells nopV).toList rfl rfl ?c1 ?c2 ?c3 ?c4 ?c5 ?_))
      case c1 => exact lit_cellX w2 _ _ rfl _
      case c2 => exact item_ones _
      case c3 => (first | (unfold maxLen; omega) | omega)
      case c4 => (first | (unfold maxLen; omega) | omega)
      case c5 => have := hb2.size; have := hb.size; simp; omega
      intro v3 w3 hown3 hgrow3 _
      have hb3 := ((hb.trans (hb2.mono hb.size)).alloc (by have := hb2.size; have := hb.size; omega) _).grown hgrow3 (by have := hb2.size; have := hb.size; simp; omega) (fun j hj => (World.ownsRow.lt hown j hj).1)
      have hown4 : OwnI w.heap.size v3 (padF ka m F) (ka + (k + 1)) w3 := OwnI.snoc (m := ka + k) hown3 (by rw [pad_mid F (by omega) (by omega)])
      clear hown3 hgrow3 hb2 hown
      go_wp2_with fail
      go_roundw
      case rel => exact ⟨k + 1, by omega, by go_num, hown4, hb3⟩
      case measure => simp [intOf]; omega
    · obtain rfl : k = m := by omega
      have hTl := hT.out _ hb
      obtain ⟨v8, w8, hr8, ho8, hg8⟩ := run_appI _ (padF ka k F) (fun j => F (ka + j)) (ka + k) (n - ka) P8 (cap - ka) hown hb.size (by omega) hTl
      replace hr8 := Lib.hid hr8
      have hB8 : Below w.heap.size w w8 := hb.grown hg8 hb.size (fun j hj => (World.ownsRow.lt hown j hj).1)
      have ho9 : w8.ownsRow w.heap.size 29 12 v8 (n + k) (itemsC (itemsL (padF ka k F) (n + k))) := by
        have e1 : n + k = ka + k + (n - ka) := by omega
        have e2 : itemsL (fun j => padF ka k F (ka + k + j)) (n - ka) = itemsL (fun j => F (ka + j)) (n - ka) := itemsL_congr fun j _ => by
          rw [pad_hi F (by omega)]; congr 1; omega
        rw [e1, itemsL_add, e2]; exact ho8
      obtain ⟨A8, c8, rfl⟩ := own_sliceN ho9
      replace hP8 := hP8.out.symm
      clear hown hT hTl hb ho8 hg8
      go_wp2_with (at_builtin; refine wpList_appI rfl (.tmp 27) (.tmp 30) 22 rfl _ _ _ rfl (by (try rw [hP8]); rfl) hr8.out ?_)
      go_ret
      exact ⟨⟨A8, c8, rfl, ItemsAt.of ho9⟩, hB8⟩
end Go.Proofs.YtcgflnkgekkidaaGreatDoor
