/- Are two lists the same? The walk of AsmPlaces' lives. A copy of items; items in a row of their own. Conditions: as each theorem says. -/
import Derived.Test.YtcgflnkgekkidaaGreatDoorAsmC
import Derived.Test.YtcgflnkgekkidaaGreatDoorR3C
import Derived.Deep.QuietTactic
import Derived.BigQuiet
set_option linter.unusedSimpArgs false
set_option linter.unusedVariables false
namespace Go.Proofs.YtcgflnkgekkidaaGreatDoor
open Go.RowKit Go.Maps
set_option maxRecDepth 100000 in
set_option maxHeartbeats 4000000 in
/-- Lists that hold the same are the same. -/
theorem SameSl_any (lo1 lo2 : Nat) (v1 v2 : Value) (m : Nat) (f : Nat → ByteArray) (w : World) (hm : m ≤ 9000000000) (h1 : SlAt lo1 v1 m (fun j => Value.string (f j)) w) (h2 : SlAt lo2 v2 m (fun j => Value.string (f j)) w) :
    Calls Tryz.prog 39 #[v1, v2] w fun e w' => e = .returned (.bool true) ∧ Below w.heap.size w w' := by
  obtain ⟨A1, c1, rfl, a1, a3⟩ := h1
  obtain ⟨A2, c2, rfl, b1, b3⟩ := h2
  replace a3 := Lib.hid a3
  replace b3 := Lib.hid b3
  go_enter Tryz.func39, Tryz.ntmps39
  go_wp2_with fail
  go_loopw [5] (fun i wr => ∃ k : Nat, k ≤ m ∧ i = .int .i64 k ∧ (∃ q, wr = w.drewN q)) (fun i _ => m - (intOf i).toNat)
  case atStart => exact ⟨0, Nat.zero_le _, rfl, ⟨0, rfl⟩⟩
  case round =>
    obtain ⟨k, hk, rfl, ⟨q, rfl⟩⟩ := hrel
    by_cases hlt : k < m
    · obtain ⟨p1, rfl, -, hv1⟩ := a3.out (by omega)
      obtain ⟨p2, rfl, -, hv2⟩ := b3.out (by omega)
      have m1 := hv1.c k hlt
      have m2 := hv2.c k hlt
      generalize f k = x at m1 m2
      have n0 : (0 : Int) ≤ (k : Int) ∧ (k : Int) < (m : Int) := by omega
      obtain ⟨n1, n2⟩ := n0
      have hne : (x.toList != x.toList) = false := by simp
      clear hv1 hv2
      go_upto_region 6 with fail
      go_quiet (fail)
      go_wp2_with fail
      go_roundw
      case rel => exact ⟨k + 1, by omega, by go_num, ⟨_, rfl⟩⟩
      case measure => simp [intOf]; omega
    · obtain rfl : k = m := by omega
      go_wp2_with fail
      go_ret
      exact ⟨rfl, bl_drewN (Below.refl _ _) q⟩
/-- Items that are written out. -/
def itemsF (l : List ItemV) (k : Nat) : ItemV := l.getD k ⟨0, ⟨0, 0, 0, 0, 0, false, false, 0, 0⟩, 0, 0#64⟩
def brV (n : Int) : ItemV := ⟨3, ⟨5, 0, 1, 2, 0, false, false, 0, 0⟩, n, 0#64⟩
def lbV (n : Int) : ItemV := ⟨2, ⟨0, 0, 0, 0, 0, false, false, 0, 0⟩, n, 0#64⟩
def nopV : ItemV := ⟨1, ⟨22, 0, 0, 0, 0, false, false, 0, 0⟩, 0, 0#64⟩
def nuV (x : BitVec 64) : ItemV := ⟨5, ⟨0, 5, 0, 0, 0, false, false, 0, 0⟩, 0, x⟩
theorem result_item (W : World) (a : Nat) (cs : List Value) (hr : W.rangeAt a 0 cs) (h9 : cs.length = 12) : (loadVar 29 ⟨a, 0, none⟩).run Tryz.prog W = .ok (.agg cs.toArray) W := run_loadVar_mid W a 0 29 cs _ hr Tryz.underlying29 rfl (by rw [h9]; kernel_rfl)
set_option maxRecDepth 100000 in
set_option maxHeartbeats 4000000 in
theorem Br_any (n : Int) (w : World) : Calls Tryz.prog 24 #[.int .i64 n] w fun e w' => e = .returned (.agg #[.int .i64 3, .int .i64 5, .int .i64 0, .int .i64 1, .int .i64 2, .int .i64 0, .bool false, .bool false, .int .i64 0, .int .i64 0, .int .i64 n, .int .u64 0]) ∧ Below w.heap.size w w' := by
  have hth := fresh12 w #[.int .i64 0, .int .i64 0, .int .i64 0, .int .i64 0, .int .i64 0, .int .i64 0, .bool false, .bool false, .int .i64 0, .int .i64 0, .int .i64 0, .int .u64 0] rfl 29
  have hr6 := World.rangeAt_setCells_same _ w.heap.size 0 (brV n).cells.toList hth
  have hlv := result_item _ w.heap.size _ hr6 rfl
  have hbl := (ItB.put w (brV n) #[.int .i64 0, .int .i64 0, .int .i64 0, .int .i64 0, .int .i64 0, .int .i64 0, .bool false, .bool false, .int .i64 0, .int .i64 0, .int .i64 0, .int .u64 0] rfl 29).2
  go_enter Tryz.func24, Tryz.ntmps24
  go_wp2_with (refine wpList_store_mid rfl 29 _ _ rfl w.heap.size 0 (brV n).cells rfl rfl (fun j hj => hth j hj) (by kernel_rfl) (ItemV.one _) ?_)
  change bodyPost _ _ _ _ _ (World.setCells (w.alloc (.cells #[.int .i64 0, .int .i64 0, .int .i64 0, .int .i64 0, .int .i64 0, .int .i64 0, .bool false, .bool false, .int .i64 0, .int .i64 0, .int .i64 0, .int .u64 0] 29)) w.heap.size 0 (brV n).cells.toList)
  generalize World.setCells (w.alloc (.cells #[.int .i64 0, .int .i64 0, .int .i64 0, .int .i64 0, .int .i64 0, .int .i64 0, .bool false, .bool false, .int .i64 0, .int .i64 0, .int .i64 0, .int .u64 0] 29)) w.heap.size 0 (brV n).cells.toList = W6 at hlv hbl ⊢
  exact bodyPost_ret (v := .agg #[.int .i64 3, .int .i64 5, .int .i64 0, .int .i64 1, .int .i64 2, .int .i64 0, .bool false, .bool false, .int .i64 0, .int .i64 0, .int .i64 n, .int .u64 0]) (by simp [results, Tryz.results24, asAddr]; exact hlv) rfl ⟨rfl, hbl⟩
set_option maxRecDepth 100000 in
set_option maxHeartbeats 4000000 in
theorem Lb_any (n : Int) (w : World) : Calls Tryz.prog 11 #[.int .i64 n] w fun e w' => e = .returned (.agg #[.int .i64 2, .int .i64 0, .int .i64 0, .int .i64 0, .int .i64 0, .int .i64 0, .bool false, .bool false, .int .i64 0, .int .i64 0, .int .i64 n, .int .u64 0]) ∧ Below w.heap.size w w' := by
  have hth := fresh12 w #[.int .i64 0, .int .i64 0, .int .i64 0, .int .i64 0, .int .i64 0, .int .i64 0, .bool false, .bool false, .int .i64 0, .int .i64 0, .int .i64 0, .int .u64 0] rfl 29
  have hr6 := World.rangeAt_setCells_same _ w.heap.size 0 (lbV n).cells.toList hth
  have hlv := result_item _ w.heap.size _ hr6 rfl
  have hbl := (ItB.put w (lbV n) #[.int .i64 0, .int .i64 0, .int .i64 0, .int .i64 0, .int .i64 0, .int .i64 0, .bool false, .bool false, .int .i64 0, .int .i64 0, .int .i64 0, .int .u64 0] rfl 29).2
  go_enter Tryz.func11, Tryz.ntmps11
  go_wp2_with (refine wpList_store_mid rfl 29 _ _ rfl w.heap.size 0 (lbV n).cells rfl rfl (fun j hj => hth j hj) (by kernel_rfl) (ItemV.one _) ?_)
  change bodyPost _ _ _ _ _ (World.setCells (w.alloc (.cells #[.int .i64 0, .int .i64 0, .int .i64 0, .int .i64 0, .int .i64 0, .int .i64 0, .bool false, .bool false, .int .i64 0, .int .i64 0, .int .i64 0, .int .u64 0] 29)) w.heap.size 0 (lbV n).cells.toList)
  generalize World.setCells (w.alloc (.cells #[.int .i64 0, .int .i64 0, .int .i64 0, .int .i64 0, .int .i64 0, .int .i64 0, .bool false, .bool false, .int .i64 0, .int .i64 0, .int .i64 0, .int .u64 0] 29)) w.heap.size 0 (lbV n).cells.toList = W6 at hlv hbl ⊢
  exact bodyPost_ret (v := .agg #[.int .i64 2, .int .i64 0, .int .i64 0, .int .i64 0, .int .i64 0, .int .i64 0, .bool false, .bool false, .int .i64 0, .int .i64 0, .int .i64 n, .int .u64 0]) (by simp [results, Tryz.results11, asAddr]; exact hlv) rfl ⟨rfl, hbl⟩
set_option maxRecDepth 100000 in
set_option maxHeartbeats 4000000 in
theorem Nop_any (w : World) : Calls Tryz.prog 38 #[] w fun e w' => e = .returned (.agg #[.int .i64 1, .int .i64 22, .int .i64 0, .int .i64 0, .int .i64 0, .int .i64 0, .bool false, .bool false, .int .i64 0, .int .i64 0, .int .i64 0, .int .u64 0]) ∧ Below w.heap.size w w' := by
  have hth := fresh12 w #[.int .i64 0, .int .i64 0, .int .i64 0, .int .i64 0, .int .i64 0, .int .i64 0, .bool false, .bool false, .int .i64 0, .int .i64 0, .int .i64 0, .int .u64 0] rfl 29
  have hr6 := World.rangeAt_setCells_same _ w.heap.size 0 (nopV).cells.toList hth
  have hlv := result_item _ w.heap.size _ hr6 rfl
  have hbl := (ItB.put w nopV #[.int .i64 0, .int .i64 0, .int .i64 0, .int .i64 0, .int .i64 0, .int .i64 0, .bool false, .bool false, .int .i64 0, .int .i64 0, .int .i64 0, .int .u64 0] rfl 29).2
  go_enter Tryz.func38, Tryz.ntmps38
  go_wp2_with (refine wpList_store_mid rfl 29 _ _ rfl w.heap.size 0 (nopV).cells rfl rfl (fun j hj => hth j hj) (by kernel_rfl) (ItemV.one _) ?_)
  change bodyPost _ _ _ _ _ (World.setCells (w.alloc (.cells #[.int .i64 0, .int .i64 0, .int .i64 0, .int .i64 0, .int .i64 0, .int .i64 0, .bool false, .bool false, .int .i64 0, .int .i64 0, .int .i64 0, .int .u64 0] 29)) w.heap.size 0 (nopV).cells.toList)
  generalize World.setCells (w.alloc (.cells #[.int .i64 0, .int .i64 0, .int .i64 0, .int .i64 0, .int .i64 0, .int .i64 0, .bool false, .bool false, .int .i64 0, .int .i64 0, .int .i64 0, .int .u64 0] 29)) w.heap.size 0 (nopV).cells.toList = W6 at hlv hbl ⊢
  exact bodyPost_ret (v := .agg #[.int .i64 1, .int .i64 22, .int .i64 0, .int .i64 0, .int .i64 0, .int .i64 0, .bool false, .bool false, .int .i64 0, .int .i64 0, .int .i64 0, .int .u64 0]) (by simp [results, Tryz.results38, asAddr]; exact hlv) rfl ⟨rfl, hbl⟩
/-- Cells of items, one behind the other. -/
def itemsC (l : List ItemV) : List Value := l.flatMap fun i => i.cells.toList
theorem itemsC_at (l : List ItemV) : ∀ (j m : Nat) (v : Value), j < l.length → (itemsF l j).cells[m]? = some v → (itemsC l)[j * 12 + m]? = some v := by
  induction l with
  | nil => intro j m v h; simp at h
  | cons x l ih =>
    intro j m v h hv
    have hm : m < 12 := (Array.getElem?_eq_some_iff.1 hv).1
    have e : itemsC (x :: l) = x.cells.toList ++ itemsC l := by unfold itemsC; rw [List.flatMap_cons]
    have hx : x.cells.toList.length = 12 := rfl
    rw [e]
    cases j with
    | zero =>
      rw [Nat.zero_mul, Nat.zero_add, List.getElem?_append_left (by rw [hx]; exact hm), Array.getElem?_toList]; exact hv
    | succ j =>
      rw [List.getElem?_append_right (by rw [hx]; omega), hx, show (j + 1) * 12 + m - 12 = j * 12 + m by omega]
      exact ih j m v (by simpa using h) hv
theorem items_lit (w : World) (l : List ItemV) (cs : Array Value) (t : TypeId) (h : cs.toList = itemsC l) : ItemsAt (w.alloc (.cells cs t)) (some ⟨w.heap.size, 0, none⟩) l.length (itemsF l) := fun _ => ⟨w.heap.size, 0, rfl, by simp, fun k hk j v hv => by
  rw [World.cell?_alloc_new, Nat.zero_add, ← Array.getElem?_toList, h]; exact itemsC_at l k j v hk hv⟩
/-- Three lists are built. -/
theorem Build_lit (l : List ItemV) (ws : List (BitVec 32)) (ao : Option Addr) (cap : Nat) (w : World) (hI : ItemsAt w ao l.length (itemsF l)) (ht : Tabs w) (hfl : Flds w) (hF : FitF (itemsF l) l.length) (hlo : ∀ k, k < l.length → -9223372036854775808 ≤ (itemsF l k).insn.op)
    (hc : checkV (itemsF l) l.length = 0) (hw : outW (itemsF l) l.length = ws) : Calls Tryz.prog 12 #[.slice ao l.length cap] w fun e w' => (∃ v u, e = .returned (.tuple #[v, u, .int .i64 0]) ∧ SlAt w.heap.size v ws.length (fun j => .int .u32 (un32 (ws.getD j 0#32))) w') ∧ Below w.heap.size w w' := by
  refine (Build_any ao l.length cap (itemsF l) w hI hF hlo ht hfl).mono ?_
  rintro e w' ⟨⟨v, u, rfl, h1, -⟩, hb⟩
  rw [hw] at h1
  exact ⟨⟨v, u, by rw [hc], h1⟩, hb⟩
theorem dumpsV_at15 (F : Nat → BitVec 32) (k : Nat) : ∀ n, k < n → (dumpsV F n)[k]? = some (.string ⟨(dumpT (F k)).toArray⟩)
  | 0, h => absurd h (Nat.not_lt_zero _)
  | n + 1, h => by
    have hl : (dumpsV F n).length = n := dumpsV_len F n
    unfold dumpsV
    by_cases e : k = n
    · subst e
      rw [List.getElem?_append_right (by rw [hl]; exact Nat.le_refl _), hl, Nat.sub_self]; rfl
    · rw [List.getElem?_append_left (by rw [hl]; omega)]; exact dumpsV_at15 F k n (by omega)
theorem SlAt.own {W : World} {lo n : Nat} {t : TypeId} {v : Value} {xs : List Value} {f : Nat → Value} (h : W.ownsRow lo t 1 v n xs) (hf : ∀ k, k < n → xs[k]? = some (f k)) : SlAt lo v n f W := by
  rcases h.2 with ⟨rfl, h0⟩ | ⟨g, cap, cur, rfl, h2, h3, h4, h5⟩
  · exact ⟨none, 0, by rw [h0], by omega, fun hm => by omega⟩
  · exact ⟨_, cap, rfl, h4, fun _ => ⟨g, rfl, h2, fun k hk => by rw [h.cellAt k (by omega)]; exact hf k hk, fun k _ => h.frozenAt k, (h.lt g rfl).2⟩⟩
set_option maxRecDepth 100000 in
set_option maxHeartbeats 4000000 in
theorem Text15_any (lo : Nat) (v : Value) (ws : List (BitVec 32)) (hn : ws.length ≤ 100000) (w : World) (h : SlAt lo v ws.length (fun j => .int .u32 (un32 (ws.getD j 0#32))) w) :
    Calls Tryz.prog 25 #[v] w fun e w' => (∃ u, e = .returned u ∧ SlAt w.heap.size u ws.length (fun k => .string ⟨(dumpT (ws.getD k 0#32)).toArray⟩) w') ∧ Below w.heap.size w w' := by
  obtain ⟨A, cap, rfl, hc, h⟩ := h
  have hW : WordsAt w A ws.length (fun j => ws.getD j 0#32) := fun h0 => by
    obtain ⟨b, e, -, hv⟩ := h h0
    exact ⟨b, 0, e, hv.lt, fun k hk => by rw [Nat.zero_add]; exact hv.c k hk⟩
  have hD := Lib.hid (R3Dump_any A ws.length cap _ w hW hn)
  clear h hW
  go_enter Tryz.func25, Tryz.ntmps25
  go_wp2_with (go_at_call 53; (with_reducible refine hD.out.mono ?_); rintro e w4 ⟨⟨u, rfl, hu⟩, hb4⟩)
  go_ret
  rw [dumpsV_len] at hu
  exact ⟨⟨_, rfl, SlAt.own hu fun k hk => dumpsV_at15 _ k _ hk⟩, hb4⟩
theorem lit_SlAt (w : World) (l : List ByteArray) (t : TypeId) : SlAt w.heap.size (.slice (some ⟨w.heap.size, 0, none⟩) l.length l.length) l.length (fun k => .string (l.getD k ⟨#[]⟩)) (w.alloc (.cells (l.map Value.string).toArray t)) :=
  ⟨_, _, rfl, Nat.le_refl _, fun _ => ⟨w.heap.size, rfl, Nat.le_refl _, fun k hk => by
    rw [World.cell?_alloc_new]; simp [hk], fun k _ => fresh_thawR _ _ _ _, by simp⟩⟩
theorem SlAt.congr {lo m : Nat} {v : Value} {f g : Nat → Value} {W : World} (h : SlAt lo v m f W) (hg : ∀ k, k < m → g k = f k) : SlAt lo v m g W := by
  obtain ⟨A, cap, e, hc, h⟩ := h
  exact ⟨A, cap, e, hc, fun hm => by obtain ⟨b, e2, h2, h3⟩ := h hm; exact ⟨b, e2, h2, h3.congr hg⟩⟩
theorem lv1 : checkV (itemsF [brV 0, nopV, lbV 0]) 3 = 0 := by decide +kernel
theorem lw1 : outW (itemsF [brV 0, nopV, lbV 0]) 3 = [0x00208463#32, 0x00000013#32] := by decide +kernel
theorem lf1 : FitF (itemsF [brV 0, nopV, lbV 0]) 3 := by unfold FitF; decide +kernel
theorem lo1 : ∀ k, k < 3 → -9223372036854775808 ≤ (itemsF [brV 0, nopV, lbV 0] k).insn.op := by decide +kernel
theorem ld10 : dumpT 0x00208463#32 = [98, 101, 113, 32, 120, 49, 44, 32, 120, 50, 44, 32, 56] := by decide +kernel
theorem ld11 : dumpT 0x00000013#32 = [97, 100, 100, 105, 32, 120, 48, 44, 32, 120, 48, 44, 32, 48] := by decide +kernel
/-- The text of the list's words, and what is wanted. -/
theorem St1 (lo : Nat) (u : Value) (w : World) (h : SlAt lo u 2 (fun k => .string ⟨(dumpT ([0x00208463#32, 0x00000013#32].getD k 0#32)).toArray⟩) w) : SlAt lo u 2 (fun k => .string ([{ data := #[98, 101, 113, 32, 120, 49, 44, 32, 120, 50, 44, 32, 56] }, { data := #[97, 100, 100, 105, 32, 120, 48, 44, 32, 120, 48, 44, 32, 48] }].getD k ⟨#[]⟩)) w := h.congr fun k hk => by
  rcases (show k = 0 ∨ k = 1 by omega) with rfl | rfl
  · show Value.string _ = Value.string ⟨(dumpT 0x00208463#32).toArray⟩; rw [ld10]; rfl
  · show Value.string _ = Value.string ⟨(dumpT 0x00000013#32).toArray⟩; rw [ld11]; rfl
theorem lv2 : checkV (itemsF [nuV 4096#64]) 1 = 0 := by decide +kernel
theorem lw2 : outW (itemsF [nuV 4096#64]) 1 = [0x000012b7#32] := by decide +kernel
theorem lf2 : FitF (itemsF [nuV 4096#64]) 1 := by unfold FitF; decide +kernel
theorem lo2 : ∀ k, k < 1 → -9223372036854775808 ≤ (itemsF [nuV 4096#64] k).insn.op := by decide +kernel
theorem ld20 : dumpT 0x000012b7#32 = [108, 117, 105, 32, 120, 53, 44, 32, 49] := by decide +kernel
/-- The text of the list's words, and what is wanted. -/
theorem St2 (lo : Nat) (u : Value) (w : World) (h : SlAt lo u 1 (fun k => .string ⟨(dumpT ([0x000012b7#32].getD k 0#32)).toArray⟩) w) : SlAt lo u 1 (fun k => .string ([{ data := #[108, 117, 105, 32, 120, 53, 44, 32, 49] }].getD k ⟨#[]⟩)) w := h.congr fun k hk => by
  rcases (show k = 0 by omega) with rfl
  · show Value.string _ = Value.string ⟨(dumpT 0x000012b7#32).toArray⟩; rw [ld20]; rfl
theorem lv3 : checkV (itemsF [nuV 4294967296#64]) 1 = 0 := by decide +kernel
theorem lw3 : outW (itemsF [nuV 4294967296#64]) 1 = [0x001002b7#32, 0x00c29293#32] := by decide +kernel
theorem lf3 : FitF (itemsF [nuV 4294967296#64]) 1 := by unfold FitF; decide +kernel
theorem lo3 : ∀ k, k < 1 → -9223372036854775808 ≤ (itemsF [nuV 4294967296#64] k).insn.op := by decide +kernel
theorem ld30 : dumpT 0x001002b7#32 = [108, 117, 105, 32, 120, 53, 44, 32, 50, 53, 54] := by decide +kernel
theorem ld31 : dumpT 0x00c29293#32 = [115, 108, 108, 105, 32, 120, 53, 44, 32, 120, 53, 44, 32, 49, 50] := by decide +kernel
/-- The text of the list's words, and what is wanted. -/
theorem St3 (lo : Nat) (u : Value) (w : World) (h : SlAt lo u 2 (fun k => .string ⟨(dumpT ([0x001002b7#32, 0x00c29293#32].getD k 0#32)).toArray⟩) w) : SlAt lo u 2 (fun k => .string ([{ data := #[108, 117, 105, 32, 120, 53, 44, 32, 50, 53, 54] }, { data := #[115, 108, 108, 105, 32, 120, 53, 44, 32, 120, 53, 44, 32, 49, 50] }].getD k ⟨#[]⟩)) w := h.congr fun k hk => by
  rcases (show k = 0 ∨ k = 1 by omega) with rfl | rfl
  · show Value.string _ = Value.string ⟨(dumpT 0x001002b7#32).toArray⟩; rw [ld30]; rfl
  · show Value.string _ = Value.string ⟨(dumpT 0x00c29293#32).toArray⟩; rw [ld31]; rfl
set_option maxRecDepth 100000 in
set_option maxHeartbeats 16000000 in
/-- The chapter's examples have the results that it gives. -/
theorem Lives15_any (w : World) (ht : Tabs w) (hfl : Flds w) : Calls Tryz.prog 9 #[] w fun e w' => e = .returned (.bool true) ∧ Below w.heap.size w w' := by
  go_enter Tryz.func9, Tryz.ntmps9
  go_upto_region 2 with (first | (go_at_call 24; refine (Br_any 0 _).mono ?_; rintro e w1 ⟨rfl, hb1⟩) | (go_at_call 38; refine (Nop_any _).mono ?_; rintro e w2 ⟨rfl, hb2⟩) | (go_at_call 11; refine (Lb_any 0 _).mono ?_; rintro e w3 ⟨rfl, hb3⟩; have hB3 := hb1.trans ((hb2.trans (hb3.mono hb2.size)).mono hb1.size)) | (go_at_call 12; refine (Build_lit [brV 0, nopV, lbV 0] [0x00208463#32, 0x00000013#32] (some ⟨w3.heap.size, 0, none⟩) 3 _ (items_lit w3 [brV 0, nopV, lbV 0] _ _ (by rfl)) (ht.later (hB3.alloc hB3.size _) (Nat.le_refl _)) (hfl.later (hB3.alloc hB3.size _)) lf1 lo1 lv1 lw1).mono ?_; rintro e w4 ⟨⟨v1, u1, rfl, hs1⟩, hb4⟩; have hB4 := (hB3.alloc hB3.size _).trans (hb4.mono (by have := hB3.size; simp; omega))))
  replace hs1 := Lib.hid hs1
  clear hb1 hb2 hb3 hb4 hB3
  go_upto_region 3 with (go_at_call 12; refine (Build_lit [nuV 4096#64] [0x000012b7#32] (some ⟨w4.heap.size, 0, none⟩) 1 _ (items_lit w4 [nuV 4096#64] _ _ (by rfl)) (ht.later (hB4.alloc hB4.size _) (Nat.le_refl _)) (hfl.later (hB4.alloc hB4.size _)) lf2 lo2 lv2 lw2).mono ?_; rintro e w5 ⟨⟨v2, u2, rfl, hs2⟩, hb5⟩; have hB5 := (hB4.alloc hB4.size _).trans (hb5.mono (by have := hB4.size; simp; omega)); have hC5 := ((Below.refl w4.heap.size w4).alloc (Nat.le_refl _) _).trans (hb5.mono (by simp)))
  replace hs1 := Lib.hid (hs1.out.keep hC5)
  replace hs2 := Lib.hid hs2
  clear hb5 hC5
  go_upto_region 4 with (go_at_call 12; refine (Build_lit [nuV 4294967296#64] [0x001002b7#32, 0x00c29293#32] (some ⟨w5.heap.size, 0, none⟩) 1 _ (items_lit w5 [nuV 4294967296#64] _ _ (by rfl)) (ht.later (hB5.alloc hB5.size _) (Nat.le_refl _)) (hfl.later (hB5.alloc hB5.size _)) lf3 lo3 lv3 lw3).mono ?_; rintro e w6 ⟨⟨v3, u3, rfl, hs3⟩, hb6⟩; have hB6 := (hB5.alloc hB5.size _).trans (hb6.mono (by have := hB5.size; simp; omega)); have hC6 := ((Below.refl w5.heap.size w5).alloc (Nat.le_refl _) _).trans (hb6.mono (by simp)))
  replace hs1 := Lib.hid (hs1.out.keep hC6)
  replace hs2 := Lib.hid (hs2.out.keep hC6)
  replace hs3 := Lib.hid hs3
  clear hb6 hC6 hB4 hB5 ht hfl
  have hT1 := Lib.hid (fun (W : World) (hW : Below w6.heap.size w6 W) => Text15_any _ v1 [0x00208463#32, 0x00000013#32] (by decide) W (hs1.out.keep hW))
  have hT2 := Lib.hid (fun (W : World) (hW : Below w6.heap.size w6 W) => Text15_any _ v2 [0x000012b7#32] (by decide) W (hs2.out.keep hW))
  have hT3 := Lib.hid (fun (W : World) (hW : Below w6.heap.size w6 W) => Text15_any _ v3 [0x001002b7#32, 0x00c29293#32] (by decide) W (hs3.out.keep hW))
  clear hs1 hs2 hs3
  have hbc := Below.refl w6.heap.size w6
  go_wp2_with (first | (go_at_call 25; (first | (with_reducible refine (hT1.out _ hbc).mono ?_) | (with_reducible refine (hT2.out _ hbc).mono ?_) | (with_reducible refine (hT3.out _ hbc).mono ?_)); rintro e w7 ⟨⟨u, rfl, hu⟩, hb7⟩; have hbn := hbc.trans (hb7.mono hbc.size); clear hbc hb7; have hbc := hbn; clear hbn) | (go_at_call 39; (first | (refine (SameSl_any _ _ _ _ 2 (fun k => [{ data := #[98, 101, 113, 32, 120, 49, 44, 32, 120, 50, 44, 32, 56] }, { data := #[97, 100, 100, 105, 32, 120, 48, 44, 32, 120, 48, 44, 32, 48] }].getD k ⟨#[]⟩) _ (by decide) ((St1 _ _ _ hu).keep ((Below.refl _ _).alloc (Nat.le_refl _) _)) (lit_SlAt _ [{ data := #[98, 101, 113, 32, 120, 49, 44, 32, 120, 50, 44, 32, 56] }, { data := #[97, 100, 100, 105, 32, 120, 48, 44, 32, 120, 48, 44, 32, 48] }] _)).mono ?_) | (refine (SameSl_any _ _ _ _ 1 (fun k => [{ data := #[108, 117, 105, 32, 120, 53, 44, 32, 49] }].getD k ⟨#[]⟩) _ (by decide) ((St2 _ _ _ hu).keep ((Below.refl _ _).alloc (Nat.le_refl _) _)) (lit_SlAt _ [{ data := #[108, 117, 105, 32, 120, 53, 44, 32, 49] }] _)).mono ?_) | (refine (SameSl_any _ _ _ _ 2 (fun k => [{ data := #[108, 117, 105, 32, 120, 53, 44, 32, 50, 53, 54] }, { data := #[115, 108, 108, 105, 32, 120, 53, 44, 32, 120, 53, 44, 32, 49, 50] }].getD k ⟨#[]⟩) _ (by decide) ((St3 _ _ _ hu).keep ((Below.refl _ _).alloc (Nat.le_refl _) _)) (lit_SlAt _ [{ data := #[108, 117, 105, 32, 120, 53, 44, 32, 50, 53, 54] }, { data := #[115, 108, 108, 105, 32, 120, 53, 44, 32, 120, 53, 44, 32, 49, 50] }] _)).mono ?_)); rintro e w8 ⟨rfl, hb8⟩; have hbn := (hbc.alloc hbc.size _).trans (hb8.mono (by have := hbc.size; simp; omega)); clear hbc hb8 hu; have hbc := hbn; clear hbn))
  go_ret
  exact ⟨rfl, hB6.trans (hbc.mono hB6.size)⟩
end Go.Proofs.YtcgflnkgekkidaaGreatDoor
namespace Go.Proofs.YtcgflnkgekkidaaGreatDoor
open Go.RowKit Go.Maps
theorem Tryz.info_item : (Tryz.prog.info? 29).map (fun i => (i.zero, i.size, i.bytes)) = some (some (.agg #[.int .i64 0, .int .i64 0, .int .i64 0, .int .i64 0, .int .i64 0, .int .i64 0, .bool false, .bool false, .int .i64 0, .int .i64 0, .int .i64 0, .int .u64 0]), 12, 88) := by kernel_rfl
theorem wp_appI {P : Program} {w w' : World} {o : Oper} {a : Act} {K : Act → World → Prop} {Q : Exit → Act → World → Prop} (s x : Operand) (t : TypeId)
    (ho : o.op = .call { callee := .builtin .append, args := #[s, x], argTypes := #[t, t] }) (v u v' : Value) (hs : a.eval s = v) (hx : a.eval x = u)
    (hr : (Builtin.append_ #[t, t] o.type #[v, u]).run P w = .ok v' w') (h : K (a.put o.dst v') w') : o.wp P a w K Q := by
  unfold Oper.wp execOp
  simp only [ho, resolve, invoke, builtin, Sem.run_bind, Sem.run_pure, Result.andThen_ok, List.map_toArray, List.map_cons, List.map_nil, hs, hx, hr]
  exact h
theorem wpList_appI {P : Program} {w w' : World} {ops : Array Oper} {rest : List Oper} {o : Oper} {a : Act} {Q : Exit → Act → World → Prop} (hgd : o.guard = none) (s x : Operand) (t : TypeId)
    (ho : o.op = .call { callee := .builtin .append, args := #[s, x], argTypes := #[t, t] }) (v u v' : Value) (hs : a.eval s = v) (hx : a.eval x = u)
    (hr : (Builtin.append_ #[t, t] o.type #[v, u]).run P w = .ok v' w') (h : wpList P ops Q rest (a.put o.dst v') w') : wpList P ops Q (o :: rest) a w :=
  wpList_plain hgd fun _ hK => wp_appI s x t ho v u v' hs hx hr (hK _ _ h)
/-- The first n items, cell by cell. -/
def itemsL (F : Nat → ItemV) (n : Nat) : List ItemV := (List.range n).map F
theorem itemsL_len (F : Nat → ItemV) (n : Nat) : (itemsL F n).length = n := by simp [itemsL]
theorem itemsL_at (F : Nat → ItemV) (n k : Nat) (h : k < n) : itemsF (itemsL F n) k = F k := by simp [itemsF, itemsL, h]
theorem itemsC_len (l : List ItemV) : (itemsC l).length = l.length * 12 := by
  induction l with
  | nil => rfl
  | cons x l ih => unfold itemsC at *; rw [List.flatMap_cons, List.length_append, ih, List.length_cons, show x.cells.toList.length = 12 from rfl]; omega
theorem itemsC_one (l : List ItemV) : ∀ u ∈ itemsC l, u.oneCell' = true := fun u hu => by
  unfold itemsC at hu
  obtain ⟨i, -, hi⟩ := List.mem_flatMap.1 hu
  have := i.one
  rw [Array.all_eq_true_iff_forall_mem] at this
  exact this u (by simpa using hi)
/-- The row's cells, the other way. -/
theorem itemsC_ex (l : List ItemV) : ∀ (q : Nat) (v : Value), (itemsC l)[q]? = some v → ∃ j m, j < l.length ∧ q = j * 12 + m ∧ (itemsF l j).cells[m]? = some v := by
  induction l with
  | nil => intro q v h; simp [itemsC] at h
  | cons x l ih =>
    intro q v h
    have e : itemsC (x :: l) = x.cells.toList ++ itemsC l := by unfold itemsC; rw [List.flatMap_cons]
    have hx : x.cells.toList.length = 12 := rfl
    rw [e] at h
    rcases Nat.lt_or_ge q 12 with hq | hq
    · rw [List.getElem?_append_left (by rw [hx]; exact hq)] at h
      exact ⟨0, q, by simp, by omega, by simpa [itemsF] using h⟩
    · rw [List.getElem?_append_right (by rw [hx]; exact hq), hx] at h
      obtain ⟨j, m, h1, h2, h3⟩ := ih _ v h
      exact ⟨j + 1, m, by simpa using h1, by omega, by simpa [itemsF] using h3⟩
theorem ItemsAt.of {W : World} {lo : Nat} {A : Option Addr} {cap n : Nat} {F : Nat → ItemV} (h : W.ownsRow lo 29 12 (.slice A n cap) n (itemsC (itemsL F n))) : ItemsAt W A n F := fun hn => by
  rcases h.2 with ⟨_, h0⟩ | ⟨g, cap', cur, e, h2⟩
  · omega
  · injection e with e e1 e2
    subst e
    refine ⟨g, 0, rfl, (h.lt g rfl).2, fun k hk j v hv => ?_⟩
    have hj : j < 12 := (Array.getElem?_eq_some_iff.1 hv).1
    rw [Nat.zero_add, h.cellAt (k * 12 + j) (by omega)]
    exact itemsC_at _ k j v (by rw [itemsL_len]; exact hk) (by rw [itemsL_at F n k hk]; exact hv)
set_option maxRecDepth 100000 in
set_option maxHeartbeats 8000000 in
/-- A copy of items. -/
theorem KOwnI_any (ao : Option Addr) (n cap : Nat) (F : Nat → ItemV) (w : World) (h : ItemsAt w ao n F) (hn : n ≤ 100000) :
    Calls Tryz.prog 13 #[.slice ao n cap] w fun e w' => (∃ A c, e = .returned (.slice A n c) ∧ ItemsAt w' A n F ∧ w'.ownsRow w.heap.size 29 12 (.slice A n c) n (itemsC (itemsL F n))) ∧ Below w.heap.size w w' := by
  obtain ⟨i0, q0, q1, q2, q3⟩ := info_parts Tryz.info_item
  have hu := Tryz.underlying22
  have hown : (w.alloc (.cells #[] 29)).ownsRow w.heap.size 29 12 (.slice (some ⟨w.heap.size, 0, none⟩) 0 0) 0 [] := World.ownsRow_lit w #[] 0 (Nat.le_refl _) (Nat.zero_le _) rfl
  have hb0 : Below w.heap.size w (w.alloc (.cells #[] 29)) := (Below.refl _ _).alloc (Nat.le_refl _) _
  have key : ∃ v' w', (Builtin.append_ #[22, 22] 22 #[.slice (some ⟨w.heap.size, 0, none⟩) 0 0, .slice ao n cap]).run Tryz.prog (w.alloc (.cells #[] 29)) = .ok v' w' ∧ w'.ownsRow w.heap.size 29 12 v' n (itemsC (itemsL F n)) ∧ Below w.heap.size w w' := by
    rcases ao with _ | ad
    · have hn0 : n = 0 := by
        rcases Nat.eq_zero_or_pos n with h0 | h0
        · exact h0
        · obtain ⟨b, o, e, -⟩ := h h0; cases e
      subst hn0
      refine ⟨_, _, ?_, hown, hb0⟩
      simp [Builtin.append_, run_underlying hu, sizeOf, typeInfo, q0, Builtin.lenOf, Builtin.firstCells, storeCells]
    · have hc : ∀ j u, (itemsC (itemsL F n))[j]? = some u → (w.alloc (.cells #[] 29)).cell? (ad.add j) = some u := by
        intro q u hq
        obtain ⟨j, m, h1, rfl, h3⟩ := itemsC_ex _ q u hq
        rw [itemsL_len] at h1
        rw [itemsL_at F n j h1] at h3
        obtain ⟨b, o, e, hl, hcc⟩ := h (by omega)
        obtain rfl := Option.some.inj e
        rw [Addr.add_mid, hb0.cell (p := ⟨b, o + (j * 12 + m), none⟩) hl, ← Nat.add_assoc]
        exact hcc j h1 m u h3
      obtain ⟨v', w', hr, h2, h3, -, h5⟩ := run_append_own_at (P := Tryz.prog) (w.alloc (.cells #[] 29)) w.heap.size 22 22 29 i0 _ 12 88 hu q0 q1 q2 q3 rfl (by decide) _ 0 [] hown ad n cap (itemsC (itemsL F n)) (by rw [itemsC_len, itemsL_len]) hc (itemsC_one _) (by simp only [maxLen]; omega) (by omega) hb0.size
      refine ⟨v', w', hr, by simpa using h2, hb0.grown h3 hb0.size (fun k hk => (hown.lt k hk).1)⟩
  obtain ⟨v', w', hr, ho, hB⟩ := key
  obtain ⟨A, c, rfl⟩ := own_sliceN ho
  replace hr := Lib.hid hr
  clear h hown hb0 q0 q1 q2 q3
  go_enter Tryz.func13, Tryz.ntmps13
  go_wp2_with (at_builtin; refine wpList_appI rfl (.tmp 3) (.tmp 4) 22 rfl _ _ _ rfl rfl hr.out ?_)
  go_ret
  exact ⟨⟨A, c, rfl, ItemsAt.of ho, ho⟩, hB⟩
/-- A slice of the call's own, at any world from its making on. -/
theorem SlAt.open {lo m : Nat} {v : Value} {f : Nat → Value} {W : World} (h : SlAt lo v m f W) : ∃ A c b, v = .slice A m c ∧ m ≤ c ∧ (0 < m → A = some ⟨b, 0, none⟩) ∧ (0 < m → ∀ W', Below W.heap.size W W' → ∀ k, k < m → W'.cell? ⟨b, k, none⟩ = some (f k)) := by
  obtain ⟨A, c, e, hc, h⟩ := h
  by_cases hm : 0 < m
  · obtain ⟨b, e2, -, hv⟩ := h hm
    exact ⟨A, c, b, e, hc, fun _ => e2, fun _ W' hb k hk => (hv.keep hb).c k hk⟩
  · exact ⟨A, c, 0, e, hc, fun h => absurd h hm, fun h => absurd h hm⟩
theorem itemsL_snoc (F : Nat → ItemV) (m : Nat) : itemsC (itemsL F (m + 1)) = itemsC (itemsL F m) ++ (F m).cells.toList := by
  unfold itemsL itemsC
  rw [List.range_succ, List.map_append, List.flatMap_append]
  simp
theorem lit_cellX (w : World) (cs : Array Value) (l : List Value) (h : cs.toList = l) (t : TypeId) : ∀ (j : Nat) (u : Value), l[j]? = some u → (w.alloc (.cells cs t)).cell? ((⟨w.heap.size, 0, none⟩ : Addr).add j) = some u := fun j u hu => by
  subst h
  rw [show (⟨w.heap.size, 0, none⟩ : Addr).add j = ⟨w.heap.size, j, none⟩ by rw [Addr.add_mid, Nat.zero_add], World.cell?_alloc_new]
  simpa using hu
theorem item_ones (i : ItemV) : ∀ u ∈ i.cells.toList, u.oneCell' = true := fun u h => by
  have := i.one
  rw [Array.all_eq_true_iff_forall_mem] at this
  exact this u (by simpa using h)
/-- One more item in its row. -/
def OwnI (lo : Nat) (v : Value) (F : Nat → ItemV) (m : Nat) (W : World) : Prop := W.ownsRow lo 29 12 v m (itemsC (itemsL F m))
theorem OwnI.snoc {lo m : Nat} {v : Value} {F : Nat → ItemV} {W : World} {l : List Value} (h : W.ownsRow lo 29 12 v (m + 1) (itemsC (itemsL F m) ++ l)) (hl : l = (F m).cells.toList) : OwnI lo v F (m + 1) W := by
  unfold OwnI; rw [itemsL_snoc, ← hl]; exact h
theorem OwnI.keep {lo m : Nat} {v : Value} {F : Nat → ItemV} {W W' : World} (h : OwnI lo v F m W) (hb : Below W.heap.size W W') : OwnI lo v F m W' := own_keep h hb
end Go.Proofs.YtcgflnkgekkidaaGreatDoor
