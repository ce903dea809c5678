/- The walks of package code's Word: whatever the instruction. Conditions: the library's table of ASCII spaces and the fields' places lie as their initialisers lay them. -/
import Derived.Test.YtbdhjckpoabmlaaDoorCodeWA
import Derived.Test.YtbdhjckpoabmlaaDoorCodeWB
import Derived.Test.YtbdhjckpoabmlaaDoorCodeWC
import Derived.Test.YtbdhjckpoabmlaaDoorCodeA
import Derived.Test.YtbdhjckpoabmlaaDoorInsnOk
import Derived.Deep.MidRow
import Derived.Deep.RegionHeld
set_option linter.unusedSimpArgs false
namespace Go.Proofs.YtbdhjckpoabmlaaDoor
open Go.RowKit
theorem cellR (w : World) (cs : Array Value) (t : TypeId) : (w.alloc (.cells cs t)).rangeAt w.heap.size 0 cs.toList := fun j v hv => by
  rw [World.cell?_alloc_new, Nat.zero_add]; simpa using hv
set_option maxRecDepth 100000 in
set_option maxHeartbeats 4000000 in
theorem TWord_no (b : Nat) (op rd r1 r2 imm : Int) (aq rl : Bool) (pred succ : Int) (w : World) (hck : checkE ⟨op, rd, r1, r2, imm, aq, rl, pred, succ⟩ = 2) (hop : op ≤ 9223372036854775807) (ht : Tabs w) :
    Calls Tryd.prog 14 #[.map (some b), .agg #[.int .i64 op, .int .i64 rd, .int .i64 r1, .int .i64 r2, .int .i64 imm, .bool aq, .bool rl, .int .i64 pred, .int .i64 succ]] w fun e w' => e = .returned (.tuple #[.int .u32 0, .int .i64 2]) ∧ Below w.heap.size w w' := by
  have hC := Lib.hid (fun W hT => Check_any ⟨op, rd, r1, r2, imm, aq, rl, pred, succ⟩ hop W hT)
  rw [hck] at hC
  have hbw : Below w.heap.size w (w.alloc (.cells #[.int .i64 op, .int .i64 rd, .int .i64 r1, .int .i64 r2, .int .i64 imm, .bool aq, .bool rl, .int .i64 pred, .int .i64 succ] 23)) := (Below.refl _ _).alloc (Nat.le_refl _) _
  clear hck hop
  go_enter Tryd.func14, Tryd.ntmps14
  go_wp2_with (go_at_call 23; refine (hC.out _ (ht.later hbw (Nat.le_refl _))).mono ?_; rintro e w1 ⟨rfl, hb1⟩)
  go_ret2
  exact ⟨rfl, hbw.trans (hb1.mono hbw.size)⟩
theorem TWord_any (b n : Nat) (T : Int → PartV) (i : InsnV) (w : World) (hT : TM w b n T) (hlo : -9223372036854775808 ≤ i.op) (hop : i.op ≤ 9223372036854775807) (ht : Tabs w) (hfl : Flds w) :
    Calls Tryd.prog 14 #[.map (some b), .agg i.cells] w fun e w' => e = .returned (.tuple #[.int .u32 (un32 (wordT T i)), .int .i64 (checkE i)]) ∧ Below w.heap.size w w' := by
  by_cases hc : checkE i = 0
  · have hw : wordT T i = (wordG (opOf i.op).form (T i.op) i).setWidth 32 := if_pos hc
    rw [hw, hc]
    obtain ⟨-, -, -, -, -, -, h1, h2⟩ := ok_facts i hc
    obtain ⟨op, rd, r1, r2, imm, aq, rl, pred, succ⟩ := i
    simp only at h1 h2 hlo hop
    rcases (show (opOf op).form = 1 ∨ (opOf op).form = 2 ∨ (opOf op).form = 3 ∨ (opOf op).form = 4 ∨ (opOf op).form = 5 ∨ (opOf op).form = 6 ∨ (opOf op).form = 7 ∨ (opOf op).form = 8 ∨ (opOf op).form = 9 ∨ (opOf op).form = 10 ∨ (opOf op).form = 11 ∨ (opOf op).form = 12 by omega) with hf | hf | hf | hf | hf | hf | hf | hf | hf | hf | hf | hf
    · rw [hf]; exact TWord_1 b n T _ _ _ op rd r1 r2 imm aq rl pred succ w hT rfl hf hc hlo hop ht hfl
    · rw [hf]; exact TWord_2 b n T _ _ _ op rd r1 r2 imm aq rl pred succ w hT rfl hf hc hlo hop ht hfl
    · rw [hf]; exact TWord_3 b n T _ _ _ op rd r1 r2 imm aq rl pred succ w hT rfl hf hc hlo hop ht hfl
    · rw [hf]; exact TWord_4 b n T _ _ _ op rd r1 r2 imm aq rl pred succ w hT rfl hf hc hlo hop ht hfl
    · rw [hf]; exact TWord_5 b n T _ _ _ op rd r1 r2 imm aq rl pred succ w hT rfl hf hc hlo hop ht hfl
    · rw [hf]; exact TWord_6 b n T _ _ _ op rd r1 r2 imm aq rl pred succ w hT rfl hf hc hlo hop ht hfl
    · rw [hf]; exact TWord_7 b n T _ _ _ op rd r1 r2 imm aq rl pred succ w hT rfl hf hc hlo hop ht hfl
    · rw [hf]; exact TWord_8 b n T _ _ _ op rd r1 r2 imm aq rl pred succ w hT rfl hf hc hlo hop ht hfl
    · rw [hf]; exact TWord_9 b n T _ _ _ op rd r1 r2 imm aq rl pred succ w hT rfl hf hc hlo hop ht hfl
    · rw [hf]; exact TWord_10 b n T _ _ _ op rd r1 r2 imm aq rl pred succ w hT rfl hf hc hlo hop ht hfl
    · rw [hf]; exact TWord_11 b n T _ _ _ op rd r1 r2 imm aq rl pred succ w hT rfl hf hc hlo hop ht hfl
    · rw [hf]; exact TWord_12 b n T _ _ _ op rd r1 r2 imm aq rl pred succ w hT rfl hf hc hlo hop ht hfl
  · have hw : wordT T i = 0#32 := if_neg hc
    have h2 : checkE i = 2 := by unfold checkE at hc ⊢; cases hk : checkOk i <;> simp_all
    rw [hw, h2]
    obtain ⟨op, rd, r1, r2, imm, aq, rl, pred, succ⟩ := i
    exact TWord_no b op rd r1 r2 imm aq rl pred succ w h2 hop ht
set_option maxRecDepth 100000 in
set_option maxHeartbeats 4000000 in
theorem CodeWord_any (i : InsnV) (w : World) (hlo : -9223372036854775808 ≤ i.op) (hop : i.op ≤ 9223372036854775807) (ht : Tabs w) (hfl : Flds w) :
    Calls Tryd.prog 7 #[.agg i.cells] w fun e w' => e = .returned (.tuple #[.int .u32 (un32 (wordV i)), .int .i64 (checkE i)]) ∧ Below w.heap.size w w' := by
  have hu := Tryd.underlying23
  have hi : Hid ((Tryd.prog.info? 23).map (·.size) = some i.cells.toList.length) := Lib.hid (by rw [show i.cells.toList.length = 9 from rfl]; kernel_rfl)
  obtain ⟨x, hx⟩ : ∃ x, un32 (wordV i) = x := ⟨_, rfl⟩
  obtain ⟨ce, hce⟩ : ∃ c, checkE i = c := ⟨_, rfl⟩
  have hWd : Hid (∀ (W : World) (b : Nat), TM W b 200 madeT → Tabs W → Flds W → Calls Tryd.prog 14 #[.map (some b), .agg i.cells.toList.toArray] W fun e w' => e = .returned (.tuple #[.int .u32 x, .int .i64 ce]) ∧ Below W.heap.size W w') := Lib.hid fun W b hT h1 h2 => by
    rw [Array.toArray_toList, ← hx, ← hce]; exact TWord_any b 200 madeT i W hT hlo hop h1 h2
  rw [hx, hce]
  have hR0 : (w.alloc (.cells i.cells 23)).rangeAt w.heap.size 0 i.cells.toList ∧ Below w.heap.size w (w.alloc (.cells i.cells 23)) ∧ w.heap.size < (w.alloc (.cells i.cells 23)).heap.size := ⟨cellR w i.cells 23, (Below.refl _ _).alloc (Nat.le_refl _) _, by simp⟩
  clear hx hce hlo hop
  obtain ⟨IL, hIL⟩ : ∃ l, i.cells.toList = l := ⟨_, rfl⟩
  rw [hIL] at hi hWd hR0
  clear hIL
  go_enter Tryd.func7, Tryd.ntmps7
  go_upto_region 1 with fail
  refine wp_region_held_drew (S := fun W => W.rangeAt w.heap.size 0 IL ∧ Below w.heap.size w W ∧ w.heap.size < W.heap.size) (by kernel_rfl) ⟨fun j v hv => hR0.1 j v hv, hR0.2.1.drew, hR0.2.2⟩ (fun hHeld => ?_)
  refine wpAnyH_take (i := 1) rfl (by kernel_rfl) (by kernel_rfl) (by kernel_rfl) (fun _ _ _ h => h) (yieldsIf_load_mid (by rfl) _ _ rfl w.heap.size 0 rfl IL _ (fun W hS => hS.1) hu rfl hi.out) hHeld ?_
  try simp only [Act.put, List.getElem_toArray, List.getElem_cons_succ, List.getElem_cons_zero, List.setIfInBounds_toArray, List.set_cons_zero, List.set_cons_succ]
  generalize World.drew _ = W0 at hHeld ⊢
  refine wpAnyH_ready (rs := [0]) (by kernel_rfl) (by simp) (AllReadyH.cons rfl (fun K hK2 => ?_) AllReadyH.nil)
  rw [if_pos (by rfl)]
  simp only [List.getElem_toArray, List.getElem_cons_succ, List.getElem_cons_zero]
  go_wp2_with (go_at_call 13; refine (Made_any _).mono ?_; rintro e w1 ⟨rfl, hTm, hb1⟩)
  refine hK2.out _ _ (⟨fun j v hv => by rw [hb1.cell (p := ⟨w.heap.size, 0 + j, none⟩) hHeld.2.2]; exact hHeld.1 j v hv, hHeld.2.1.trans (hb1.mono hHeld.2.1.size), Nat.lt_of_lt_of_le hHeld.2.2 hb1.size⟩) (fun hHeld2 => ?_)
  clear hK2 K hHeld
  have hHeld := hHeld2
  clear hHeld2
  try simp only [Act.put, List.getElem_toArray, List.getElem_cons_succ, List.getElem_cons_zero, List.setIfInBounds_toArray, List.set_cons_zero, List.set_cons_succ]
  refine wpAnyH_ready (rs := [2]) (by kernel_rfl) (by simp) (AllReadyH.cons rfl (fun K hK2 => ?_) AllReadyH.nil)
  rw [if_pos (by rfl)]
  simp only [List.getElem_toArray, List.getElem_cons_succ, List.getElem_cons_zero]
  go_wp2_with (go_at_call 14; refine (hWd.out _ _ hTm (ht.later hHeld.2.1 (Nat.le_refl _)) (hfl.later hHeld.2.1)).mono ?_; rintro e w2 ⟨rfl, hb2⟩)
  refine hK2.out _ _ (⟨fun j v hv => by rw [hb2.cell (p := ⟨w.heap.size, 0 + j, none⟩) hHeld.2.2]; exact hHeld.1 j v hv, hHeld.2.1.trans (hb2.mono hHeld.2.1.size), Nat.lt_of_lt_of_le hHeld.2.2 hb2.size⟩) (fun hHeld2 => ?_)
  clear hK2 K hHeld
  have hHeld := hHeld2
  clear hHeld2
  try simp only [Act.put, List.getElem_toArray, List.getElem_cons_succ, List.getElem_cons_zero, List.setIfInBounds_toArray, List.set_cons_zero, List.set_cons_succ]
  refine wpAnyH_take (i := 3) (v := .int .u32 x) rfl (by kernel_rfl) (by kernel_rfl) (by kernel_rfl) (fun _ _ _ h => h) (Or.inl ⟨by rfl, fun W _ => by kernel_rfl⟩) hHeld ?_
  try simp only [Act.put, List.getElem_toArray, List.getElem_cons_succ, List.getElem_cons_zero, List.setIfInBounds_toArray, List.set_cons_zero, List.set_cons_succ]
  refine wpAnyH_take (i := 4) (v := .int .i64 ce) rfl (by kernel_rfl) (by kernel_rfl) (by kernel_rfl) (fun _ _ _ h => h) (Or.inl ⟨by rfl, fun W _ => by kernel_rfl⟩) hHeld ?_
  try simp only [Act.put, List.getElem_toArray, List.getElem_cons_succ, List.getElem_cons_zero, List.setIfInBounds_toArray, List.set_cons_zero, List.set_cons_succ]
  refine wpAnyH_take (i := 5) (v := .int .u32 x) rfl (by kernel_rfl) (by kernel_rfl) (by kernel_rfl) (fun _ _ _ h => h) (Or.inl ⟨by rfl, fun W _ => by kernel_rfl⟩) hHeld ?_
  try simp only [Act.put, List.getElem_toArray, List.getElem_cons_succ, List.getElem_cons_zero, List.setIfInBounds_toArray, List.set_cons_zero, List.set_cons_succ]
  refine wpAnyH_take (i := 6) (v := .int .i64 ce) rfl (by kernel_rfl) (by kernel_rfl) (by kernel_rfl) (fun _ _ _ h => h) (Or.inl ⟨by rfl, fun W _ => by kernel_rfl⟩) hHeld ?_
  try simp only [Act.put, List.getElem_toArray, List.getElem_cons_succ, List.getElem_cons_zero, List.setIfInBounds_toArray, List.set_cons_zero, List.set_cons_succ]
  refine wpAnyH_done (by kernel_rfl) ?_ _
  go_wp2_with fail
  go_ret2
  exact ⟨rfl, hHeld.2.1⟩
end Go.Proofs.YtbdhjckpoabmlaaDoor
