/- The walks of insn.Writes and insn.Reads. Conditions: the library's table of ASCII spaces lies as its initialiser lays it. -/
import Derived.Test.YtdbpnbmaineniaaGreatDoorInsnWG
import Derived.Test.YtdbpnbmaineniaaGreatDoorInsnCheck
import Derived.Test.YtdbpnbmaineniaaGreatDoorRlB
import Derived.Deep.MidRow
import Derived.Sort.OwnSortedInts
set_option linter.unusedSimpArgs false
set_option linter.unusedVariables false
namespace Go.Proofs.YtdbpnbmaineniaaGreatDoor
open Go.RowKit Go.Sort
/-- The block g, made by the call, holds l. -/
structure HB (w : World) (g : Nat) (l : List Int) (W : World) : Prop where
  h : Holds (Value.int .i64) W g 0 l.toArray
  bl : Below w.heap.size w W
  lt : g < W.heap.size
  ge : w.heap.size ≤ g
theorem HB.put {w W : World} {g : Nat} {l l' : List Int} (h : HB w g l W) (hl : l'.length = l.length) (n : Nat) (os : Array Obj) : HB w g l' (grow (putRow (Value.int .i64) (Sort.ahead W n) g 0 l'.toArray) os) :=
  ⟨holds_grow _ _ _ _ _ _ (by simpa using h.lt) (holds_putRow _ _ _ _ l.toArray _ (holds_ahead _ _ _ _ _ _ h.h) (by simpa using hl)),
   h.bl.grown (grownBy_sortedI l'.toArray) h.bl.size (fun k hk => by injection hk with hk; subst hk; exact h.ge),
   by have := h.lt; simp [grow]; omega, h.ge⟩
theorem HB.pre {w W : World} {g : Nat} {l l' : List Int} (h : HB w g (l ++ l') W) : HB w g l W :=
  ⟨fun j hj => by
    have h1 := h.h j (by simp at hj ⊢; omega)
    have hj' : j < l.length := by simpa using hj
    have e : (l ++ l').toArray[j]! = l.toArray[j]! := by
      have h2 : j < (l ++ l').length := by rw [List.length_append]; omega
      simp only [List.getElem!_toArray]
      rw [List.getElem!_eq_getElem?_getD, List.getElem!_eq_getElem?_getD, List.getElem?_append_left hj']
    rw [e] at h1; exact h1, h.bl, h.lt, h.ge⟩
theorem HB.rl {w W : World} {g : Nat} {l : List Int} (h : HB w g l W) (c : Nat) (h1 : l.length ≤ c) (h2 : c ≤ maxLen) : RL W W.heap.size (.slice (some ⟨g, 0, none⟩) l.length c) l :=
  ⟨⟨_, c, rfl, h1, h2, .inr ⟨g, 0, rfl, h.lt, fun j x hx => by
    have hj : j < l.length := (List.getElem?_eq_some_iff.1 hx).1
    have := (h.h j (by simpa using hj)).1
    rw [this]
    have e : l.toArray[j]! = x := by
      have := (List.getElem?_eq_some_iff.1 hx).2
      simp [hj, this]
    rw [e]⟩⟩⟩
def sortI (l : List Int) : List Int := l.mergeSort (fun x y => decide (x ≤ y))
theorem sortI_len (l : List Int) : (sortI l).length = l.length := List.length_mergeSort l
theorem Sort_HB (w W : World) (g n cap : Nat) (l : List Int) (h : HB w g l W) (hn : l.length = n) (hs : n ≤ 1000) :
    Calls Tryz.prog 93 #[.slice (some ⟨g, 0, none⟩) n cap] W fun e w' => e = .returned (.tuple #[]) ∧ HB w g (sortI l) w' := by
  subst hn
  refine (Tryz.slices_Sort_int g 0 cap l W h.h h.lt (by omega)).mono ?_
  rintro e w' ⟨he, n, os, rfl⟩
  exact ⟨he, h.put (sortI_len l) n os⟩
theorem compact_le (l : List Int) : (Lib.compact l).length ≤ l.length := by
  unfold Lib.compact Lib.compactUpTo
  rw [List.length_map]
  exact Nat.le_trans (List.length_filter_le _ _) (by simp)
theorem Compact_HB (w W : World) (g n cap : Nat) (l : List Int) (h : HB w g l W) (hn : l.length = n) (hs : n ≤ 1000) (hc : n ≤ cap) :
    Calls Tryz.prog 95 #[.slice (some ⟨g, 0, none⟩) n cap] W fun e w' => e = .returned (.slice (some ⟨g, 0, none⟩) (Lib.compact l).length cap) ∧ HB w g (Lib.compact l) w' := by
  subst hn
  refine (Tryz.slices_Compact_int g 0 cap l W h.h (by omega) hc).mono ?_
  rintro e w' ⟨he, q, rfl⟩
  refine ⟨he, ?_⟩
  have := h.put (l' := Lib.compact l ++ List.replicate (l.length - (Lib.compact l).length) 0) (by have := compact_le l; simp; omega) q #[]
  rw [grow_empty] at this
  exact this.pre
theorem notZero_any (x : Int) (w : World) : Calls Tryz.prog 96 #[.int .i64 x] w fun e w' => e = .returned (.bool (x == 0)) ∧ w = w' := by
  go_enter Tryz.func96, Tryz.ntmps96
  go_wp2
  all_goals (go_ret; exact ⟨by simp_all, rfl⟩)
theorem Delete_HB (w W : World) (g n cap : Nat) (l : List Int) (h : HB w g l W) (hn : l.length = n) (hs : n ≤ 1000) (hc : n ≤ cap) :
    Calls Tryz.prog 94 #[.slice (some ⟨g, 0, none⟩) n cap, .func (.func 96) #[] #[]] W fun e w' => e = .returned (.slice (some ⟨g, 0, none⟩) (l.filter fun x => !(x == 0)).length cap) ∧ HB w g (l.filter fun x => !(x == 0)) w' := by
  subst hn
  have eg : ∀ args w, (callFunc 96 args).run Tryz.prog w = .ok (.enter 96 args) w := enters_of Tryz.func96 (by kernel_rfl) rfl
  have hg : ∀ (x : Int) W, FnGives Tryz.prog 96 #[] #[.int .i64 x] (.bool (x == 0)) W := fun x W => (notZero_any x W).mono fun e w' ⟨he, hw⟩ => ⟨he, 0, hw.symm⟩
  refine (Tryz.slices_DeleteFunc (Value.int .i64) (fun _ => rfl) (fun x => x == 0) 96 #[] eg 0 Tryz.zeroValue3 g 0 cap l.toArray W (fun W x _ => hg x W) (fun n os dk x _ => hg x _) h.h (by rw [List.size_toArray]; omega) (by simpa using hc)).mono ?_
  rintro e w' ⟨he, q, rfl⟩
  refine ⟨he, ?_⟩
  have hle := List.length_filter_le (fun x : Int => !(x == 0)) l
  have := h.put (l' := (l.filter fun x => !(x == 0)) ++ List.replicate (l.length - (l.filter fun x => !(x == 0)).length) 0) (by rw [List.length_append, List.length_replicate]; omega) q #[]
  rw [grow_empty] at this
  exact HB.pre (l' := List.replicate (l.length - (l.filter fun x => !(x == 0)).length) 0) (by simpa using this)
set_option maxRecDepth 100000 in
set_option maxHeartbeats 2000000 in
theorem Writes_any (i : InsnV) (hop : i.op ≤ 9223372036854775807) (w : World) (ht : Tabs w) :
    Calls Tryz.prog 42 #[.agg i.cells] w fun e w' => e = .returned (.int .i64 (if checkE i = 0 then i.rd else 0)) ∧ Below w.heap.size w w' := by
  have hB := XB.start w i.cells.toList 23
  rw [Array.toArray_toList] at hB
  have hu := Tryz.underlying23
  have hi : (Tryz.prog.info? 23).map (·.size) = some i.cells.toList.length := by kernel_rfl
  have ht1 := ht.later ((Below.refl _ w).alloc (Nat.le_refl _) (.cells i.cells 23)) (Nat.le_refl _)
  have hK := Lib.hid (fun W hW => Check_any i hop W hW)
  have h1 : Hid (∀ W, XB w i.cells.toList W → W.cell? ⟨w.heap.size, 1, none⟩ = some (.int .i64 i.rd)) := Lib.hid fun W hW => hW.at 1 _ rfl
  by_cases hc : checkE i = 0
  · rw [hc] at hK
    rw [if_pos hc]
    generalize i.rd = rd at h1 ⊢
    clear hop ht hc
    generalize i.cells = cs at *
    go_enter Tryz.func42, Tryz.ntmps42
    go_wp2_with (first | (refine wpList_load_mid rfl 23 _ rfl w.heap.size 0 rfl cs.toList _ hB.c hu rfl hi ?_) | (go_at_call 27; refine (hK.out _ ht1).mono ?_; rintro e w1 ⟨rfl, hb1⟩; replace hB := hB.keep hb1; have c1 := h1.out _ hB))
    go_ret
    exact ⟨rfl, hB.bl⟩
  · have h2 : checkE i = 2 := by unfold checkE at hc ⊢; cases hk : checkOk i <;> simp_all
    rw [h2] at hK
    rw [if_neg hc]
    clear hop ht hc h2
    generalize i.cells = cs at *
    go_enter Tryz.func42, Tryz.ntmps42
    go_wp2_with (first | (refine wpList_load_mid rfl 23 _ rfl w.heap.size 0 rfl cs.toList _ hB.c hu rfl hi ?_) | (go_at_call 27; refine (hK.out _ ht1).mono ?_; rintro e w1 ⟨rfl, hb1⟩; replace hB := hB.keep hb1))
    go_ret
    exact ⟨rfl, hB.bl⟩
/-- The registers that an instruction reads: ascending, once, without 0. -/
def readsP (i : InsnV) : List Int := (Lib.compact (sortI (if i.op = 64 then [10, 17] else [i.rs1, i.rs2]))).filter fun x => !(x == 0)
theorem HB.new (w W : World) (a b : Int) (h : Below w.heap.size w W) : HB w W.heap.size [a, b] (W.alloc (.cells #[.int .i64 a, .int .i64 b] 3)) :=
  ⟨fun j hj => by
    rcases j with _ | _ | j
    · exact ⟨by rw [World.cell?_alloc_new]; rfl, by simp [go_sem]⟩
    · exact ⟨by rw [World.cell?_alloc_new]; rfl, by simp [go_sem]⟩
    · simp at hj; omega, h.alloc h.size _, by simp, h.size⟩
def ReadsPost (w : World) (l : List Int) (e : Ending) (w' : World) : Prop := ∃ v, e = .returned v ∧ RL w' w'.heap.size v l ∧ Below w.heap.size w w'
set_option maxRecDepth 100000 in
set_option maxHeartbeats 4000000 in
theorem Reads_plain1 (i : InsnV) (hop : i.op ≤ 9223372036854775807) (hc : checkE i = 0) (h64 : i.op ≠ 64) (w : World) (ht : Tabs w) :
    Calls Tryz.prog 35 #[.agg i.cells] w (ReadsPost w (readsP i)) := by
  have hB := XB.start w i.cells.toList 23
  rw [Array.toArray_toList] at hB
  have hu := Tryz.underlying23
  have hi : (Tryz.prog.info? 23).map (·.size) = some i.cells.toList.length := by kernel_rfl
  have ht1 := ht.later ((Below.refl _ w).alloc (Nat.le_refl _) (.cells i.cells 23)) (Nat.le_refl _)
  have hK := Lib.hid (fun W hW => Check_any i hop W hW)
  have h0 : Hid (∀ W, XB w i.cells.toList W → W.cell? ⟨w.heap.size, 0, none⟩ = some (.int .i64 i.op)) := Lib.hid fun W hW => hW.at 0 _ rfl
  have h2 : Hid (∀ W, XB w i.cells.toList W → W.cell? ⟨w.heap.size, 2, none⟩ = some (.int .i64 i.rs1)) := Lib.hid fun W hW => hW.at 2 _ rfl
  have h3 : Hid (∀ W, XB w i.cells.toList W → W.cell? ⟨w.heap.size, 3, none⟩ = some (.int .i64 i.rs2)) := Lib.hid fun W hW => hW.at 3 _ rfl
  have hr : readsP i = (Lib.compact (sortI [i.rs1, i.rs2])).filter fun x => !(x == 0) := by unfold readsP; rw [if_neg h64]
  have t64 : (i.op == 64) = false := by rw [beq_eq_false_iff_ne]; exact h64
  rw [hc] at hK
  rw [hr]
  generalize i.rs1 = a at h2 ⊢
  generalize i.rs2 = b at h3 ⊢
  generalize i.op = op at h0 t64
  clear hop ht hc h64 hr
  generalize i.cells = cs at *
  have hl1 : (sortI [a, b]).length = 2 := sortI_len _
  have hl2 : (Lib.compact (sortI [a, b])).length ≤ 2 := by have := compact_le (sortI [a, b]); omega
  have hl3 : ((Lib.compact (sortI [a, b])).filter fun x => !(x == 0)).length ≤ 2 := Nat.le_trans (List.length_filter_le _ _) hl2
  generalize hL1 : sortI [a, b] = l1 at *
  generalize hL2 : Lib.compact l1 = l2 at *
  generalize hL3 : (l2.filter fun x => !(x == 0)) = l3 at *
  replace hL1 := Lib.hid hL1
  replace hL2 := Lib.hid hL2
  replace hL3 := Lib.hid hL3
  replace hl1 := Lib.hid hl1
  go_enter Tryz.func35, Tryz.ntmps35
  go_upto_region 4 with (first | (refine wpList_load_mid rfl 23 _ rfl w.heap.size 0 rfl cs.toList _ hB.c hu rfl hi ?_) | (go_at_call 27; refine (hK.out _ ht1).mono ?_; rintro e w1 ⟨rfl, hb1⟩; replace hB := hB.keep hb1; have c2 := h2.out _ hB; have c3 := h3.out _ hB))
  have hB2 := hB.keep ((Below.refl _ w1).alloc (Nat.le_refl _) (.cells #[.int .i64 a, .int .i64 b] 3))
  have c0 := h0.out _ hB2
  have hH := HB.new w w1 a b hB.bl
  generalize w1.alloc (.cells #[.int .i64 a, .int .i64 b] 3) = W2 at hB2 c0 hH ⊢
  generalize w1.heap.size = g at hH ⊢
  clear hB c2 c3 h0 h2 h3 hb1
  have hS := Lib.hid (Sort_HB w W2 g 2 2 [a, b] hH rfl (by decide))
  rw [hL1.out] at hS
  go_wp2_with (first | (go_at_call 93; refine hS.out.mono ?_; rintro e w4 ⟨rfl, hH4⟩; have hC := Lib.hid (Compact_HB w w4 g 2 2 l1 hH4 hl1.out (by decide) (by decide)); rw [hL2.out] at hC) | (go_at_call 95; refine hC.out.mono ?_; rintro e w5 ⟨rfl, hH5⟩; have hD := Lib.hid (Delete_HB w w5 g l2.length 2 l2 hH5 rfl (by omega) hl2); rw [hL3.out] at hD) | (go_at_call 94; refine hD.out.mono ?_; rintro e w6 ⟨rfl, hH6⟩))
  go_ret
  exact ⟨_, rfl, hH6.rl 2 hl3 (by simp [maxLen]), hH6.bl⟩
set_option maxRecDepth 100000 in
set_option maxHeartbeats 4000000 in
theorem Reads_call1 (i : InsnV) (hop : i.op ≤ 9223372036854775807) (hc : checkE i = 0) (h64 : i.op = 64) (w : World) (ht : Tabs w) :
    Calls Tryz.prog 35 #[.agg i.cells] w (ReadsPost w (readsP i)) := by
  have hB := XB.start w i.cells.toList 23
  rw [Array.toArray_toList] at hB
  have hu := Tryz.underlying23
  have hi : (Tryz.prog.info? 23).map (·.size) = some i.cells.toList.length := by kernel_rfl
  have ht1 := ht.later ((Below.refl _ w).alloc (Nat.le_refl _) (.cells i.cells 23)) (Nat.le_refl _)
  have hK := Lib.hid (fun W hW => Check_any i hop W hW)
  have h0 : Hid (∀ W, XB w i.cells.toList W → W.cell? ⟨w.heap.size, 0, none⟩ = some (.int .i64 64)) := Lib.hid fun W hW => by rw [← h64]; exact hW.at 0 _ rfl
  have h2 : Hid (∀ W, XB w i.cells.toList W → W.cell? ⟨w.heap.size, 2, none⟩ = some (.int .i64 i.rs1)) := Lib.hid fun W hW => hW.at 2 _ rfl
  have h3 : Hid (∀ W, XB w i.cells.toList W → W.cell? ⟨w.heap.size, 3, none⟩ = some (.int .i64 i.rs2)) := Lib.hid fun W hW => hW.at 3 _ rfl
  have hr : readsP i = (Lib.compact (sortI [10, 17])).filter fun x => !(x == 0) := by unfold readsP; rw [if_pos h64]
  rw [hc] at hK
  rw [hr]
  generalize i.rs1 = a at h2
  generalize i.rs2 = b at h3
  clear hop ht hc h64 hr
  generalize i.cells = cs at *
  have hl1 : (sortI [10, 17]).length = 2 := sortI_len _
  have hl2 : (Lib.compact (sortI [10, 17])).length ≤ 2 := by have := compact_le (sortI [10, 17]); omega
  have hl3 : ((Lib.compact (sortI [10, 17])).filter fun x => !(x == 0)).length ≤ 2 := Nat.le_trans (List.length_filter_le _ _) hl2
  generalize hL1 : sortI [10, 17] = l1 at *
  generalize hL2 : Lib.compact l1 = l2 at *
  generalize hL3 : (l2.filter fun x => !(x == 0)) = l3 at *
  replace hL1 := Lib.hid hL1
  replace hL2 := Lib.hid hL2
  replace hL3 := Lib.hid hL3
  replace hl1 := Lib.hid hl1
  go_enter Tryz.func35, Tryz.ntmps35
  go_upto_region 4 with (first | (refine wpList_load_mid rfl 23 _ rfl w.heap.size 0 rfl cs.toList _ hB.c hu rfl hi ?_) | (go_at_call 27; refine (hK.out _ ht1).mono ?_; rintro e w1 ⟨rfl, hb1⟩; replace hB := hB.keep hb1; have c2 := h2.out _ hB; have c3 := h3.out _ hB))
  have hB2 := hB.keep ((Below.refl _ w1).alloc (Nat.le_refl _) (.cells #[.int .i64 a, .int .i64 b] 3))
  have c0 := h0.out _ hB2
  have hBl2 := hB2.bl
  generalize w1.alloc (.cells #[.int .i64 a, .int .i64 b] 3) = W2 at hB2 c0 hBl2 ⊢
  generalize w1.heap.size = g1
  clear hB c2 c3 h0 h2 h3 hb1
  go_upto_region 6 with fail
  have hH := HB.new w W2 10 17 hBl2
  generalize W2.alloc (.cells #[.int .i64 10, .int .i64 17] 3) = W3 at hH ⊢
  generalize W2.heap.size = g at hH ⊢
  have hS := Lib.hid (Sort_HB w W3 g 2 2 [10, 17] hH rfl (by decide))
  rw [hL1.out] at hS
  go_wp2_with (first | (go_at_call 93; refine hS.out.mono ?_; rintro e w4 ⟨rfl, hH4⟩; have hC := Lib.hid (Compact_HB w w4 g 2 2 l1 hH4 hl1.out (by decide) (by decide)); rw [hL2.out] at hC) | (go_at_call 95; refine hC.out.mono ?_; rintro e w5 ⟨rfl, hH5⟩; have hD := Lib.hid (Delete_HB w w5 g l2.length 2 l2 hH5 rfl (by omega) hl2); rw [hL3.out] at hD) | (go_at_call 94; refine hD.out.mono ?_; rintro e w6 ⟨rfl, hH6⟩))
  go_ret
  exact ⟨_, rfl, hH6.rl 2 hl3 (by simp [maxLen]), hH6.bl⟩
set_option maxRecDepth 100000 in
set_option maxHeartbeats 2000000 in
theorem Reads_no (i : InsnV) (hop : i.op ≤ 9223372036854775807) (hc : checkE i ≠ 0) (w : World) (ht : Tabs w) :
    Calls Tryz.prog 35 #[.agg i.cells] w (ReadsPost w []) := by
  have hB := XB.start w i.cells.toList 23
  rw [Array.toArray_toList] at hB
  have hu := Tryz.underlying23
  have hi : (Tryz.prog.info? 23).map (·.size) = some i.cells.toList.length := by kernel_rfl
  have ht1 := ht.later ((Below.refl _ w).alloc (Nat.le_refl _) (.cells i.cells 23)) (Nat.le_refl _)
  have hK := Lib.hid (fun W hW => Check_any i hop W hW)
  have h2 : checkE i = 2 := by unfold checkE at hc ⊢; cases hk : checkOk i <;> simp_all
  rw [h2] at hK
  clear hop ht hc h2
  generalize i.cells = cs at *
  go_enter Tryz.func35, Tryz.ntmps35
  go_wp2_with (first | (refine wpList_load_mid rfl 23 _ rfl w.heap.size 0 rfl cs.toList _ hB.c hu rfl hi ?_) | (go_at_call 27; refine (hK.out _ ht1).mono ?_; rintro e w1 ⟨rfl, hb1⟩; replace hB := hB.keep hb1))
  go_ret
  exact ⟨_, rfl, RL.nil _ _, hB.bl⟩
/-- insn.Reads, whatever the instruction. -/
theorem IReads_any (i : InsnV) (hop : i.op ≤ 9223372036854775807) (w : World) (ht : Tabs w) :
    Calls Tryz.prog 35 #[.agg i.cells] w (ReadsPost w (if checkE i = 0 then readsP i else [])) := by
  by_cases hc : checkE i = 0
  · rw [if_pos hc]
    by_cases h : i.op = 64
    · exact Reads_call1 i hop hc h w ht
    · exact Reads_plain1 i hop hc h w ht
  · rw [if_neg hc]; exact Reads_no i hop hc w ht
theorem ms2 (a b : Int) : sortI [a, b] = if a ≤ b then [a, b] else [b, a] := by
  unfold sortI
  simp [List.mergeSort, List.MergeSort.Internal.splitInTwo, List.merge]
end Go.Proofs.YtdbpnbmaineniaaGreatDoor
