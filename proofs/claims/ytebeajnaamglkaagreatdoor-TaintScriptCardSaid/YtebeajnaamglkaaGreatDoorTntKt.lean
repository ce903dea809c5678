/- The walks of fencepostkit.Own[int], fencepostkit.OwnTaint, and of the law's light, rising and same. Conditions: the lists are not longer than a hundred thousand numbers. -/
import Derived.Test.YtebeajnaamglkaaGreatDoorTntSe
import Derived.Test.YtebeajnaamglkaaGreatDoorTntLc
set_option linter.unusedSimpArgs false
set_option linter.unusedVariables false
namespace Go.Proofs.YtebeajnaamglkaaGreatDoor
open Go.RowKit
set_option maxRecDepth 100000 in
set_option maxHeartbeats 4000000 in
theorem KOwn_any (v : Value) (l : List Int) (w : World) (h : RL w w.heap.size v l) (hn : l.length ≤ 1000000) :
    Calls Tryz.prog 22 #[v] w (NewRL w l) := by
  obtain ⟨A, c, rfl, a1, a2, a3⟩ := h.form
  have hown : (w.alloc (.cells #[] 3)).ownsRow w.heap.size 3 1 (.slice (some ⟨w.heap.size, 0, none⟩) 0 0) ([] : List Int).length (([] : List Int).map (Value.int .i64)) := World.ownsRow_lit w #[] 0 (Nat.le_refl _) (Nat.zero_le _) rfl
  have hb0 : Below w.heap.size w (w.alloc (.cells #[] 3)) := (Below.refl _ _).alloc (Nat.le_refl _) _
  obtain ⟨v', w', hr, ho, hg, -⟩ := run_app (w := w.alloc (.cells #[] 3)) 25 (.slice (some ⟨w.heap.size, 0, none⟩) 0 0) [] l A c hown hb0.size (by simpa using hn) (a3.imp id fun ⟨b, o, e, hb, hc⟩ => ⟨b, o, e, fun j x hx => (hb0.cell (p := ⟨b, o + j, none⟩) hb).trans (hc j x hx)⟩)
  have hB : Below w.heap.size w w' := hb0.grown hg hb0.size (fun k hk => (hown.lt k hk).1)
  rw [List.nil_append] at ho
  have hR : RP w' (fun b => w.heap.size ≤ b) v' l := RP.of_own ho rfl
  obtain ⟨ao, cap, rfl, -⟩ := own_slice2 ho
  replace hr := Lib.hid hr
  clear h a1 a2 a3 hown hb0 ho hg
  go_enter Tryz.func22, Tryz.ntmps22
  go_wp2_with (at_builtin; refine wpList_app rfl (.tmp 3) (.tmp 4) 25 rfl _ _ _ rfl rfl hr.out ?_)
  go_ret
  exact ⟨⟨_, rfl, hR⟩, hB⟩
set_option maxRecDepth 100000 in
set_option maxHeartbeats 8000000 in
/-- fencepostkit.OwnTaint, whatever the taint. -/
theorem KOwnTaint_any (cs : List Value) (T : List (List Int)) (P : Nat → Prop) (w : World) (h : TS w P cs T) (hlen : ∀ l ∈ T, l.length ≤ 100000) :
    Calls Tryz.prog 15 #[.agg cs.toArray] w (OwnPost w T) := by
  have hlc := h.lc
  have hu := Tryz.underlying28
  have hrow : Hid (∀ k, k < 33 → ∃ l, T[k]? = some l ∧ l.length ≤ 100000) := Lib.hid fun k hk => by
    obtain ⟨v, l, h1, h2, -, h4⟩ := h.get k hk
    exact ⟨l, h2, hlen l (List.mem_of_getElem? h2)⟩
  obtain ⟨hOW, hr1⟩ := OW.start w cs T P #[.slice none 0 0, .slice none 0 0, .slice none 0 0, .slice none 0 0, .slice none 0 0, .slice none 0 0, .slice none 0 0, .slice none 0 0, .slice none 0 0, .slice none 0 0, .slice none 0 0, .slice none 0 0, .slice none 0 0, .slice none 0 0, .slice none 0 0, .slice none 0 0, .slice none 0 0, .slice none 0 0, .slice none 0 0, .slice none 0 0, .slice none 0 0, .slice none 0 0, .slice none 0 0, .slice none 0 0, .slice none 0 0, .slice none 0 0, .slice none 0 0, .slice none 0 0, .slice none 0 0, .slice none 0 0, .slice none 0 0, .slice none 0 0, .slice none 0 0] 28 h rfl
  go_enter Tryz.func15, Tryz.ntmps15
  go_upto_region 1 with fail
  generalize (w.alloc (.cells cs.toArray 28)).alloc _ = W1 at hOW ⊢
  clear hr1 h hlen
  go_wp2_with fail
  go_loopw [3] (fun i wr => ∃ k : Nat, k ≤ 32 ∧ i = .int .i64 k ∧ OW w wr k T) (fun i _ => 32 - (intOf i).toNat)
  case atStart => exact ⟨0, Nat.zero_le _, rfl, hOW⟩
  case round =>
    obtain ⟨k, hk, rfl, hW⟩ := hrel
    by_cases hlt : k < 32
    · obtain ⟨l, e2, e4⟩ := hrow.out k (by omega)
      obtain ⟨cs', b1, b2, b3⟩ := hW.box
      obtain ⟨v, l', f1, f2, -, f3⟩ := b2.get k (by omega)
      obtain rfl : l = l' := Option.some.inj (e2.symm.trans f2)
      have ck : wr.cell? ⟨w.heap.size, k, none⟩ = some v := by have := b1 k v f1; rwa [Nat.zero_add] at this
      have hCl := Lib.hid (KOwn_any v l wr f3.rl (by omega))
      have hd : decide ((k : Int) < 32) = true := by simp; omega
      replace e2 := Lib.hid e2
      replace hlc := Lib.hid hlc
      clear b1 b2 b3 f1 f2 f3
      go_wp2_with (go_at_call 22; (with_reducible refine hCl.out.mono ?_); rintro e w4 ⟨⟨v', rfl, hr⟩, hb4⟩; obtain ⟨A', c', hve, -⟩ := hr.form; obtain rfl := hve; have hW4 := hW.keep hb4; have c4 := hW4.old k (by omega); obtain ⟨x4, c4⟩ := c4; have f4 := hW4.thaw k (by omega))
      have hW5 := hW4.put e2.out (hr.mono fun b hb => by have := hW.lt; omega)
      go_roundw
      case rel => exact ⟨k + 1, by omega, by go_num, hW5⟩
      case measure => simp [intOf]; omega
    · obtain rfl : k = 32 := by omega
      obtain ⟨cs', r1, r2, r3⟩ := hW.box
      obtain ⟨v, l, e1, e2, -, e3⟩ := r2.get 32 (by decide)
      obtain ⟨l9, e9, e4⟩ := hrow.out 32 (by decide)
      obtain rfl : l = l9 := Option.some.inj (e2.symm.trans e9)
      have c32 : wr.cell? ⟨w.heap.size, 32, none⟩ = some v := by have := r1 32 v e1; rwa [Nat.zero_add] at this
      have hCl := Lib.hid (KOwn_any v l wr e3.rl (by omega))
      have hd : decide (((32 : Nat) : Int) < 32) = false := by simp
      replace e2 := Lib.hid e2
      clear e1 e3 e9 r1 r2 r3
      go_upto_region 5 with fail
      go_upto_region 6 with (go_at_call 22; (with_reducible refine hCl.out.mono ?_); rintro e w4 ⟨⟨v', rfl, hr⟩, hb4⟩; obtain ⟨A', c', hve, -⟩ := hr.form; obtain rfl := hve; have hW4 := hW.keep hb4; have c4 := hW4.old 32 (by decide); obtain ⟨x4, c4⟩ := c4; have f4 := hW4.thaw 32 (by decide))
      have hW5 := hW4.put e2.out (hr.mono fun b hb => by have := hW.lt; omega)
      generalize w4.setCell ⟨w.heap.size, 32, none⟩ _ = w5 at hW5 ⊢
      obtain ⟨cs', r1, r2, r3⟩ := hW5.box
      have hz := hW5.z
      have hlc2 := Lib.hid r2.lc
      have hs1 : Hid ((Tryz.prog.info? 28).map (·.size) = some cs'.length) := Lib.hid (by rw [r2.lc]; exact size_taint)
      have hs2 : Hid ((Tryz.prog.info? 28).map (·.size) = some cs'.toArray.size) := Lib.hid (by rw [List.size_toArray, r2.lc]; exact size_taint)
      have h1c : Hid (cs'.toArray.all (·.oneCell') = true) := Lib.hid (all_oneCell_toArray r2.one)
      clear hCl e4 hr c4 f4 c32 hW4 hb4 hW hrow e2
      go_wp2_with (first | (refine wpList_load_mid rfl 28 _ rfl w.heap.size 0 rfl cs' _ r1 hu rfl hs1.out ?_) | (refine wpList_store_mid rfl 28 _ _ rfl (w.heap.size + 1) 0 cs'.toArray rfl rfl (fun j hj => hz j (by rw [List.size_toArray, hlc2.out] at hj; exact hj)) hs2.out h1c.out ?_; generalize hW9 : w5.setCells (w.heap.size + 1) 0 cs'.toArray.toList = w9; replace hW9 := Lib.hid hW9))
      have hr9 : w9.rangeAt (w.heap.size + 1) 0 cs' := by
        rw [← hW9.out]
        exact World.rangeAt_setCells_same _ _ _ _ (by rw [hlc2.out]; exact hz)
      have hlv := run_loadVar_mid w9 (w.heap.size + 1) 0 28 cs' _ hr9 hu rfl hs1.out
      refine bodyPost_ret (v := .agg cs'.toArray) (res_cell_mid Tryz.results15 _ _ _ _ rfl hlv) rfl ⟨cs', rfl, ⟨r2.lc, r2.lt, fun j v l q1 q2 => ?_⟩, ?_⟩
      · have hj : j < 33 := by have := (List.getElem?_eq_some_iff.1 q2).1; rw [r2.lt] at this; exact this
        rw [← hW9.out]
        exact ((r3 j v l hj q1 q2).cells (w.heap.size + 1) 0 _ (by omega)).mono fun b hb => by omega
      · rw [← hW9.out]; exact tn_below (Nat.le_succ _) _ _ _ hW5.bl
/-- The law's light. -/
def lightT (T : List (List Int)) : Bool := ((List.range 32).all fun k => decide ((T.getD k []).length ≤ 60)) && decide ((T.getD 32 []).length ≤ 60)
theorem lightT_all {T : List (List Int)} (hl : T.length = 33) (h : lightT T = true) : ∀ l ∈ T, l.length ≤ 60 := fun l hm => by
  unfold lightT at h
  rw [Bool.and_eq_true] at h
  obtain ⟨j, hj, e⟩ := List.mem_iff_getElem.1 hm
  have e' : T.getD j [] = l := by rw [List.getD, List.getElem?_eq_getElem hj]; simpa using e
  by_cases h32 : j = 32
  · subst h32; rw [e'] at h; simpa using h.2
  · have := List.all_eq_true.1 h.1 j (List.mem_range.2 (by omega))
    rw [e'] at this; simpa using this
set_option maxRecDepth 100000 in
set_option maxHeartbeats 8000000 in
theorem Light_any (cs : List Value) (T : List (List Int)) (P : Nat → Prop) (w : World) (h : TS w P cs T) :
    Calls Tryz.prog 14 #[.agg cs.toArray] w fun e w' => e = .returned (.bool (lightT T)) ∧ Below w.heap.size w w' := by
  obtain ⟨a1, a2, a3, a4⟩ := new_block w cs.toArray 28
  rw [List.toList_toArray] at a1
  have hrow : Hid (∀ k, k < 33 → ∃ A c n, (w.alloc (.cells cs.toArray 28)).cell? ⟨w.heap.size, k, none⟩ = some (.slice A n c) ∧ (T.getD k []).length = n) := Lib.hid fun k hk => by
    obtain ⟨v, l, h1, h2, h3, h4⟩ := h.get k hk
    obtain ⟨A, c, rfl, -⟩ := h4.form
    exact ⟨A, c, l.length, by have := a1 k _ h1; rwa [Nat.zero_add] at this, by rw [h3]⟩
  obtain ⟨R, hR⟩ : ∃ R, lightT T = R := ⟨_, rfl⟩
  rw [hR]
  replace hR := Lib.hid hR
  have hB := Lib.hid a3
  clear a1 a2 a3 a4 h
  go_enter Tryz.func14, Tryz.ntmps14
  go_upto_region 1 with fail
  generalize w.alloc (.cells cs.toArray 28) = W1 at hrow hB ⊢
  go_wp2_with fail
  go_loopw [3] (fun i wr => ∃ k : Nat, k ≤ 32 ∧ i = .int .i64 k ∧ wr = W1 ∧ Hid (∀ j, j < k → (T.getD j []).length ≤ 60)) (fun i _ => 32 - (intOf i).toNat)
  case atStart => exact ⟨0, Nat.zero_le _, rfl, by first | rfl | trivial, Lib.hid fun j hj => absurd hj (Nat.not_lt_zero _)⟩
  case round =>
    obtain ⟨k, hk, rfl, rfl, hr⟩ := hrel
    by_cases hlt : k < 32
    · obtain ⟨A, c, n, c1, e1⟩ := hrow.out k (by omega)
      by_cases hn : n ≤ 60
      · have hr2 : Hid (∀ j, j < k + 1 → (T.getD j []).length ≤ 60) := Lib.hid fun j hj => by
          by_cases e : j = k
          · subst e; omega
          · exact hr.out j (by omega)
        replace e1 := Lib.hid e1
        have hd : decide (60 < (n : Int)) = false := by simp; omega
        have hd2 : decide (60 < n) = false := by simp; omega
        go_wp2_with fail
        go_roundw
        case rel => exact ⟨k + 1, by omega, by go_num, by first | rfl | trivial, hr2⟩
        case measure => simp [intOf]; omega
      · have hRf : Hid (R = false) := Lib.hid (by
          rw [← hR.out]; unfold lightT
          rw [Bool.and_eq_false_iff]; left
          rw [List.all_eq_false]
          exact ⟨k, List.mem_range.2 hlt, by rw [e1]; simpa using hn⟩)
        have hd : decide (60 < (n : Int)) = true := by simp; omega
        have hd2 : decide (60 < n) = true := by simp; omega
        replace e1 := Lib.hid e1
        go_wp2_with fail
        go_ret
        exact ⟨by rw [hRf.out]; rfl, hB.out⟩
    · obtain rfl : k = 32 := by omega
      obtain ⟨A, c, n, c1, e1⟩ := hrow.out 32 (by decide)
      have hRt : Hid (R = decide (n ≤ 60)) := Lib.hid (by
        rw [← hR.out]; unfold lightT
        rw [e1, List.all_eq_true.2 (fun j hj => by simpa using hr.out j (List.mem_range.1 hj)), Bool.true_and])
      replace e1 := Lib.hid e1
      go_wp2_with fail
      go_ret
      refine ⟨?_, hB.out⟩
      rw [hRt.out]
      refine ret_bool ?_
      by_cases hn : n ≤ 60
      · rw [decide_eq_true hn]; simp; omega
      · rw [decide_eq_false hn]; simp; omega
end Go.Proofs.YtebeajnaamglkaaGreatDoor
