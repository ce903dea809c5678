/- The walks of taint.New and the law's start. Conditions: none. -/
import Derived.Test.YtebeajnaamglkaaDoorTntSb
import Derived.Test.YtebeajnaamglkaaDoorTntSm
import Derived.Test.YtebeajnaamglkaaDoorTntLp
set_option linter.unusedSimpArgs false
set_option linter.unusedVariables false
namespace Go.Proofs.YtebeajnaamglkaaDoor
open Go.RowKit
theorem zeroTS (w : World) (P : Nat → Prop) : TS w P zeroTL zeroT := ⟨rfl, rfl, fun j v l h1 h2 => by
  unfold zeroTL at h1
  unfold zeroT at h2
  rw [List.getElem?_replicate] at h1 h2
  by_cases hj : j < 33
  · rw [if_pos hj] at h1 h2; cases h1; cases h2; exact RP.nil _ _
  · rw [if_neg hj] at h1; cases h1⟩
set_option maxRecDepth 100000 in
theorem New_any (w : World) : Calls Tryd.prog 8 #[] w fun e w' => e = .returned (.agg zeroTL.toArray) ∧ Below w.heap.size w w' := by
  have hu := Tryd.underlying27
  obtain ⟨-, hz, hb, -⟩ := new_block w #[.slice none 0 0, .slice none 0 0, .slice none 0 0, .slice none 0 0, .slice none 0 0, .slice none 0 0, .slice none 0 0, .slice none 0 0, .slice none 0 0, .slice none 0 0, .slice none 0 0, .slice none 0 0, .slice none 0 0, .slice none 0 0, .slice none 0 0, .slice none 0 0, .slice none 0 0, .slice none 0 0, .slice none 0 0, .slice none 0 0, .slice none 0 0, .slice none 0 0, .slice none 0 0, .slice none 0 0, .slice none 0 0, .slice none 0 0, .slice none 0 0, .slice none 0 0, .slice none 0 0, .slice none 0 0, .slice none 0 0, .slice none 0 0, .slice none 0 0] 27
  go_enter Tryd.func8, Tryd.ntmps8
  go_upto_region 1 with fail
  generalize w.alloc _ = W1 at hz hb ⊢
  go_wp2_with (refine wpList_store_mid rfl 27 _ _ rfl w.heap.size 0 zeroTL.toArray rfl rfl (fun j hj => hz j hj) size_taint zeroTL_one ?_; change wpList _ _ _ _ _ (World.setCells _ w.heap.size 0 zeroTL); have r6 := World.rangeAt_setCells_same W1 w.heap.size 0 zeroTL (fun j hj => hz j hj); have hb6 := tn_below (Nat.le_refl w.heap.size) zeroTL 0 _ hb; generalize World.setCells W1 w.heap.size 0 zeroTL = w8 at r6 hb6 ⊢)
  have hl6 := run_loadVar_mid w8 w.heap.size 0 27 zeroTL _ r6 hu rfl size_taint
  exact bodyPost_ret (v := .agg zeroTL.toArray) (res_cell_mid Tryd.results8 _ _ _ _ rfl hl6) rfl ⟨rfl, hb6⟩
theorem lit_rp {W : World} (n : Int) (b : Nat) (lo : Nat) (h : W.cell? ⟨b, 0, none⟩ = some (.int .i64 n)) (hl : lo ≤ b) (hb : b < W.heap.size) : RP W (fun x => lo ≤ x) (.slice (some ⟨b, 0, none⟩) 1 1) [n] :=
  ⟨⟨_, 1, rfl, Nat.le_refl _, by simp [maxLen], .inr ⟨b, 0, rfl, hl, hb, fun j x hx => by rcases j with _ | j <;> simp at hx ⊢; rw [← hx]; exact h⟩⟩⟩
set_option maxRecDepth 100000 in
set_option maxHeartbeats 4000000 in
theorem start_any (w : World) : Calls Tryd.prog 23 #[] w (OwnPost w startT) := by
  have hu := Tryd.underlying27
  obtain ⟨-, hz, hb, hsz⟩ := new_block w #[.slice none 0 0, .slice none 0 0, .slice none 0 0, .slice none 0 0, .slice none 0 0, .slice none 0 0, .slice none 0 0, .slice none 0 0, .slice none 0 0, .slice none 0 0, .slice none 0 0, .slice none 0 0, .slice none 0 0, .slice none 0 0, .slice none 0 0, .slice none 0 0, .slice none 0 0, .slice none 0 0, .slice none 0 0, .slice none 0 0, .slice none 0 0, .slice none 0 0, .slice none 0 0, .slice none 0 0, .slice none 0 0, .slice none 0 0, .slice none 0 0, .slice none 0 0, .slice none 0 0, .slice none 0 0, .slice none 0 0, .slice none 0 0, .slice none 0 0] 27
  have hNew := Lib.hid (fun W => New_any W)
  go_enter Tryd.func23, Tryd.ntmps23
  go_upto_region 1 with fail
  generalize w.alloc _ = W1 at hz hb hsz ⊢
  replace hsz := Lib.hid hsz
  go_upto_region 2 with (first | (go_at_call 8; refine (hNew.out _).mono ?_; rintro e w2 ⟨rfl, hb2⟩; obtain ⟨-, hy, hby, hsy⟩ := new_block w2 #[.slice none 0 0, .slice none 0 0, .slice none 0 0, .slice none 0 0, .slice none 0 0, .slice none 0 0, .slice none 0 0, .slice none 0 0, .slice none 0 0, .slice none 0 0, .slice none 0 0, .slice none 0 0, .slice none 0 0, .slice none 0 0, .slice none 0 0, .slice none 0 0, .slice none 0 0, .slice none 0 0, .slice none 0 0, .slice none 0 0, .slice none 0 0, .slice none 0 0, .slice none 0 0, .slice none 0 0, .slice none 0 0, .slice none 0 0, .slice none 0 0, .slice none 0 0, .slice none 0 0, .slice none 0 0, .slice none 0 0, .slice none 0 0, .slice none 0 0] 27; replace hsy := Lib.hid hsy) | (refine wpList_store_mid rfl 27 _ _ rfl w2.heap.size 0 zeroTL.toArray rfl rfl (fun j hj => hy j hj) size_taint zeroTL_one ?_; change wpList _ _ _ _ _ (World.setCells _ w2.heap.size 0 zeroTL); generalize World.alloc _ _ = W3 at hy hby hsy ⊢; have r3 := World.rangeAt_setCells_same W3 w2.heap.size 0 zeroTL (fun j hj => hy j hj); have hy3 := World.there_setCells hy w2.heap.size 0 zeroTL; have hb3 := tn_below (Nat.le_refl w2.heap.size) zeroTL 0 _ hby; have hs3 := tn_size w2.heap.size zeroTL 0 W3; generalize World.setCells W3 w2.heap.size 0 zeroTL = w3 at r3 hy3 hb3 hs3 ⊢))
  have hl2 : w.heap.size < w2.heap.size := by have := hb2.size; rw [hsz.out] at this; omega
  have hl3 : w3.heap.size = w2.heap.size + 1 := by rw [hs3, hsy.out]
  have hz3 : w3.there w.heap.size 0 33 := tn_there (tn_there hz (by rw [hsz.out]; omega) hb2) hl2 hb3
  have hb03 : Below w.heap.size w w3 := (hb.trans (hb2.mono (by rw [hsz.out]; omega))).trans (hb3.mono (by omega))
  have c5 : w3.cell? ⟨w2.heap.size, 5, none⟩ = some (.slice none 0 0) := by have := r3 5 _ rfl; rwa [Nat.zero_add] at this
  have c6 : w3.cell? ⟨w2.heap.size, 6, none⟩ = some (.slice none 0 0) := by have := r3 6 _ rfl; rwa [Nat.zero_add] at this
  have f5 : w3.frozen? ⟨w2.heap.size, 5, none⟩ = false := by have := (hy3 5 (by decide)).2; rwa [Nat.zero_add] at this
  have f6 : w3.frozen? ⟨w2.heap.size, 6, none⟩ = false := by have := (hy3 6 (by decide)).2; rwa [Nat.zero_add] at this
  have hlt3 : w2.heap.size < w3.heap.size := by omega
  have hne3 : w2.heap.size ≠ w3.heap.size := by omega
  have hne4 : w2.heap.size ≠ w3.heap.size + 1 := by omega
  clear hs3
  have hl4 := Lib.hid hl3
  clear hl3
  obtain ⟨q1, -, q3, q4⟩ := new_block w3 #[.int .i64 3] 3
  obtain ⟨p1, -, p3, p4⟩ := new_block (w3.alloc (.cells #[.int .i64 3] 3)) #[.int .i64 4] 3
  have hb4 := Lib.hid (q3.trans (p3.mono (by rw [q4]; omega)))
  clear q1 q3 q4 p1 p3 p4
  go_upto_region 3 with fail
  have r4 := tn_set (tn_set r3 (show 5 < zeroTL.length by decide) (.slice (some ⟨w3.heap.size, 0, none⟩) 1 1)) (show 6 < (zeroTL.set 5 _).length by rw [List.length_set]; decide) (.slice (some ⟨w3.heap.size + 1, 0, none⟩) 1 1)
  have hz4 := World.there_setCells (World.there_setCells hz3 w2.heap.size 5 [.slice (some ⟨w3.heap.size, 0, none⟩) 1 1]) w2.heap.size 6 [.slice (some ⟨w3.heap.size + 1, 0, none⟩) 1 1]
  have hb5 := (hb03.setCell (p := ⟨w2.heap.size, 5, none⟩) (Nat.le_of_lt hl2) (.slice (some ⟨w3.heap.size, 0, none⟩) 1 1)).setCell (p := ⟨w2.heap.size, 6, none⟩) (Nat.le_of_lt hl2) (.slice (some ⟨w3.heap.size + 1, 0, none⟩) 1 1)
  have hs5 : ((w3.setCell ⟨w2.heap.size, 5, none⟩ (.slice (some ⟨w3.heap.size, 0, none⟩) 1 1)).setCell ⟨w2.heap.size, 6, none⟩ (.slice (some ⟨w3.heap.size + 1, 0, none⟩) 1 1)).heap.size = w3.heap.size := by simp
  change World.there ((w3.setCell ⟨w2.heap.size, 5, none⟩ (.slice (some ⟨w3.heap.size, 0, none⟩) 1 1)).setCell ⟨w2.heap.size, 6, none⟩ (.slice (some ⟨w3.heap.size + 1, 0, none⟩) 1 1)) _ _ _ at hz4
  generalize (w3.setCell ⟨w2.heap.size, 5, none⟩ (.slice (some ⟨w3.heap.size, 0, none⟩) 1 1)).setCell ⟨w2.heap.size, 6, none⟩ (.slice (some ⟨w3.heap.size + 1, 0, none⟩) 1 1) = w5 at r4 hz4 hb5 hs5 ⊢
  have hl5 : w5.heap.size = w2.heap.size + 1 := by rw [hs5, hl4.out]
  obtain ⟨q1, -, q3, q4⟩ := new_block w5 #[.int .i64 3] 3
  generalize w5.alloc (.cells #[.int .i64 3] 3) = w6 at *
  obtain ⟨p1, -, p3, p4⟩ := new_block w6 #[.int .i64 4] 3
  generalize w6.alloc (.cells #[.int .i64 4] 3) = w7 at *
  have hb57 := q3.trans (p3.mono (by rw [q4]; omega))
  have r7 := tn_range r4 (by omega) hb57
  have hz7 := tn_there hz4 (by omega) hb57
  have hb7 := hb5.trans (hb57.mono (by omega))
  have e5 : w7.cell? ⟨w3.heap.size, 0, none⟩ = some (.int .i64 3) := by
    rw [p3.cell (p := ⟨w3.heap.size, 0, none⟩) (by rw [q4, hs5]; exact Nat.lt_succ_self _), ← hs5]; have := q1 0 _ rfl; rwa [Nat.zero_add] at this
  have e6 : w7.cell? ⟨w3.heap.size + 1, 0, none⟩ = some (.int .i64 4) := by
    rw [← hs5, ← q4]; have := p1 0 _ rfl; rwa [Nat.zero_add] at this
  have hTS : TS w7 (fun b => w2.heap.size + 1 ≤ b) ((zeroTL.set 5 (.slice (some ⟨w3.heap.size, 0, none⟩) 1 1)).set 6 (.slice (some ⟨w3.heap.size + 1, 0, none⟩) 1 1)) startT :=
    ((zeroTS w7 _).set 5 _ [3] (lit_rp 3 _ _ e5 (by rw [hl4.out]; exact Nat.le_refl _) (by omega))).set 6 _ [4] (lit_rp 4 _ _ e6 (by rw [hl4.out]; omega) (by omega))
  clear q1 q3 q4 p1 p3 p4 e5 e6 hb57 hb5 hz4 r4 hs5 hl5
  generalize (zeroTL.set 5 _).set 6 _ = cs' at r7 hTS
  have hlc := Lib.hid hTS.lc
  have hs1 : Hid ((Tryd.prog.info? 27).map (·.size) = some cs'.length) := Lib.hid (by rw [hTS.lc]; exact size_taint)
  have h1c : Hid (cs'.toArray.all (·.oneCell') = true) := Lib.hid (all_oneCell_toArray hTS.one)
  go_wp2_with (first | (refine wpList_load_mid rfl 27 _ rfl w2.heap.size 0 rfl cs' _ r7 hu rfl hs1.out ?_) | (refine wpList_store_mid rfl 27 _ _ rfl w.heap.size 0 cs'.toArray rfl rfl (fun j hj => hz7 j (by rw [List.size_toArray, hlc.out] at hj; exact hj)) (by rw [List.size_toArray]; exact hs1.out) h1c.out ?_; generalize hW9 : w7.setCells w.heap.size 0 cs'.toArray.toList = w9; replace hW9 := Lib.hid hW9))
  have hr9 : w9.rangeAt w.heap.size 0 cs' := by rw [← hW9.out]; exact World.rangeAt_setCells_same _ _ _ _ (by rw [hlc.out]; exact hz7)
  have hlv := run_loadVar_mid w9 w.heap.size 0 27 cs' _ hr9 hu rfl hs1.out
  exact bodyPost_ret (v := .agg cs'.toArray) (res_cell_mid Tryd.results23 _ _ _ _ rfl hlv) rfl ⟨cs', rfl, by rw [← hW9.out]; exact (hTS.cells _ _ _ (by omega)).mono fun b hb => by omega, by rw [← hW9.out]; exact tn_below (Nat.le_refl _) _ _ _ hb7⟩
end Go.Proofs.YtebeajnaamglkaaDoor
