/- The walks of insn.made and insn.Named: the table of all ops in new memory, and the number of a name. Conditions: the library's table of ASCII spaces lies as its initialiser lays it. -/
import Derived.Test.YtdbpnbmaineniaaGreatDoorNamedPl
import Derived.Test.YtdbpnbmaineniaaGreatDoorInsnKn
import Derived.Test.YtdbpnbmaineniaaGreatDoorOwn
import Derived.Great.Walk
import Derived.OrdersHeld
import Derived.Shelf.SlicesQ.IndexFunc
set_option linter.unusedSimpArgs false
set_option linter.unusedVariables false
namespace Go.Proofs.YtdbpnbmaineniaaGreatDoor
open Go.RowKit
section
set_option maxRecDepth 100000
theorem size_ops : (Tryz.prog.info? 121).map (·.size) = some (opsCells (tabK 0)).length := by kernel_rfl
theorem zero_ops : Tryz.zeroCells121 = (opsCells (tabK 0)).toArray := by kernel_rfl
end
theorem size_cells (b : Nat) : ∀ (vs : List Value) (o : Nat) (w : World), (w.setCells b o vs).heap.size = w.heap.size
  | [], _, _ => rfl
  | v :: r, o, w => by rw [World.setCells, size_cells b r]; simp
/-- The table at b, filled to op k, in a later world. -/
structure MW (w W : World) (k : Nat) : Prop where
  c : W.rangeAt w.heap.size 0 (opsCells (tabK k))
  th : W.there w.heap.size 0 440
  bl : Below w.heap.size w W
  lt : w.heap.size < W.heap.size
/-- What lies beside block b is as it was. -/
structure Fr (b : Nat) (W W' : World) : Prop where
  cell : ∀ p : Addr, p.block ≠ b → p.block < W.heap.size → W'.cell? p = W.cell? p
  sz : W.heap.size ≤ W'.heap.size
theorem Fr.refl (b : Nat) (W : World) : Fr b W W := ⟨fun _ _ _ => rfl, Nat.le_refl _⟩
theorem Fr.trans {b : Nat} {W W' W'' : World} (h : Fr b W W') (g : Fr b W' W'') : Fr b W W'' :=
  ⟨fun p h1 h2 => (g.cell p h1 (Nat.lt_of_lt_of_le h2 h.sz)).trans (h.cell p h1 h2), Nat.le_trans h.sz g.sz⟩
theorem Fr.below {b : Nat} {W W' : World} (h : Below W.heap.size W W') : Fr b W W' := ⟨fun p _ h2 => h.cell (p := p) h2, h.size⟩
theorem Fr.cells (b o : Nat) (vs : List Value) (W : World) : Fr b W (W.setCells b o vs) :=
  ⟨fun p h1 _ => World.cell?_setCells_out b vs o W p (fun e _ => absurd e h1), by rw [size_cells]; exact Nat.le_refl _⟩
theorem MW.keep {w W W' : World} {k : Nat} (h : MW w W k) (hb : Below W.heap.size W W') : MW w W' k :=
  ⟨fun j v hv => by rw [hb.cell (p := ⟨w.heap.size, 0 + j, none⟩) h.lt]; exact h.c j v hv,
   fun j hj => by rw [hb.cell (p := ⟨w.heap.size, 0 + j, none⟩) h.lt, hb.frozen (p := ⟨w.heap.size, 0 + j, none⟩) h.lt]; exact h.th j hj,
   h.bl.trans (hb.mono (Nat.le_of_lt h.lt)), Nat.lt_of_lt_of_le h.lt hb.size⟩
theorem Below.setCells' {B b : Nat} {w : World} (vs : List Value) : ∀ (o : Nat) (W : World), Below B w W → B ≤ b → Below B w (W.setCells b o vs) := by
  induction vs with
  | nil => exact fun o W h _ => h
  | cons v r ih => exact fun o W h hb => ih (o + 1) _ (h.setCell hb _) hb
theorem MW.store {w W : World} {k : Nat} (h : MW w W k) (hk : k < 87) : MW w (W.setCells w.heap.size ((k + 1) * 5) (opOf ((k + 1 : Nat) : Int)).cells) (k + 1) :=
  ⟨tab_store hk h.c h.th, World.there_setCells h.th _ _ _, Below.setCells' _ _ _ h.bl (Nat.le_refl _), by rw [size_cells]; exact h.lt⟩
theorem MW.there {w W : World} {k : Nat} (h : MW w W k) (hk : k < 87) : W.there w.heap.size ((k + 1) * 5) 5 := fun i hi => by
  have := h.th ((k + 1) * 5 + i) (by omega); rw [Nat.zero_add] at this; exact this
theorem size_op : (Tryz.prog.info? 106).map (·.size) = some 5 := by kernel_rfl
/-- The result that lies in cells, however many. -/
theorem results_cell_mid {P : Program} {fn : Func} {p : Tmp} {ty : TypeId} (h : fn.results = #[.cell p ty]) (tmps : Array Value) (w : World) (b : Nat) (v : Value)
    (hp : tmps.getD p undef = .pointer (some ⟨b, 0, none⟩)) (hl : (loadVar ty ⟨b, 0, none⟩).run P w = .ok v w) : (results fn tmps).run P w = .ok v w := by
  have hp' : tmps[p]?.getD undef = .pointer (some ⟨b, 0, none⟩) := by simpa using hp
  simp [results, h, hp', asAddr, hl]
/-- strings.Fields at a row: all its names. -/
theorem fields_all (k : Nat) (h : k < 15) (W : World) (ht : Tabs W) :
    Calls Tryz.prog 137 #[.string (rowStr k)] W fun e w' => e = .returned (.slice (some ⟨W.heap.size, 0, none⟩) (rowCnt k) (rowCnt k)) ∧ (∀ j, j < rowCnt k → w'.cell? ⟨W.heap.size, j, none⟩ = some (.string ⟨(rowName k j).toArray⟩)) ∧ Below W.heap.size W w' ∧ W.heap.size < w'.heap.size := by
  have hd : (rowStr k).data.toList = rowText k := by simp [rowStr]
  refine (Tryz.strings_Fields (rowStr k) W (by have := text_len k h; omega) (fun i b hb => row_ascii k h i b (by rw [hd] at hb; exact hb)) ht.tab).mono fun e w' ⟨he, hw⟩ => ?_
  rw [hd] at he hw
  rw [row_fields k h] at he
  subst hw
  refine ⟨he, fun j hj => ?_, (Below.refl _ _).alloc (Nat.le_refl _) _, by simp⟩
  rw [World.cell?_alloc_new]
  have hlt : j < (Lib.fields (rowText k)).length := by rw [row_fields k h]; exact hj
  simp [rowName, List.getD, hlt]
/-- Known, in the table's words. -/
theorem known_tab (r j : Nat) (hr : r < 15) (hj : j < rowCnt r) (W : World) :
    Calls Tryz.prog 136 #[.string ⟨(rowName r j).toArray⟩, .int .i64 (rowForm r)] W fun e w' => e = .returned (.agg (opOf ((rowCum r + j + 1 : Nat) : Int)).cells.toArray) ∧ Below W.heap.size W w' := by
  rw [← row_op r j hr hj]
  exact known_any _ _ (row_ok r j hr hj) (name_len r j hr hj) W
set_option maxRecDepth 100000 in
set_option maxHeartbeats 8000000 in
theorem made_any (w : World) (ht : Tabs w) :
    Calls Tryz.prog 90 #[] w fun e w' => e = .returned (.agg (opsCells (tabK 87)).toArray) ∧ Below w.heap.size w w' := by
  have hM0 : MW w (w.alloc (.cells Tryz.zeroCells121 121)) 0 := by
    rw [zero_ops]; exact
    ⟨fun j v hv => by rw [World.cell?_alloc_new, Nat.zero_add]; simpa using hv,
     fun j hj => ⟨by rw [World.cell?_alloc_new]; simp [opsCells_len, tabK_len]; omega, by simp [go_sem]⟩,
     (Below.refl _ _).alloc (Nat.le_refl _) _, by simp⟩
  obtain ⟨CS, hCS⟩ : ∃ C, opsCells (tabK 87) = C := ⟨_, rfl⟩
  rw [hCS]
  replace hCS := Lib.hid hCS
  go_enter Tryz.func90, Tryz.ntmps90
  go_wp2_with (go_at_call 134; refine (rows_any _).mono ?_; rintro e w2 ⟨rfl, htx, hfm, hb2, hs2⟩; have hM2 := hM0.keep hb2)
  have hsz : (w.alloc (.cells Tryz.zeroCells121 121)).heap.size = w.heap.size + 1 := by simp
  rw [hsz] at htx hfm hs2
  have hq : w.heap.size + 1 ≠ w.heap.size := by omega
  have hs2' : w.heap.size + 1 < w2.heap.size := by omega
  have htx' : Hid (∀ k, k < 15 → w2.cell? ⟨w.heap.size + 1, k * 2, none⟩ = some (.string (rowStr k))) := Lib.hid fun k hk => by rw [Nat.mul_comm]; exact htx k hk
  have hfm' : Hid (∀ k, k < 15 → w2.cell? ⟨w.heap.size + 1, k * 2 + 1, none⟩ = some (.int .i64 (rowForm k))) := Lib.hid fun k hk => by rw [Nat.mul_comm]; exact hfm k hk
  clear htx hfm hb2 hs2 hM0 hsz
  go_loopw [1, 8] (fun at_ i wr => ∃ k : Nat, k ≤ 15 ∧ i = .int .i64 k ∧ at_ = .int .i64 ((rowCum k + 1 : Nat) : Int) ∧ MW w wr (rowCum k) ∧ Fr w.heap.size w2 wr) (fun _ i _ => 15 - (intOf i).toNat)
  case atStart => exact ⟨0, by omega, rfl, rfl, hM2, Fr.refl _ _⟩
  case round =>
    obtain ⟨k, hk, rfl, rfl, hM, hF⟩ := hrel
    obtain ⟨wq, rfl⟩ : ∃ x, x = wr := ⟨_, rfl⟩
    by_cases hlt : k < 15
    · have c0 : wq.cell? ⟨w.heap.size + 1, k * 2, none⟩ = some (.string (rowStr k)) := by rw [hF.cell ⟨w.heap.size + 1, k * 2, none⟩ hq hs2']; exact htx'.out k hlt
      have c1 : wq.cell? ⟨w.heap.size + 1, k * 2 + 1, none⟩ = some (.int .i64 (rowForm k)) := by rw [hF.cell ⟨w.heap.size + 1, k * 2 + 1, none⟩ hq hs2']; exact hfm'.out k hlt
      have hcum := row_cum k hlt
      have hFl := Lib.hid (fun W hW => fields_all k hlt W hW)
      have hc' : Hid (rowCum (k + 1) = rowCum k + rowCnt k) := Lib.hid rfl
      have hA : Below wq.heap.size wq (wq.alloc (.cells #[.string (rowStr k), .int .i64 (rowForm k)] 158)) := (Below.refl _ _).alloc (Nat.le_refl _) _
      have hM4 := hM.keep hA
      have hF4 := hF.trans (Fr.below hA)
      have hT4 := ht.later hM4.bl (Nat.le_refl _)
      have d1 : (wq.alloc (.cells #[.string (rowStr k), .int .i64 (rowForm k)] 158)).cell? ⟨wq.heap.size, 1, none⟩ = some (.int .i64 (rowForm k)) := by rw [World.cell?_alloc_new]; rfl
      have hsz4 : (wq.alloc (.cells #[.string (rowStr k), .int .i64 (rowForm k)] 158)).heap.size = wq.heap.size + 1 := by simp
      have hq5 : wq.heap.size ≠ w.heap.size := Nat.ne_of_gt hM.lt
      replace d1 := Lib.hid d1
      replace hsz4 := Lib.hid hsz4
      go_upto_region 5 with fail
      go_wp2_with (go_at_call 137; refine (hFl.out _ hT4).mono ?_; rintro e w5 ⟨rfl, hnm, hb5, hl5⟩; have hM5 := hM4.keep hb5; have hF5 := hF4.trans (Fr.below hb5))
      have e1 : w5.cell? ⟨wq.heap.size, 1, none⟩ = some (.int .i64 (rowForm k)) := (hb5.cell (p := ⟨wq.heap.size, 1, none⟩) (by rw [hsz4.out]; exact Nat.lt_succ_self _)).trans d1.out
      have hq6 : wq.heap.size < w5.heap.size := by rw [hsz4.out] at hl5; omega
      have hq7 : wq.heap.size + 1 < w5.heap.size := by rw [hsz4.out] at hl5; omega
      have hq8 : wq.heap.size + 1 ≠ w.heap.size := by have := hM.lt; omega
      rw [hsz4.out] at hnm
      replace hnm := Lib.hid hnm
      replace e1 := Lib.hid e1
      clear hA hM4 hF4 hT4 d1 hsz4 hb5 hl5 hFl c0 c1
      go_loopw [1, 16] (fun at_ i wi => ∃ j : Nat, j ≤ rowCnt k ∧ i = .int .i64 j ∧ at_ = .int .i64 ((rowCum k + j + 1 : Nat) : Int) ∧ MW w wi (rowCum k + j) ∧ Fr w.heap.size w5 wi) (fun _ i _ => rowCnt k - (intOf i).toNat)
      case atStart => exact ⟨0, by omega, rfl, rfl, hM5, Fr.refl _ _⟩
      case round =>
        obtain ⟨j, hj, rfl, rfl, hMj, hFj⟩ := hrel
        by_cases hjl : j < rowCnt k
        · have c2 : wr.cell? ⟨wq.heap.size + 1, j, none⟩ = some (.string ⟨(rowName k j).toArray⟩) := (hFj.cell ⟨wq.heap.size + 1, j, none⟩ hq8 hq7).trans (hnm.out j hjl)
          have hKn := Lib.hid (fun W => known_tab k j hlt hjl W)
          have hc2 : Hid (rowCum k + (j + 1) = rowCum k + j + 1) := Lib.hid rfl
          have hm87 : rowCum k + j < 87 := by omega
          generalize rowCum k + j = m at hKn hMj hm87 hc2 ⊢
          have hi1 : ((m : Int) + 1) < 88 := by omega
          have hO5 : (opOf ((m + 1 : Nat) : Int)).cells.length = 5 := rfl
          replace e1 := e1.out
          have e1' : wr.cell? ⟨wq.heap.size, 1, none⟩ = some (.int .i64 (rowForm k)) := (hFj.cell ⟨wq.heap.size, 1, none⟩ hq5 hq6).trans e1
          clear e1
          generalize hO : opOf ((m + 1 : Nat) : Int) = O at hKn
          replace hO := Lib.hid hO
          clear hO5
          go_wp2_with (first | (go_at_call 136; refine (hKn.out _).mono ?_; rintro e w8 ⟨rfl, hb8⟩; have hM8 := hMj.keep hb8; have hS8 := Lib.hid (hM8.store hm87)) | (refine wpList_store_mid rfl 106 _ _ rfl w.heap.size ((m + 1) * 5) O.cells.toArray rfl rfl (hM8.there hm87) size_op (all_oneCell_toArray (opCells_one O)) ?_; generalize hW : w8.setCells w.heap.size ((m + 1) * 5) O.cells.toArray.toList = w9; replace hW := Lib.hid hW))
          have hF9 : Fr w.heap.size w5 w9 := by rw [← hW.out]; exact (hFj.trans (Fr.below hb8)).trans (Fr.cells _ _ _ _)
          have hM9 : MW w w9 (m + 1) := by have := hS8.out; rw [hO.out] at this; rw [← hW.out]; exact this
          clear hS8 hM8 hb8
          go_roundw
          case rel => exact ⟨j + 1, by omega, by go_num, by rw [hc2.out]; go_num, by rw [hc2.out]; exact hM9, hF9⟩
          case measure => simp [intOf]; omega
        · obtain rfl : j = rowCnt k := by omega
          go_wp2_with fail
          go_roundw
          case rel => exact ⟨k + 1, by omega, by go_num, by rw [hc'.out], by rw [hc'.out]; exact hMj, hF5.trans hFj⟩
          case measure => simp [intOf]; omega
    · obtain rfl : k = 15 := by omega
      have hR := Lib.hid hM.c
      have hT := Lib.hid hM.th
      rw [rowCum_15] at hR
      have h4 : (opsCells (tabK 87)).toArray.size = 440 := by rw [List.size_toArray, opsCells_len, tabK_len]
      have h5 : (Tryz.prog.info? 121).map (·.size) = some (opsCells (tabK 87)).toArray.size := by rw [h4]; exact size_ops.trans (by rw [opsCells_len, tabK_len])
      have h6 : (Tryz.prog.info? 121).map (·.size) = some (opsCells (tabK 87)).length := by rw [opsCells_len, tabK_len]; exact size_ops.trans (by rw [opsCells_len, tabK_len])
      have h7 : (opsCells (tabK 87)).toArray.all (·.oneCell') = true := all_oneCell_toArray (opsCells_one _)
      have hu := Tryz.underlying121
      have hbl := hM.bl
      rw [hCS.out] at hR h4 h5 h6 h7
      replace h4 := Lib.hid h4
      go_upto_region 12 with fail
      go_wp2_with (first | (refine wpList_load_mid rfl 121 _ rfl w.heap.size 0 rfl CS _ hR.out hu rfl h6 ?_) | (refine wpList_store_mid rfl 121 _ _ rfl w.heap.size 0 CS.toArray rfl rfl (by rw [h4.out]; exact hT.out) h5 h7 ?_; generalize hW : wq.setCells w.heap.size 0 CS.toArray.toList = w9; replace hW := Lib.hid hW))
      have hr9 : w9.rangeAt w.heap.size 0 CS := by
        rw [← hW.out]
        refine World.rangeAt_setCells_same _ _ _ _ ?_
        have := hT.out
        rw [← h4.out, List.size_toArray] at this
        exact this
      have hb9 : Below w.heap.size w w9 := by rw [← hW.out]; exact Below.setCells' _ _ _ hbl (Nat.le_refl _)
      have hlv := run_loadVar_mid w9 w.heap.size 0 121 CS _ hr9 hu rfl h6
      exact bodyPost_ret (v := .agg CS.toArray) (results_cell_mid Tryz.results90 _ _ _ _ rfl hlv) rfl ⟨rfl, hb9⟩
/-- The closure of Named: is it the name? -/
theorem named1_any (O : OpInfo) (s : ByteArray) (b : Nat) (w : World) (hb : w.cell? ⟨b, 0, none⟩ = some (.string s)) :
    Calls Tryz.prog 92 (#[.agg O.cells.toArray] ++ #[.pointer (some ⟨b, 0, none⟩)]) w fun e w' => e = .returned (.bool (O.name == s.toList)) ∧ Below w.heap.size w w' := by
  obtain ⟨nm, f, l, st, z⟩ := O
  show Calls Tryz.prog 92 #[.agg #[.string ⟨nm.toArray⟩, .int .i64 f, .bool l, .bool st, .int .i64 z], .pointer (some ⟨b, 0, none⟩)] w _
  have hbl : b < w.heap.size := by
    rcases Nat.lt_or_ge b w.heap.size with h | h
    · exact h
    · simp [World.cell?, Array.getElem?_eq_none h] at hb
  have hne : b ≠ w.heap.size := Nat.ne_of_lt hbl
  go_enter Tryz.func92, Tryz.ntmps92
  go_wp2_with fail
  all_goals (go_ret; exact ⟨rfl, (Below.refl _ _).alloc (Nat.le_refl _) _⟩)
theorem tab_at (k : Nat) (h : k < 88) : (tabK 87)[k]? = some (tabK 87)[k]! := by
  rw [List.getElem!_eq_getElem?_getD, tabK_get 87 k h]; rfl
set_option maxRecDepth 100000 in
set_option maxHeartbeats 4000000 in
/-- slices.IndexFunc over the table. -/
theorem indexOps_any (b q : Nat) (s : ByteArray) (w : World) (hr : w.rangeAt b 0 (opsCells (tabK 87))) (hb : b < w.heap.size) (hq : w.cell? ⟨q, 0, none⟩ = some (.string s)) (hql : q < w.heap.size) :
    Calls Tryz.prog 91 #[.slice (some ⟨b, 0, none⟩) 88 88, .func (.func 92) #[] #[.pointer (some ⟨q, 0, none⟩)]] w fun e w' => e = .returned (.int .i64 (Lib.idxBy (fun _ (y : OpInfo) => y.name == s.toList) (tabK 87) default)) ∧ Below w.heap.size w w' := by
  have eg : ∀ args w, (callFunc 92 args).run Tryz.prog w = .ok (.enter 92 args) w := enters_of Tryz.func92 (by kernel_rfl) rfl
  have hu := Tryz.underlying106
  have h88 : (tabK 87).take 88 = tabK 87 := List.take_of_length_le (by rw [tabK_len]; exact Nat.le_refl _)
  have hrow : Hid (∀ (W : World), Below w.heap.size w W → ∀ k, k < 88 → W.rangeAt b (k * 5) (tabK 87)[k]!.cells) := Lib.hid fun W hW k hk j v hv => by
    have hj : j < 5 := (List.getElem?_eq_some_iff.1 hv).1
    rw [hW.cell (p := ⟨b, k * 5 + j, none⟩) hb]
    have := hr (k * 5 + j) v (by rw [opsCells_get _ k j _ (tab_at k hk) hj]; exact hv)
    rw [Nat.zero_add] at this; exact this
  have hq' : Hid (∀ (W : World), Below w.heap.size w W → W.cell? ⟨q, 0, none⟩ = some (.string s)) := Lib.hid fun W hW => (hW.cell (p := ⟨q, 0, none⟩) hql).trans hq
  have hhit : Hid (∀ k : Nat, k < 88 → ((tabK 87)[k]!.name == s.toList) = true → (∀ j, j < k → ((tabK 87)[j]!.name == s.toList) = false) → Lib.idxBy (fun _ (y : OpInfo) => y.name == s.toList) (tabK 87) default = (k : Int)) := Lib.hid fun k hk h1 h2 => by
    have := Lib.idxBy_hit (fun _ (y : OpInfo) => y.name == s.toList) (tabK 87) 88 k default hk (by rw [tabK_len]; exact Nat.le_refl _) h1 h2
    rw [h88] at this; exact this
  have hmiss : Hid ((∀ j, j < 88 → ((tabK 87)[j]!.name == s.toList) = false) → Lib.idxBy (fun _ (y : OpInfo) => y.name == s.toList) (tabK 87) default = -1) := Lib.hid fun h => by
    have := Lib.idxBy_miss (fun _ (y : OpInfo) => y.name == s.toList) (tabK 87) 88 default h
    rw [h88] at this; exact this
  clear hr hq h88
  generalize Lib.idxBy (fun _ (y : OpInfo) => y.name == s.toList) (tabK 87) default = R at hhit hmiss ⊢
  generalize hTB : tabK 87 = TB at hrow hhit hmiss
  clear hTB
  go_enter Tryz.func91, Tryz.ntmps91
  go_wp2_with fail
  go_loopw [5, 8] (fun _ i wr => ∃ k : Nat, k ≤ 88 ∧ i = .int .i64 k ∧ Below w.heap.size w wr ∧ Hid (∀ j, j < k → (TB[j]!.name == s.toList) = false)) (fun _ i _ => 88 - (intOf i).toNat)
  case atStart => exact ⟨0, by omega, rfl, Below.refl _ _, Lib.hid fun j hj => absurd hj (Nat.not_lt_zero _)⟩
  case round =>
    obtain ⟨k, hk, rfl, hbw, hno⟩ := hrel
    by_cases hlt : k < 88
    · have hra := Lib.hid (hrow.out wr hbw k hlt)
      have hcall := named1_any TB[k]! s q wr (hq'.out wr hbw)
      have hhk := Lib.hid (hhit.out k hlt)
      have hz : (Tryz.prog.info? 106).map (·.size) = some (TB[k]!).cells.length := size_op
      have hno' : Hid ((TB[k]!.name == s.toList) = false → ∀ j, j < k + 1 → (TB[j]!.name == s.toList) = false) := Lib.hid fun h0 j hj => by
        by_cases e : j = k
        · subst e; exact h0
        · exact hno.out j (by omega)
      generalize TB[k]! = O at hra hcall hz hhk hno'
      cases hb0 : (O.name == s.toList)
      · rw [hb0] at hcall
        replace hcall := Lib.hid hcall
        replace hno' := Lib.hid (hno'.out hb0)
        clear hb0 hhk
        go_wp2_with (first | (refine wpList_load_mid rfl 106 _ rfl b (k * 5) rfl O.cells _ hra.out hu rfl hz ?_) | (go_at_fn 92; refine hcall.out.mono ?_; rintro e w' ⟨rfl, hb'⟩))
        go_roundw
        case rel => exact ⟨k + 1, by omega, by go_num, hbw.trans (hb'.mono hbw.size), hno'⟩
        case measure => simp [intOf]; omega
      · rw [hb0] at hcall
        have hR := Lib.hid (hhk.out hb0 hno.out)
        replace hcall := Lib.hid hcall
        clear hb0 hhk hno'
        go_wp2_with (first | (refine wpList_load_mid rfl 106 _ rfl b (k * 5) rfl O.cells _ hra.out hu rfl hz ?_) | (go_at_fn 92; refine hcall.out.mono ?_; rintro e w' ⟨rfl, hb'⟩))
        go_ret
        exact ⟨by rw [hR.out]; rfl, hbw.trans (hb'.mono hbw.size)⟩
    · obtain rfl : k = 88 := by omega
      have hR := Lib.hid (hmiss.out hno.out)
      go_wp2_with fail
      go_ret
      exact ⟨by rw [hR.out]; rfl, hbw⟩
theorem Named_empty (w : World) :
    Calls Tryz.prog 31 #[.string ⟨#[]⟩] w fun e w' => e = .returned (.int .i64 0) ∧ Below w.heap.size w w' := by
  go_enter Tryz.func31, Tryz.ntmps31
  go_wp2_with fail
  go_ret
  exact ⟨rfl, (Below.refl _ _).alloc (Nat.le_refl _) _⟩
set_option maxRecDepth 100000 in
set_option maxHeartbeats 8000000 in
theorem Named_some (s : ByteArray) (hs : s.toList ≠ []) (w : World) (ht : Tabs w) :
    Calls Tryz.prog 31 #[.string s] w fun e w' => e = .returned (.int .i64 (namedOf s.toList)) ∧ Below w.heap.size w w' := by
  have hn : namedOf s.toList = max 0 (Lib.idxBy (fun _ (y : OpInfo) => y.name == s.toList) (tabK 87) default) := if_neg hs
  have he1 : s.toList.isEmpty = false := by rw [← Bool.not_eq_true, List.isEmpty_iff]; exact hs
  have hb1 : Below w.heap.size w (w.alloc (.cells #[.string s] 9)) := (Below.refl _ _).alloc (Nat.le_refl _) _
  have hc1 : (w.alloc (.cells #[.string s] 9)).cell? ⟨w.heap.size, 0, none⟩ = some (.string s) := by rw [World.cell?_alloc_new]; rfl
  have hz1 : w.heap.size < (w.alloc (.cells #[.string s] 9)).heap.size := by simp
  have hMd := Lib.hid (fun W hW => made_any W hW)
  have hIx := Lib.hid (fun b q W h1 h2 h3 h4 => indexOps_any b q s W h1 h2 h3 h4)
  have h4 : (opsCells (tabK 87)).toArray.size = 440 := by rw [List.size_toArray, opsCells_len, tabK_len]
  have h5 : (Tryz.prog.info? 121).map (·.size) = some (opsCells (tabK 87)).toArray.size := by rw [h4]; exact size_ops.trans (by rw [opsCells_len, tabK_len])
  have h7 : (opsCells (tabK 87)).toArray.all (·.oneCell') = true := all_oneCell_toArray (opsCells_one _)
  have hth : Hid (∀ W : World, (W.alloc (.cells Tryz.zeroCells121 121)).there W.heap.size 0 440) := Lib.hid fun W => by
    rw [zero_ops]
    exact fun j hj => ⟨by rw [World.cell?_alloc_new]; simp [opsCells_len, tabK_len]; omega, by simp [go_sem]⟩
  rw [hn]
  generalize hR : Lib.idxBy (fun _ (y : OpInfo) => y.name == s.toList) (tabK 87) default = R at hIx ⊢
  have hR1 : -1 ≤ R ∧ R ≤ 87 := by
    rw [← hR]
    unfold Lib.idxBy
    rcases idxByF_spec (fun _ (y : OpInfo) => y.name == s.toList) default (tabK 87) 0 with e | ⟨k, y, h1, h2, h3⟩
    · rw [e]; decide
    · rw [h2]
      have := (List.getElem?_eq_some_iff.1 h1).1
      rw [tabK_len] at this
      omega
  generalize hCS : opsCells (tabK 87) = CS at hMd hIx h4 h5 h7
  replace h4 := Lib.hid h4
  clear hR hCS hn hs
  have htl := Lib.hid (ht.later hb1 (Nat.le_refl _))
  replace hc1 := Lib.hid hc1
  go_enter Tryz.func31, Tryz.ntmps31
  go_wp2_with (first | (go_at_call 90; refine (hMd.out _ htl.out).mono ?_; rintro e w2 ⟨rfl, hb2⟩; have hth2 := Lib.hid (hth.out w2)) | (refine wpList_store_mid rfl 121 _ _ rfl w2.heap.size 0 CS.toArray rfl rfl (by rw [h4.out]; exact hth2.out) h5 h7 ?_; generalize hW : (w2.alloc (.cells Tryz.zeroCells121 121)).setCells w2.heap.size 0 CS.toArray.toList = w3; replace hW := Lib.hid hW))
  have hr3 : w3.rangeAt w2.heap.size 0 CS := by
    rw [← hW.out]
    refine World.rangeAt_setCells_same _ _ _ _ ?_
    have := hth2.out
    rw [← h4.out, List.size_toArray] at this
    exact this
  have hb3 : Below w2.heap.size w2 w3 := by rw [← hW.out]; exact Below.setCells' _ _ _ ((Below.refl _ _).alloc (Nat.le_refl _) _) (Nat.le_refl _)
  have hl3 : w2.heap.size < w3.heap.size := by rw [← hW.out, size_cells]; simp
  have hz2 : w.heap.size < w2.heap.size := Nat.lt_of_lt_of_le hz1 hb2.size
  have hc3 : w3.cell? ⟨w.heap.size, 0, none⟩ = some (.string s) := (hb3.cell (p := ⟨w.heap.size, 0, none⟩) hz2).trans ((hb2.cell (p := ⟨w.heap.size, 0, none⟩) hz1).trans hc1.out)
  have hb13 : Below w.heap.size w w3 := (hb1.trans (hb2.mono (Nat.le_of_lt hz1))).trans (hb3.mono (Nat.le_of_lt hz2))
  refine (hIx.out _ _ _ hr3 hl3 hc3 (Nat.lt_trans hz2 hl3)).mono ?_
  rintro e w4 ⟨rfl, hb4⟩
  have hb14 : Below w.heap.size w w4 := hb13.trans (hb4.mono (Nat.le_of_lt (Nat.lt_trans hz2 hl3)))
  go_wp2_with fail
  all_goals (go_ret; exact ⟨by simp <;> omega, hb14⟩)
theorem Named_any (s : ByteArray) (w : World) (ht : Tabs w) :
    Calls Tryz.prog 31 #[.string s] w fun e w' => e = .returned (.int .i64 (namedOf s.toList)) ∧ Below w.heap.size w w' := by
  by_cases hs : s.toList = []
  · have h0 : s = ⟨#[]⟩ := by
      rw [ba_toList] at hs
      obtain ⟨⟨l⟩⟩ := s
      have : l = [] := by simpa using hs
      rw [this]
    have h1 : namedOf s.toList = 0 := if_pos hs
    rw [h1, h0]
    exact Named_empty w
  · exact Named_some s hs w ht
end Go.Proofs.YtdbpnbmaineniaaGreatDoor
