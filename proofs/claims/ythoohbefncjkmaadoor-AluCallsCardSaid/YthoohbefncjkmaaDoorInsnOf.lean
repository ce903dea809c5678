/- The walk of insn.of: what there is to know of an op, by its number. Conditions: the library's table of ASCII spaces lies as its initialiser lays it. -/
import Derived.Test.YthoohbefncjkmaaDoorInsnKnown2
import Derived.Test.YthoohbefncjkmaaDoorInsnRows
import Derived.Deep.RegionWith
import Derived.Lib.Space
import Derived.Lib.LaidTab
import Derived.WalkSmall
namespace Go.Proofs.YthoohbefncjkmaaDoor
open Go.RowKit
/-- The library's table of ASCII spaces lies in the world. -/
structure Tabs (w : World) : Prop where
  tab : Lib.TabIs Tryd.prog w "strings.asciiSpace" .u8 Lib.asciiSpaceTab
  lt : 0 < w.heap.size
theorem Tryd.gSpace : Tryd.prog.globalNamed "strings.asciiSpace" = some 0 := by kernel_rfl
theorem Tabs.later {w w' : World} {B : Nat} (h : Tabs w) (hb : Below B w w') (hB : w.heap.size ≤ B) : Tabs w' :=
  ⟨var?_below hb Tryd.gSpace (Nat.lt_of_lt_of_le h.lt hB) h.tab, Nat.lt_of_lt_of_le h.lt hb.size⟩
/-- A later world in which the round's row still stands. -/
structure RExt (wr : World) (k : Nat) (W : World) : Prop where
  below : Below wr.heap.size wr W
  c0 : W.cell? ⟨wr.heap.size, 0, none⟩ = some (.string (rowStr k))
  c1 : W.cell? ⟨wr.heap.size, 1, none⟩ = some (.int .i64 (rowForm k))
  lt : wr.heap.size < W.heap.size
theorem RExt.start (wr : World) (k : Nat) : RExt wr k (wr.alloc (.cells #[.string (rowStr k), .int .i64 (rowForm k)] 65)).drew :=
  ⟨((Below.refl _ _).alloc (Nat.le_refl _) _).drew, by simp, by simp, by simp⟩
theorem RExt.later {wr W W' : World} {k : Nat} (h : RExt wr k W) (hb : Below W.heap.size W W') : RExt wr k W' :=
  ⟨h.below.trans (hb.mono (Nat.le_of_lt h.lt)), by rw [hb.cell (p := ⟨wr.heap.size, 0, none⟩) h.lt]; exact h.c0, by rw [hb.cell (p := ⟨wr.heap.size, 1, none⟩) h.lt]; exact h.c1, Nat.lt_of_lt_of_le h.lt hb.size⟩
theorem name_le : ((List.range 15).all fun k => (List.range (rowCnt k)).all fun j => decide ((rowName k j).length ≤ 1000)) = true := by decide +kernel
theorem name_len (k j : Nat) (h : k < 15) (hj : j < rowCnt k) : (rowName k j).length ≤ 1000 := by
  have := List.all_eq_true.1 name_le k (List.mem_range.2 h)
  have := List.all_eq_true.1 this j (List.mem_range.2 hj)
  simpa using this
theorem text_le : ((List.range 15).all fun k => decide ((rowText k).length ≤ 1000)) = true := by decide +kernel
theorem text_len (k : Nat) (h : k < 15) : (rowStr k).size ≤ 1000 := by
  have := List.all_eq_true.1 text_le k (List.mem_range.2 h)
  simpa [rowStr, ByteArray.size] using this
/-- strings.Fields at a row, where one name is then read. -/
theorem fields_row (k j : Nat) (h : k < 15) (hj : j < rowCnt k) (W : World) (ht : Tabs W) :
    Calls Tryd.prog 88 #[.string (rowStr k)] W fun e w' => e = .returned (.slice (some ⟨W.heap.size, 0, none⟩) (rowCnt k) (rowCnt k)) ∧ w'.cell? ⟨W.heap.size, j, none⟩ = some (.string ⟨(rowName k j).toArray⟩) ∧ Below W.heap.size W w' := by
  have hd : (rowStr k).data.toList = rowText k := by simp [rowStr]
  refine (Tryd.strings_Fields (rowStr k) W (by have := text_len k h; omega) (fun i b hb => row_ascii k h i b (by rw [hd] at hb; exact hb)) ht.tab).mono fun e w' ⟨he, hw⟩ => ?_
  rw [hd] at he hw
  rw [row_fields k h] at he
  subst hw
  refine ⟨he, ?_, (Below.refl _ _).alloc (Nat.le_refl _) _⟩
  rw [World.cell?_alloc_new]
  have hlt : j < (Lib.fields (rowText k)).length := by rw [row_fields k h]; exact hj
  simp [rowName, List.getD, hlt]
theorem of_none (n : Int) (h : n < 1) (w : World) :
    Calls Tryd.prog 68 #[.int .i64 n] w fun e w' => e = .returned (.agg #[.string ⟨#[]⟩, .int .i64 0, .bool false, .bool false, .int .i64 0]) ∧ Below w.heap.size w w' := by
  go_enter Tryd.func68, Tryd.ntmps68
  go_wp2_with fail
  refine bodyPost_ret (v := .agg #[.string ⟨#[]⟩, .int .i64 0, .bool false, .bool false, .int .i64 0]) (by simp [results, Tryd.results68, go_sem]) rfl ⟨rfl, ?_⟩
  exact (Below.refl _ _).alloc (Nat.le_refl _) _
set_option maxHeartbeats 2000000 in
theorem of_some (n : Nat) (h : 1 ≤ n) (hn : n ≤ 9223372036854775807) (w : World) (ht : Tabs w) :
    Calls Tryd.prog 68 #[.int .i64 n] w fun e w' => e = .returned (.agg #[.string ⟨(ofFrom 15 0 n).name.toArray⟩, .int .i64 (ofFrom 15 0 n).form, .bool (ofFrom 15 0 n).loads, .bool (ofFrom 15 0 n).stores, .int .i64 (ofFrom 15 0 n).size]) ∧ Below w.heap.size w w' := by
  obtain ⟨O, hO⟩ : ∃ O, ofFrom 15 0 n = O := ⟨_, rfl⟩
  rw [hO]
  have hO' := Lib.hid hO
  clear hO
  go_enter Tryd.func68, Tryd.ntmps68
  go_wp2_with fail
  refine (rows_any _).mono ?_
  rintro e w2 ⟨he, htx, hfm, hb2, hs2⟩
  subst he
  have hsz : (w.alloc (.cells #[.string ⟨#[]⟩, .int .i64 0, .bool false, .bool false, .int .i64 0] 54)).heap.size = w.heap.size + 1 := by simp
  rw [hsz] at htx hfm hb2 hs2
  have htx' : Hid (∀ k, k < 15 → w2.cell? ⟨w.heap.size + 1, k * 2, none⟩ = some (.string (rowStr k))) := Lib.hid fun k hk => by rw [Nat.mul_comm]; exact htx k hk
  have hfm' : Hid (∀ k, k < 15 → w2.cell? ⟨w.heap.size + 1, k * 2 + 1, none⟩ = some (.int .i64 (rowForm k))) := Lib.hid fun k hk => by rw [Nat.mul_comm]; exact hfm k hk
  have hb0 : Below w.heap.size w w2 := ((Below.refl _ _).alloc (Nat.le_refl _) _).trans (hb2.mono (by omega))
  have hc2 : Hid (∀ j, j < 5 → ∃ v, w2.cell? ⟨w.heap.size, j, none⟩ = some v ∧ w2.frozen? ⟨w.heap.size, j, none⟩ = false) := Lib.hid fun j hj => by
    rw [hb2.cell (p := ⟨w.heap.size, j, none⟩) (Nat.lt_succ_self _), hb2.frozen (p := ⟨w.heap.size, j, none⟩) (Nat.lt_succ_self _)]
    rcases j with _ | _ | _ | _ | _ | j <;> first | exact ⟨_, (World.cell?_alloc_new _ _ _ _).trans rfl, by simp [go_sem]⟩ | omega
  have ht2 : Tabs w2 := ht.later hb0 (Nat.le_refl _)
  have hs2' : w2.heap.size = w.heap.size + 2 := hs2
  rw [hsz] at *
  clear hsz htx hfm hb2 hs2
  have hs3 := Lib.hid hs2'
  have hb0' := Lib.hid hb0
  clear hs2' hb0
  go_wp2_with fail
  go_loopw [0, 11] (fun n' i wr => ∃ k m : Nat, k ≤ 15 ∧ 1 ≤ m ∧ m ≤ n ∧ i = .int .i64 k ∧ n' = .int .i64 m ∧ Hid (ofFrom (15 - k) k m = O) ∧ Below (w.heap.size + 2) w2 wr) (fun _ i _ => 15 - (intOf i).toNat)
  case atStart => exact ⟨0, n, by omega, h, Nat.le_refl _, rfl, rfl, hO', Below.refl _ _⟩
  case round =>
    obtain ⟨k, m, hk, hm1, hmn, rfl, rfl, hof, hbw⟩ := hrel
    by_cases hlt : k < 15
    · have c0 : wr.cell? ⟨w.heap.size + 1, k * 2, none⟩ = some (.string (rowStr k)) := by rw [hbw.cell (p := ⟨w.heap.size + 1, k * 2, none⟩) (by simp)]; exact htx'.out k hlt
      have c1 : wr.cell? ⟨w.heap.size + 1, k * 2 + 1, none⟩ = some (.int .i64 (rowForm k)) := by rw [hbw.cell (p := ⟨w.heap.size + 1, k * 2 + 1, none⟩) (by simp)]; exact hfm'.out k hlt
      have hcnt := rowCnt_lt k hlt
      obtain ⟨c, hc, hcw⟩ : ∃ c : Nat, rowCnt k = c + 1 ∧ Hid (∀ W, Calls Tryd.prog 86 #[.string (rowStr k), .string ⟨#[32]⟩] W fun e w' => e = .returned (.int .i64 (c : Int)) ∧ W = w') :=
        ⟨(rowText k).count 32, rfl, Lib.hid fun W => (Tryd.strings_Count_one (rowStr k) 32 W).mono fun e w' ⟨he, hw⟩ => ⟨by rw [he]; unfold Lib.countByte rowStr; rfl, hw.symm⟩⟩
      by_cases hle : m ≤ c + 1
      · have hO2 : Hid (O = Go.Proofs.YthoohbefncjkmaaDoor.known (rowName k (m - 1)) (rowForm k)) := Lib.hid (by
          have := hof.out
          rw [show 15 - k = (15 - (k + 1)) + 1 by omega, ofFrom_hit _ _ _ (by omega)] at this
          exact this.symm)
        have hj : m - 1 < rowCnt k := by omega
        have hFld : Hid (∀ W S, RExt wr k W → S = W.heap.size → Calls Tryd.prog 88 #[.string (rowStr k)] W fun e w' => e = .returned (.slice (some ⟨S, 0, none⟩) (c + 1) (c + 1)) ∧ w'.cell? ⟨S, m - 1, none⟩ = some (.string ⟨(rowName k (m - 1)).toArray⟩) ∧ RExt wr k w') := Lib.hid fun W S hW hS => by
          subst hS
          have htW : Tabs W := (ht2.later hbw (Nat.le_of_eq hs3.out)).later hW.below (Nat.le_refl _)
          have := fields_row k (m - 1) hlt hj W htW
          rw [hc] at this
          exact this.mono fun e w' ⟨he, hcl, hb⟩ => ⟨he, hcl, hW.later hb⟩
        have hKn : Hid (∀ W, RExt wr k W → Calls Tryd.prog 87 #[.string ⟨(rowName k (m - 1)).toArray⟩, .int .i64 (rowForm k)] W fun e w' => e = .returned (.agg #[.string ⟨O.name.toArray⟩, .int .i64 O.form, .bool O.loads, .bool O.stores, .int .i64 O.size]) ∧ RExt wr k w') := Lib.hid fun W hW => by
          rw [hO2.out]
          exact (known_any _ _ (row_ok k (m - 1) hlt hj) (name_len k (m - 1) hlt hj) W).mono fun e w' ⟨he, hb⟩ => ⟨he, hW.later hb⟩
        have hld0 : ∀ W, RExt wr k W → W.cell? ⟨wr.heap.size, 0, none⟩ = some (.string (rowStr k)) := fun W hW => hW.c0
        have hld1 : ∀ W, RExt wr k W → W.cell? ⟨wr.heap.size, 1, none⟩ = some (.int .i64 (rowForm k)) := fun W hW => hW.c1
        have hfr : ∀ j, j < 5 → ∀ W, RExt wr k W → W.frozen? ⟨w.heap.size, j, none⟩ = false := fun j hj W hW => by
          obtain ⟨v, h1, h2⟩ := hc2.out j hj
          rw [hW.below.frozen (p := ⟨w.heap.size, j, none⟩) (by have := hbw.size; have := hs3.out; simp; omega), hbw.frozen (p := ⟨w.heap.size, j, none⟩) (by simp)]; exact h2
        have hcl : ∀ j, j < 5 → ∀ W, RExt wr k W → ∃ v, W.cell? ⟨w.heap.size, j, none⟩ = some v := fun j hj W hW => by
          obtain ⟨v, h1, h2⟩ := hc2.out j hj
          exact ⟨v, by rw [hW.below.cell (p := ⟨w.heap.size, j, none⟩) (by have := hbw.size; have := hs3.out; simp; omega), hbw.cell (p := ⟨w.heap.size, j, none⟩) (by simp)]; exact h1⟩
        have hst := RExt.start wr k
        have ha1 : IntKind.i64.wrap ((m : Int) - 1) = (m : Int) - 1 := IntWalk.i64_in _ (by omega)
        have ha2 : ((m : Int) - 1).toNat = m - 1 := by omega
        have ha3 : (0 : Int) ≤ (m : Int) - 1 := by omega
        have ha4 : (m : Int) - 1 < (c : Int) + 1 := by omega
        have ha5 : 1 ≤ m := hm1
        go_wp2_with (go_at_call 86; (with_reducible refine (hcw.out _).mono ?_); rintro e w' ⟨rfl, rfl⟩)
        go_region_with (first | (go_at_call 88; refine (hFld.out _ (wr.heap.size + 1) (by assumption) (by simp)).mono ?_; rintro e w3 ⟨rfl, hcn, hE3⟩) | (go_at_call 87; refine (hKn.out _ (by assumption)).mono ?_; rintro e w4 ⟨rfl, hE4⟩; obtain ⟨v0, hv0⟩ := hcl 0 (by decide) _ hE4; obtain ⟨v1, hv1⟩ := hcl 1 (by decide) _ hE4; obtain ⟨v2, hv2⟩ := hcl 2 (by decide) _ hE4; obtain ⟨v3, hv3⟩ := hcl 3 (by decide) _ hE4; obtain ⟨v4, hv4⟩ := hcl 4 (by decide) _ hE4; have hf0 := hfr 0 (by decide) _ hE4; have hf1 := hfr 1 (by decide) _ hE4; have hf2 := hfr 2 (by decide) _ hE4; have hf3 := hfr 3 (by decide) _ hE4; have hf4 := hfr 4 (by decide) _ hE4))
        all_goals
          go_wp2
          refine bodyPost_ret (v := .agg #[.string ⟨O.name.toArray⟩, .int .i64 O.form, .bool O.loads, .bool O.stores, .int .i64 O.size]) (by simp [results, Tryd.results68, go_sem, hv0, hv1, hv2, hv3, hv4]) rfl ⟨rfl, ?_⟩
          have hB4 : Below w.heap.size w w4 := (hb0'.out.trans (hbw.mono (by omega))).trans (hE4.below.mono (by have := hbw.size; have := hs3.out; omega))
          exact ((((hB4.setCell (Nat.le_refl _) _).setCell (Nat.le_refl _) _).setCell (Nat.le_refl _) _).setCell (Nat.le_refl _) _).setCell (Nat.le_refl _) _
      · have hof2 : Hid (ofFrom (15 - (k + 1)) (k + 1) (m - (c + 1)) = O) := Lib.hid (by
          have := hof.out
          rw [show 15 - k = (15 - (k + 1)) + 1 by omega, ofFrom_miss _ _ _ (by omega), hc] at this
          exact this)
        have hc' := Lib.hid hc
        clear hc
        go_wp2_with (go_at_call 86; (with_reducible refine (hcw.out _).mono ?_); rintro e w' ⟨rfl, rfl⟩)
        go_roundw
        case rel => exact ⟨k + 1, m - (c + 1), by omega, by omega, by omega, by go_num, by go_num, hof2, hbw.alloc (by have := hbw.size; have := hs3.out; omega) _⟩
        case measure => simp [intOf]; omega
    · have e15 : k = 15 := by omega
      have hO3 : O = noOp := by rw [← hof.out, e15]; rfl
      obtain ⟨v0, hv0, hf0⟩ := hc2.out 0 (by decide)
      obtain ⟨v1, hv1, hf1⟩ := hc2.out 1 (by decide)
      obtain ⟨v2, hv2, hf2⟩ := hc2.out 2 (by decide)
      obtain ⟨v3, hv3, hf3⟩ := hc2.out 3 (by decide)
      obtain ⟨v4, hv4, hf4⟩ := hc2.out 4 (by decide)
      rw [← hbw.cell (p := ⟨w.heap.size, 0, none⟩) (by simp)] at hv0
      rw [← hbw.cell (p := ⟨w.heap.size, 1, none⟩) (by simp)] at hv1
      rw [← hbw.cell (p := ⟨w.heap.size, 2, none⟩) (by simp)] at hv2
      rw [← hbw.cell (p := ⟨w.heap.size, 3, none⟩) (by simp)] at hv3
      rw [← hbw.cell (p := ⟨w.heap.size, 4, none⟩) (by simp)] at hv4
      rw [← hbw.frozen (p := ⟨w.heap.size, 0, none⟩) (by simp)] at hf0
      rw [← hbw.frozen (p := ⟨w.heap.size, 1, none⟩) (by simp)] at hf1
      rw [← hbw.frozen (p := ⟨w.heap.size, 2, none⟩) (by simp)] at hf2
      rw [← hbw.frozen (p := ⟨w.heap.size, 3, none⟩) (by simp)] at hf3
      rw [← hbw.frozen (p := ⟨w.heap.size, 4, none⟩) (by simp)] at hf4
      have hO4 := Lib.hid hO3
      clear hO3 hof hO' e15
      go_wp2_with fail
      refine bodyPost_ret (v := .agg #[.string ⟨#[]⟩, .int .i64 0, .bool false, .bool false, .int .i64 0]) (by simp [results, Tryd.results68, go_sem, hv0, hv1, hv2, hv3, hv4]) rfl ⟨by rw [hO4.out]; rfl, ?_⟩
      have hB4 : Below w.heap.size w wr := hb0'.out.trans (hbw.mono (by omega))
      exact ((((hB4.setCell (Nat.le_refl _) _).setCell (Nat.le_refl _) _).setCell (Nat.le_refl _) _).setCell (Nat.le_refl _) _).setCell (Nat.le_refl _) _
end Go.Proofs.YthoohbefncjkmaaDoor
