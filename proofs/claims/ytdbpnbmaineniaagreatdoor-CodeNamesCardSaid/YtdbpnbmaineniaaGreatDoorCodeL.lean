/- Copies of instructions in the world's blocks, for the laws of words. The walks of the law's of and lives: the chapter's examples. Conditions: as each theorem says. -/
import Derived.Test.YtdbpnbmaineniaaGreatDoorCodeTk
import Derived.Test.YtdbpnbmaineniaaGreatDoorCodeWC
import Derived.Test.YtdbpnbmaineniaaGreatDoorReadC
import Derived.Test.YtdbpnbmaineniaaGreatDoorReadD
set_option linter.unusedSimpArgs false
set_option linter.unusedVariables false
namespace Go.Proofs.YtdbpnbmaineniaaGreatDoor
open Go.RowKit
theorem checkE_02 (i : InsnV) : checkE i = 0 ∨ checkE i = 2 := by unfold checkE; split <;> simp
theorem cells_fresh (w : World) (cs : Array Value) (t : TypeId) (n : Nat) (hn : n ≤ cs.size) : (w.alloc (.cells cs t)).there w.heap.size 0 n := fun j hj => by
  refine ⟨?_, fresh_thawR w cs t _⟩
  rw [World.cell?_alloc_new, Nat.zero_add, Array.getElem?_eq_getElem (by omega)]; rfl
theorem stored_insn (s : World) (cs : List Value) (hl : cs.length = 9) (Z : Array Value) (hZ : Z.size = 9) (t : TypeId) : Below s.heap.size s (World.setCells (s.alloc (.cells Z t)) s.heap.size 0 cs) ∧ (World.setCells (s.alloc (.cells Z t)) s.heap.size 0 cs).rangeAt s.heap.size 0 cs ∧ s.heap.size < (World.setCells (s.alloc (.cells Z t)) s.heap.size 0 cs).heap.size := by
  have hal : Below s.heap.size s (s.alloc (.cells Z t)) := (Below.refl _ _).alloc (Nat.le_refl _) _
  exact ⟨below_cells (Nat.le_refl s.heap.size) cs 0 _ hal, World.rangeAt_setCells_same _ s.heap.size 0 cs (by rw [hl]; exact cells_fresh s Z t 9 (by omega)), Nat.lt_of_lt_of_le (show s.heap.size < (s.alloc (.cells Z t)).heap.size by simp) (below_cells (Nat.zero_le _) cs 0 _ (Below.refl 0 _)).size⟩
theorem there_on {w w' : World} {b n B : Nat} (h : w.there b 0 n) (hB : b < B) (hb : Below B w w') : w'.there b 0 n := fun j hj => by
  rw [hb.cell (p := ⟨b, 0 + j, none⟩) hB, hb.frozen (p := ⟨b, 0 + j, none⟩) hB]; exact h j hj
theorem range_set {w : World} {b : Nat} {cs : List Value} (h : w.rangeAt b 0 cs) (o : Nat) (v : Value) : (w.setCell ⟨b, o, none⟩ v).rangeAt b 0 (cs.set o v) := fun j u hj => by
  rw [List.getElem?_set] at hj
  by_cases e : o = j
  · subst e
    rw [if_pos rfl] at hj
    split at hj
    · rename_i hl
      rw [Nat.zero_add]
      cases hj
      exact World.cell?_setCell_same _ _ _ (by have := h o _ (List.getElem?_eq_getElem hl); rwa [Nat.zero_add] at this)
    · cases hj
  · rw [if_neg e] at hj
    rw [World.cell?_setCell_other _ _ _ _ (fun q => e ((congrArg Addr.off q).trans (Nat.zero_add j)))]
    exact h j u hj
theorem range_on {w w' : World} {b B : Nat} {cs : List Value} (hr : w.rangeAt b 0 cs) (hB : b < B) (hb : Below B w w') : w'.rangeAt b 0 cs := fun j v hv => by
  rw [hb.cell (p := ⟨b, 0 + j, none⟩) hB]; exact hr j v hv
theorem range_apart {w w' : World} {b B : Nat} {cs : List Value} (hr : w.rangeAt b 0 cs) (hlt : b < w.heap.size) (hne : b ≠ B) (hg : w.grownBy w' (some B)) : w'.rangeAt b 0 cs := fun j v hv => by
  rw [far_cell hg ⟨b, 0 + j, none⟩ hlt (fun e => hne (Option.some.inj e))]; exact hr j v hv
theorem range_cell {w : World} {b : Nat} {cs : List Value} (h : w.rangeAt b 0 cs) (j : Nat) (v : Value) (hj : cs[j]? = some v) : w.cell? ⟨b, j, none⟩ = some v := by have := h j v hj; rwa [Nat.zero_add] at this
/-- A copy of an instruction, just laid. -/
theorem copied {s : World} {cs : List Value} (hl : cs.length = 9) (Z : Array Value) (hZ : Z.size = 9) (t : TypeId) : Below s.heap.size s (World.setCells (s.alloc (.cells Z t)) s.heap.size 0 cs) ∧ (World.setCells (s.alloc (.cells Z t)) s.heap.size 0 cs).rangeAt s.heap.size 0 cs ∧ s.heap.size < (World.setCells (s.alloc (.cells Z t)) s.heap.size 0 cs).heap.size ∧ (World.setCells (s.alloc (.cells Z t)) s.heap.size 0 cs).there s.heap.size 0 9 := by
  obtain ⟨a, b, c⟩ := stored_insn s cs hl Z hZ t
  exact ⟨a, b, c, World.there_setCells (cells_fresh s Z t 9 (by omega)) _ _ _⟩
theorem there_thaw {w : World} {b n : Nat} (h : w.there b 0 n) (j : Nat) (hj : j < n) : w.frozen? ⟨b, j, none⟩ = false := by have := (h j hj).2; rwa [Nat.zero_add] at this
theorem InsnV.list_len (i : InsnV) : i.cells.toList.length = 9 := rfl
theorem size_insn (i : InsnV) : (Tryz.prog.info? 23).map (·.size) = some i.cells.toList.length := by rw [i.list_len]; kernel_rfl
theorem InsnV.list_one (i : InsnV) : i.cells.toList.toArray.all (·.oneCell') = true := by rw [Array.toArray_toList]; exact i.one
/-- A box that has just been made. -/
theorem boxed (w : World) (i : InsnV) (t : TypeId) : Below w.heap.size w (w.alloc (.cells i.cells t)) ∧ (w.alloc (.cells i.cells t)).rangeAt w.heap.size 0 i.cells.toList ∧ w.heap.size < (w.alloc (.cells i.cells t)).heap.size := ⟨(Below.refl _ _).alloc (Nat.le_refl _) _, cellR w i.cells t, by simp⟩
/-- Word at a list of cells. -/
theorem word_list (i : InsnV) (hlo : -9223372036854775808 ≤ i.op) (hop : i.op ≤ 9223372036854775807) (W : World) (ht : Tabs W) (hfl : Flds W) : Calls Tryz.prog 14 #[.agg i.cells.toList.toArray] W fun e w' => e = .returned (.tuple #[.int .u32 (un32 (wordV i)), .int .i64 (checkE i)]) ∧ Below W.heap.size W w' := by
  rw [Array.toArray_toList]; exact CodeWord_any i W hlo hop ht hfl
end Go.Proofs.YtdbpnbmaineniaaGreatDoor
namespace Go.Proofs.YtdbpnbmaineniaaGreatDoor
open Go.RowKit
def ofV (s : ByteArray) : BitVec 32 := if (readB s).2 ≠ 0 ∨ checkE (readB s).1 ≠ 0 then 0#32 else wordV (readB s).1
theorem namedN_lt (s : ByteArray) : namedN s < 88 := by
  unfold namedN
  split
  · assumption
  · decide
theorem opB_bd (nm : ByteArray) : ∀ k, 0 ≤ (opB nm k).1 ∧ (opB nm k).1 ≤ 88
  | 0 => ⟨Int.le_refl 0, show (0 : Int) ≤ 88 by decide⟩
  | k + 1 => by
    have ih := opB_bd nm k
    unfold opB
    split
    · have := namedN_lt (nm.extract 0 (nm.size - (endsB k).size))
      exact ⟨Int.natCast_nonneg _, by show ((namedN _ : Nat) : Int) ≤ 88; omega⟩
    · exact ih
theorem fieldsB_op (f : Int) (i : InsnV) (p : ByteArray × Bool) : (fieldsB f i p).1.op = i.op := by
  unfold fieldsB
  repeat' split
  all_goals rfl
theorem readB_bd (s : ByteArray) : 0 ≤ (readB s).1.op ∧ (readB s).1.op ≤ 88 := by
  unfold readB
  simp only
  split
  · exact ⟨Int.le_refl 0, by decide⟩
  · unfold preB
    simp only
    rw [fieldsB_op]
    exact opB_bd _ 4
theorem readB_04 (s : ByteArray) : (readB s).2 = 0 ∨ (readB s).2 = 4 := by unfold readB; simp only; split <;> simp
theorem of_1 : ofV { data := #[97, 100, 100, 105, 32, 120, 53, 44, 32, 120, 54, 44, 32, 45, 51] } = 0xffd30293#32 := by decide +kernel
theorem of_2 : ofV { data := #[115, 100, 32, 120, 55, 44, 32, 56, 40, 120, 50, 41] } = 0x00713423#32 := by decide +kernel
theorem of_3 : ofV { data := #[98, 101, 113, 32, 120, 49, 44, 32, 120, 50, 44, 32, 45, 52] } = 0xfe208ee3#32 := by decide +kernel
theorem of_4 : ofV { data := #[106, 97, 108, 32, 120, 49, 44, 32, 50, 48, 52, 56] } = 0x001000ef#32 := by decide +kernel
theorem of_5 : ofV { data := #[102, 101, 110, 99, 101, 32, 114, 119, 44, 32, 114, 119] } = 0x0330000f#32 := by decide +kernel
theorem of_6 : ofV { data := #[108, 114, 46, 100, 46, 97, 113, 32, 120, 53, 44, 32, 40, 120, 54, 41] } = 0x140332af#32 := by decide +kernel
set_option maxRecDepth 100000 in
set_option maxHeartbeats 4000000 in
theorem Of3_any (s : ByteArray) (hs : s.size ≤ 1000) (w : World) (ht : Tabs w) (hfl : Flds w) :
    Calls Tryz.prog 52 #[.string s] w fun e w' => e = .returned (.int .u32 (un32 (ofV s))) ∧ Below w.heap.size w w' := by
  have hu := Tryz.underlying23
  have hbd := readB_bd s
  have hR := Lib.hid (fun W => R2Read_any s hs W)
  have hW := Lib.hid (fun W h1 h2 => CodeWord_any (readB s).1 W (by omega) (by omega) h1 h2)
  have h04 := readB_04 s
  have h02 := checkE_02 (readB s).1
  have hOf : Hid ((readB s).2 = 0 → checkE (readB s).1 = 0 → un32 (wordV (readB s).1) = un32 (ofV s)) := Lib.hid fun a b => by unfold ofV; rw [if_neg (by simp [a, b])]
  have hOn : Hid (((readB s).2 ≠ 0 ∨ checkE (readB s).1 ≠ 0) → (0 : Int) = un32 (ofV s)) := Lib.hid fun a => by unfold ofV; rw [if_pos a]; rfl
  obtain ⟨v, hv⟩ : ∃ v, un32 (ofV s) = v := ⟨_, rfl⟩
  obtain ⟨x, hx⟩ : ∃ x, un32 (wordV (readB s).1) = x := ⟨_, rfl⟩
  obtain ⟨c, hc⟩ : ∃ c, checkE (readB s).1 = c := ⟨_, rfl⟩
  obtain ⟨d, hd⟩ : ∃ d, (readB s).2 = d := ⟨_, rfl⟩
  rw [hv]
  rw [hx, hc] at hW
  rw [hv, hx, hc, hd] at hOf
  rw [hv, hc, hd] at hOn
  rw [hd] at h04 hR
  rw [hc] at h02
  obtain ⟨CS, hCS⟩ : ∃ C, (readB s).1.cells = C := ⟨_, rfl⟩
  have hCn : CS.size = 9 := by rw [← hCS]; rfl
  have h1c : CS.all (·.oneCell') = true := by rw [← hCS]; exact (readB s).1.one
  rw [hCS] at hR hW
  clear hbd hv hx hc hd hCS
  have hi : Hid ((Tryz.prog.info? 23).map (·.size) = some CS.size) := Lib.hid (by rw [hCn]; kernel_rfl)
  have hi2 : Hid ((Tryz.prog.info? 23).map (·.size) = some CS.toList.length) := Lib.hid (by rw [Array.length_toList]; exact hi.out)
  replace hCn := Lib.hid hCn
  replace h1c := Lib.hid h1c
  have hWl : Hid (∀ W, Tabs W → Flds W → Calls Tryz.prog 14 #[.agg CS.toList.toArray] W fun e w' => e = .returned (.tuple #[.int .u32 x, .int .i64 c]) ∧ Below W.heap.size W w') := Lib.hid fun W h1 h2 => by rw [Array.toArray_toList]; exact hW.out W h1 h2
  clear hW
  rcases h04 with rfl | rfl <;> rcases h02 with rfl | rfl
  all_goals
    go_enter Tryz.func52, Tryz.ntmps52
    go_wp2_with (first | (go_at_call 24; refine (hR.out _).mono ?_; rintro e w1 ⟨rfl, hb1⟩) | (refine wpList_store_mid rfl 23 _ _ rfl w1.heap.size 0 CS rfl rfl (fun j hj => cells_fresh w1 #[.int .i64 0, .int .i64 0, .int .i64 0, .int .i64 0, .int .i64 0, .bool false, .bool false, .int .i64 0, .int .i64 0] 23 9 (by decide) j (by rw [hCn.out] at hj; exact hj)) hi.out h1c.out ?_; obtain ⟨hb2, hr2, hlt2⟩ := stored_insn w1 CS.toList (by rw [Array.length_toList]; exact hCn.out) #[.int .i64 0, .int .i64 0, .int .i64 0, .int .i64 0, .int .i64 0, .bool false, .bool false, .int .i64 0, .int .i64 0] rfl 23; have hb12 := hb1.trans (hb2.mono hb1.size); have ht2 := ht.later hb12 (Nat.le_refl _); have hfl2 := hfl.later hb12; generalize World.setCells _ w1.heap.size 0 CS.toList = w2 at hb2 hr2 hlt2 hb12 ht2 hfl2 ⊢) | (refine wpList_load_mid rfl 23 _ rfl w1.heap.size 0 rfl CS.toList _ hr2 hu rfl hi2.out ?_) | (go_at_call 14; refine (hWl.out _ ht2 hfl2).mono ?_; rintro e w3 ⟨rfl, hb3⟩))
    go_ret
    exact ⟨ret_int (by first | exact hOf.out (by simp) (by simp) | exact hOn.out (by simp)), hb12.trans (hb3.mono hb12.size)⟩
set_option maxRecDepth 100000 in
set_option maxHeartbeats 4000000 in
theorem Lives3_any (w : World) (ht : Tabs w) (hfl : Flds w) :
    Calls Tryz.prog 12 #[] w fun e w' => e = .returned (.bool true) ∧ Below w.heap.size w w' := by
  have h1 : Hid (∀ W, Tabs W → Flds W → Calls Tryz.prog 52 #[.string { data := #[97, 100, 100, 105, 32, 120, 53, 44, 32, 120, 54, 44, 32, 45, 51] }] W fun e w' => e = .returned (.int .u32 4292018835) ∧ Below W.heap.size W w') := Lib.hid fun W a b => by have := Of3_any { data := #[97, 100, 100, 105, 32, 120, 53, 44, 32, 120, 54, 44, 32, 45, 51] } (by decide) W a b; rw [of_1] at this; exact this
  have h2 : Hid (∀ W, Tabs W → Flds W → Calls Tryz.prog 52 #[.string { data := #[115, 100, 32, 120, 55, 44, 32, 56, 40, 120, 50, 41] }] W fun e w' => e = .returned (.int .u32 7418915) ∧ Below W.heap.size W w') := Lib.hid fun W a b => by have := Of3_any { data := #[115, 100, 32, 120, 55, 44, 32, 56, 40, 120, 50, 41] } (by decide) W a b; rw [of_2] at this; exact this
  have h3 : Hid (∀ W, Tabs W → Flds W → Calls Tryz.prog 52 #[.string { data := #[98, 101, 113, 32, 120, 49, 44, 32, 120, 50, 44, 32, 45, 52] }] W fun e w' => e = .returned (.int .u32 4263546595) ∧ Below W.heap.size W w') := Lib.hid fun W a b => by have := Of3_any { data := #[98, 101, 113, 32, 120, 49, 44, 32, 120, 50, 44, 32, 45, 52] } (by decide) W a b; rw [of_3] at this; exact this
  have h4 : Hid (∀ W, Tabs W → Flds W → Calls Tryz.prog 52 #[.string { data := #[106, 97, 108, 32, 120, 49, 44, 32, 50, 48, 52, 56] }] W fun e w' => e = .returned (.int .u32 1048815) ∧ Below W.heap.size W w') := Lib.hid fun W a b => by have := Of3_any { data := #[106, 97, 108, 32, 120, 49, 44, 32, 50, 48, 52, 56] } (by decide) W a b; rw [of_4] at this; exact this
  have h5 : Hid (∀ W, Tabs W → Flds W → Calls Tryz.prog 52 #[.string { data := #[102, 101, 110, 99, 101, 32, 114, 119, 44, 32, 114, 119] }] W fun e w' => e = .returned (.int .u32 53477391) ∧ Below W.heap.size W w') := Lib.hid fun W a b => by have := Of3_any { data := #[102, 101, 110, 99, 101, 32, 114, 119, 44, 32, 114, 119] } (by decide) W a b; rw [of_5] at this; exact this
  have h6 : Hid (∀ W, Tabs W → Flds W → Calls Tryz.prog 52 #[.string { data := #[108, 114, 46, 100, 46, 97, 113, 32, 120, 53, 44, 32, 40, 120, 54, 41] }] W fun e w' => e = .returned (.int .u32 335753903) ∧ Below W.heap.size W w') := Lib.hid fun W a b => by have := Of3_any { data := #[108, 114, 46, 100, 46, 97, 113, 32, 120, 53, 44, 32, 40, 120, 54, 41] } (by decide) W a b; rw [of_6] at this; exact this
  have hbw : Below w.heap.size w w := Below.refl _ _
  go_enter Tryz.func12, Tryz.ntmps12
  go_wp2_with (go_at_call 52; (first | (with_reducible refine (h1.out _ ht hfl).mono ?_) | (with_reducible refine (h2.out _ ht hfl).mono ?_) | (with_reducible refine (h3.out _ ht hfl).mono ?_) | (with_reducible refine (h4.out _ ht hfl).mono ?_) | (with_reducible refine (h5.out _ ht hfl).mono ?_) | (with_reducible refine (h6.out _ ht hfl).mono ?_)); rintro e w1 ⟨rfl, hb1⟩; have ht1 := ht.later hb1 (Nat.le_refl _); have hfl1 := hfl.later hb1; have hbw1 := hbw.trans (hb1.mono hbw.size); clear ht hfl hbw hb1; have ht := ht1; have hfl := hfl1; have hbw := hbw1; clear ht1 hfl1 hbw1)
  go_ret
  exact ⟨rfl, hbw⟩
end Go.Proofs.YtdbpnbmaineniaaGreatDoor
