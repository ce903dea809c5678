/- Copies of instructions in the world's blocks, for the laws of words. The walks of the law's of and lives: the chapter's examples. The walks of package code's takes and Insn: a word's instruction. Conditions: as each theorem says. -/
import Derived.Test.YtdbpnbmaineniaaGreatDoorCodeTk
import Derived.Test.YtdbpnbmaineniaaGreatDoorCodeWC
import Derived.Test.YtdbpnbmaineniaaGreatDoorReadC
import Derived.Test.YtdbpnbmaineniaaGreatDoorReadD
import Derived.Test.YtdbpnbmaineniaaGreatDoorCodePn
import Derived.Deep.DeepCutAuto
set_option linter.unusedSimpArgs false
set_option linter.unusedVariables false
namespace Go.Proofs.YtdbpnbmaineniaaGreatDoor
open Go.RowKit
theorem checkE_02 (i : InsnV) : checkE i = 0 ∨ checkE i = 2 := by unfold checkE; split <;> simp
theorem cells_fresh (w : World) (cs : Array Value) (t : TypeId) (n : Nat) (hn : n ≤ cs.size) : (w.alloc (.cells cs t)).there w.heap.size 0 n := fun j hj => by
  refine ⟨?_, fresh_thawR w cs t _⟩
  rw [World.cell?_alloc_new, Nat.zero_add, Array.getElem?_eq_getElem (by omega)]; rfl
theorem stored_insn (s : World) (cs : List Value) (hl : cs.length = 9) (Z : Array Value) (hZ : Z.size = 9) (t : TypeId) : Below s.heap.size s (World.setCells (s.alloc (.cells Z t)) s.heap.size 0 cs) ∧ (World.setCells (s.alloc (.cells Z t)) s.heap.size 0 cs).rangeAt s.heap.size 0 cs ∧ s.heap.size < (World.setCells (s.alloc (.cells Z t)) s.heap.size 0 cs).heap.size := by
  have hal : Below s.heap.size s (s.alloc (.cells Z t)) := (Below.refl _ _).alloc (Nat.le_refl _) _
  exact ⟨below_cells (Nat.le_refl s.heap.size) cs 0 _ hal, World.rangeAt_setCells_same _ s.heap.size 0 cs (by rw [hl]; exact cells_fresh s Z t 9 (by omega)), Nat.lt_of_lt_of_le (show s.heap.size < (s.alloc (.cells Z t)).heap.size by simp) (below_cells (Nat.zero_le _) cs 0 _ (Below.refl 0 _)).size⟩
theorem there_on {w w' : World} {b n B : Nat} (h : w.there b 0 n) (hB : b < B) (hb : Below B w w') : w'.there b 0 n := fun j hj => by
  rw [hb.cell (p := ⟨b, 0 + j, none⟩) hB, hb.frozen (p := ⟨b, 0 + j, none⟩) hB]; exact h j hj
theorem range_set {w : World} {b : Nat} {cs : List Value} (h : w.rangeAt b 0 cs) (o : Nat) (v : Value) : (w.setCell ⟨b, o, none⟩ v).rangeAt b 0 (cs.set o v) := fun j u hj => by
  rw [List.getElem?_set] at hj
  by_cases e : o = j
  · subst e
    rw [if_pos rfl] at hj
    split at hj
    · rename_i hl
      rw [Nat.zero_add]
      cases hj
      exact World.cell?_setCell_same _ _ _ (by have := h o _ (List.getElem?_eq_getElem hl); rwa [Nat.zero_add] at this)
    · cases hj
  · rw [if_neg e] at hj
    rw [World.cell?_setCell_other _ _ _ _ (fun q => e ((congrArg Addr.off q).trans (Nat.zero_add j)))]
    exact h j u hj
theorem range_on {w w' : World} {b B : Nat} {cs : List Value} (hr : w.rangeAt b 0 cs) (hB : b < B) (hb : Below B w w') : w'.rangeAt b 0 cs := fun j v hv => by
  rw [hb.cell (p := ⟨b, 0 + j, none⟩) hB]; exact hr j v hv
theorem range_apart {w w' : World} {b B : Nat} {cs : List Value} (hr : w.rangeAt b 0 cs) (hlt : b < w.heap.size) (hne : b ≠ B) (hg : w.grownBy w' (some B)) : w'.rangeAt b 0 cs := fun j v hv => by
  rw [far_cell hg ⟨b, 0 + j, none⟩ hlt (fun e => hne (Option.some.inj e))]; exact hr j v hv
theorem range_cell {w : World} {b : Nat} {cs : List Value} (h : w.rangeAt b 0 cs) (j : Nat) (v : Value) (hj : cs[j]? = some v) : w.cell? ⟨b, j, none⟩ = some v := by have := h j v hj; rwa [Nat.zero_add] at this
/-- A copy of an instruction, just laid. -/
theorem copied {s : World} {cs : List Value} (hl : cs.length = 9) (Z : Array Value) (hZ : Z.size = 9) (t : TypeId) : Below s.heap.size s (World.setCells (s.alloc (.cells Z t)) s.heap.size 0 cs) ∧ (World.setCells (s.alloc (.cells Z t)) s.heap.size 0 cs).rangeAt s.heap.size 0 cs ∧ s.heap.size < (World.setCells (s.alloc (.cells Z t)) s.heap.size 0 cs).heap.size ∧ (World.setCells (s.alloc (.cells Z t)) s.heap.size 0 cs).there s.heap.size 0 9 := by
  obtain ⟨a, b, c⟩ := stored_insn s cs hl Z hZ t
  exact ⟨a, b, c, World.there_setCells (cells_fresh s Z t 9 (by omega)) _ _ _⟩
theorem there_thaw {w : World} {b n : Nat} (h : w.there b 0 n) (j : Nat) (hj : j < n) : w.frozen? ⟨b, j, none⟩ = false := by have := (h j hj).2; rwa [Nat.zero_add] at this
theorem InsnV.list_len (i : InsnV) : i.cells.toList.length = 9 := rfl
theorem size_insn (i : InsnV) : (Tryz.prog.info? 23).map (·.size) = some i.cells.toList.length := by rw [i.list_len]; kernel_rfl
theorem InsnV.list_one (i : InsnV) : i.cells.toList.toArray.all (·.oneCell') = true := by rw [Array.toArray_toList]; exact i.one
/-- A box that has just been made. -/
theorem boxed (w : World) (i : InsnV) (t : TypeId) : Below w.heap.size w (w.alloc (.cells i.cells t)) ∧ (w.alloc (.cells i.cells t)).rangeAt w.heap.size 0 i.cells.toList ∧ w.heap.size < (w.alloc (.cells i.cells t)).heap.size := ⟨(Below.refl _ _).alloc (Nat.le_refl _) _, cellR w i.cells t, by simp⟩
/-- Word at a list of cells. -/
theorem word_list (i : InsnV) (hlo : -9223372036854775808 ≤ i.op) (hop : i.op ≤ 9223372036854775807) (W : World) (ht : Tabs W) (hfl : Flds W) : Calls Tryz.prog 14 #[.agg i.cells.toList.toArray] W fun e w' => e = .returned (.tuple #[.int .u32 (un32 (wordV i)), .int .i64 (checkE i)]) ∧ Below W.heap.size W w' := by
  rw [Array.toArray_toList]; exact CodeWord_any i W hlo hop ht hfl
end Go.Proofs.YtdbpnbmaineniaaGreatDoor
namespace Go.Proofs.YtdbpnbmaineniaaGreatDoor
open Go.RowKit
def ofV (s : ByteArray) : BitVec 32 := if (readB s).2 ≠ 0 ∨ checkE (readB s).1 ≠ 0 then 0#32 else wordV (readB s).1
theorem namedN_lt (s : ByteArray) : namedN s < 88 := by
  unfold namedN
  split
  · assumption
  · decide
theorem opB_bd (nm : ByteArray) : ∀ k, 0 ≤ (opB nm k).1 ∧ (opB nm k).1 ≤ 88
  | 0 => ⟨Int.le_refl 0, show (0 : Int) ≤ 88 by decide⟩
  | k + 1 => by
    have ih := opB_bd nm k
    unfold opB
    split
    · have := namedN_lt (nm.extract 0 (nm.size - (endsB k).size))
      exact ⟨Int.natCast_nonneg _, by show ((namedN _ : Nat) : Int) ≤ 88; omega⟩
    · exact ih
theorem fieldsB_op (f : Int) (i : InsnV) (p : ByteArray × Bool) : (fieldsB f i p).1.op = i.op := by
  unfold fieldsB
  repeat' split
  all_goals rfl
theorem readB_bd (s : ByteArray) : 0 ≤ (readB s).1.op ∧ (readB s).1.op ≤ 88 := by
  unfold readB
  simp only
  split
  · exact ⟨Int.le_refl 0, by decide⟩
  · unfold preB
    simp only
    rw [fieldsB_op]
    exact opB_bd _ 4
theorem readB_04 (s : ByteArray) : (readB s).2 = 0 ∨ (readB s).2 = 4 := by unfold readB; simp only; split <;> simp
theorem of_1 : ofV { data := #[97, 100, 100, 105, 32, 120, 53, 44, 32, 120, 54, 44, 32, 45, 51] } = 0xffd30293#32 := by decide +kernel
theorem of_2 : ofV { data := #[115, 100, 32, 120, 55, 44, 32, 56, 40, 120, 50, 41] } = 0x00713423#32 := by decide +kernel
theorem of_3 : ofV { data := #[98, 101, 113, 32, 120, 49, 44, 32, 120, 50, 44, 32, 45, 52] } = 0xfe208ee3#32 := by decide +kernel
theorem of_4 : ofV { data := #[106, 97, 108, 32, 120, 49, 44, 32, 50, 48, 52, 56] } = 0x001000ef#32 := by decide +kernel
theorem of_5 : ofV { data := #[102, 101, 110, 99, 101, 32, 114, 119, 44, 32, 114, 119] } = 0x0330000f#32 := by decide +kernel
theorem of_6 : ofV { data := #[108, 114, 46, 100, 46, 97, 113, 32, 120, 53, 44, 32, 40, 120, 54, 41] } = 0x140332af#32 := by decide +kernel
set_option maxRecDepth 100000 in
set_option maxHeartbeats 4000000 in
theorem Of3_any (s : ByteArray) (hs : s.size ≤ 1000) (w : World) (ht : Tabs w) (hfl : Flds w) :
    Calls Tryz.prog 52 #[.string s] w fun e w' => e = .returned (.int .u32 (un32 (ofV s))) ∧ Below w.heap.size w w' := by
  have hu := Tryz.underlying23
  have hbd := readB_bd s
  have hR := Lib.hid (fun W => R2Read_any s hs W)
  have hW := Lib.hid (fun W h1 h2 => CodeWord_any (readB s).1 W (by omega) (by omega) h1 h2)
  have h04 := readB_04 s
  have h02 := checkE_02 (readB s).1
  have hOf : Hid ((readB s).2 = 0 → checkE (readB s).1 = 0 → un32 (wordV (readB s).1) = un32 (ofV s)) := Lib.hid fun a b => by unfold ofV; rw [if_neg (by simp [a, b])]
  have hOn : Hid (((readB s).2 ≠ 0 ∨ checkE (readB s).1 ≠ 0) → (0 : Int) = un32 (ofV s)) := Lib.hid fun a => by unfold ofV; rw [if_pos a]; rfl
  obtain ⟨v, hv⟩ : ∃ v, un32 (ofV s) = v := ⟨_, rfl⟩
  obtain ⟨x, hx⟩ : ∃ x, un32 (wordV (readB s).1) = x := ⟨_, rfl⟩
  obtain ⟨c, hc⟩ : ∃ c, checkE (readB s).1 = c := ⟨_, rfl⟩
  obtain ⟨d, hd⟩ : ∃ d, (readB s).2 = d := ⟨_, rfl⟩
  rw [hv]
  rw [hx, hc] at hW
  rw [hv, hx, hc, hd] at hOf
  rw [hv, hc, hd] at hOn
  rw [hd] at h04 hR
  rw [hc] at h02
  obtain ⟨CS, hCS⟩ : ∃ C, (readB s).1.cells = C := ⟨_, rfl⟩
  have hCn : CS.size = 9 := by rw [← hCS]; rfl
  have h1c : CS.all (·.oneCell') = true := by rw [← hCS]; exact (readB s).1.one
  rw [hCS] at hR hW
  clear hbd hv hx hc hd hCS
  have hi : Hid ((Tryz.prog.info? 23).map (·.size) = some CS.size) := Lib.hid (by rw [hCn]; kernel_rfl)
  have hi2 : Hid ((Tryz.prog.info? 23).map (·.size) = some CS.toList.length) := Lib.hid (by rw [Array.length_toList]; exact hi.out)
  replace hCn := Lib.hid hCn
  replace h1c := Lib.hid h1c
  have hWl : Hid (∀ W, Tabs W → Flds W → Calls Tryz.prog 14 #[.agg CS.toList.toArray] W fun e w' => e = .returned (.tuple #[.int .u32 x, .int .i64 c]) ∧ Below W.heap.size W w') := Lib.hid fun W h1 h2 => by rw [Array.toArray_toList]; exact hW.out W h1 h2
  clear hW
  rcases h04 with rfl | rfl <;> rcases h02 with rfl | rfl
  all_goals
    go_enter Tryz.func52, Tryz.ntmps52
    go_wp2_with (first | (go_at_call 24; refine (hR.out _).mono ?_; rintro e w1 ⟨rfl, hb1⟩) | (refine wpList_store_mid rfl 23 _ _ rfl w1.heap.size 0 CS rfl rfl (fun j hj => cells_fresh w1 #[.int .i64 0, .int .i64 0, .int .i64 0, .int .i64 0, .int .i64 0, .bool false, .bool false, .int .i64 0, .int .i64 0] 23 9 (by decide) j (by rw [hCn.out] at hj; exact hj)) hi.out h1c.out ?_; obtain ⟨hb2, hr2, hlt2⟩ := stored_insn w1 CS.toList (by rw [Array.length_toList]; exact hCn.out) #[.int .i64 0, .int .i64 0, .int .i64 0, .int .i64 0, .int .i64 0, .bool false, .bool false, .int .i64 0, .int .i64 0] rfl 23; have hb12 := hb1.trans (hb2.mono hb1.size); have ht2 := ht.later hb12 (Nat.le_refl _); have hfl2 := hfl.later hb12; generalize World.setCells _ w1.heap.size 0 CS.toList = w2 at hb2 hr2 hlt2 hb12 ht2 hfl2 ⊢) | (refine wpList_load_mid rfl 23 _ rfl w1.heap.size 0 rfl CS.toList _ hr2 hu rfl hi2.out ?_) | (go_at_call 14; refine (hWl.out _ ht2 hfl2).mono ?_; rintro e w3 ⟨rfl, hb3⟩))
    go_ret
    exact ⟨ret_int (by first | exact hOf.out (by simp) (by simp) | exact hOn.out (by simp)), hb12.trans (hb3.mono hb12.size)⟩
set_option maxRecDepth 100000 in
set_option maxHeartbeats 4000000 in
theorem Lives3_any (w : World) (ht : Tabs w) (hfl : Flds w) :
    Calls Tryz.prog 12 #[] w fun e w' => e = .returned (.bool true) ∧ Below w.heap.size w w' := by
  have h1 : Hid (∀ W, Tabs W → Flds W → Calls Tryz.prog 52 #[.string { data := #[97, 100, 100, 105, 32, 120, 53, 44, 32, 120, 54, 44, 32, 45, 51] }] W fun e w' => e = .returned (.int .u32 4292018835) ∧ Below W.heap.size W w') := Lib.hid fun W a b => by have := Of3_any { data := #[97, 100, 100, 105, 32, 120, 53, 44, 32, 120, 54, 44, 32, 45, 51] } (by decide) W a b; rw [of_1] at this; exact this
  have h2 : Hid (∀ W, Tabs W → Flds W → Calls Tryz.prog 52 #[.string { data := #[115, 100, 32, 120, 55, 44, 32, 56, 40, 120, 50, 41] }] W fun e w' => e = .returned (.int .u32 7418915) ∧ Below W.heap.size W w') := Lib.hid fun W a b => by have := Of3_any { data := #[115, 100, 32, 120, 55, 44, 32, 56, 40, 120, 50, 41] } (by decide) W a b; rw [of_2] at this; exact this
  have h3 : Hid (∀ W, Tabs W → Flds W → Calls Tryz.prog 52 #[.string { data := #[98, 101, 113, 32, 120, 49, 44, 32, 120, 50, 44, 32, 45, 52] }] W fun e w' => e = .returned (.int .u32 4263546595) ∧ Below W.heap.size W w') := Lib.hid fun W a b => by have := Of3_any { data := #[98, 101, 113, 32, 120, 49, 44, 32, 120, 50, 44, 32, 45, 52] } (by decide) W a b; rw [of_3] at this; exact this
  have h4 : Hid (∀ W, Tabs W → Flds W → Calls Tryz.prog 52 #[.string { data := #[106, 97, 108, 32, 120, 49, 44, 32, 50, 48, 52, 56] }] W fun e w' => e = .returned (.int .u32 1048815) ∧ Below W.heap.size W w') := Lib.hid fun W a b => by have := Of3_any { data := #[106, 97, 108, 32, 120, 49, 44, 32, 50, 48, 52, 56] } (by decide) W a b; rw [of_4] at this; exact this
  have h5 : Hid (∀ W, Tabs W → Flds W → Calls Tryz.prog 52 #[.string { data := #[102, 101, 110, 99, 101, 32, 114, 119, 44, 32, 114, 119] }] W fun e w' => e = .returned (.int .u32 53477391) ∧ Below W.heap.size W w') := Lib.hid fun W a b => by have := Of3_any { data := #[102, 101, 110, 99, 101, 32, 114, 119, 44, 32, 114, 119] } (by decide) W a b; rw [of_5] at this; exact this
  have h6 : Hid (∀ W, Tabs W → Flds W → Calls Tryz.prog 52 #[.string { data := #[108, 114, 46, 100, 46, 97, 113, 32, 120, 53, 44, 32, 40, 120, 54, 41] }] W fun e w' => e = .returned (.int .u32 335753903) ∧ Below W.heap.size W w') := Lib.hid fun W a b => by have := Of3_any { data := #[108, 114, 46, 100, 46, 97, 113, 32, 120, 53, 44, 32, 40, 120, 54, 41] } (by decide) W a b; rw [of_6] at this; exact this
  have hbw : Below w.heap.size w w := Below.refl _ _
  go_enter Tryz.func12, Tryz.ntmps12
  go_wp2_with (go_at_call 52; (first | (with_reducible refine (h1.out _ ht hfl).mono ?_) | (with_reducible refine (h2.out _ ht hfl).mono ?_) | (with_reducible refine (h3.out _ ht hfl).mono ?_) | (with_reducible refine (h4.out _ ht hfl).mono ?_) | (with_reducible refine (h5.out _ ht hfl).mono ?_) | (with_reducible refine (h6.out _ ht hfl).mono ?_)); rintro e w1 ⟨rfl, hb1⟩; have ht1 := ht.later hb1 (Nat.le_refl _); have hfl1 := hfl.later hb1; have hbw1 := hbw.trans (hb1.mono hbw.size); clear ht hfl hbw hb1; have ht := ht1; have hfl := hfl1; have hbw := hbw1; clear ht1 hfl1 hbw1)
  go_ret
  exact ⟨rfl, hbw⟩
end Go.Proofs.YtdbpnbmaineniaaGreatDoor
namespace Go.Proofs.YtdbpnbmaineniaaGreatDoor
open Go.RowKit
/-- What takes a form's words apart. -/
def tkL (f : Int) : List Nat := if f = 1 ∨ f = 2 then [0, 3] else if f = 3 ∨ f = 4 then [0, 1, 3] else if f = 7 then [0, 1, 4] else if f = 5 ∨ f = 6 then [1, 2, 3] else if f = 8 then [0, 1, 2] else if f = 9 then [6] else if f = 11 then [0, 1, 5] else if f = 12 then [0, 1, 2, 5] else []
def tkF (t : Nat) : FuncId := [106, 108, 110, 107, 109, 112, 111].getD t 0
def tkV (t : Nat) : Value := .func (.func (tkF t)) #[] #[]
theorem tkL_len (f : Int) : (tkL f).length ≤ 4 := by unfold tkL; (repeat' split) <;> simp
theorem tkL_lt (f : Int) : ∀ t ∈ tkL f, t < 7 := by unfold tkL; (repeat' split) <;> simp
/-- One of them. -/
def tkSI (f : Int) (x : BitVec 64) (t : Nat) (i : InsnV) : InsnV :=
  if t = 0 then { i with rd := sn (Part x 7 5) } else if t = 1 then { i with rs1 := sn (Part x 15 5) } else if t = 2 then { i with rs2 := sn (Part x 20 5) }
  else if t = 3 then { i with imm := sn (Sign (immGet x (pieces f) (pieces f).length) (pieceBits f)) } else if t = 4 then { i with imm := sn (Part x 20 6) }
  else if t = 5 then { i with aq := un (Part x 26 1) == 1, rl := un (Part x 25 1) == 1 } else { i with pred := sn (Part x 24 4), succ := sn (Part x 20 4) }
/-- The first k of them. -/
def tkK (f : Int) (x : BitVec 64) (i : InsnV) : Nat → InsnV
  | 0 => i
  | k + 1 => tkSI f x ((tkL f).getD k 0) (tkK f x i k)
theorem tkS_op (f : Int) (x : BitVec 64) (t : Nat) (i : InsnV) : (tkSI f x t i).op = i.op := by unfold tkSI; (repeat' split) <;> rfl
theorem tkK_op (f : Int) (x : BitVec 64) (i : InsnV) : ∀ k, (tkK f x i k).op = i.op
  | 0 => rfl
  | k + 1 => (tkS_op f x _ _).trans (tkK_op f x i k)
theorem tkK_all (f op : Int) (x : BitVec 64) (f1 : 1 ≤ f) (f12 : f ≤ 12) : tkK f x (zeroOf op) (tkL f).length = decV f op x := by
  rcases (show f = 1 ∨ f = 2 ∨ f = 3 ∨ f = 4 ∨ f = 5 ∨ f = 6 ∨ f = 7 ∨ f = 8 ∨ f = 9 ∨ f = 10 ∨ f = 11 ∨ f = 12 by omega) with rfl | rfl | rfl | rfl | rfl | rfl | rfl | rfl | rfl | rfl | rfl | rfl
  all_goals simp [tkK, tkSI, tkL, decV, hasL, zeroOf]
structure TkNew (w : World) (f : Int) (e : Ending) (w' : World) : Prop where
  ret : ∃ v, e = .returned v ∧ w'.ownsRow w.heap.size 72 1 v (tkL f).length ((tkL f).map tkV)
  below : Below w.heap.size w w'
theorem Takes_1 (w : World) : Calls Tryz.prog 47 #[.int .i64 1] w (TkNew w 1) := by
  go_enter Tryz.func47, Tryz.ntmps47
  go_wp2
  go_ret
  exact ⟨⟨_, rfl, World.ownsRow_lit (e := 72) (size := 1) w #[tkV 0, tkV 3] 2 (Nat.le_refl _) (by decide) rfl⟩, (Below.refl _ _).alloc (Nat.le_refl _) _⟩
theorem Takes_2 (w : World) : Calls Tryz.prog 47 #[.int .i64 2] w (TkNew w 2) := by
  go_enter Tryz.func47, Tryz.ntmps47
  go_wp2
  go_ret
  exact ⟨⟨_, rfl, World.ownsRow_lit (e := 72) (size := 1) w #[tkV 0, tkV 3] 2 (Nat.le_refl _) (by decide) rfl⟩, (Below.refl _ _).alloc (Nat.le_refl _) _⟩
theorem Takes_3 (w : World) : Calls Tryz.prog 47 #[.int .i64 3] w (TkNew w 3) := by
  go_enter Tryz.func47, Tryz.ntmps47
  go_wp2
  go_ret
  exact ⟨⟨_, rfl, World.ownsRow_lit (e := 72) (size := 1) w #[tkV 0, tkV 1, tkV 3] 3 (Nat.le_refl _) (by decide) rfl⟩, (Below.refl _ _).alloc (Nat.le_refl _) _⟩
theorem Takes_4 (w : World) : Calls Tryz.prog 47 #[.int .i64 4] w (TkNew w 4) := by
  go_enter Tryz.func47, Tryz.ntmps47
  go_wp2
  go_ret
  exact ⟨⟨_, rfl, World.ownsRow_lit (e := 72) (size := 1) w #[tkV 0, tkV 1, tkV 3] 3 (Nat.le_refl _) (by decide) rfl⟩, (Below.refl _ _).alloc (Nat.le_refl _) _⟩
theorem Takes_5 (w : World) : Calls Tryz.prog 47 #[.int .i64 5] w (TkNew w 5) := by
  go_enter Tryz.func47, Tryz.ntmps47
  go_wp2
  go_ret
  exact ⟨⟨_, rfl, World.ownsRow_lit (e := 72) (size := 1) w #[tkV 1, tkV 2, tkV 3] 3 (Nat.le_refl _) (by decide) rfl⟩, (Below.refl _ _).alloc (Nat.le_refl _) _⟩
theorem Takes_6 (w : World) : Calls Tryz.prog 47 #[.int .i64 6] w (TkNew w 6) := by
  go_enter Tryz.func47, Tryz.ntmps47
  go_wp2
  go_ret
  exact ⟨⟨_, rfl, World.ownsRow_lit (e := 72) (size := 1) w #[tkV 1, tkV 2, tkV 3] 3 (Nat.le_refl _) (by decide) rfl⟩, (Below.refl _ _).alloc (Nat.le_refl _) _⟩
theorem Takes_7 (w : World) : Calls Tryz.prog 47 #[.int .i64 7] w (TkNew w 7) := by
  go_enter Tryz.func47, Tryz.ntmps47
  go_wp2
  go_ret
  exact ⟨⟨_, rfl, World.ownsRow_lit (e := 72) (size := 1) w #[tkV 0, tkV 1, tkV 4] 3 (Nat.le_refl _) (by decide) rfl⟩, (Below.refl _ _).alloc (Nat.le_refl _) _⟩
theorem Takes_8 (w : World) : Calls Tryz.prog 47 #[.int .i64 8] w (TkNew w 8) := by
  go_enter Tryz.func47, Tryz.ntmps47
  go_wp2
  go_ret
  exact ⟨⟨_, rfl, World.ownsRow_lit (e := 72) (size := 1) w #[tkV 0, tkV 1, tkV 2] 3 (Nat.le_refl _) (by decide) rfl⟩, (Below.refl _ _).alloc (Nat.le_refl _) _⟩
theorem Takes_9 (w : World) : Calls Tryz.prog 47 #[.int .i64 9] w (TkNew w 9) := by
  go_enter Tryz.func47, Tryz.ntmps47
  go_wp2
  go_ret
  exact ⟨⟨_, rfl, World.ownsRow_lit (e := 72) (size := 1) w #[tkV 6] 1 (Nat.le_refl _) (by decide) rfl⟩, (Below.refl _ _).alloc (Nat.le_refl _) _⟩
theorem Takes_10 (w : World) : Calls Tryz.prog 47 #[.int .i64 10] w (TkNew w 10) := by
  go_enter Tryz.func47, Tryz.ntmps47
  go_wp2
  go_ret
  exact ⟨⟨_, rfl, World.ownsRow_nil _ _ _ _⟩, Below.refl _ _⟩
theorem Takes_11 (w : World) : Calls Tryz.prog 47 #[.int .i64 11] w (TkNew w 11) := by
  go_enter Tryz.func47, Tryz.ntmps47
  go_wp2
  go_ret
  exact ⟨⟨_, rfl, World.ownsRow_lit (e := 72) (size := 1) w #[tkV 0, tkV 1, tkV 5] 3 (Nat.le_refl _) (by decide) rfl⟩, (Below.refl _ _).alloc (Nat.le_refl _) _⟩
theorem Takes_12 (w : World) : Calls Tryz.prog 47 #[.int .i64 12] w (TkNew w 12) := by
  go_enter Tryz.func47, Tryz.ntmps47
  go_wp2
  go_ret
  exact ⟨⟨_, rfl, World.ownsRow_lit (e := 72) (size := 1) w #[tkV 0, tkV 1, tkV 2, tkV 5] 4 (Nat.le_refl _) (by decide) rfl⟩, (Below.refl _ _).alloc (Nat.le_refl _) _⟩
theorem CTakes_any (f : Int) (f1 : 1 ≤ f) (f12 : f ≤ 12) (w : World) : Calls Tryz.prog 47 #[.int .i64 f] w (TkNew w f) := by
  rcases (show f = 1 ∨ f = 2 ∨ f = 3 ∨ f = 4 ∨ f = 5 ∨ f = 6 ∨ f = 7 ∨ f = 8 ∨ f = 9 ∨ f = 10 ∨ f = 11 ∨ f = 12 by omega) with rfl | rfl | rfl | rfl | rfl | rfl | rfl | rfl | rfl | rfl | rfl | rfl
  · exact Takes_1 w
  · exact Takes_2 w
  · exact Takes_3 w
  · exact Takes_4 w
  · exact Takes_5 w
  · exact Takes_6 w
  · exact Takes_7 w
  · exact Takes_8 w
  · exact Takes_9 w
  · exact Takes_10 w
  · exact Takes_11 w
  · exact Takes_12 w
/-- Where an instruction's block is not a field's. -/
def Apart (B : Nat) : Prop := 0 ≠ B ∧ 1 ≠ B ∧ 2 ≠ B ∧ 3 ≠ B ∧ 4 ≠ B ∧ 5 ≠ B ∧ 6 ≠ B ∧ 7 ≠ B
/-- One of them, by its number. -/
theorem Tk_any (f : Int) (x : BitVec 64) (t : Nat) (h7 : t < 7) (B : Nat) (i : InsnV) (hf : (opOf i.op).form = f) (hop : i.op ≤ 9223372036854775807) (w : World) (ht : Tabs w) (hfl : Flds w) (hB : Bx w B i) (hne : Apart B) :
    Calls Tryz.prog (tkF t) #[.int .u64 (un x), .pointer (some ⟨B, 0, none⟩)] w fun e w' => e = .returned (.tuple #[]) ∧ Bx w' B (tkSI f x t i) ∧ w.grownBy w' (some B) := by
  subst hf
  rcases (show t = 0 ∨ t = 1 ∨ t = 2 ∨ t = 3 ∨ t = 4 ∨ t = 5 ∨ t = 6 by omega) with rfl | rfl | rfl | rfl | rfl | rfl | rfl
  · exact TakeRd_any x B i w hfl hB
  · exact TakeRs1_any x B i w hfl hB
  · exact TakeRs2_any x B i w hfl hB
  · exact TakeImm_any x B i hop w ht hB
  · exact TakeSix_any x B i w hfl hB
  · exact TakeMarks_any x B i w hB
  · exact TakeFence_any x B i w hfl hB hne
open Go.Maps in
/-- A look-up in the table, in a region that draws its order. -/
theorem yieldsIf_tm_get {ops : Array Oper} {S : World → Prop} {o : Oper} {a : Act} {t : TypeId} (hw : Region.wanted o (yielded ops a.tmps) = true) (m x : Operand) (hop : o.op = Op.lookup t m x false) (ht : Tryz.prog.underlying t = some (.map 3 67))
    (b n : Nat) (T : Int → PartV) (hm : a.eval m = .map (some b)) (hS : ∀ W, S W → TM W b n T) (k : Int) (hx : a.eval x = .int .i64 k) (hwf : (Lit.int .i64 k).wf = true) : YieldsIf Tryz.prog ops S o (.agg (T k).cells) a :=
  .inl ⟨hw, fun w hs => by
    obtain ⟨D, h1, h2⟩ := hS w hs
    obtain ⟨v, ps, hrun, hR⟩ := h1.lookup int_law ht (zeroPart w) (partR_mk noPart) (keyOf_int_mk Tryz.underlying3 hwf)
    rw [h2 k] at hR
    obtain ⟨q, rfl, hq⟩ := partR_inv hR
    rw [← PartV.datum_inj hq] at hrun
    unfold execOp
    simp [hop, hm, hx, hrun]⟩
theorem Bx.of_range {w : World} {B : Nat} {i : InsnV} (hr : w.rangeAt B 0 i.cells.toList) (ht : w.there B 0 9) (hlt : B < w.heap.size) : Bx w B i := by
  have c : ∀ j v, i.cells.toList[j]? = some v → w.cell? ⟨B, j, none⟩ = some v := fun j v h => by have := hr j v h; rwa [Nat.zero_add] at this
  have f : ∀ j, j < 9 → w.frozen? ⟨B, j, none⟩ = false := fun j h => by have := (ht j h).2; rwa [Nat.zero_add] at this
  exact ⟨c 0 _ rfl, c 1 _ rfl, c 2 _ rfl, c 3 _ rfl, c 4 _ rfl, c 5 _ rfl, c 6 _ rfl, c 7 _ rfl, c 8 _ rfl, f 0 (by decide), f 1 (by decide), f 2 (by decide), f 3 (by decide), f 4 (by decide), f 5 (by decide), f 6 (by decide), f 7 (by decide), f 8 (by decide), hlt⟩
theorem Bx.range {w : World} {B : Nat} {i : InsnV} (h : Bx w B i) : w.rangeAt B 0 i.cells.toList := fun j v hj => by
  rw [Nat.zero_add]
  rcases j with _ | _ | _ | _ | _ | _ | _ | _ | _ | j
  · cases hj; exact h.c0
  · cases hj; exact h.c1
  · cases hj; exact h.c2
  · cases hj; exact h.c3
  · cases hj; exact h.c4
  · cases hj; exact h.c5
  · cases hj; exact h.c6
  · cases hj; exact h.c7
  · cases hj; exact h.c8
  · cases hj
theorem low7_32 (x : BitVec 64) : un32 ((Low x 7).setWidth 32) = un (Low x 7) := by
  have h : (Low x 7).toNat < 128 := by
    unfold Low
    rw [BitVec.toNat_and]
    exact Nat.lt_of_le_of_lt Nat.and_le_right (by decide)
  unfold un32 un
  rw [BitVec.toNat_setWidth, Nat.mod_eq_of_lt (by omega)]
theorem insnFrom_yes (w : BitVec 32) (op : Int) (n : Nat) (h : isOp w op = true) : insnFrom w op (n + 1) = (decI op w, 0) := if_pos h
theorem insnFrom_not (w : BitVec 32) (op : Int) (n : Nat) (h : isOp w op = false) : insnFrom w op (n + 1) = insnFrom w (op + 1) n := if_neg (by rw [h]; decide)
theorem own_cellV {w : World} {base : Nat} {e : TypeId} {ao : Option Addr} {cap n : Nat} {l : List Value} (h : w.ownsRow base e 1 (.slice ao n cap) n l) (hl : l.length = n) (j : Nat) (hj : j < n) : ∃ g, ao = some ⟨g, 0, none⟩ ∧ w.cell? ⟨g, j, none⟩ = l[j]? := by
  rcases h.2 with ⟨h1, h0⟩ | ⟨g, cap', cur, h1, h2⟩
  · omega
  · simp only [Value.slice.injEq] at h1
    obtain ⟨rfl, -, rfl⟩ := h1
    exact ⟨g, rfl, h.cellAt j (by omega)⟩
theorem fits_word (f op : Int) (x : BitVec 64) : (decV f op x).op = op := rfl
theorem apart_of {w : World} {B : Nat} (h : Flds w) (hB : w.heap.size ≤ B) : Apart B := ⟨Nat.ne_of_lt (Nat.lt_of_lt_of_le h.lF3 hB), Nat.ne_of_lt (Nat.lt_of_lt_of_le h.lRd hB), Nat.ne_of_lt (Nat.lt_of_lt_of_le h.lRs1 hB), Nat.ne_of_lt (Nat.lt_of_lt_of_le h.lRs2 hB), Nat.ne_of_lt (Nat.lt_of_lt_of_le h.lF7 hB), Nat.ne_of_lt (Nat.lt_of_lt_of_le h.lSix hB), Nat.ne_of_lt (Nat.lt_of_lt_of_le h.lPred hB), Nat.ne_of_lt (Nat.lt_of_lt_of_le h.lSucc hB)⟩
theorem Flds.apart {w w' : World} {B : Nat} (h : Flds w) (hF : Apart B) (hg : w.grownBy w' (some B)) : Flds w' := h.grown hg hF.1 hF.2.1 hF.2.2.1 hF.2.2.2.1 hF.2.2.2.2.1 hF.2.2.2.2.2.1 hF.2.2.2.2.2.2.1 hF.2.2.2.2.2.2.2
theorem wrap_u64_un32 (x : BitVec 32) : IntKind.u64.wrap (un32 x) = un (x.setWidth 64) := by
  rw [wrap_u64_bv]; congr 1
  apply BitVec.eq_of_toNat_eq
  unfold bv un32
  have := x.isLt
  rw [BitVec.toNat_ofInt, BitVec.toNat_setWidth]
  omega
theorem forms_ok : ((List.range 88).all fun n => n == 0 || (decide (1 ≤ (opOf (n : Nat)).form) && decide ((opOf (n : Nat)).form ≤ 12))) = true := by decide +kernel
theorem form_of (n : Nat) (h1 : 1 ≤ n) (h : n < 88) : 1 ≤ (opOf (n : Int)).form ∧ (opOf (n : Int)).form ≤ 12 := by
  have := List.all_eq_true.1 forms_ok n (List.mem_range.2 h)
  simp only [Bool.or_eq_true, Bool.and_eq_true, decide_eq_true_eq, beq_iff_eq] at this
  rcases this with h0 | h0
  · omega
  · exact h0
theorem zero_cells (k : Int) : (zeroOf k).cells = #[.int .i64 k, .int .i64 0, .int .i64 0, .int .i64 0, .int .i64 0, .bool false, .bool false, .int .i64 0, .int .i64 0] := rfl
theorem insnFrom_zero (w : BitVec 32) (op : Int) : insnFrom w op 0 = (insnNone, 4) := rfl
theorem tkV_0 : tkV 0 = .func (.func 106) #[] #[] := rfl
theorem tkV_1 : tkV 1 = .func (.func 108) #[] #[] := rfl
theorem tkV_2 : tkV 2 = .func (.func 110) #[] #[] := rfl
theorem tkV_3 : tkV 3 = .func (.func 107) #[] #[] := rfl
theorem tkV_4 : tkV 4 = .func (.func 109) #[] #[] := rfl
theorem tkV_5 : tkV 5 = .func (.func 112) #[] #[] := rfl
theorem tkV_6 : tkV 6 = .func (.func 111) #[] #[] := rfl
theorem tword_list (b : Nat) (D : InsnV) (W : World) (hT : TM W b 200 madeT) (hlo : -9223372036854775808 ≤ D.op) (hop : D.op ≤ 9223372036854775807) (ht : Tabs W) (hfl : Flds W) :
    Calls Tryz.prog 48 #[.map (some b), .agg D.cells.toList.toArray] W fun e w' => e = .returned (.tuple #[.int .u32 (un32 (wordV D)), .int .i64 (checkE D)]) ∧ Below W.heap.size W w' := by
  rw [Array.toArray_toList]; exact TWord_any b 200 madeT D W hT hlo hop ht hfl
theorem un32_injI {x y : BitVec 32} (h : un32 x = un32 y) : x = y := by
  unfold un32 at h
  exact BitVec.eq_of_toNat_eq (by omega)
theorem tags_at (l : List Nat) (hl : ∀ t ∈ l, t < 7) (q : Nat) (hq : q < l.length) : l.getD q 0 < 7 ∧ (l.map tkV)[q]? = some (tkV (l.getD q 0)) := by
  rw [List.getD_eq_getElem?_getD, List.getElem?_eq_getElem hq]
  exact ⟨hl _ (List.getElem_mem hq), by simp [hq]⟩
attribute [local go_sem] wrap_u64_un32 wrap_u32_un Instr.field asAgg run_part_plain
section
attribute [local irreducible] un sn un32 checkE wordV Low decI tkV isOp insnFrom
set_option maxRecDepth 100000 in
set_option maxHeartbeats 16000000 in
theorem Insn_any (x : BitVec 32) (w : World) (ht : Tabs w) (hfl : Flds w) :
    Calls Tryz.prog 9 #[.int .u32 (un32 x)] w fun e w' => e = .returned (.tuple #[.agg (insnW x).1.cells, .int .i64 (insnW x).2]) ∧ Below w.heap.size w w' := by
  have hu := Tryz.underlying23
  have hR : Hid (insnFrom x 1 87 = insnW x) := Lib.hid rfl
  generalize insnW x = R at hR ⊢
  have hz := cells_fresh w #[.int .i64 0, .int .i64 0, .int .i64 0, .int .i64 0, .int .i64 0, .bool false, .bool false, .int .i64 0, .int .i64 0] 23 9 (by decide)
  have hb0 : Below w.heap.size w (w.alloc (.cells #[.int .i64 0, .int .i64 0, .int .i64 0, .int .i64 0, .int .i64 0, .bool false, .bool false, .int .i64 0, .int .i64 0] 23)) := (Below.refl _ _).alloc (Nat.le_refl _) _
  have hs0 : w.heap.size < (w.alloc (.cells #[.int .i64 0, .int .i64 0, .int .i64 0, .int .i64 0, .int .i64 0, .bool false, .bool false, .int .i64 0, .int .i64 0] 23)).heap.size := by simp
  replace hz := Lib.hid hz
  go_enter Tryz.func9, Tryz.ntmps9
  go_wp2_with (go_at_call 45; refine (Made_any _).mono ?_; rintro e w1 ⟨rfl, hTm, hb1⟩)
  have hb01 : Below w.heap.size w w1 := hb0.trans (hb1.mono hb0.size)
  have hlt1 : w.heap.size < w1.heap.size := Nat.lt_of_lt_of_le hs0 hb1.size
  have hth : w1.there w.heap.size 0 9 := fun j hj => by
    rw [hb1.cell (p := ⟨w.heap.size, 0 + j, none⟩) hs0, hb1.frozen (p := ⟨w.heap.size, 0 + j, none⟩) hs0]; exact hz.out j hj
  have ht1 := ht.later hb01 (Nat.le_refl _)
  have hfl1 := hfl.later hb01
  clear hz hb1 hb0 hs0
  rw [show (w.alloc (.cells #[.int .i64 0, .int .i64 0, .int .i64 0, .int .i64 0, .int .i64 0, .bool false, .bool false, .int .i64 0, .int .i64 0] 23)).heap.size = w.heap.size + 1 by simp] at hTm
  generalize w.heap.size + 1 = b at hTm ⊢
  go_loopw [6] (fun k' wr => ∃ k : Nat, 1 ≤ k ∧ k ≤ 88 ∧ k' = .int .i64 k ∧ Below w1.heap.size w1 wr ∧ Hid (insnFrom x k (88 - k) = R)) (fun k' _ => 88 - (intOf k').toNat)
  case atStart => exact ⟨1, by decide, by decide, rfl, Below.refl _ _, hR⟩
  case round =>
    obtain ⟨k, hk1, hk, rfl, hb, hrest⟩ := hrel
    by_cases hlt : k < 88
    · have hd1 : decide ((k : Int) ≤ 87) = true := by simp; omega
      have hwf : Hid ((Lit.int .i64 (k : Int)).wf = true) := Lib.hid (WalkArith.wf_i64 (by omega))
      obtain ⟨f1, f12⟩ := form_of k hk1 hlt
      obtain ⟨pc, p3, p7, hp⟩ : ∃ pc p3 p7, madeT (k : Int) = ⟨pc, p3, p7⟩ := ⟨_, _, _, rfl⟩
      obtain ⟨L7, hL7⟩ : ∃ q, un (Low (x.setWidth 64) 7) = q := ⟨_, rfl⟩
      have hL32 : IntKind.u32.wrap L7 = L7 := by rw [← hL7, wrap_u32_un, low7_32]
      have hIs : Hid (isOp x (k : Int) = ((pc == L7) && (checkE (decI (k : Int) x) == 0) && (wordV (decI (k : Int) x) == x))) := Lib.hid (by unfold isOp; rw [hp, hL7])
      have hrs : Hid ((isOp x (k : Int) = false → insnFrom x ((k + 1 : Nat) : Int) (88 - (k + 1)) = R) ∧ (isOp x (k : Int) = true → R = (decI (k : Int) x, 0))) := Lib.hid (by
        have e := hrest.out
        rw [show 88 - k = (88 - (k + 1)) + 1 by omega] at e
        refine ⟨fun h => ?_, fun h => ?_⟩
        · rw [insnFrom_not x _ _ h] at e; rw [← e]; rfl
        · rw [insnFrom_yes x _ _ h] at e; exact e.symm)
      clear hrest
      go_upto_region 6 with fail
      go_cut [26] (fun s wx => s = .bool (pc != L7) ∧ Below w1.heap.size w1 wx)
      case first =>
        refine wp_region_held_drew (S := fun W => Below w1.heap.size w1 W) (by kernel_rfl) hb.drew (fun hHeld => ?_)
        refine wpAnyH_take (i := 0) (v := .map (some b)) rfl (by kernel_rfl) (by kernel_rfl) (by kernel_rfl) (fun _ _ _ h => h) (Or.inl ⟨by rfl, fun W _ => by kernel_rfl⟩) hHeld ?_
        try simp only [Act.put, List.getElem_toArray, List.getElem_cons_zero, List.setIfInBounds_toArray, List.set_cons_zero, List.set_cons_succ]
        generalize World.drew _ = W0 at hHeld ⊢
        refine wpAnyH_take (i := 1) (v := .int .i64 k) rfl (by kernel_rfl) (by kernel_rfl) (by kernel_rfl) (fun _ _ _ h => h) (Or.inl ⟨by rfl, fun W _ => by kernel_rfl⟩) hHeld ?_
        try simp only [Act.put, List.getElem_toArray, List.getElem_cons_succ, List.getElem_cons_zero, List.setIfInBounds_toArray, List.set_cons_zero, List.set_cons_succ]
        refine wpAnyH_take (i := 2) rfl (by kernel_rfl) (by kernel_rfl) (by kernel_rfl) (fun _ _ _ h => h) (yieldsIf_tm_get (by rfl) _ _ rfl Tryz.underlying63 b 200 madeT rfl (fun W hS => hTm.keep hS) (k : Int) rfl hwf.out) hHeld ?_
        rw [hp]
        simp only [PartV.cells]
        try simp only [Act.put, List.getElem_toArray, List.getElem_cons_succ, List.getElem_cons_zero, List.setIfInBounds_toArray, List.set_cons_zero, List.set_cons_succ]
        refine wpAnyH_take (i := 3) (v := .int .u32 pc) rfl (by kernel_rfl) (by kernel_rfl) (by kernel_rfl) (fun _ _ _ h => h) (Or.inl ⟨by rfl, fun W _ => by go_simp⟩) hHeld ?_
        try simp only [Act.put, List.getElem_toArray, List.getElem_cons_succ, List.getElem_cons_zero, List.setIfInBounds_toArray, List.set_cons_zero, List.set_cons_succ]
        refine wpAnyH_take (i := 4) (v := .int .u64 (un (x.setWidth 64))) rfl (by kernel_rfl) (by kernel_rfl) (by kernel_rfl) (fun _ _ _ h => h) (Or.inl ⟨by rfl, fun W _ => by kernel_rfl⟩) hHeld ?_
        try simp only [Act.put, List.getElem_toArray, List.getElem_cons_succ, List.getElem_cons_zero, List.setIfInBounds_toArray, List.set_cons_zero, List.set_cons_succ]
        refine wpAnyH_ready (rs := [5]) (by kernel_rfl) (by simp) ?_
        refine AllReadyH.cons rfl (fun K hK2 => ?_) ?_
        · rw [if_pos (by rfl)]
          simp only [List.getElem_toArray, List.getElem_cons_succ, List.getElem_cons_zero]
          go_wp2_with (go_at_call 46; refine (Low_any _ _ _).mono ?_; rintro e w2 ⟨rfl, rfl⟩)
          refine hK2.out _ _ (hHeld) (fun hHeld2 => ?_)
          clear hK2 K hHeld
          have hHeld := hHeld2
          clear hHeld2
          try simp only [Act.put, List.getElem_toArray, List.getElem_cons_succ, List.getElem_cons_zero, List.setIfInBounds_toArray, List.set_cons_zero, List.set_cons_succ]
          refine wpAnyH_take (i := 6) (v := .int .u32 L7) rfl (by kernel_rfl) (by kernel_rfl) (by kernel_rfl) (fun _ _ _ h => h) (Or.inl ⟨by rfl, fun W _ => by go_simp⟩) hHeld ?_
          try simp only [Act.put, List.getElem_toArray, List.getElem_cons_succ, List.getElem_cons_zero, List.setIfInBounds_toArray, List.set_cons_zero, List.set_cons_succ]
          refine wpAnyH_take (i := 7) (v := .bool (pc != L7)) rfl (by kernel_rfl) (by kernel_rfl) (by kernel_rfl) (fun _ _ _ h => h) (Or.inl ⟨by rfl, fun W _ => by go_simp⟩) hHeld ?_
          try simp only [Act.put, List.getElem_toArray, List.getElem_cons_succ, List.getElem_cons_zero, List.setIfInBounds_toArray, List.set_cons_zero, List.set_cons_succ]
          refine wpAnyH_done (by kernel_rfl) ?_ _
          go_wp2_with fail
          go_meet
          exact ⟨rfl, hHeld⟩
        exact AllReadyH.nil
      case rest =>
        obtain ⟨rfl, hb⟩ := hcut
        by_cases hpc : pc = L7
        · have hne : (pc != L7) = false := by rw [hpc]; simp
          rw [hne]
          have hIs2 : Hid (isOp x (k : Int) = ((checkE (decI (k : Int) x) == 0) && (wordV (decI (k : Int) x) == x))) := Lib.hid (by rw [hIs.out, hpc]; simp)
          clear hpc hne hL32 hp hIs
          obtain ⟨f, hfo⟩ : ∃ f, (opOf (k : Int)).form = f := ⟨_, rfl⟩
          rw [hfo] at f1 f12
          have hF := Lib.hid (fun W hT => Form_any (k : Int) (by omega) W hT)
          rw [hfo] at hF
          have hTk : Hid (∀ W, Calls Tryz.prog 47 #[.int .i64 f] W fun e w' => (∃ v, e = .returned v ∧ w'.ownsRow W.heap.size 72 1 v (tkL f).length ((tkL f).map tkV)) ∧ Below W.heap.size W w') := Lib.hid fun W => (CTakes_any f f1 f12 W).mono fun e w' h => ⟨h.ret, h.below⟩
          obtain ⟨I, hId⟩ : ∃ I : Nat → InsnV, I = tkK f (x.setWidth 64) (zeroOf (k : Int)) := ⟨_, rfl⟩
          have hI0 : Hid (I 0 = zeroOf (k : Int)) := Lib.hid (by rw [hId]; rfl)
          have hIo : Hid (∀ q, (I q).op = (k : Int)) := Lib.hid fun q => by rw [hId]; exact tkK_op _ _ _ q
          have hIn : Hid (I (tkL f).length = decI (k : Int) x) := Lib.hid (by rw [hId, tkK_all f (k : Int) _ f1 f12]; unfold decI; rw [hfo])
          have hIx : Hid (∀ q, I (q + 1) = tkSI f (x.setWidth 64) ((tkL f).getD q 0) (I q)) := Lib.hid fun q => by rw [hId]; rfl
          have hT7 := Lib.hid (tkL_lt f)
          have hT4 := tkL_len f
          clear hId
          replace hfo := Lib.hid hfo
          generalize tkL f = TL at hIn hIx hT7 hT4 hTk
          go_upto_region 8 with (refine wpList_store_mid rfl 23 _ _ rfl wc.heap.size 0 #[.int .i64 k, .int .i64 0, .int .i64 0, .int .i64 0, .int .i64 0, .bool false, .bool false, .int .i64 0, .int .i64 0] rfl rfl (cells_fresh wc _ _ 9 (by decide)) (by kernel_rfl) (by kernel_rfl) ?_)
          obtain ⟨hbS, hrS, hlS, htS⟩ := copied (s := wc) (cs := (zeroOf (k : Int)).cells.toList) rfl #[.int .i64 0, .int .i64 0, .int .i64 0, .int .i64 0, .int .i64 0, .bool false, .bool false, .int .i64 0, .int .i64 0] rfl 23
          have hBx := Bx.of_range hrS htS hlS
          have hbb := hb.trans (hbS.mono hb.size)
          have hBge : w1.heap.size ≤ wc.heap.size := hb.size
          change Code.wp _ _ _ _ (World.setCells _ wc.heap.size 0 (zeroOf (k : Int)).cells.toList)
          generalize World.setCells _ wc.heap.size 0 (zeroOf (k : Int)).cells.toList = wb at hBx hbb hlS ⊢
          clear hbS hrS htS hb
          generalize wc.heap.size = B at hBx hBge hlS ⊢
          clear wc
          go_wp2_with (first | (go_at_call 33; refine (hF.out _ (ht1.later hbb (Nat.le_refl _))).mono ?_; rintro e w4 ⟨rfl, hb4⟩) | (go_at_call 47; refine (hTk.out _).mono ?_; rintro e w5 ⟨⟨v, rfl, hown⟩, hb5⟩; obtain ⟨ao, cap, rfl⟩ := own_slice hown))
          have hb45 := hb4.trans (hb5.mono hb4.size)
          have hne := ownBlock_ne hown (Nat.lt_of_lt_of_le hlS hb4.size)
          have hB5 := hBx.keep hb45
          have hbb5 := hbb.trans (hb45.mono hbb.size)
          have hap := apart_of hfl1 hBge
          clear hF hTk hBx hb4 hb5 hb45 hbb hlS
          go_loopw [33] (fun q' wy => ∃ q : Nat, q ≤ TL.length ∧ q' = .int .i64 q ∧ Bx wy B (I q) ∧ w5.grownBy wy (some B)) (fun q' _ => TL.length - (intOf q').toNat)
          case atStart => exact ⟨0, Nat.zero_le _, rfl, by rw [hI0.out]; exact hB5, grown_refl _ _⟩
          case round =>
            obtain ⟨q, hq, rfl, hBq, hg⟩ := hrel
            have hbq : Below w1.heap.size w1 _ := hbb5.grown hg hbb5.size (fun j hj => by cases hj; exact hBge)
            by_cases hql : q < TL.length
            · have hown' := hown.kept hg hne
              obtain ⟨g, rfl, ck⟩ := own_cellV hown' (by simp) q hql
              obtain ⟨h7, hv⟩ := tags_at TL hT7.out q hql
              rw [hv] at ck
              have hnx := Lib.hid (hIx.out q)
              generalize TL.getD q 0 = t at ck h7 hnx
              have hty := ht1.later hbq (Nat.le_refl _)
              have hfly := hfl1.later hbq
              clear hv
              rcases (show t = 0 ∨ t = 1 ∨ t = 2 ∨ t = 3 ∨ t = 4 ∨ t = 5 ∨ t = 6 by omega) with rfl | rfl | rfl | rfl | rfl | rfl | rfl
              · rw [tkV_0] at ck
                have hcl := Lib.hid (Tk_any f (x.setWidth 64) 0 (by decide) B (I q) (by rw [hIo.out]; exact hfo.out) (by rw [hIo.out]; omega) _ hty hfly hBq hap)
                rw [show tkF 0 = 106 from rfl] at hcl
                clear hBq hty hfly hown' h7
                go_wp2_with (go_at_call 106; refine hcl.out.mono ?_; rintro e w6 ⟨rfl, hB6, hg6⟩)
                rw [← hnx.out] at hB6
                go_roundw
                case rel => exact ⟨q + 1, by omega, by go_num, hB6, grown_trans hg hg6⟩
                case measure => simp [intOf]; omega
              · rw [tkV_1] at ck
                have hcl := Lib.hid (Tk_any f (x.setWidth 64) 1 (by decide) B (I q) (by rw [hIo.out]; exact hfo.out) (by rw [hIo.out]; omega) _ hty hfly hBq hap)
                rw [show tkF 1 = 108 from rfl] at hcl
                clear hBq hty hfly hown' h7
                go_wp2_with (go_at_call 108; refine hcl.out.mono ?_; rintro e w6 ⟨rfl, hB6, hg6⟩)
                rw [← hnx.out] at hB6
                go_roundw
                case rel => exact ⟨q + 1, by omega, by go_num, hB6, grown_trans hg hg6⟩
                case measure => simp [intOf]; omega
              · rw [tkV_2] at ck
                have hcl := Lib.hid (Tk_any f (x.setWidth 64) 2 (by decide) B (I q) (by rw [hIo.out]; exact hfo.out) (by rw [hIo.out]; omega) _ hty hfly hBq hap)
                rw [show tkF 2 = 110 from rfl] at hcl
                clear hBq hty hfly hown' h7
                go_wp2_with (go_at_call 110; refine hcl.out.mono ?_; rintro e w6 ⟨rfl, hB6, hg6⟩)
                rw [← hnx.out] at hB6
                go_roundw
                case rel => exact ⟨q + 1, by omega, by go_num, hB6, grown_trans hg hg6⟩
                case measure => simp [intOf]; omega
              · rw [tkV_3] at ck
                have hcl := Lib.hid (Tk_any f (x.setWidth 64) 3 (by decide) B (I q) (by rw [hIo.out]; exact hfo.out) (by rw [hIo.out]; omega) _ hty hfly hBq hap)
                rw [show tkF 3 = 107 from rfl] at hcl
                clear hBq hty hfly hown' h7
                go_wp2_with (go_at_call 107; refine hcl.out.mono ?_; rintro e w6 ⟨rfl, hB6, hg6⟩)
                rw [← hnx.out] at hB6
                go_roundw
                case rel => exact ⟨q + 1, by omega, by go_num, hB6, grown_trans hg hg6⟩
                case measure => simp [intOf]; omega
              · rw [tkV_4] at ck
                have hcl := Lib.hid (Tk_any f (x.setWidth 64) 4 (by decide) B (I q) (by rw [hIo.out]; exact hfo.out) (by rw [hIo.out]; omega) _ hty hfly hBq hap)
                rw [show tkF 4 = 109 from rfl] at hcl
                clear hBq hty hfly hown' h7
                go_wp2_with (go_at_call 109; refine hcl.out.mono ?_; rintro e w6 ⟨rfl, hB6, hg6⟩)
                rw [← hnx.out] at hB6
                go_roundw
                case rel => exact ⟨q + 1, by omega, by go_num, hB6, grown_trans hg hg6⟩
                case measure => simp [intOf]; omega
              · rw [tkV_5] at ck
                have hcl := Lib.hid (Tk_any f (x.setWidth 64) 5 (by decide) B (I q) (by rw [hIo.out]; exact hfo.out) (by rw [hIo.out]; omega) _ hty hfly hBq hap)
                rw [show tkF 5 = 112 from rfl] at hcl
                clear hBq hty hfly hown' h7
                go_wp2_with (go_at_call 112; refine hcl.out.mono ?_; rintro e w6 ⟨rfl, hB6, hg6⟩)
                rw [← hnx.out] at hB6
                go_roundw
                case rel => exact ⟨q + 1, by omega, by go_num, hB6, grown_trans hg hg6⟩
                case measure => simp [intOf]; omega
              · rw [tkV_6] at ck
                have hcl := Lib.hid (Tk_any f (x.setWidth 64) 6 (by decide) B (I q) (by rw [hIo.out]; exact hfo.out) (by rw [hIo.out]; omega) _ hty hfly hBq hap)
                rw [show tkF 6 = 111 from rfl] at hcl
                clear hBq hty hfly hown' h7
                go_wp2_with (go_at_call 111; refine hcl.out.mono ?_; rintro e w6 ⟨rfl, hB6, hg6⟩)
                rw [← hnx.out] at hB6
                go_roundw
                case rel => exact ⟨q + 1, by omega, by go_num, hB6, grown_trans hg hg6⟩
                case measure => simp [intOf]; omega
            · obtain rfl : q = TL.length := by omega
              have hty := ht1.later hbq (Nat.le_refl _)
              have hfly := hfl1.later hbq
              rw [hIn.out] at hBq
              have hr7 := hBq.range
              have hB7 := hBq.lt
              have hWd := Lib.hid (tword_list b (decI (k : Int) x) _ (hTm.keep hbq) (by rw [decI_op]; omega) (by rw [decI_op]; omega) hty hfly)
              have h02 := checkE_02 (decI (k : Int) x)
              have hsD := Lib.hid (size_insn (decI (k : Int) x))
              have h1D := Lib.hid (decI (k : Int) x).list_one
              have hn9 := Lib.hid (decI (k : Int) x).list_len
              have hR1 : Hid (isOp x (k : Int) = true → R.1.cells = (decI (k : Int) x).cells.toList.toArray ∧ R.2 = 0) := Lib.hid fun h => by rw [hrs.out.2 h]; exact ⟨(Array.toArray_toList).symm, rfl⟩
              have hno : Hid (isOp x (k : Int) = false → insnFrom x ((k + 1 : Nat) : Int) (88 - (k + 1)) = R) := Lib.hid hrs.out.1
              clear hrs hIn hIx hI0 hIo hT7 hB5 hown hne hap hty hfly hBq hg hfo
              generalize isOp x (k : Int) = io at hIs2 hR1 hno
              generalize (decI (k : Int) x).cells.toList = DL at hr7 hWd hsD h1D hn9 hR1
              generalize checkE (decI (k : Int) x) = c at hWd h02 hIs2
              generalize wordV (decI (k : Int) x) = v at hWd hIs2
              go_upto_region 14 with (first | (refine wpList_load_mid rfl 23 _ rfl B 0 rfl DL _ hr7 hu rfl hsD.out ?_) | (go_at_call 48; refine hWd.out.mono ?_; rintro e w7 ⟨rfl, hb7⟩))
              have hr8 := range_on hr7 hB7 hb7
              have hb8 := hbq.trans (hb7.mono hbq.size)
              clear hr7 hB7 hb7 hbq hWd
              rcases h02 with rfl | rfl
              · by_cases hv : v = x
                · have te : (un32 v == un32 x) = true := by rw [hv]; simp
                  have hyes := hR1.out (by rw [hIs2.out, hv]; simp)
                  replace hyes := Lib.hid hyes
                  clear hv hIs2 hR1 hno
                  have hth8 := there_on hth hlt1 hb8
                  have hth9 : Hid (w7.there w.heap.size 0 DL.toArray.size) := Lib.hid (by rw [show DL.toArray.size = 9 from (List.size_toArray).trans hn9.out]; exact hth8)
                  go_wp2_with (first | (refine wpList_load_mid rfl 23 _ rfl B 0 rfl DL _ hr8 hu rfl hsD.out ?_) | (refine wpList_store_mid rfl 23 _ _ rfl w.heap.size 0 DL.toArray rfl rfl hth9.out (by rw [List.size_toArray]; exact hsD.out) h1D.out ?_))
                  have hr5 := World.rangeAt_setCells_same w7 w.heap.size 0 DL (by rw [hn9.out]; exact hth8)
                  have hlv := result_insn _ w.heap.size _ hr5 hn9.out
                  have hbl := below_cells (Nat.le_refl w.heap.size) DL 0 w7 (hb01.trans (hb8.mono hb01.size))
                  generalize World.setCells w7 w.heap.size 0 DL = W5 at hlv hbl ⊢
                  exact bodyPost_ret (v := .tuple #[.agg DL.toArray, .int .i64 0]) (by simp [results, Tryz.results9, asAddr, hlv]) rfl ⟨by rw [hyes.out.1, hyes.out.2], hbl⟩
                · have te : (un32 v == un32 x) = false := by rw [beq_eq_false_iff_ne]; exact fun e => hv (un32_injI e)
                  have hnx := Lib.hid (hno.out (by rw [hIs2.out]; simp [hv]))
                  clear hv hIs2 hR1 hno
                  go_wp2_with fail
                  go_roundw
                  case rel => exact ⟨k + 1, by omega, by omega, by go_num, hb8, hnx⟩
                  case measure => simp [intOf]; omega
              · have hnx := Lib.hid (hno.out (by rw [hIs2.out]; rfl))
                clear hIs2 hR1 hno
                go_wp2_with fail
                go_roundw
                case rel => exact ⟨k + 1, by omega, by omega, by go_num, hb8, hnx⟩
                case measure => simp [intOf]; omega
        · have hne : (pc != L7) = true := by simpa using hpc
          have hno : isOp x (k : Int) = false := by rw [hIs.out, beq_eq_false_iff_ne.2 hpc]; rfl
          replace hno := Lib.hid hno
          rw [hne]
          clear hpc hL32 hp
          go_wp2_with fail
          go_roundw
          case rel => exact ⟨k + 1, by omega, by omega, by go_num, hb, Lib.hid (hrs.out.1 hno.out)⟩
          case measure => simp [intOf]; omega
    · obtain rfl : k = 88 := by omega
      have hRR : Hid (R = (insnNone, 4)) := Lib.hid (by rw [← hrest.out]; exact insnFrom_zero _ _)
      have hth8 := there_on hth hlt1 hb
      have hbz := hb01.trans (hb.mono hb01.size)
      clear hrest hlt hk hk1
      go_wp2_with (refine wpList_store_mid rfl 23 _ _ rfl w.heap.size 0 #[.int .i64 0, .int .i64 0, .int .i64 0, .int .i64 0, .int .i64 0, .bool false, .bool false, .int .i64 0, .int .i64 0] rfl rfl hth8 (by kernel_rfl) (by kernel_rfl) ?_)
      have hr5 := World.rangeAt_setCells_same _ w.heap.size 0 insnNone.cells.toList hth8
      have hlv := result_insn _ w.heap.size _ hr5 rfl
      have hbl := below_cells (Nat.le_refl w.heap.size) insnNone.cells.toList 0 _ hbz
      rw [Array.toArray_toList] at hlv
      change bodyPost _ _ _ _ _ (World.setCells _ w.heap.size 0 insnNone.cells.toList)
      generalize World.setCells _ w.heap.size 0 insnNone.cells.toList = W5 at hlv hbl ⊢
      exact bodyPost_ret (v := .tuple #[.agg insnNone.cells, .int .i64 4]) (by simp [results, Tryz.results9, asAddr, hlv]) rfl ⟨by rw [hRR.out], hbl⟩
end
end Go.Proofs.YtdbpnbmaineniaaGreatDoor
