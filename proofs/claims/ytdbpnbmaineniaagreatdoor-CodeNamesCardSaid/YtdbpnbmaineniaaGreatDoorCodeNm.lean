/- The law CodeNames: the chapter's examples. Conditions: the library's tables and the fields' places lie as their initialisers lay them. -/
import Derived.Test.YtdbpnbmaineniaaGreatDoorCodeHD
import Derived.Test.YtdbpnbmaineniaaGreatDoorInsnTZ
import Derived.Test.YtdbpnbmaineniaaGreatDoorCodeL
import Derived.Test.YtdbpnbmaineniaaGreatDoorInsnEq
import Derived.OrdersHeld
import Derived.Deep.MidRow
import Derived.Laws.IdiomStrings
import Derived.Deep.AppendLies
set_option linter.unusedSimpArgs false
set_option linter.unusedVariables false
namespace Go.Proofs.YtdbpnbmaineniaaGreatDoor
open Go.RowKit
theorem nm_1 : insnW 1048691#32 = (⟨65, 0, 0, 0, 0, false, false, 0, 0⟩, 0) := by decide +kernel
theorem nm_2 : insnW 0#32 = (insnNone, 4) := by decide +kernel
theorem nm_3 : insnW 2200961039#32 = (insnNone, 4) := by decide +kernel
theorem nm_4 : dumpT 115#32 = [101, 99, 97, 108, 108] := by decide +kernel
theorem nm_5 : dumpT 4294967295#32 = [46, 102, 102, 102, 102, 102, 102, 102, 102] := by decide +kernel
theorem nm_6 : wbL (fun _ => 67305985#32) 1 = [1, 2, 3, 4] := by decide +kernel
theorem lit_words (W : World) (x y : BitVec 32) (F : Nat → BitVec 32) (h0 : F 0 = x) (h1 : F 1 = y) : WordsAt (W.alloc (.cells #[.int .u32 (un32 x), .int .u32 (un32 y)] 27)) (some ⟨W.heap.size, 0, none⟩) 2 F := fun _ =>
  ⟨_, 0, rfl, by simp, fun k hk => by rw [World.cell?_alloc_new, Nat.zero_add]; exact (match k, hk with
    | 0, _ => by rw [h0]; rfl
    | 1, _ => by rw [h1]; rfl)⟩
theorem lit_word (W : World) (x : BitVec 32) : WordsAt (W.alloc (.cells #[.int .u32 (un32 x)] 27)) (some ⟨W.heap.size, 0, none⟩) 1 (fun _ => x) := fun _ =>
  ⟨_, 0, rfl, by simp, fun k hk => by rw [World.cell?_alloc_new, Nat.zero_add]; exact (match k, hk with
    | 0, _ => rfl)⟩
set_option maxRecDepth 100000 in
set_option maxHeartbeats 4000000 in
theorem CWords_3 (ao : Option Addr) (cap : Nat) (w : World) : Calls Tryz.prog 10 #[.slice ao 3 cap] w fun e w' => e = .returned (.tuple #[.slice none 0 0, .int .i64 4]) ∧ Below w.heap.size w w' := by
  have hm : (3 : Int).tmod 4 = 3 := by decide
  go_enter Tryz.func10, Tryz.ntmps10
  go_wp2
  go_ret2
  exact ⟨rfl, Below.refl _ _⟩
theorem range_kept {W W' : World} {b : Nat} {cs : List Value} (h : W.rangeAt b 0 cs) (hl : b < W.heap.size) (hb : Below W.heap.size W W') : W'.rangeAt b 0 cs := fun j v hv => by
  rw [hb.cell (p := ⟨b, 0 + j, none⟩) hl]; exact h j v hv
theorem wpList_yieldsN {P : Program} {ops : Array Oper} {rest : List Oper} {op : Oper} {a : Act} {w : World} {Q : Exit → Act → World → Prop} {S : World → Prop} {v : Value} (hy : YieldsIf P ops S op v a) (hS : S w) (h : wpList P ops Q rest (a.put op.dst v) w) : wpList P ops Q (op :: rest) a w :=
  wpList_step fun K hK => by
    rcases hy with ⟨hw, hv⟩ | ⟨hw, rfl⟩
    · rw [if_pos hw]; unfold Oper.wp; simp only [hv w hS, Oper.upon]; exact hK _ _ h
    · rw [if_neg (by simp [hw])]; exact hK _ _ h
/-- A load of many cells, where its guard is met. -/
theorem wpList_load_midN {P : Program} {ops : Array Oper} {rest : List Oper} {op : Oper} {a : Act} {w : World} {Q : Exit → Act → World → Prop} (ty : TypeId) (x : Operand) (ho : op.op = .load ty x) (hw : Region.wanted op (yielded ops a.tmps) = true)
    (b o : Nat) (hx : a.eval x = .pointer (some ⟨b, o, none⟩)) (cs : List Value) (d : TypeDesc) (hc : w.rangeAt b o cs)
    (hu : P.underlying ty = some d) (hd : d.isRow = true) (hi : (P.info? ty).map (·.size) = some cs.length)
    (h : wpList P ops Q rest (a.put op.dst (.agg cs.toArray)) w) : wpList P ops Q (op :: rest) a w :=
  wpList_yieldsN (S := fun W => W = w) (yieldsIf_load_mid hw ty x ho b o hx cs d (fun W hW => by rw [hW]; exact hc) hu hd hi) rfl h
theorem yieldsIf_eql_insnN {ops : Array Oper} {S : World → Prop} {op : Oper} {a : Act} (hw : Region.wanted op (yielded ops a.tmps) = true) (x y : Operand) (t : TypeId) (ho : op.op = .binOp .eql 23 x y t) (A B : Array Value) (b : Bool)
    (hx : a.eval x = .agg A) (hy : a.eval y = .agg B) (hq : ∀ w, (binOp .eql 23 (.agg A) (.agg B)).run Tryz.prog w = .ok (.bool b) w) : YieldsIf Tryz.prog ops S op (.bool b) a :=
  .inl ⟨hw, fun w _ => by
    unfold execOp
    simp only [ho, hx, hy, Sem.run_bind, run_eqGuard_agg w .eql 23 x y A B Tryz.eqGuardType23, hq, Result.andThen_ok, Sem.run_pure]⟩
theorem wpList_eqlG {ops : Array Oper} {rest : List Oper} {op : Oper} {a : Act} {w : World} {Q : Exit → Act → World → Prop} (hw : Region.wanted op (yielded ops a.tmps) = true) (x y : Operand) (t : TypeId) (ho : op.op = .binOp .eql 23 x y t) (A B : Array Value) (b : Bool)
    (hx : a.eval x = .agg A) (hy : a.eval y = .agg B) (hq : ∀ w, (binOp .eql 23 (.agg A) (.agg B)).run Tryz.prog w = .ok (.bool b) w) (h : wpList Tryz.prog ops Q rest (a.put op.dst (.bool b)) w) : wpList Tryz.prog ops Q (op :: rest) a w :=
  wpList_yieldsN (S := fun W => W = w) (yieldsIf_eql_insnN hw x y t ho A B b hx hy hq) rfl h
theorem bytes_1234 (w : World) (g cap : Nat) (h : ∀ j u, ([.int .u8 1, .int .u8 2, .int .u8 3, .int .u8 4] : List Value)[j]? = some u → w.cell? ((⟨g, 0, none⟩ : Addr).add j) = some u) :
    (convert 31 9 (.slice (some ⟨g, 0, none⟩) 4 cap)).run Tryz.prog w = .ok (.string { data := #[1, 2, 3, 4] }) w :=
  run_convert_bytes_back w 31 9 5 ⟨g, 0, none⟩ cap [1, 2, 3, 4] Tryz.underlying31 Tryz.underlying5 Tryz.underlying9 (fun j hj => h j _ (match j, hj with
    | 0, _ => rfl
    | 1, _ => rfl
    | 2, _ => rfl
    | 3, _ => rfl))
def twoW : Nat → BitVec 32 := fun k => if k = 0 then 115#32 else 4294967295#32
theorem nm_7 : insnW 115#32 = (⟨64, 0, 0, 0, 0, false, false, 0, 0⟩, 0) := by decide +kernel
theorem nm_8 : insnW 4294967295#32 = (insnNone, 4) := by decide +kernel
theorem two_texts (k : Nat) (hk : k < 2) (W : World) (ht : Tabs W) (hp : P10 W) : Calls Tryz.prog 29 #[.agg (insnW (twoW k)).1.cells] W fun e w' => e = .returned (.tuple #[.string ⟨(textT (insnW (twoW k)).1).toArray⟩, .int .i64 (checkE (insnW (twoW k)).1)]) ∧ Below W.heap.size W w' := by
  rcases (show k = 0 ∨ k = 1 by omega) with rfl | rfl
  · rw [show twoW 0 = 115#32 from rfl, nm_7]
    have hc : checkE ⟨64, 0, 0, 0, 0, false, false, 0, 0⟩ = 0 := by decide +kernel
    have := IText_10 64 0 0 0 0 false false 0 0 W ht hp (by decide) hc (by decide +kernel) ⟨by decide, by decide⟩
    rw [show textT ⟨64, 0, 0, 0, 0, false, false, 0, 0⟩ = bodyT ⟨64, 0, 0, 0, 0, false, false, 0, 0⟩ from if_pos hc, hc]
    exact this
  · rw [show twoW 1 = 4294967295#32 from rfl, nm_8]
    have hc : checkE ⟨0, 0, 0, 0, 0, false, false, 0, 0⟩ = 2 := by decide +kernel
    have hn : checkE ⟨0, 0, 0, 0, 0, false, false, 0, 0⟩ ≠ 0 := by rw [hc]; decide
    have := IText_no 0 0 0 0 0 false false 0 0 W ht hp (by decide) hn
    show Calls Tryz.prog 29 #[.agg (InsnV.cells ⟨0, 0, 0, 0, 0, false, false, 0, 0⟩)] W fun e w' => e = .returned (.tuple #[.string ⟨(textT ⟨0, 0, 0, 0, 0, false, false, 0, 0⟩).toArray⟩, .int .i64 (checkE ⟨0, 0, 0, 0, 0, false, false, 0, 0⟩)]) ∧ Below W.heap.size W w'
    rw [show textT ⟨0, 0, 0, 0, 0, false, false, 0, 0⟩ = [] from if_neg hn, hc]
    exact this
theorem two_dumps : dumpsV twoW 2 = [.string { data := #[101, 99, 97, 108, 108] }, .string { data := #[46, 102, 102, 102, 102, 102, 102, 102, 102] }] := by
  show [Value.string ⟨(dumpT 115#32).toArray⟩, Value.string ⟨(dumpT 4294967295#32).toArray⟩] = _
  rw [nm_4, nm_5]
set_option maxRecDepth 100000 in
set_option maxHeartbeats 16000000 in
theorem CodeNames_any (w : World) (ht : Tabs w) (hp : P10 w) (hfl : Flds w) : Calls Tryz.prog 3 #[] w fun e w' => e = .returned (.bool true) ∧ Below w.heap.size w w' := by
  have hu := Tryz.underlying23
  have hT : Hid (∀ W, Below w.heap.size w W → Tabs W ∧ P10 W ∧ Flds W) := Lib.hid fun W hW => ⟨ht.later hW (Nat.le_refl _), hp.later hW (Nat.le_refl _), hfl.later hW⟩
  obtain ⟨EL, hEL⟩ : ∃ l, (InsnV.cells ⟨65, 0, 0, 0, 0, false, false, 0, 0⟩).toList = l := ⟨_, rfl⟩
  obtain ⟨ZL, hZL⟩ : ∃ l, insnNone.cells.toList = l := ⟨_, rfl⟩
  have hnE : Hid (EL.length = 9) := Lib.hid (by rw [← hEL]; rfl)
  have hnZ : Hid (ZL.length = 9) := Lib.hid (by rw [← hZL]; rfl)
  have h1E : Hid (EL.toArray.all (·.oneCell') = true) := Lib.hid (by rw [← hEL]; exact InsnV.list_one _)
  have h1Z : Hid (ZL.toArray.all (·.oneCell') = true) := Lib.hid (by rw [← hZL]; exact InsnV.list_one _)
  have hsE : Hid ((Tryz.prog.info? 23).map (·.size) = some EL.length) := Lib.hid (by rw [hnE.out]; kernel_rfl)
  have hsZ : Hid ((Tryz.prog.info? 23).map (·.size) = some ZL.length) := Lib.hid (by rw [hnZ.out]; kernel_rfl)
  have hI1 : Hid (∀ W, Below w.heap.size w W → Calls Tryz.prog 9 #[.int .u32 1048691] W fun e w' => e = .returned (.tuple #[.agg EL.toArray, .int .i64 0]) ∧ Below W.heap.size W w') := Lib.hid fun W hW => by
    have := Insn_any 1048691#32 W (hT.out W hW).1 (hT.out W hW).2.2
    rw [nm_1] at this; rw [← hEL, Array.toArray_toList]; exact this
  have hI2 : Hid (∀ W, Below w.heap.size w W → Calls Tryz.prog 9 #[.int .u32 0] W fun e w' => e = .returned (.tuple #[.agg ZL.toArray, .int .i64 4]) ∧ Below W.heap.size W w') := Lib.hid fun W hW => by
    have := Insn_any 0#32 W (hT.out W hW).1 (hT.out W hW).2.2
    rw [nm_2] at this; rw [← hZL, Array.toArray_toList]; exact this
  have hI3 : Hid (∀ W, Below w.heap.size w W → Calls Tryz.prog 9 #[.int .u32 2200961039] W fun e w' => e = .returned (.tuple #[.agg ZL.toArray, .int .i64 4]) ∧ Below W.heap.size W w') := Lib.hid fun W hW => by
    have := Insn_any 2200961039#32 W (hT.out W hW).1 (hT.out W hW).2.2
    rw [nm_3] at this; rw [← hZL, Array.toArray_toList]; exact this
  have hWd := Lib.hid (fun W : World => CWords_3 (some ⟨W.heap.size, 0, none⟩) 3 (W.alloc (.cells #[.int .u8 1, .int .u8 2, .int .u8 3] 5)))
  have hDm : Hid (∀ W, Below w.heap.size w W → Calls Tryz.prog 11 #[.slice (some ⟨W.heap.size, 0, none⟩) 2 2] (W.alloc (.cells #[.int .u32 115, .int .u32 4294967295] 27)) (NewRow 9 (W.alloc (.cells #[.int .u32 115, .int .u32 4294967295] 27)) [.string { data := #[101, 99, 97, 108, 108] }, .string { data := #[46, 102, 102, 102, 102, 102, 102, 102, 102] }])) := Lib.hid fun W hW => by
    have hW2 : Below w.heap.size w (W.alloc (.cells #[.int .u32 115, .int .u32 4294967295] 27)) := hW.alloc hW.size _
    obtain ⟨t1, t2, t3⟩ := hT.out _ hW2
    have := CDump_by (some ⟨W.heap.size, 0, none⟩) 2 2 twoW _ (lit_words W 115#32 4294967295#32 twoW rfl rfl) (by decide) t1 t3 (Lib.hid fun k W2 hk hW3 => two_texts k hk W2 (t1.later hW3 (Nat.le_refl _)) (t2.later hW3 (Nat.le_refl _)))
    rw [two_dumps] at this
    exact this
  have hBs : Hid (∀ W : World, Calls Tryz.prog 13 #[.slice (some ⟨W.heap.size, 0, none⟩) 1 1] (W.alloc (.cells #[.int .u32 67305985] 27)) (NewRow 5 (W.alloc (.cells #[.int .u32 67305985] 27)) [.int .u8 1, .int .u8 2, .int .u8 3, .int .u8 4])) := Lib.hid fun W => by
    have := CBytes_any (some ⟨W.heap.size, 0, none⟩) 1 1 (fun _ => 67305985#32) _ (lit_word W 67305985#32) (by decide)
    rw [nm_6] at this
    exact this
  have hLv : Hid (∀ W, Below w.heap.size w W → Calls Tryz.prog 12 #[] W fun e w' => e = .returned (.bool true) ∧ Below W.heap.size W w') := Lib.hid fun W hW => Lives3_any W (hT.out W hW).1 (hT.out W hW).2.2
  have hqE : Hid (∀ W, (binOp .eql 23 (.agg EL.toArray) (.agg #[.int .i64 65, .int .i64 0, .int .i64 0, .int .i64 0, .int .i64 0, .bool false, .bool false, .int .i64 0, .int .i64 0])).run Tryz.prog W = .ok (.bool true) W) := Lib.hid fun W => by
    rw [← hEL, Array.toArray_toList]; exact insn_eql ⟨65, 0, 0, 0, 0, false, false, 0, 0⟩ ⟨65, 0, 0, 0, 0, false, false, 0, 0⟩ W
  clear ht hp hfl hT hEL hZL
  have hb0 := Lib.hid (Below.refl w.heap.size w)
  go_enter Tryz.func3, Tryz.ntmps3
  go_upto_region 2 with (first | (go_at_call 9; (with_reducible refine (hI1.out _ hb0.out).mono ?_); rintro e w1 ⟨rfl, hb1⟩) | (refine wpList_store_mid rfl 23 _ _ rfl w1.heap.size 0 EL.toArray rfl rfl (fun j hj => cells_fresh w1 #[.int .i64 0, .int .i64 0, .int .i64 0, .int .i64 0, .int .i64 0, .bool false, .bool false, .int .i64 0, .int .i64 0] 23 9 (by decide) j (by rw [List.size_toArray, hnE.out] at hj; exact hj)) (by rw [List.size_toArray]; exact hsE.out) h1E.out ?_))
  obtain ⟨hc1, hr1, hl1, -⟩ := copied (s := w1) (cs := EL) hnE.out #[.int .i64 0, .int .i64 0, .int .i64 0, .int .i64 0, .int .i64 0, .bool false, .bool false, .int .i64 0, .int .i64 0] rfl 23
  generalize World.setCells _ w1.heap.size 0 EL = v1 at hc1 hr1 hl1 ⊢
  replace hb0 := Lib.hid (hb0.out.trans ((hb1.trans (hc1.mono hb1.size)).mono hb0.out.size))
  replace hr1 := Lib.hid hr1
  obtain ⟨X, hX⟩ : ∃ X, X = w1.heap.size := ⟨_, rfl⟩
  rw [← hX] at hr1 hl1 ⊢
  clear hX hb1 hc1
  go_upto_region 3 with (first | (go_at_call 9; (with_reducible refine (hI2.out _ hb0.out).mono ?_); rintro e w2 ⟨rfl, hb2⟩) | (refine wpList_store_mid rfl 23 _ _ rfl w2.heap.size 0 ZL.toArray rfl rfl (fun j hj => cells_fresh w2 #[.int .i64 0, .int .i64 0, .int .i64 0, .int .i64 0, .int .i64 0, .bool false, .bool false, .int .i64 0, .int .i64 0] 23 9 (by decide) j (by rw [List.size_toArray, hnZ.out] at hj; exact hj)) (by rw [List.size_toArray]; exact hsZ.out) h1Z.out ?_))
  obtain ⟨hc2, hr2, hl2, -⟩ := copied (s := w2) (cs := ZL) hnZ.out #[.int .i64 0, .int .i64 0, .int .i64 0, .int .i64 0, .int .i64 0, .bool false, .bool false, .int .i64 0, .int .i64 0] rfl 23
  generalize World.setCells _ w2.heap.size 0 ZL = v2 at hc2 hr2 hl2 ⊢
  replace hb0 := Lib.hid (hb0.out.trans ((hb2.trans (hc2.mono hb2.size)).mono hb0.out.size))
  replace hr1 := Lib.hid (range_kept hr1.out hl1 (hb2.trans (hc2.mono hb2.size)))
  replace hl1 := Nat.lt_of_lt_of_le hl1 (hb2.trans (hc2.mono hb2.size)).size
  clear hb2 hc2 hr2 hl2
  go_upto_region 4 with (first | (go_at_call 9; (with_reducible refine (hI3.out _ hb0.out).mono ?_); rintro e w3 ⟨rfl, hb3⟩) | (refine wpList_store_mid rfl 23 _ _ rfl w3.heap.size 0 ZL.toArray rfl rfl (fun j hj => cells_fresh w3 #[.int .i64 0, .int .i64 0, .int .i64 0, .int .i64 0, .int .i64 0, .bool false, .bool false, .int .i64 0, .int .i64 0] 23 9 (by decide) j (by rw [List.size_toArray, hnZ.out] at hj; exact hj)) (by rw [List.size_toArray]; exact hsZ.out) h1Z.out ?_))
  obtain ⟨hc3, hr3, hl3, -⟩ := copied (s := w3) (cs := ZL) hnZ.out #[.int .i64 0, .int .i64 0, .int .i64 0, .int .i64 0, .int .i64 0, .bool false, .bool false, .int .i64 0, .int .i64 0] rfl 23
  generalize World.setCells _ w3.heap.size 0 ZL = v3 at hc3 hr3 hl3 ⊢
  replace hb0 := Lib.hid (hb0.out.trans ((hb3.trans (hc3.mono hb3.size)).mono hb0.out.size))
  replace hr1 := Lib.hid (range_kept hr1.out hl1 (hb3.trans (hc3.mono hb3.size)))
  replace hl1 := Nat.lt_of_lt_of_le hl1 (hb3.trans (hc3.mono hb3.size)).size
  clear hb3 hc3 hr3 hl3
  go_upto_region 5 with (go_at_call 10; (with_reducible refine (hWd.out _).mono ?_); rintro e w4 ⟨rfl, hb4⟩)
  have hk4 : Below v3.heap.size v3 w4 := ((Below.refl _ _).alloc (Nat.le_refl _) _).trans (hb4.mono (by simp))
  replace hr1 := Lib.hid (range_kept hr1.out hl1 hk4)
  replace hl1 := Nat.lt_of_lt_of_le hl1 hk4.size
  replace hb0 := Lib.hid (hb0.out.trans (hk4.mono hb0.out.size))
  clear hb4 hk4
  go_upto_region 6 with (go_at_call 11; (with_reducible refine (hDm.out _ hb0.out).mono ?_); rintro e w5 ⟨⟨vd, rfl, hown⟩, hb5⟩)
  obtain ⟨g, cap, rfl⟩ : ∃ g cap, vd = .slice (some ⟨g, 0, none⟩) 2 cap := by
    obtain ⟨g, cap, hv, -⟩ := hown.form (by decide)
    exact ⟨g, cap, hv⟩
  have hg := (World.ownsRow.lt hown g rfl).2
  have d0 : w5.cell? ⟨g, 0, none⟩ = some (.string { data := #[101, 99, 97, 108, 108] }) := hown.cellAt 0 (by decide)
  have d1 : w5.cell? ⟨g, 1, none⟩ = some (.string { data := #[46, 102, 102, 102, 102, 102, 102, 102, 102] }) := hown.cellAt 1 (by decide)
  have hk5 : Below w4.heap.size w4 w5 := ((Below.refl _ _).alloc (Nat.le_refl _) _).trans (hb5.mono (by simp))
  replace hr1 := Lib.hid (range_kept hr1.out hl1 hk5)
  replace hl1 := Nat.lt_of_lt_of_le hl1 hk5.size
  replace hb0 := Lib.hid (hb0.out.trans (hk5.mono hb0.out.size))
  clear hb5 hk5 hown hI1 hI2 hI3 hWd hDm
  have e0 := Lib.hid d0
  have e1 := Lib.hid d1
  clear d0 d1
  go_wp2_with (first | (go_at_call 12; (with_reducible refine (hLv.out _ hb0.out).mono ?_); rintro e w6 ⟨rfl, hb6⟩; have hr6 := range_kept hr1.out hl1 hb6; have d0 := (hb6.cell (p := ⟨g, 0, none⟩) hg).trans e0.out; have d1 := (hb6.cell (p := ⟨g, 1, none⟩) hg).trans e1.out; replace hb0 := Lib.hid (hb0.out.trans (hb6.mono hb0.out.size)); clear hLv hb6 hl1 hr1 e0 e1) | (refine wpList_load_midN 23 _ rfl (by rfl) X 0 rfl EL _ hr6 hu rfl hsE.out ?_) | (refine wpList_eqlG (by rfl) _ _ _ rfl EL.toArray #[.int .i64 65, .int .i64 0, .int .i64 0, .int .i64 0, .int .i64 0, .bool false, .bool false, .int .i64 0, .int .i64 0] true rfl rfl hqE.out ?_) | (go_at_call 13; (with_reducible refine (hBs.out _).mono ?_); rintro e w7 ⟨⟨vb, rfl, hob⟩, hb7⟩; obtain ⟨g2, cap2, rfl, -⟩ := hob.form (by decide); have hcv := bytes_1234 w7 g2 cap2 (fun j u hj => hob.cells rfl j u hj)))
  go_ret
  exact ⟨rfl, hb0.out.trans ((((Below.refl _ _).alloc (Nat.le_refl _) _).trans (hb7.mono (by simp))).mono hb0.out.size)⟩
end Go.Proofs.YtdbpnbmaineniaaGreatDoor
