/- The law InsnBack: an instruction has its text, and no other text is read as it. Conditions: the library's tables and its two errors lie as their initialisers lay them. -/
import Derived.Test.YtdbpnbmaineniaaGreatDoorInsnBx
import Derived.Test.YtdbpnbmaineniaaGreatDoorInsnBp
set_option linter.unusedSimpArgs false
set_option linter.unusedVariables false
namespace Go.Proofs.YtdbpnbmaineniaaGreatDoor
open Go.RowKit
theorem ok_op87 (i : InsnV) (h : checkE i = 0) : i.op ≤ 87 := by
  obtain ⟨-, -, -, -, -, -, f1, -⟩ := ok_facts i h
  by_cases h8 : 87 < i.op
  · rw [opOf_big i.op h8] at f1; exact absurd f1 (by decide)
  · omega
theorem text_no (i : InsnV) (h : checkE i ≠ 0) : textT i = [] ∧ checkE i = 2 := ⟨if_neg h, by unfold checkE at h ⊢; cases hk : checkOk i <;> simp_all⟩
theorem wpList_yields1 {P : Program} {ops : Array Oper} {rest : List Oper} {op : Oper} {a : Act} {w : World} {Q : Exit → Act → World → Prop} (hw : Region.wanted op (yielded ops a.tmps) = true) (x y : Operand) (ty t : TypeId) (ho : op.op = .binOp .add ty x y t) (X Y Z : ByteArray)
    (hx : a.eval x = .string X) (hy : a.eval y = .string Y) (hq : ∀ w, (binOp .add ty (.string X) (.string Y)).run P w = .ok (.string Z) w) (h : wpList P ops Q rest (a.put op.dst (.string Z)) w) : wpList P ops Q (op :: rest) a w :=
  wpList_yieldsN (S := fun W => W = w) (.inl ⟨hw, fun w _ => by
    unfold execOp
    simp only [ho, hx, hy, Sem.run_bind, hq, Sem.run_pure]
    rfl⟩) rfl h
theorem add_run (P : Program) (ty : TypeId) (l m : List UInt8) (h : l.length + m.length ≤ 1000) (w : World) : (binOp .add ty (.string ⟨l.toArray⟩) (.string ⟨m.toArray⟩)).run P w = .ok (.string ⟨(l ++ m).toArray⟩) w := by
  rw [binOp_string_add]; exact run_string_add_lists w l m (by omega) (by omega)
section
attribute [local irreducible] readR checkE textT
set_option maxRecDepth 100000 in
set_option maxHeartbeats 16000000 in
theorem InsnBack_any (i o : InsnV) (s : ByteArray) (hop : i.op ≤ 9223372036854775807) (him : -9223372036854775808 ≤ i.imm ∧ i.imm ≤ 9223372036854775807) (hoo : o.op ≤ 9223372036854775807) (hoi : -9223372036854775808 ≤ o.imm ∧ o.imm ≤ 9223372036854775807) (w : World) (ht : Tabs w) (hp : P10 w) (hev : EV w) :
    Calls Tryz.prog 6 #[.agg i.cells, .agg o.cells, .string s] w fun e w' => e = .returned (.bool true) ∧ Below w.heap.size w w' := by
  have hu := Tryz.underlying23
  have hT : Hid (∀ W, Below w.heap.size w W → Tabs W ∧ P10 W ∧ EV W) := Lib.hid fun W hW => ⟨ht.later hW (Nat.le_refl _), hp.later hW (Nat.le_refl _), hev.keep hW⟩
  have hLv : Hid (∀ W, Below w.heap.size w W → Calls Tryz.prog 25 #[] W fun e w' => e = .returned (.bool true) ∧ Below W.heap.size W w') := Lib.hid fun W hW => Lives2_any W (hT.out W hW).1 (hT.out W hW).2.1
  obtain ⟨hI, hb1⟩ := BX.new w i 23
  obtain ⟨hO, hb2⟩ := BX.new (w.alloc (.cells i.cells 23)) o 23
  replace hI := Lib.hid (hI.keep hb2)
  replace hO := Lib.hid hO
  have hb0 := Lib.hid (hb1.trans (hb2.mono hb1.size))
  rw [show (w.alloc (.cells i.cells 23)).heap.size = w.heap.size + 1 by simp] at hO
  clear ht hp hev hb1 hb2
  by_cases hsz : s.size ≤ 100
  case neg =>
    have t60 : decide (100 < (s.size : Int)) = true := decide_eq_true (by omega)
    have t61 : decide (100 < s.size) = true := decide_eq_true (by omega)
    clear hT hop him hoo hoi hI hO
    go_enter Tryz.func6, Tryz.ntmps6
    go_wp2_with (go_at_call 25; (with_reducible refine (hLv.out _ hb0.out).mono ?_); rintro e w0 ⟨rfl, hb⟩)
    go_ret
    exact ⟨rfl, hb0.out.trans (hb.mono hb0.out.size)⟩
  have t60 : decide (100 < (s.size : Int)) = false := decide_eq_false (by omega)
  have t61 : decide (100 < s.size) = false := decide_eq_false (by omega)
  obtain ⟨PL, hPL⟩ : ∃ l, (readR s).1.cells.toList = l := ⟨_, rfl⟩
  obtain ⟨IL, hIL⟩ : ∃ l, i.cells.toList = l := ⟨_, rfl⟩
  obtain ⟨ZL, hZL⟩ : ∃ l, zeroI.cells.toList = l := ⟨_, rfl⟩
  have hc3 : Hid (∀ W, Below w.heap.size w W → Calls Tryz.prog 26 #[.string s] W fun e w' => e = .returned (.tuple #[.agg PL.toArray, .int .i64 (readR s).2]) ∧ Below W.heap.size W w') := Lib.hid fun W hW => by rw [← hPL, Array.toArray_toList]; exact IRead_any s (by omega) W (hT.out W hW).1 (hT.out W hW).2.1 (hT.out W hW).2.2
  have hc1 : Hid (∀ W, Below w.heap.size w W → Calls Tryz.prog 29 #[.agg i.cells] W fun e w' => e = .returned (.tuple #[.string ⟨(textT i).toArray⟩, .int .i64 (checkE i)]) ∧ Below W.heap.size W w') := Lib.hid fun W hW => IText_any i hop him W (hT.out W hW).1 (hT.out W hW).2.1
  have hc7 : Hid (∀ W, Below w.heap.size w W → Calls Tryz.prog 27 #[.agg i.cells] W fun e w' => e = .returned (.int .i64 (checkE i)) ∧ Below W.heap.size W w') := Lib.hid fun W hW => Check_any i hop W (hT.out W hW).1
  have hqR : Hid (∀ W, (binOp .eql 23 (.agg i.cells) (.agg i.cells)).run Tryz.prog W = .ok (.bool true) W) := Lib.hid fun W => insn_same i W
  have hqO : Hid (∀ W, (binOp .eql 23 (.agg i.cells) (.agg o.cells)).run Tryz.prog W = .ok (.bool (decide (i = o))) W) := Lib.hid fun W => insn_eql i o W
  have hco : Hid (∀ W, Below w.heap.size w W → Calls Tryz.prog 29 #[.agg o.cells] W fun e w' => e = .returned (.tuple #[.string ⟨(textT o).toArray⟩, .int .i64 (checkE o)]) ∧ Below W.heap.size W w') := Lib.hid fun W hW => IText_any o hoo hoi W (hT.out W hW).1 (hT.out W hW).2.1
  have key : checkE i = 0 → (∀ W, Below w.heap.size w W → Calls Tryz.prog 26 #[.string ⟨(textT i).toArray⟩] W fun e w' => e = .returned (.tuple #[.agg IL.toArray, .int .i64 0]) ∧ Below W.heap.size W w') ∧
      (∀ W, Below w.heap.size w W → Calls Tryz.prog 26 #[.string ⟨(textT i ++ [32]).toArray⟩] W fun e w' => e = .returned (.tuple #[.agg ZL.toArray, .int .i64 4]) ∧ Below W.heap.size W w') ∧
      (∀ W, Below w.heap.size w W → Calls Tryz.prog 26 #[.string ⟨([32] ++ textT i).toArray⟩] W fun e w' => e = .returned (.tuple #[.agg ZL.toArray, .int .i64 4]) ∧ Below W.heap.size W w') := fun hc => by
    have hl := text_size i
    refine ⟨fun W hW => ?_, fun W hW => ?_, fun W hW => ?_⟩
    · have h := IRead_any (bs (textT i)) (by rw [bs_size]; omega) W (hT.out W hW).1 (hT.out W hW).2.1 (hT.out W hW).2.2
      rw [readR_text i hc] at h; rw [← hIL, Array.toArray_toList]; exact h
    · have h := IRead_any (bs (textT i ++ [32])) (by rw [bs_size, List.length_append]; simp; omega) W (hT.out W hW).1 (hT.out W hW).2.1 (hT.out W hW).2.2
      rw [readR_post] at h; rw [← hZL, Array.toArray_toList]; exact h
    · have h := IRead_any (bs (32 :: textT i)) (by rw [bs_size, List.length_cons]; omega) W (hT.out W hW).1 (hT.out W hW).2.1 (hT.out W hW).2.2
      rw [readR_pre] at h; rw [← hZL, Array.toArray_toList]; exact h
  have hsp : ∀ W, (binOp .add 9 (.string ⟨(textT i).toArray⟩) (.string { data := #[32] })).run Tryz.prog W = .ok (.string ⟨(textT i ++ [32]).toArray⟩) W := fun W => add_run _ _ (textT i) [32] (by have := text_size i; simp; omega) W
  have hps : ∀ W, (binOp .add 9 (.string { data := #[32] }) (.string ⟨(textT i).toArray⟩)).run Tryz.prog W = .ok (.string ⟨([32] ++ textT i).toArray⟩) W := fun W => add_run _ _ [32] (textT i) (by have := text_size i; simp; omega) W
  have hread : (readR s).2 = 4 ∨ (readR s).2 = 0 ∧ (∀ W, Below w.heap.size w W → Calls Tryz.prog 27 #[.agg (readR s).1.cells] W fun e w' => e = .returned (.int .i64 0) ∧ Below W.heap.size W w') ∧
      ∀ W, Below w.heap.size w W → Calls Tryz.prog 28 #[.agg (readR s).1.cells] W fun e w' => e = .returned (.string s) ∧ Below W.heap.size W w' := by
    rcases readR_cases s with ⟨h1, h2, h3⟩ | h1
    · refine .inr ⟨h1, fun W hW => ?_, fun W hW => ?_⟩
      · have h := Check_any (readR s).1 (by have := ok_op87 _ h2; omega) W (hT.out W hW).1
        rw [h2] at h; exact h
      · have h := LText_any (readR s).1 (by have := ok_op87 _ h2; omega) (by have := imm_small _ h2; omega) W (hT.out W hW).1 (hT.out W hW).2.1
        rw [h3, ba_toList] at h; exact h
    · exact .inl (by rw [h1])
  have htx : checkE i = 0 → checkE o = 0 → ((⟨(textT i).toArray⟩ : ByteArray).toList == (⟨(textT o).toArray⟩ : ByteArray).toList) = decide (i = o) := fun h1 h2 => by
    rw [ba_toList, ba_toList]
    by_cases hio : i = o
    · rw [hio]; simp
    · rw [decide_eq_false hio, beq_eq_false_iff_ne]
      intro e
      exact hio ((text_iff i o h1 h2).1 (by simpa using e))
  have hno : checkE i = 0 ∨ checkE i = 2 ∧ textT i = [] := by
    by_cases h : checkE i = 0
    · exact .inl h
    · exact .inr ⟨(text_no i h).2, (text_no i h).1⟩
  have hnoo : checkE o = 0 ∨ checkE o = 2 := by
    by_cases h : checkE o = 0
    · exact .inl h
    · exact .inr (text_no o h).2
  have sP : Hid ((Tryz.prog.info? 23).map (·.size) = some PL.length) := Lib.hid (insn_size hPL)
  have oP : Hid (PL.toArray.all (·.oneCell') = true) := Lib.hid (insn_one hPL)
  have zP : Hid (PL.length = 9) := Lib.hid (insn_len hPL)
  have sI : Hid ((Tryz.prog.info? 23).map (·.size) = some IL.length) := Lib.hid (insn_size hIL)
  have oI : Hid (IL.toArray.all (·.oneCell') = true) := Lib.hid (insn_one hIL)
  have zI : Hid (IL.length = 9) := Lib.hid (insn_len hIL)
  have sZ : Hid ((Tryz.prog.info? 23).map (·.size) = some ZL.length) := Lib.hid (insn_size hZL)
  have oZ : Hid (ZL.toArray.all (·.oneCell') = true) := Lib.hid (insn_one hZL)
  have zZ : Hid (ZL.length = 9) := Lib.hid (insn_len hZL)
  replace hZL := Lib.hid hZL
  clear hT hop him hoo hoi hsz
  replace hsp := Lib.hid hsp
  replace hps := Lib.hid hps
  generalize (⟨([32] ++ textT i).toArray⟩ : ByteArray) = TQ at key hps
  generalize (⟨(textT i ++ [32]).toArray⟩ : ByteArray) = TP at key hsp
  obtain ⟨UX, hUX⟩ : ∃ x : ByteArray, x = ⟨(textT o).toArray⟩ := ⟨_, rfl⟩
  rw [← hUX] at hco htx
  obtain ⟨TX, hTX⟩ : ∃ x : ByteArray, x = ⟨(textT i).toArray⟩ := ⟨_, rfl⟩
  rw [← hTX] at hc1 htx key hsp hps
  have hnoT : checkE i = 0 ∨ checkE i = 2 ∧ TX = { data := #[] } := hno.imp id fun h => ⟨h.1, by rw [hTX, h.2]⟩
  clear hno hTX hUX
  generalize checkE i = CE at *
  generalize checkE o = CO at *
  obtain ⟨RR, hRR⟩ : ∃ x, x = readR s := ⟨_, rfl⟩
  rw [← hRR] at hc3 hread hPL
  clear hRR
  obtain ⟨RI, RE⟩ := RR
  simp only at hc3 hread hPL
  replace hPL := Lib.hid hPL
  replace hIL := Lib.hid hIL
  generalize decide (i = o) = B at hqO htx
  replace key := Lib.hid key
  replace htx := Lib.hid htx
  replace hnoT := Lib.hid hnoT
  replace hnoo := Lib.hid hnoo
  replace hread := Lib.hid hread
  obtain ⟨op, rd, r1, r2, imm, aq, rl, pred, succ⟩ := i
  obtain ⟨opO, rdO, r1O, r2O, immO, aqO, rlO, predO, succO⟩ := o
  obtain ⟨opR, rdR, r1R, r2R, immR, aqR, rlR, predR, succR⟩ := RI
  unfold InsnV.cells at hc1 hc7 hco hqR hqO hread
  go_enter Tryz.func6, Tryz.ntmps6
  go_upto_region 5 with (go_at_call 25; (with_reducible refine (hLv.out _ hb0.out).mono ?_); rintro e w0 ⟨rfl, hb⟩)
  clear hLv
  replace hI := Lib.hid (hI.out.keep hb)
  replace hO := Lib.hid (hO.out.keep hb)
  replace hb0 := Lib.hid (hb0.out.trans (hb.mono hb0.out.size))
  clear hb
  go_upto_region 6 with (first | (go_at_call 26; (with_reducible refine (hc3.out _ hb0.out).mono ?_); rintro e w1 ⟨rfl, hb⟩) | (refine wpList_store_mid rfl 23 _ _ rfl w1.heap.size 0 PL.toArray rfl rfl (fun j hj => cells_freshX w1 #[.int .i64 0, .int .i64 0, .int .i64 0, .int .i64 0, .int .i64 0, .bool false, .bool false, .int .i64 0, .int .i64 0] 23 9 (by decide) j (by rw [List.size_toArray, zP.out] at hj; exact hj)) (by rw [List.size_toArray]; exact sP.out) oP.out ?_))
  obtain ⟨hX, hcp⟩ := BX.put w1 PL zP.out #[.int .i64 0, .int .i64 0, .int .i64 0, .int .i64 0, .int .i64 0, .bool false, .bool false, .int .i64 0, .int .i64 0] rfl 23
  generalize World.setCells _ w1.heap.size 0 PL = v1 at hX hcp ⊢
  replace hb := hb.trans (hcp.mono hb.size)
  generalize w1.heap.size = X at hX ⊢
  replace hX := Lib.hid hX
  clear hcp
  replace hI := Lib.hid (hI.out.keep hb)
  replace hO := Lib.hid (hO.out.keep hb)
  replace hb0 := Lib.hid (hb0.out.trans (hb.mono hb0.out.size))
  clear hb
  clear hc3
  rcases hread.out with h4 | ⟨h0, hCk, hTx⟩
  case' inl =>
    obtain rfl := h4
    clear hread hX
    go_upto_region 8 with fail
  case' inr =>
    obtain rfl := h0
    replace hCk := Lib.hid hCk
    replace hTx := Lib.hid hTx
    clear hread
    obtain ⟨x0, x1, x2, x3, x4, x5, x6, x7, x8⟩ := BX.all9L hPL.out hX.out
    go_upto_region 8 with (first | (go_at_call 27; (with_reducible refine (hCk.out _ hb0.out).mono ?_); rintro e w2 ⟨rfl, hb⟩; clear x0 x1 x2 x3 x4 x5 x6 x7 x8; replace hb0 := Lib.hid (hb0.out.trans (hb.mono hb0.out.size)); replace hX := Lib.hid (hX.out.keep hb); replace hI := Lib.hid (hI.out.keep hb); replace hO := Lib.hid (hO.out.keep hb); clear hb; obtain ⟨x0, x1, x2, x3, x4, x5, x6, x7, x8⟩ := BX.all9L hPL.out hX.out) | (go_at_call 28; (with_reducible refine (hTx.out _ hb0.out).mono ?_); rintro e w3 ⟨rfl, hb⟩; clear x0 x1 x2 x3 x4 x5 x6 x7 x8; replace hb0 := Lib.hid (hb0.out.trans (hb.mono hb0.out.size)); replace hX := Lib.hid (hX.out.keep hb); replace hI := Lib.hid (hI.out.keep hb); replace hO := Lib.hid (hO.out.keep hb); clear hb))
    clear hCk hTx hX
  all_goals as_aux_lemma =>
    clear hPL sP oP zP hZL
    obtain ⟨c0, c1, c2, c3, c4, c5, c6, c7, c8⟩ := hI.out.all9
    rcases hnoT.out with hC0 | ⟨hC2, hTe⟩
    · obtain rfl := hC0
      obtain ⟨hk1, hk2, hk3⟩ := key.out rfl
      replace hk1 := Lib.hid hk1
      replace hk2 := Lib.hid hk2
      replace hk3 := Lib.hid hk3
      have htx2 := Lib.hid (htx.out rfl)
      clear key htx hnoT
      go_upto_region 11 with (go_at_call 29; (with_reducible refine (hc1.out _ hb0.out).mono ?_); rintro e w4 ⟨rfl, hb⟩; clear c0 c1 c2 c3 c4 c5 c6 c7 c8)
      replace hI := Lib.hid (hI.out.keep hb)
      replace hO := Lib.hid (hO.out.keep hb)
      replace hb0 := Lib.hid (hb0.out.trans (hb.mono hb0.out.size))
      clear hb
      clear hc1 hc7
      go_upto_region 12 with (first | (go_at_call 26; (with_reducible refine (hk1.out _ hb0.out).mono ?_); rintro e w5 ⟨rfl, hb⟩) | (refine wpList_store_mid rfl 23 _ _ rfl w5.heap.size 0 IL.toArray rfl rfl (fun j hj => cells_freshX w5 #[.int .i64 0, .int .i64 0, .int .i64 0, .int .i64 0, .int .i64 0, .bool false, .bool false, .int .i64 0, .int .i64 0] 23 9 (by decide) j (by rw [List.size_toArray, zI.out] at hj; exact hj)) (by rw [List.size_toArray]; exact sI.out) oI.out ?_))
      obtain ⟨hY, hcp⟩ := BX.put w5 IL zI.out #[.int .i64 0, .int .i64 0, .int .i64 0, .int .i64 0, .int .i64 0, .bool false, .bool false, .int .i64 0, .int .i64 0] rfl 23
      generalize World.setCells _ w5.heap.size 0 IL = v5 at hY hcp ⊢
      replace hb := hb.trans (hcp.mono hb.size)
      generalize w5.heap.size = Y at hY ⊢
      replace hY := Lib.hid hY
      clear hcp
      replace hI := Lib.hid (hI.out.keep hb)
      replace hO := Lib.hid (hO.out.keep hb)
      replace hb0 := Lib.hid (hb0.out.trans (hb.mono hb0.out.size))
      clear hb
      clear hk1
      go_upto_region 13 with (first | (refine wpList_yields1 (by rfl) _ _ _ _ rfl _ _ _ rfl rfl hsp.out ?_) | (go_at_call 26; (with_reducible refine (hk2.out _ hb0.out).mono ?_); rintro e w6 ⟨rfl, hb⟩) | (refine wpList_store_mid rfl 23 _ _ rfl w6.heap.size 0 ZL.toArray rfl rfl (fun j hj => cells_freshX w6 #[.int .i64 0, .int .i64 0, .int .i64 0, .int .i64 0, .int .i64 0, .bool false, .bool false, .int .i64 0, .int .i64 0] 23 9 (by decide) j (by rw [List.size_toArray, zZ.out] at hj; exact hj)) (by rw [List.size_toArray]; exact sZ.out) oZ.out ?_))
      obtain ⟨hV, hcp⟩ := BX.put w6 ZL zZ.out #[.int .i64 0, .int .i64 0, .int .i64 0, .int .i64 0, .int .i64 0, .bool false, .bool false, .int .i64 0, .int .i64 0] rfl 23
      generalize World.setCells _ w6.heap.size 0 ZL = v6 at hV hcp ⊢
      replace hb := hb.trans (hcp.mono hb.size)
      generalize w6.heap.size = V at hV ⊢
      replace hV := Lib.hid hV
      clear hcp
      replace hI := Lib.hid (hI.out.keep hb)
      replace hO := Lib.hid (hO.out.keep hb)
      replace hY := Lib.hid (hY.out.keep hb)
      replace hb0 := Lib.hid (hb0.out.trans (hb.mono hb0.out.size))
      clear hb
      clear hk2 hV
      go_upto_region 14 with (first | (refine wpList_yields1 (by rfl) _ _ _ _ rfl _ _ _ rfl rfl hps.out ?_) | (go_at_call 26; (with_reducible refine (hk3.out _ hb0.out).mono ?_); rintro e w7 ⟨rfl, hb⟩) | (refine wpList_store_mid rfl 23 _ _ rfl w7.heap.size 0 ZL.toArray rfl rfl (fun j hj => cells_freshX w7 #[.int .i64 0, .int .i64 0, .int .i64 0, .int .i64 0, .int .i64 0, .bool false, .bool false, .int .i64 0, .int .i64 0] 23 9 (by decide) j (by rw [List.size_toArray, zZ.out] at hj; exact hj)) (by rw [List.size_toArray]; exact sZ.out) oZ.out ?_))
      obtain ⟨hV, hcp⟩ := BX.put w7 ZL zZ.out #[.int .i64 0, .int .i64 0, .int .i64 0, .int .i64 0, .int .i64 0, .bool false, .bool false, .int .i64 0, .int .i64 0] rfl 23
      generalize World.setCells _ w7.heap.size 0 ZL = v7 at hV hcp ⊢
      replace hb := hb.trans (hcp.mono hb.size)
      generalize w7.heap.size = V2 at hV ⊢
      replace hV := Lib.hid hV
      clear hcp
      replace hI := Lib.hid (hI.out.keep hb)
      replace hO := Lib.hid (hO.out.keep hb)
      replace hY := Lib.hid (hY.out.keep hb)
      replace hb0 := Lib.hid (hb0.out.trans (hb.mono hb0.out.size))
      clear hb
      clear hk3 hV
      obtain ⟨c0, c1, c2, c3, c4, c5, c6, c7, c8⟩ := hO.out.all9
      go_upto_region 15 with (go_at_call 29; (with_reducible refine (hco.out _ hb0.out).mono ?_); rintro e w8 ⟨rfl, hb⟩; clear c0 c1 c2 c3 c4 c5 c6 c7 c8)
      replace hI := Lib.hid (hI.out.keep hb)
      replace hO := Lib.hid (hO.out.keep hb)
      replace hY := Lib.hid (hY.out.keep hb)
      replace hb0 := Lib.hid (hb0.out.trans (hb.mono hb0.out.size))
      clear hb
      clear hco
      obtain ⟨c0, c1, c2, c3, c4, c5, c6, c7, c8⟩ := hO.out.all9
      obtain ⟨d0, d1, d2, d3, d4, d5, d6, d7, d8⟩ := hI.out.all9
      obtain ⟨y0, y1, y2, y3, y4, y5, y6, y7, y8⟩ := BX.all9L hIL.out hY.out
      rcases hnoo.out with hC3 | hC3
      · obtain rfl := hC3
        have tx1 := htx2.out rfl
        have tbb : (B == B) = true := by simp
        have tbd : decide (B = B) = true := by simp
        clear htx2
        go_wp2_with (first | (refine wpList_eqlG (by first | rfl | kernel_rfl) _ _ _ rfl #[.int .i64 op, .int .i64 rd, .int .i64 r1, .int .i64 r2, .int .i64 imm, .bool aq, .bool rl, .int .i64 pred, .int .i64 succ] #[.int .i64 op, .int .i64 rd, .int .i64 r1, .int .i64 r2, .int .i64 imm, .bool aq, .bool rl, .int .i64 pred, .int .i64 succ] true rfl rfl hqR.out ?_) | (refine wpList_eqlG (by first | rfl | kernel_rfl) _ _ _ rfl #[.int .i64 op, .int .i64 rd, .int .i64 r1, .int .i64 r2, .int .i64 imm, .bool aq, .bool rl, .int .i64 pred, .int .i64 succ] #[.int .i64 opO, .int .i64 rdO, .int .i64 r1O, .int .i64 r2O, .int .i64 immO, .bool aqO, .bool rlO, .int .i64 predO, .int .i64 succO] B rfl rfl hqO.out ?_))
        go_ret
        exact ⟨rfl, hb0.out⟩
      · obtain rfl := hC3
        clear htx2
        go_wp2_with (first | (refine wpList_eqlG (by first | rfl | kernel_rfl) _ _ _ rfl #[.int .i64 op, .int .i64 rd, .int .i64 r1, .int .i64 r2, .int .i64 imm, .bool aq, .bool rl, .int .i64 pred, .int .i64 succ] #[.int .i64 op, .int .i64 rd, .int .i64 r1, .int .i64 r2, .int .i64 imm, .bool aq, .bool rl, .int .i64 pred, .int .i64 succ] true rfl rfl hqR.out ?_) | (refine wpList_eqlG (by first | rfl | kernel_rfl) _ _ _ rfl #[.int .i64 op, .int .i64 rd, .int .i64 r1, .int .i64 r2, .int .i64 imm, .bool aq, .bool rl, .int .i64 pred, .int .i64 succ] #[.int .i64 opO, .int .i64 rdO, .int .i64 r1O, .int .i64 r2O, .int .i64 immO, .bool aqO, .bool rlO, .int .i64 predO, .int .i64 succO] B rfl rfl hqO.out ?_))
        go_ret
        exact ⟨rfl, hb0.out⟩
    · obtain rfl := hC2
      obtain rfl := hTe
      clear key htx hnoT
      go_upto_region 10 with (go_at_call 29; (with_reducible refine (hc1.out _ hb0.out).mono ?_); rintro e w4 ⟨rfl, hb⟩; clear c0 c1 c2 c3 c4 c5 c6 c7 c8)
      replace hI := Lib.hid (hI.out.keep hb)
      replace hO := Lib.hid (hO.out.keep hb)
      replace hb0 := Lib.hid (hb0.out.trans (hb.mono hb0.out.size))
      clear hb
      clear hc1
      obtain ⟨c0, c1, c2, c3, c4, c5, c6, c7, c8⟩ := hI.out.all9
      go_wp2_with (go_at_call 27; (with_reducible refine (hc7.out _ hb0.out).mono ?_); rintro e w5 ⟨rfl, hb⟩)
      go_ret
      exact ⟨rfl, hb0.out.trans (hb.mono hb0.out.size)⟩
end
end Go.Proofs.YtdbpnbmaineniaaGreatDoor
