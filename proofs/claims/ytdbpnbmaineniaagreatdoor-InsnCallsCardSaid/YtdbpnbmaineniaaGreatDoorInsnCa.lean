/- The law InsnCalls: instructions are checked, written, read and queried as the document says. Conditions: the library's tables and its two errors lie as their initialisers lay them. -/
import Derived.Test.YtdbpnbmaineniaaGreatDoorInsnBx
import Derived.Test.YtdbpnbmaineniaaGreatDoorInsnRe
import Derived.Test.YtdbpnbmaineniaaGreatDoorInsnMemory
import Derived.Test.YtdbpnbmaineniaaGreatDoorInsnDq
import Derived.Test.YtdbpnbmaineniaaGreatDoorRefMem
import Derived.Test.YtdbpnbmaineniaaGreatDoorTextCG
import Derived.Test.YtdbpnbmaineniaaGreatDoorReadD
import Derived.Test.YtdbpnbmaineniaaGreatDoorRdPm
import Derived.Test.YtdbpnbmaineniaaGreatDoorTks
set_option linter.unusedSimpArgs false
set_option linter.unusedVariables false
namespace Go.Proofs.YtdbpnbmaineniaaGreatDoor
open Go.RowKit
section
variable {P : Program} {md : Region.Mode} {ops : Array Oper} {Q : Exit → Act → World → Prop} {S : World → Prop}
theorem iteK {c : Prop} [Decidable c] {A B : Prop} (ha : A) (hc : c := by kernel_rfl) : if c then A else B := by rw [if_pos hc]; exact ha
/-- An operation that yields what stands in the act alone; its guard by the kernel. -/
theorem tkK (i : Nat) (v : Value) {oi : Oper} {fuel : Nat} {listed : Array Bool} {a : Act} {w : World} (hS : S w)
    (h : wpAnyH P md ops Q S fuel (listed.setIfInBounds i true) (a.put oi.dst v) w) (hi : ops[i]? = some oi := by rfl)
    (hs : Region.noSelect ops = true := by kernel_rfl) (hf : Region.free md ops listed i = true := by kernel_rfl) (hr : (Region.ready md ops listed).contains i = true := by kernel_rfl)
    (hQ : ∀ c a w, Q (.panic c) (a.put oi.dst v) w → Q (.panic c) a w := by exact fun _ _ _ h => h) (hy : YieldsIf P ops S oi v a := by exact Or.inl ⟨by kernel_rfl, fun W _ => by kernel_rfl⟩) : wpAnyH P md ops Q S (fuel + 1) listed a w :=
  wpAnyH_take hi hs hf hr hQ hy hS h
end
section
attribute [local irreducible] readR checkE textT readsP namedOf
set_option maxRecDepth 100000 in
set_option maxHeartbeats 16000000 in
theorem InsnCalls_any (i : InsnV) (n : Int) (s : ByteArray) (hop : i.op ≤ 9223372036854775807) (him : -9223372036854775808 ≤ i.imm ∧ i.imm ≤ 9223372036854775807) (hn : n ≤ 9223372036854775807) (w : World) (ht : Tabs w) (hp : P10 w) (hev : EV w) :
    Calls Tryz.prog 8 #[.agg i.cells, .int .i64 n, .string s] w fun e w' => e = .returned (.bool true) ∧ Below w.heap.size w w' := by
  have hu := Tryz.underlying23
  have hT : Hid (∀ W, Below w.heap.size w W → Tabs W ∧ P10 W ∧ EV W) := Lib.hid fun W hW => ⟨ht.later hW (Nat.le_refl _), hp.later hW (Nat.le_refl _), hev.keep hW⟩
  have hLv : Hid (∀ W, Below w.heap.size w W → Calls Tryz.prog 25 #[] W fun e w' => e = .returned (.bool true) ∧ Below W.heap.size W w') := Lib.hid fun W hW => Lives2_any W (hT.out W hW).1 (hT.out W hW).2.1
  obtain ⟨hI, hb0⟩ := BX.new w i 23
  replace hI := Lib.hid hI
  replace hb0 := Lib.hid hb0
  clear ht hp hev
  by_cases hsz : s.size ≤ 100
  · have t60 : decide (100 < (s.size : Int)) = false := decide_eq_false (by omega)
    have t61 : decide (100 < s.size) = false := decide_eq_false (by omega)
    obtain ⟨IL, hIL⟩ : ∃ l, i.cells.toList = l := ⟨_, rfl⟩
    obtain ⟨PL, hPL⟩ : ∃ l, (readR s).1.cells.toList = l := ⟨_, rfl⟩
    have hc1 : Hid (∀ W, Below w.heap.size w W → Calls Tryz.prog 29 #[.agg IL.toArray] W fun e w' => e = .returned (.tuple #[.string ⟨(textT i).toArray⟩, .int .i64 (checkE i)]) ∧ Below W.heap.size W w') := Lib.hid fun W hW => by rw [← hIL, Array.toArray_toList]; exact IText_any i hop him W (hT.out W hW).1 (hT.out W hW).2.1
    have hc2 : Hid (∀ W, Calls Tryz.prog 36 #[.agg IL.toArray] W fun e w' => e = .returned (.tuple #[.string ⟨(textT i).toArray⟩, .int .i64 (checkE i)]) ∧ Below W.heap.size W w') := Lib.hid fun W => by rw [← hIL, Array.toArray_toList]; exact R2Text_any i him W
    have hc3 : Hid (∀ W, Below w.heap.size w W → Calls Tryz.prog 26 #[.string s] W fun e w' => e = .returned (.tuple #[.agg PL.toArray, .int .i64 (readR s).2]) ∧ Below W.heap.size W w') := Lib.hid fun W hW => by rw [← hPL, Array.toArray_toList]; exact IRead_any s (by omega) W (hT.out W hW).1 (hT.out W hW).2.1 (hT.out W hW).2.2
    have hc4 : Hid (∀ W, Calls Tryz.prog 24 #[.string s] W fun e w' => e = .returned (.tuple #[.agg PL.toArray, .int .i64 (readR s).2]) ∧ Below W.heap.size W w') := Lib.hid fun W => by rw [← hPL, Array.toArray_toList, readR_readB]; exact R2Read_any s (by omega) W
    have hc5 : Hid (∀ W, Below w.heap.size w W → Calls Tryz.prog 30 #[.int .i64 n] W fun e w' => e = .returned (.tuple #[.bool (opOf n).loads, .bool (opOf n).stores, .int .i64 (opOf n).size]) ∧ Below W.heap.size W w') := Lib.hid fun W hW => Memory_any n hn W (hT.out W hW).1
    have hc6 : Hid (∀ W, Calls Tryz.prog 37 #[.int .i64 n] W fun e w' => e = .returned (.tuple #[.bool (opOf n).loads, .bool (opOf n).stores, .int .i64 (opOf n).size]) ∧ Below W.heap.size W w') := Lib.hid fun W => R2Mem_any n W
    have hc7 : Hid (∀ W, Below w.heap.size w W → Calls Tryz.prog 27 #[.agg IL.toArray] W fun e w' => e = .returned (.int .i64 (checkE i)) ∧ Below W.heap.size W w') := Lib.hid fun W hW => by rw [← hIL, Array.toArray_toList]; exact Check_any i hop W (hT.out W hW).1
    have hc8 : Hid (∀ W, Calls Tryz.prog 38 #[.agg IL.toArray] W fun e w' => e = .returned (.int .i64 (checkE i)) ∧ Below W.heap.size W w') := Lib.hid fun W => by rw [← hIL, Array.toArray_toList]; exact R2Check_any i W
    have hc9 : Hid (∀ W, Below w.heap.size w W → Calls Tryz.prog 33 #[.int .i64 n] W fun e w' => e = .returned (.int .i64 (opOf n).form) ∧ Below W.heap.size W w') := Lib.hid fun W hW => Form_any n hn W (hT.out W hW).1
    have hc10 : Hid (∀ W, Calls Tryz.prog 39 #[.int .i64 n] W fun e w' => e = .returned (.int .i64 (opOf n).form) ∧ W = w') := Lib.hid fun W => by rw [rform_eq]; exact R2Form_any n W
    have hc11 : Hid (∀ W, Below w.heap.size w W → Calls Tryz.prog 32 #[.int .i64 n] W fun e w' => e = .returned (.string ⟨(opOf n).name.toArray⟩) ∧ Below W.heap.size W w') := Lib.hid fun W hW => IName_any n hn W (hT.out W hW).1
    have hc12 : Hid (∀ W, Calls Tryz.prog 40 #[.int .i64 n] W fun e w' => e = .returned (.string ⟨(opOf n).name.toArray⟩) ∧ Below W.heap.size W w') := Lib.hid fun W => R2Name_any n W
    have hc13 : Hid (∀ W, Below w.heap.size w W → Calls Tryz.prog 31 #[.string s] W fun e w' => e = .returned (.int .i64 (namedOf s.toList)) ∧ Below W.heap.size W w') := Lib.hid fun W hW => Named_any s W (hT.out W hW).1
    have hc14 : Hid (∀ W, Calls Tryz.prog 41 #[.string s] W fun e w' => e = .returned (.int .i64 (namedOf s.toList)) ∧ Below W.heap.size W w') := Lib.hid fun W => by rw [← named_eq]; exact R2Named_any s W
    have hc15 : Hid (∀ W, Below w.heap.size w W → Calls Tryz.prog 42 #[.agg IL.toArray] W fun e w' => e = .returned (.int .i64 (if checkE i = 0 then i.rd else 0)) ∧ Below W.heap.size W w') := Lib.hid fun W hW => by rw [← hIL, Array.toArray_toList]; exact Writes_any i hop W (hT.out W hW).1
    have hc16 : Hid (∀ W, Calls Tryz.prog 43 #[.agg IL.toArray] W fun e w' => e = .returned (.int .i64 (if checkE i = 0 then i.rd else 0)) ∧ Below W.heap.size W w') := Lib.hid fun W => by rw [← hIL, Array.toArray_toList]; exact R2Writes_any i W
    have hc17 : Hid (∀ W, Below w.heap.size w W → Calls Tryz.prog 35 #[.agg IL.toArray] W (ReadsPost W (if checkE i = 0 then readsP i else []))) := Lib.hid fun W hW => by rw [← hIL, Array.toArray_toList]; exact IReads_any i hop W (hT.out W hW).1
    have hc18 : Hid (∀ W, Calls Tryz.prog 44 #[.agg IL.toArray] W (ReadsPost W (if checkE i = 0 then readsP i else []))) := Lib.hid fun W => by rw [← hIL, Array.toArray_toList]; exact R2Reads_any i W
    have hqR : Hid (∀ W, (binOp .eql 23 (.agg PL.toArray) (.agg PL.toArray)).run Tryz.prog W = .ok (.bool true) W) := Lib.hid fun W => by
      rw [← hPL, Array.toArray_toList]; exact insn_same _ W
    have sI : Hid ((Tryz.prog.info? 23).map (·.size) = some IL.length) := Lib.hid (insn_size hIL)
    have sR : Hid ((Tryz.prog.info? 23).map (·.size) = some PL.length) := Lib.hid (insn_size hPL)
    have oR : Hid (PL.toArray.all (·.oneCell') = true) := Lib.hid (insn_one hPL)
    have zR : Hid (PL.length = 9) := Lib.hid (insn_len hPL)
    have eI : i.cells = IL.toArray := by rw [← hIL, Array.toArray_toList]
    rw [hIL] at hI
    rw [eI] at hI hb0 ⊢
    clear hT hop him hn hsz hPL hIL eI
    generalize (⟨(textT i).toArray⟩ : ByteArray) = TX at hc1 hc2
    generalize (⟨(opOf n).name.toArray⟩ : ByteArray) = NM at hc11 hc12
    generalize namedOf s.toList = ND at hc13 hc14
    generalize (if checkE i = 0 then i.rd else 0) = WV at hc15 hc16
    generalize (if checkE i = 0 then readsP i else []) = RV at hc17 hc18
    generalize checkE i = CE at hc1 hc2 hc7 hc8
    generalize (opOf n).loads = LO at hc5 hc6
    generalize (opOf n).stores = ST at hc5 hc6
    generalize (opOf n).size = SZ at hc5 hc6
    generalize (opOf n).form = FM at hc9 hc10
    generalize (readR s).2 = RE at hc3 hc4
    have hSm : Hid (∀ W v u, RL W W.heap.size v RV → RL W W.heap.size u RV → Calls Tryz.prog 34 #[v, u] W (Quiet W (.bool true))) := Lib.hid fun W v u hv hu => by
      have := Same_any v u _ _ _ _ W hv hu
      rwa [beq_self_eq_true] at this
    go_enter Tryz.func8, Tryz.ntmps8
    go_upto_region 5 with (go_at_call 25; (with_reducible refine (hLv.out _ hb0.out).mono ?_); rintro e w0 ⟨rfl, hb⟩)
    replace hI := Lib.hid (hI.out.keep hb)
    replace hb0 := Lib.hid (hb0.out.trans (hb.mono hb0.out.size))
    clear hLv hb
    go_upto_region 6 with (first | (go_at_call 29; (with_reducible refine (hc1.out _ hb0.out).mono ?_); rintro e w1 ⟨rfl, hb⟩) | (refine wpList_load_mid rfl 23 _ rfl w.heap.size 0 rfl IL _ hI.out.c hu rfl sI.out ?_))
    replace hI := Lib.hid (hI.out.keep hb)
    replace hb0 := Lib.hid (hb0.out.trans (hb.mono hb0.out.size))
    clear hb
    clear hc1
    go_upto_region 7 with (first | (go_at_call 36; (with_reducible refine (hc2.out _).mono ?_); rintro e w2 ⟨rfl, hb⟩) | (refine wpList_load_mid rfl 23 _ rfl w.heap.size 0 rfl IL _ hI.out.c hu rfl sI.out ?_))
    replace hI := Lib.hid (hI.out.keep hb)
    replace hb0 := Lib.hid (hb0.out.trans (hb.mono hb0.out.size))
    clear hb
    clear hc2
    go_upto_region 8 with (first | (go_at_call 26; (with_reducible refine (hc3.out _ hb0.out).mono ?_); rintro e w3 ⟨rfl, hb⟩) | (refine wpList_store_mid rfl 23 _ _ rfl w3.heap.size 0 PL.toArray rfl rfl (fun j hj => cells_freshX w3 #[.int .i64 0, .int .i64 0, .int .i64 0, .int .i64 0, .int .i64 0, .bool false, .bool false, .int .i64 0, .int .i64 0] 23 9 (by decide) j (by rw [List.size_toArray, zR.out] at hj; exact hj)) (by rw [List.size_toArray]; exact sR.out) oR.out ?_))
    obtain ⟨hX, hcp⟩ := BX.put w3 PL zR.out #[.int .i64 0, .int .i64 0, .int .i64 0, .int .i64 0, .int .i64 0, .bool false, .bool false, .int .i64 0, .int .i64 0] rfl 23
    generalize World.setCells _ w3.heap.size 0 PL = v3 at hX hcp ⊢
    replace hb := hb.trans (hcp.mono hb.size)
    generalize w3.heap.size = X at hX ⊢
    replace hX := Lib.hid hX
    clear hcp
    replace hI := Lib.hid (hI.out.keep hb)
    replace hb0 := Lib.hid (hb0.out.trans (hb.mono hb0.out.size))
    clear hb
    clear hc3
    go_upto_region 9 with (first | (go_at_call 24; (with_reducible refine (hc4.out _).mono ?_); rintro e w4 ⟨rfl, hb⟩) | (refine wpList_store_mid rfl 23 _ _ rfl w4.heap.size 0 PL.toArray rfl rfl (fun j hj => cells_freshX w4 #[.int .i64 0, .int .i64 0, .int .i64 0, .int .i64 0, .int .i64 0, .bool false, .bool false, .int .i64 0, .int .i64 0] 23 9 (by decide) j (by rw [List.size_toArray, zR.out] at hj; exact hj)) (by rw [List.size_toArray]; exact sR.out) oR.out ?_))
    obtain ⟨hY, hcp⟩ := BX.put w4 PL zR.out #[.int .i64 0, .int .i64 0, .int .i64 0, .int .i64 0, .int .i64 0, .bool false, .bool false, .int .i64 0, .int .i64 0] rfl 23
    generalize World.setCells _ w4.heap.size 0 PL = v4 at hY hcp ⊢
    replace hb := hb.trans (hcp.mono hb.size)
    generalize w4.heap.size = Y at hY ⊢
    replace hY := Lib.hid hY
    clear hcp
    replace hI := Lib.hid (hI.out.keep hb)
    replace hX := Lib.hid (hX.out.keep hb)
    replace hb0 := Lib.hid (hb0.out.trans (hb.mono hb0.out.size))
    clear hb
    clear hc4
    go_upto_region 10 with (first | (go_at_call 30; (with_reducible refine (hc5.out _ hb0.out).mono ?_); rintro e w5 ⟨rfl, hb⟩))
    replace hI := Lib.hid (hI.out.keep hb)
    replace hX := Lib.hid (hX.out.keep hb)
    replace hY := Lib.hid (hY.out.keep hb)
    replace hb0 := Lib.hid (hb0.out.trans (hb.mono hb0.out.size))
    clear hb
    clear hc5
    go_upto_region 11 with (first | (go_at_call 37; (with_reducible refine (hc6.out _).mono ?_); rintro e w6 ⟨rfl, hb⟩))
    replace hI := Lib.hid (hI.out.keep hb)
    replace hX := Lib.hid (hX.out.keep hb)
    replace hY := Lib.hid (hY.out.keep hb)
    replace hb0 := Lib.hid (hb0.out.trans (hb.mono hb0.out.size))
    clear hb
    clear hc6
    simp only [List.append_eq, List.cons_append, List.nil_append]
    refine wp_region_held_drew (S := fun W => Below w6.heap.size w6 W) (by kernel_rfl) ((Below.refl _ _).drew) (fun hHeld => ?_)
    refine tkK 0 (.string TX) hHeld ?_
    try simp only [Act.put, List.getElem_toArray, List.getElem_cons_succ, List.getElem_cons_zero, List.setIfInBounds_toArray, List.set_cons_zero, List.set_cons_succ]
    refine tkK 1 (.string TX) hHeld ?_
    try simp only [Act.put, List.getElem_toArray, List.getElem_cons_succ, List.getElem_cons_zero, List.setIfInBounds_toArray, List.set_cons_zero, List.set_cons_succ]
    refine tkK 2 (.bool (TX.toList == TX.toList)) hHeld ?_
    try simp only [beq_self_eq_true, Act.put, List.getElem_toArray, List.getElem_cons_succ, List.getElem_cons_zero, List.setIfInBounds_toArray, List.set_cons_zero, List.set_cons_succ]
    refine tkK 3 (.bool true) hHeld ?_
    try simp only [Act.put, List.getElem_toArray, List.getElem_cons_succ, List.getElem_cons_zero, List.setIfInBounds_toArray, List.set_cons_zero, List.set_cons_succ]
    refine tkK 4 (.int .i64 CE) hHeld ?_
    try simp only [Act.put, List.getElem_toArray, List.getElem_cons_succ, List.getElem_cons_zero, List.setIfInBounds_toArray, List.set_cons_zero, List.set_cons_succ]
    refine tkK 5 (.int .i64 CE) hHeld ?_
    try simp only [Act.put, List.getElem_toArray, List.getElem_cons_succ, List.getElem_cons_zero, List.setIfInBounds_toArray, List.set_cons_zero, List.set_cons_succ]
    refine tkK 6 (.bool (CE == CE)) hHeld ?_
    try simp only [beq_self_eq_true, Act.put, List.getElem_toArray, List.getElem_cons_succ, List.getElem_cons_zero, List.setIfInBounds_toArray, List.set_cons_zero, List.set_cons_succ]
    refine tkK 7 (.bool true) hHeld ?_
    try simp only [Act.put, List.getElem_toArray, List.getElem_cons_succ, List.getElem_cons_zero, List.setIfInBounds_toArray, List.set_cons_zero, List.set_cons_succ]
    refine tkK 8 (.bool true) hHeld ?_
    try simp only [Act.put, List.getElem_toArray, List.getElem_cons_succ, List.getElem_cons_zero, List.setIfInBounds_toArray, List.set_cons_zero, List.set_cons_succ]
    refine wpAnyH_take (i := 9) rfl (by kernel_rfl) (by kernel_rfl) (by kernel_rfl) (fun _ _ _ h => h) (yieldsIf_load_mid (by kernel_rfl) 23 (.tmp 11) rfl X 0 (by kernel_rfl) PL _ (fun W hS => (hX.out.keep hS).c) hu rfl sR.out) hHeld ?_
    try simp only [Act.put, List.getElem_toArray, List.getElem_cons_succ, List.getElem_cons_zero, List.setIfInBounds_toArray, List.set_cons_zero, List.set_cons_succ]
    refine wpAnyH_take (i := 10) rfl (by kernel_rfl) (by kernel_rfl) (by kernel_rfl) (fun _ _ _ h => h) (yieldsIf_load_mid (by kernel_rfl) 23 (.tmp 13) rfl Y 0 (by kernel_rfl) PL _ (fun W hS => (hY.out.keep hS).c) hu rfl sR.out) hHeld ?_
    try simp only [Act.put, List.getElem_toArray, List.getElem_cons_succ, List.getElem_cons_zero, List.setIfInBounds_toArray, List.set_cons_zero, List.set_cons_succ]
    refine wpAnyH_take (i := 11) rfl (by kernel_rfl) (by kernel_rfl) (by kernel_rfl) (fun _ _ _ h => h) (yieldsIf_eql_insnN (by kernel_rfl) (.tmp 67) (.tmp 68) _ rfl PL.toArray PL.toArray true (by kernel_rfl) (by kernel_rfl) hqR.out) hHeld ?_
    try simp only [Act.put, List.getElem_toArray, List.getElem_cons_succ, List.getElem_cons_zero, List.setIfInBounds_toArray, List.set_cons_zero, List.set_cons_succ]
    refine tkK 12 (.bool true) hHeld ?_
    try simp only [Act.put, List.getElem_toArray, List.getElem_cons_succ, List.getElem_cons_zero, List.setIfInBounds_toArray, List.set_cons_zero, List.set_cons_succ]
    refine tkK 13 (.bool true) hHeld ?_
    try simp only [Act.put, List.getElem_toArray, List.getElem_cons_succ, List.getElem_cons_zero, List.setIfInBounds_toArray, List.set_cons_zero, List.set_cons_succ]
    refine tkK 14 (.int .i64 RE) hHeld ?_
    try simp only [Act.put, List.getElem_toArray, List.getElem_cons_succ, List.getElem_cons_zero, List.setIfInBounds_toArray, List.set_cons_zero, List.set_cons_succ]
    refine tkK 15 (.int .i64 RE) hHeld ?_
    try simp only [Act.put, List.getElem_toArray, List.getElem_cons_succ, List.getElem_cons_zero, List.setIfInBounds_toArray, List.set_cons_zero, List.set_cons_succ]
    refine tkK 16 (.bool (RE == RE)) hHeld ?_
    try simp only [beq_self_eq_true, Act.put, List.getElem_toArray, List.getElem_cons_succ, List.getElem_cons_zero, List.setIfInBounds_toArray, List.set_cons_zero, List.set_cons_succ]
    refine tkK 17 (.bool true) hHeld ?_
    try simp only [Act.put, List.getElem_toArray, List.getElem_cons_succ, List.getElem_cons_zero, List.setIfInBounds_toArray, List.set_cons_zero, List.set_cons_succ]
    refine tkK 18 (.bool true) hHeld ?_
    try simp only [Act.put, List.getElem_toArray, List.getElem_cons_succ, List.getElem_cons_zero, List.setIfInBounds_toArray, List.set_cons_zero, List.set_cons_succ]
    refine tkK 19 (.bool LO) hHeld ?_
    try simp only [Act.put, List.getElem_toArray, List.getElem_cons_succ, List.getElem_cons_zero, List.setIfInBounds_toArray, List.set_cons_zero, List.set_cons_succ]
    refine tkK 20 (.bool LO) hHeld ?_
    try simp only [Act.put, List.getElem_toArray, List.getElem_cons_succ, List.getElem_cons_zero, List.setIfInBounds_toArray, List.set_cons_zero, List.set_cons_succ]
    refine tkK 21 (.bool (LO == LO)) hHeld ?_
    try simp only [beq_self_eq_true, Act.put, List.getElem_toArray, List.getElem_cons_succ, List.getElem_cons_zero, List.setIfInBounds_toArray, List.set_cons_zero, List.set_cons_succ]
    refine tkK 22 (.bool true) hHeld ?_
    try simp only [Act.put, List.getElem_toArray, List.getElem_cons_succ, List.getElem_cons_zero, List.setIfInBounds_toArray, List.set_cons_zero, List.set_cons_succ]
    refine tkK 23 (.bool true) hHeld ?_
    try simp only [Act.put, List.getElem_toArray, List.getElem_cons_succ, List.getElem_cons_zero, List.setIfInBounds_toArray, List.set_cons_zero, List.set_cons_succ]
    refine tkK 24 (.bool ST) hHeld ?_
    try simp only [Act.put, List.getElem_toArray, List.getElem_cons_succ, List.getElem_cons_zero, List.setIfInBounds_toArray, List.set_cons_zero, List.set_cons_succ]
    refine tkK 25 (.bool ST) hHeld ?_
    try simp only [Act.put, List.getElem_toArray, List.getElem_cons_succ, List.getElem_cons_zero, List.setIfInBounds_toArray, List.set_cons_zero, List.set_cons_succ]
    refine tkK 26 (.bool (ST == ST)) hHeld ?_
    try simp only [beq_self_eq_true, Act.put, List.getElem_toArray, List.getElem_cons_succ, List.getElem_cons_zero, List.setIfInBounds_toArray, List.set_cons_zero, List.set_cons_succ]
    refine tkK 27 (.bool true) hHeld ?_
    try simp only [Act.put, List.getElem_toArray, List.getElem_cons_succ, List.getElem_cons_zero, List.setIfInBounds_toArray, List.set_cons_zero, List.set_cons_succ]
    refine tkK 28 (.bool true) hHeld ?_
    try simp only [Act.put, List.getElem_toArray, List.getElem_cons_succ, List.getElem_cons_zero, List.setIfInBounds_toArray, List.set_cons_zero, List.set_cons_succ]
    refine tkK 29 (.int .i64 SZ) hHeld ?_
    try simp only [Act.put, List.getElem_toArray, List.getElem_cons_succ, List.getElem_cons_zero, List.setIfInBounds_toArray, List.set_cons_zero, List.set_cons_succ]
    refine tkK 30 (.int .i64 SZ) hHeld ?_
    try simp only [Act.put, List.getElem_toArray, List.getElem_cons_succ, List.getElem_cons_zero, List.setIfInBounds_toArray, List.set_cons_zero, List.set_cons_succ]
    refine tkK 31 (.bool (SZ == SZ)) hHeld ?_
    try simp only [beq_self_eq_true, Act.put, List.getElem_toArray, List.getElem_cons_succ, List.getElem_cons_zero, List.setIfInBounds_toArray, List.set_cons_zero, List.set_cons_succ]
    refine tkK 32 (.bool true) hHeld ?_
    try simp only [Act.put, List.getElem_toArray, List.getElem_cons_succ, List.getElem_cons_zero, List.setIfInBounds_toArray, List.set_cons_zero, List.set_cons_succ]
    refine tkK 33 (.bool true) hHeld ?_
    try simp only [Act.put, List.getElem_toArray, List.getElem_cons_succ, List.getElem_cons_zero, List.setIfInBounds_toArray, List.set_cons_zero, List.set_cons_succ]
    refine wpAnyH_take (i := 34) rfl (by kernel_rfl) (by kernel_rfl) (by kernel_rfl) (fun _ _ _ h => h) (yieldsIf_load_mid (by kernel_rfl) 23 (.tmp 3) rfl w.heap.size 0 (by kernel_rfl) IL _ (fun W hS => (hI.out.keep hS).c) hu rfl sI.out) hHeld ?_
    try simp only [Act.put, List.getElem_toArray, List.getElem_cons_succ, List.getElem_cons_zero, List.setIfInBounds_toArray, List.set_cons_zero, List.set_cons_succ]
    refine wpAnyH_take (i := 36) rfl (by kernel_rfl) (by kernel_rfl) (by kernel_rfl) (fun _ _ _ h => h) (yieldsIf_load_mid (by kernel_rfl) 23 (.tmp 3) rfl w.heap.size 0 (by kernel_rfl) IL _ (fun W hS => (hI.out.keep hS).c) hu rfl sI.out) hHeld ?_
    try simp only [Act.put, List.getElem_toArray, List.getElem_cons_succ, List.getElem_cons_zero, List.setIfInBounds_toArray, List.set_cons_zero, List.set_cons_succ]
    refine wpAnyH_ready (rs := [35]) (by kernel_rfl) (by simp) ?_
    apply AllReadyH.cons
    case hs => exact AllReadyH.nil
    case ho => rfl
    intro K hK2
    refine iteK ?_
    simp only [List.getElem_toArray, List.getElem_cons_succ, List.getElem_cons_zero]
    go_wp2_with (go_at_call 27; (with_reducible refine (hc7.out _ (hb0.out.trans (hHeld.mono hb0.out.size))).mono ?_); rintro e w134 ⟨rfl, hb⟩)
    refine hK2.out _ _ (hHeld.trans (hb.mono hHeld.size)) (fun hHeld2 => ?_)
    clear hK2 K hHeld
    have hHeld := hHeld2
    clear hHeld2
    try simp only [Act.put, List.getElem_toArray, List.getElem_cons_succ, List.getElem_cons_zero, List.setIfInBounds_toArray, List.set_cons_zero, List.set_cons_succ]
    clear hc7
    clear hb
    refine wpAnyH_ready (rs := [37]) (by kernel_rfl) (by simp) ?_
    apply AllReadyH.cons
    case hs => exact AllReadyH.nil
    case ho => rfl
    intro K hK2
    refine iteK ?_
    simp only [List.getElem_toArray, List.getElem_cons_succ, List.getElem_cons_zero]
    go_wp2_with (go_at_call 38; (with_reducible refine (hc8.out _).mono ?_); rintro e w136 ⟨rfl, hb⟩)
    refine hK2.out _ _ (hHeld.trans (hb.mono hHeld.size)) (fun hHeld2 => ?_)
    clear hK2 K hHeld
    have hHeld := hHeld2
    clear hHeld2
    try simp only [Act.put, List.getElem_toArray, List.getElem_cons_succ, List.getElem_cons_zero, List.setIfInBounds_toArray, List.set_cons_zero, List.set_cons_succ]
    clear hc8
    clear hb
    refine tkK 38 (.bool (CE == CE)) hHeld ?_
    try simp only [beq_self_eq_true, Act.put, List.getElem_toArray, List.getElem_cons_succ, List.getElem_cons_zero, List.setIfInBounds_toArray, List.set_cons_zero, List.set_cons_succ]
    refine tkK 39 (.bool true) hHeld ?_
    try simp only [Act.put, List.getElem_toArray, List.getElem_cons_succ, List.getElem_cons_zero, List.setIfInBounds_toArray, List.set_cons_zero, List.set_cons_succ]
    refine tkK 40 (.bool true) hHeld ?_
    try simp only [Act.put, List.getElem_toArray, List.getElem_cons_succ, List.getElem_cons_zero, List.setIfInBounds_toArray, List.set_cons_zero, List.set_cons_succ]
    refine tkK 41 (.int .i64 n) hHeld ?_
    try simp only [Act.put, List.getElem_toArray, List.getElem_cons_succ, List.getElem_cons_zero, List.setIfInBounds_toArray, List.set_cons_zero, List.set_cons_succ]
    refine tkK 43 (.int .i64 n) hHeld ?_
    try simp only [Act.put, List.getElem_toArray, List.getElem_cons_succ, List.getElem_cons_zero, List.setIfInBounds_toArray, List.set_cons_zero, List.set_cons_succ]
    refine wpAnyH_ready (rs := [42]) (by kernel_rfl) (by simp) ?_
    apply AllReadyH.cons
    case hs => exact AllReadyH.nil
    case ho => rfl
    intro K hK2
    refine iteK ?_
    simp only [List.getElem_toArray, List.getElem_cons_succ, List.getElem_cons_zero]
    go_wp2_with (go_at_call 33; (with_reducible refine (hc9.out _ (hb0.out.trans (hHeld.mono hb0.out.size))).mono ?_); rintro e w141 ⟨rfl, hb⟩)
    refine hK2.out _ _ (hHeld.trans (hb.mono hHeld.size)) (fun hHeld2 => ?_)
    clear hK2 K hHeld
    have hHeld := hHeld2
    clear hHeld2
    try simp only [Act.put, List.getElem_toArray, List.getElem_cons_succ, List.getElem_cons_zero, List.setIfInBounds_toArray, List.set_cons_zero, List.set_cons_succ]
    clear hc9
    clear hb
    refine wpAnyH_ready (rs := [44]) (by kernel_rfl) (by simp) ?_
    apply AllReadyH.cons
    case hs => exact AllReadyH.nil
    case ho => rfl
    intro K hK2
    refine iteK ?_
    simp only [List.getElem_toArray, List.getElem_cons_succ, List.getElem_cons_zero]
    go_wp2_with (go_at_call 39; (with_reducible refine (hc10.out _).mono ?_); rintro e w143 ⟨rfl, rfl⟩)
    refine hK2.out _ _ (hHeld) (fun hHeld2 => ?_)
    clear hK2 K hHeld
    have hHeld := hHeld2
    clear hHeld2
    try simp only [Act.put, List.getElem_toArray, List.getElem_cons_succ, List.getElem_cons_zero, List.setIfInBounds_toArray, List.set_cons_zero, List.set_cons_succ]
    clear hc10
    refine tkK 45 (.bool (FM == FM)) hHeld ?_
    try simp only [beq_self_eq_true, Act.put, List.getElem_toArray, List.getElem_cons_succ, List.getElem_cons_zero, List.setIfInBounds_toArray, List.set_cons_zero, List.set_cons_succ]
    refine tkK 46 (.bool true) hHeld ?_
    try simp only [Act.put, List.getElem_toArray, List.getElem_cons_succ, List.getElem_cons_zero, List.setIfInBounds_toArray, List.set_cons_zero, List.set_cons_succ]
    refine tkK 47 (.bool true) hHeld ?_
    try simp only [Act.put, List.getElem_toArray, List.getElem_cons_succ, List.getElem_cons_zero, List.setIfInBounds_toArray, List.set_cons_zero, List.set_cons_succ]
    refine tkK 48 (.int .i64 n) hHeld ?_
    try simp only [Act.put, List.getElem_toArray, List.getElem_cons_succ, List.getElem_cons_zero, List.setIfInBounds_toArray, List.set_cons_zero, List.set_cons_succ]
    refine tkK 50 (.int .i64 n) hHeld ?_
    try simp only [Act.put, List.getElem_toArray, List.getElem_cons_succ, List.getElem_cons_zero, List.setIfInBounds_toArray, List.set_cons_zero, List.set_cons_succ]
    refine wpAnyH_ready (rs := [49]) (by kernel_rfl) (by simp) ?_
    apply AllReadyH.cons
    case hs => exact AllReadyH.nil
    case ho => rfl
    intro K hK2
    refine iteK ?_
    simp only [List.getElem_toArray, List.getElem_cons_succ, List.getElem_cons_zero]
    go_wp2_with (go_at_call 32; (with_reducible refine (hc11.out _ (hb0.out.trans (hHeld.mono hb0.out.size))).mono ?_); rintro e w148 ⟨rfl, hb⟩)
    refine hK2.out _ _ (hHeld.trans (hb.mono hHeld.size)) (fun hHeld2 => ?_)
    clear hK2 K hHeld
    have hHeld := hHeld2
    clear hHeld2
    try simp only [Act.put, List.getElem_toArray, List.getElem_cons_succ, List.getElem_cons_zero, List.setIfInBounds_toArray, List.set_cons_zero, List.set_cons_succ]
    clear hc11
    clear hb
    refine wpAnyH_ready (rs := [51]) (by kernel_rfl) (by simp) ?_
    apply AllReadyH.cons
    case hs => exact AllReadyH.nil
    case ho => rfl
    intro K hK2
    refine iteK ?_
    simp only [List.getElem_toArray, List.getElem_cons_succ, List.getElem_cons_zero]
    go_wp2_with (go_at_call 40; (with_reducible refine (hc12.out _).mono ?_); rintro e w150 ⟨rfl, hb⟩)
    refine hK2.out _ _ (hHeld.trans (hb.mono hHeld.size)) (fun hHeld2 => ?_)
    clear hK2 K hHeld
    have hHeld := hHeld2
    clear hHeld2
    try simp only [Act.put, List.getElem_toArray, List.getElem_cons_succ, List.getElem_cons_zero, List.setIfInBounds_toArray, List.set_cons_zero, List.set_cons_succ]
    clear hc12
    clear hb
    refine tkK 52 (.bool (NM.toList == NM.toList)) hHeld ?_
    try simp only [beq_self_eq_true, Act.put, List.getElem_toArray, List.getElem_cons_succ, List.getElem_cons_zero, List.setIfInBounds_toArray, List.set_cons_zero, List.set_cons_succ]
    refine tkK 53 (.bool true) hHeld ?_
    try simp only [Act.put, List.getElem_toArray, List.getElem_cons_succ, List.getElem_cons_zero, List.setIfInBounds_toArray, List.set_cons_zero, List.set_cons_succ]
    refine tkK 54 (.bool true) hHeld ?_
    try simp only [Act.put, List.getElem_toArray, List.getElem_cons_succ, List.getElem_cons_zero, List.setIfInBounds_toArray, List.set_cons_zero, List.set_cons_succ]
    refine tkK 55 (.string s) hHeld ?_
    try simp only [Act.put, List.getElem_toArray, List.getElem_cons_succ, List.getElem_cons_zero, List.setIfInBounds_toArray, List.set_cons_zero, List.set_cons_succ]
    refine tkK 57 (.string s) hHeld ?_
    try simp only [Act.put, List.getElem_toArray, List.getElem_cons_succ, List.getElem_cons_zero, List.setIfInBounds_toArray, List.set_cons_zero, List.set_cons_succ]
    refine wpAnyH_ready (rs := [56]) (by kernel_rfl) (by simp) ?_
    apply AllReadyH.cons
    case hs => exact AllReadyH.nil
    case ho => rfl
    intro K hK2
    refine iteK ?_
    simp only [List.getElem_toArray, List.getElem_cons_succ, List.getElem_cons_zero]
    go_wp2_with (go_at_call 31; (with_reducible refine (hc13.out _ (hb0.out.trans (hHeld.mono hb0.out.size))).mono ?_); rintro e w155 ⟨rfl, hb⟩)
    refine hK2.out _ _ (hHeld.trans (hb.mono hHeld.size)) (fun hHeld2 => ?_)
    clear hK2 K hHeld
    have hHeld := hHeld2
    clear hHeld2
    try simp only [Act.put, List.getElem_toArray, List.getElem_cons_succ, List.getElem_cons_zero, List.setIfInBounds_toArray, List.set_cons_zero, List.set_cons_succ]
    clear hc13
    clear hb
    refine wpAnyH_ready (rs := [58]) (by kernel_rfl) (by simp) ?_
    apply AllReadyH.cons
    case hs => exact AllReadyH.nil
    case ho => rfl
    intro K hK2
    refine iteK ?_
    simp only [List.getElem_toArray, List.getElem_cons_succ, List.getElem_cons_zero]
    go_wp2_with (go_at_call 41; (with_reducible refine (hc14.out _).mono ?_); rintro e w157 ⟨rfl, hb⟩)
    refine hK2.out _ _ (hHeld.trans (hb.mono hHeld.size)) (fun hHeld2 => ?_)
    clear hK2 K hHeld
    have hHeld := hHeld2
    clear hHeld2
    try simp only [Act.put, List.getElem_toArray, List.getElem_cons_succ, List.getElem_cons_zero, List.setIfInBounds_toArray, List.set_cons_zero, List.set_cons_succ]
    clear hc14
    clear hb
    refine tkK 59 (.bool (ND == ND)) hHeld ?_
    try simp only [beq_self_eq_true, Act.put, List.getElem_toArray, List.getElem_cons_succ, List.getElem_cons_zero, List.setIfInBounds_toArray, List.set_cons_zero, List.set_cons_succ]
    refine tkK 60 (.bool true) hHeld ?_
    try simp only [Act.put, List.getElem_toArray, List.getElem_cons_succ, List.getElem_cons_zero, List.setIfInBounds_toArray, List.set_cons_zero, List.set_cons_succ]
    refine tkK 61 (.bool true) hHeld ?_
    try simp only [Act.put, List.getElem_toArray, List.getElem_cons_succ, List.getElem_cons_zero, List.setIfInBounds_toArray, List.set_cons_zero, List.set_cons_succ]
    refine wpAnyH_take (i := 62) rfl (by kernel_rfl) (by kernel_rfl) (by kernel_rfl) (fun _ _ _ h => h) (yieldsIf_load_mid (by kernel_rfl) 23 (.tmp 3) rfl w.heap.size 0 (by kernel_rfl) IL _ (fun W hS => (hI.out.keep hS).c) hu rfl sI.out) hHeld ?_
    try simp only [Act.put, List.getElem_toArray, List.getElem_cons_succ, List.getElem_cons_zero, List.setIfInBounds_toArray, List.set_cons_zero, List.set_cons_succ]
    refine wpAnyH_take (i := 64) rfl (by kernel_rfl) (by kernel_rfl) (by kernel_rfl) (fun _ _ _ h => h) (yieldsIf_load_mid (by kernel_rfl) 23 (.tmp 3) rfl w.heap.size 0 (by kernel_rfl) IL _ (fun W hS => (hI.out.keep hS).c) hu rfl sI.out) hHeld ?_
    try simp only [Act.put, List.getElem_toArray, List.getElem_cons_succ, List.getElem_cons_zero, List.setIfInBounds_toArray, List.set_cons_zero, List.set_cons_succ]
    refine wpAnyH_ready (rs := [63]) (by kernel_rfl) (by simp) ?_
    apply AllReadyH.cons
    case hs => exact AllReadyH.nil
    case ho => rfl
    intro K hK2
    refine iteK ?_
    simp only [List.getElem_toArray, List.getElem_cons_succ, List.getElem_cons_zero]
    go_wp2_with (go_at_call 42; (with_reducible refine (hc15.out _ (hb0.out.trans (hHeld.mono hb0.out.size))).mono ?_); rintro e w162 ⟨rfl, hb⟩)
    refine hK2.out _ _ (hHeld.trans (hb.mono hHeld.size)) (fun hHeld2 => ?_)
    clear hK2 K hHeld
    have hHeld := hHeld2
    clear hHeld2
    try simp only [Act.put, List.getElem_toArray, List.getElem_cons_succ, List.getElem_cons_zero, List.setIfInBounds_toArray, List.set_cons_zero, List.set_cons_succ]
    clear hc15
    clear hb
    refine wpAnyH_ready (rs := [65]) (by kernel_rfl) (by simp) ?_
    apply AllReadyH.cons
    case hs => exact AllReadyH.nil
    case ho => rfl
    intro K hK2
    refine iteK ?_
    simp only [List.getElem_toArray, List.getElem_cons_succ, List.getElem_cons_zero]
    go_wp2_with (go_at_call 43; (with_reducible refine (hc16.out _).mono ?_); rintro e w164 ⟨rfl, hb⟩)
    refine hK2.out _ _ (hHeld.trans (hb.mono hHeld.size)) (fun hHeld2 => ?_)
    clear hK2 K hHeld
    have hHeld := hHeld2
    clear hHeld2
    try simp only [Act.put, List.getElem_toArray, List.getElem_cons_succ, List.getElem_cons_zero, List.setIfInBounds_toArray, List.set_cons_zero, List.set_cons_succ]
    clear hc16
    clear hb
    refine tkK 66 (.bool (WV == WV)) hHeld ?_
    try simp only [beq_self_eq_true, Act.put, List.getElem_toArray, List.getElem_cons_succ, List.getElem_cons_zero, List.setIfInBounds_toArray, List.set_cons_zero, List.set_cons_succ]
    refine tkK 67 (.bool true) hHeld ?_
    try simp only [Act.put, List.getElem_toArray, List.getElem_cons_succ, List.getElem_cons_zero, List.setIfInBounds_toArray, List.set_cons_zero, List.set_cons_succ]
    refine tkK 68 (.bool true) hHeld ?_
    try simp only [Act.put, List.getElem_toArray, List.getElem_cons_succ, List.getElem_cons_zero, List.setIfInBounds_toArray, List.set_cons_zero, List.set_cons_succ]
    refine wpAnyH_take (i := 69) rfl (by kernel_rfl) (by kernel_rfl) (by kernel_rfl) (fun _ _ _ h => h) (yieldsIf_load_mid (by kernel_rfl) 23 (.tmp 3) rfl w.heap.size 0 (by kernel_rfl) IL _ (fun W hS => (hI.out.keep hS).c) hu rfl sI.out) hHeld ?_
    try simp only [Act.put, List.getElem_toArray, List.getElem_cons_succ, List.getElem_cons_zero, List.setIfInBounds_toArray, List.set_cons_zero, List.set_cons_succ]
    refine wpAnyH_take (i := 71) rfl (by kernel_rfl) (by kernel_rfl) (by kernel_rfl) (fun _ _ _ h => h) (yieldsIf_load_mid (by kernel_rfl) 23 (.tmp 3) rfl w.heap.size 0 (by kernel_rfl) IL _ (fun W hS => (hI.out.keep hS).c) hu rfl sI.out) hHeld ?_
    try simp only [Act.put, List.getElem_toArray, List.getElem_cons_succ, List.getElem_cons_zero, List.setIfInBounds_toArray, List.set_cons_zero, List.set_cons_succ]
    refine wpAnyH_ready (rs := [70]) (by kernel_rfl) (by simp) ?_
    apply AllReadyH.cons
    case hs => exact AllReadyH.nil
    case ho => rfl
    intro K hK2
    refine iteK ?_
    simp only [List.getElem_toArray, List.getElem_cons_succ, List.getElem_cons_zero]
    go_wp2_with (go_at_call 35; (with_reducible refine (hc17.out _ (hb0.out.trans (hHeld.mono hb0.out.size))).mono ?_); rintro e w17 ⟨v17, rfl, hv17, hb⟩)
    replace hv17 := Lib.hid hv17
    refine hK2.out _ _ (hHeld.trans (hb.mono hHeld.size)) (fun hHeld2 => ?_)
    clear hK2 K hHeld
    have hHeld := hHeld2
    clear hHeld2
    try simp only [Act.put, List.getElem_toArray, List.getElem_cons_succ, List.getElem_cons_zero, List.setIfInBounds_toArray, List.set_cons_zero, List.set_cons_succ]
    clear hc17
    clear hb
    refine wpAnyH_ready (rs := [72]) (by kernel_rfl) (by simp) ?_
    apply AllReadyH.cons
    case hs => exact AllReadyH.nil
    case ho => rfl
    intro K hK2
    refine iteK ?_
    simp only [List.getElem_toArray, List.getElem_cons_succ, List.getElem_cons_zero]
    go_wp2_with (go_at_call 44; (with_reducible refine (hc18.out _).mono ?_); rintro e w18 ⟨v18, rfl, hv18, hb⟩)
    replace hv17 := Lib.hid ((hv17.out.below hb (Nat.le_refl _)).more hb.size)
    replace hv18 := Lib.hid hv18
    refine hK2.out _ _ (hHeld.trans (hb.mono hHeld.size)) (fun hHeld2 => ?_)
    clear hK2 K hHeld
    have hHeld := hHeld2
    clear hHeld2
    try simp only [Act.put, List.getElem_toArray, List.getElem_cons_succ, List.getElem_cons_zero, List.setIfInBounds_toArray, List.set_cons_zero, List.set_cons_succ]
    clear hc18
    clear hb
    refine wpAnyH_ready (rs := [73]) (by kernel_rfl) (by simp) ?_
    apply AllReadyH.cons
    case hs => exact AllReadyH.nil
    case ho => rfl
    intro K hK2
    refine iteK ?_
    simp only [List.getElem_toArray, List.getElem_cons_succ, List.getElem_cons_zero]
    go_wp2_with (go_at_call 34; (with_reducible refine (hSm.out _ _ _ hv17.out hv18.out).mono ?_); rintro e w19 ⟨rfl, q, rfl⟩)
    refine hK2.out _ _ (drewN_below hHeld q) (fun hHeld2 => ?_)
    clear hK2 K hHeld
    have hHeld := hHeld2
    clear hHeld2
    try simp only [Act.put, List.getElem_toArray, List.getElem_cons_succ, List.getElem_cons_zero, List.setIfInBounds_toArray, List.set_cons_zero, List.set_cons_succ]
    clear hSm
    refine tkK 74 (.bool true) hHeld ?_
    try simp only [Act.put, List.getElem_toArray, List.getElem_cons_succ, List.getElem_cons_zero, List.setIfInBounds_toArray, List.set_cons_zero, List.set_cons_succ]
    refine tkK 75 (.bool true) hHeld ?_
    try simp only [Act.put, List.getElem_toArray, List.getElem_cons_succ, List.getElem_cons_zero, List.setIfInBounds_toArray, List.set_cons_zero, List.set_cons_succ]
    refine wpAnyH_done (by kernel_rfl) ?_ _
    go_wp2_with fail
    go_ret
    exact ⟨rfl, hb0.out.trans (hHeld.mono hb0.out.size)⟩
  · have t60 : decide (100 < (s.size : Int)) = true := decide_eq_true (by omega)
    have t61 : decide (100 < s.size) = true := decide_eq_true (by omega)
    clear hT hop him hn hI
    go_enter Tryz.func8, Tryz.ntmps8
    go_wp2_with (go_at_call 25; (with_reducible refine (hLv.out _ hb0.out).mono ?_); rintro e w0 ⟨rfl, hb⟩)
    go_ret
    exact ⟨rfl, hb0.out.trans (hb.mono hb0.out.size)⟩
end
end Go.Proofs.YtdbpnbmaineniaaGreatDoor
