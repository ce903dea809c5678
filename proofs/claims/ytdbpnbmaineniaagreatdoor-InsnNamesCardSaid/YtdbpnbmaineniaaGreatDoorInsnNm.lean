/- The law InsnNames: the chapter's examples. Conditions: the library's tables and its two errors lie as their initialisers lay them. -/
import Derived.Test.YtdbpnbmaineniaaGreatDoorRdWc
import Derived.Test.YtdbpnbmaineniaaGreatDoorInsnLw
import Derived.Test.YtdbpnbmaineniaaGreatDoorInsnRe
import Derived.Test.YtdbpnbmaineniaaGreatDoorInsnEq
import Derived.Test.YtdbpnbmaineniaaGreatDoorInsnMemory
import Derived.Test.YtdbpnbmaineniaaGreatDoorTks
import Derived.OrdersHeld
import Derived.Deep.MidRow
import Derived.Deep.QuietTactic
import Derived.BigQuiet
set_option linter.unusedSimpArgs false
set_option linter.unusedVariables false
namespace Go.Proofs.YtdbpnbmaineniaaGreatDoor
open Go.RowKit
section
attribute [local go_sem] Instr.field asAgg run_part_plain
theorem IName_any (n : Int) (hn : n ≤ 9223372036854775807) (w : World) (ht : Tabs w) :
    Calls Tryz.prog 32 #[.int .i64 n] w fun e w' => e = .returned (.string ⟨(opOf n).name.toArray⟩) ∧ Below w.heap.size w w' := by
  have hof := Lib.hid (fun w ht => of_any n hn w ht)
  go_enter Tryz.func32, Tryz.ntmps32
  go_wp2_with (go_at_call 75; refine (hof.out _ ht).mono ?_; rintro e w1 ⟨rfl, hb⟩)
  go_ret
  exact ⟨rfl, hb⟩
end
def Quiet (w : World) (v : Value) (e : Ending) (w' : World) : Prop := e = .returned v ∧ ∃ q, w' = w.drewN q
theorem drew_ex (w : World) (q n : Nat) : ∃ q', (w.drewN q).drewN n = w.drewN q' := ⟨q + n, by simp [World.drewN, Nat.add_assoc]⟩
set_option maxRecDepth 100000 in
set_option maxHeartbeats 4000000 in
theorem Same_any (v1 v2 : Value) (l1 l2 : List Int) (B1 B2 : Nat) (w : World) (h1 : RL w B1 v1 l1) (h2 : RL w B2 v2 l2) :
    Calls Tryz.prog 34 #[v1, v2] w (Quiet w (.bool (l1 == l2))) := by
  obtain ⟨A1, c1, rfl, a1, a2, a3⟩ := h1.form
  obtain ⟨A2, c2, rfl, b1, b2, b3⟩ := h2.form
  unfold maxLen at a2 b2
  by_cases hl : l1.length = l2.length
  · obtain ⟨R, hR⟩ : ∃ R, (l1 == l2) = R := ⟨_, rfl⟩
    rw [hR]
    replace hR := Lib.hid hR
    rw [← hl] at b1 ⊢
    have a4 := Lib.hid a3
    have b4 := Lib.hid b3
    replace hl := Lib.hid hl
    clear a3 b3 h1 h2
    go_enter Tryz.func34, Tryz.ntmps34
    go_wp2_with fail
    go_loopw [5] (fun i wr => ∃ k : Nat, k ≤ l1.length ∧ i = .int .i64 k ∧ (∃ q, wr = w.drewN q) ∧ Hid (∀ j, j < k → l1[j]? = l2[j]?)) (fun i _ => l1.length - (intOf i).toNat)
    case atStart => exact ⟨0, Nat.zero_le _, rfl, ⟨0, rfl⟩, Lib.hid fun j hj => absurd hj (Nat.not_lt_zero _)⟩
    case round =>
      obtain ⟨k, hk, rfl, ⟨q, rfl⟩, hsm⟩ := hrel
      by_cases hlt : k < l1.length
      · obtain ⟨x, hx, -⟩ := drop_at hlt
        obtain ⟨y, hy, -⟩ := drop_at (l := l2) (k := k) (by rw [← hl.out]; exact hlt)
        obtain ⟨p1, o1, rfl, -, hc1⟩ := a4.out.resolve_left (fun e => by rw [e] at hlt; exact absurd hlt (Nat.not_lt_zero _))
        obtain ⟨p2, o2, rfl, -, hc2⟩ := b4.out.resolve_left (fun e => by rw [hl.out, e] at hlt; exact absurd hlt (Nat.not_lt_zero _))
        have m1 : w.cell? ⟨p1, o1 + k, none⟩ = some (.int .i64 x) := hc1 k x hx
        have m2 : w.cell? ⟨p2, o2 + k, none⟩ = some (.int .i64 y) := hc2 k y hy
        have n0 : (0 : Int) ≤ (k : Int) ∧ (k : Int) < (l1.length : Int) := by omega
        obtain ⟨n1, n2⟩ := n0
        have n3 : k < c1 := by omega
        have n4 : k < c2 := by omega
        replace hc1 := Lib.hid hc1
        replace hc2 := Lib.hid hc2
        by_cases hxy : x = y
        · have hne : (x != y) = false := by rw [hxy]; simp
          have hsm2 : Hid (∀ j, j < k + 1 → l1[j]? = l2[j]?) := Lib.hid fun j hj => by
            by_cases e : j = k
            · subst e; rw [hx, hy, hxy]
            · exact hsm.out j (by omega)
          clear hx hy hxy
          go_upto_region 6 with fail
          go_quiet (fail)
          go_wp2_with fail
          go_roundw
          case rel => exact ⟨k + 1, by omega, by go_num, ⟨_, rfl⟩, hsm2⟩
          case measure => simp [intOf]; omega
        · have hne : (x != y) = true := by simpa using hxy
          have hRf : Hid (R = false) := Lib.hid (by
            rw [← hR.out, beq_eq_false_iff_ne]
            intro e
            rw [e, hy] at hx
            exact hxy (Option.some.inj hx).symm)
          clear hx hy hxy
          go_upto_region 6 with fail
          go_quiet (fail)
          go_wp2_with fail
          go_ret
          exact ⟨by rw [hRf.out]; rfl, drew_ex _ _ _⟩
      · obtain rfl : k = l1.length := by omega
        have hRt : Hid (R = true) := Lib.hid (by
          rw [← hR.out, beq_iff_eq]
          refine List.ext_getElem? fun j => ?_
          by_cases hj : j < l1.length
          · exact hsm.out j hj
          · rw [List.getElem?_eq_none (by omega), List.getElem?_eq_none (by rw [← hl.out]; omega)])
        go_wp2_with fail
        go_ret
        exact ⟨by rw [hRt.out]; rfl, q, rfl⟩
  · have hf : (l1 == l2) = false := by rw [beq_eq_false_iff_ne]; intro e; exact hl (by rw [e])
    rw [hf]
    have hne : ((l1.length : Int) != (l2.length : Int)) = true := by simp; omega
    have hne2 : (l1.length != l2.length) = true := by simpa using hl
    clear hf a3 b3 h1 h2
    go_enter Tryz.func34, Tryz.ntmps34
    go_wp2_with fail
    go_ret
    exact ⟨rfl, 0, rfl⟩
theorem nr_1 : readR ⟨#[102, 101, 110, 99, 101, 32, 48, 44, 32, 105, 111, 114, 119]⟩ = (⟨63, 0, 0, 0, 0, false, false, 0, 15⟩, 0) := by decide +kernel
theorem nr_2 : readR ⟨#[97, 100, 100, 105, 32, 120, 53, 44, 32, 120, 54, 44, 32, 48, 51]⟩ = (zeroI, 4) := by decide +kernel
theorem nr_3 : readR ⟨#[115, 108, 108, 105, 119, 32, 120, 53, 44, 32, 120, 54, 44, 32, 51, 50]⟩ = (zeroI, 4) := by decide +kernel
theorem nr_4 : readR ⟨#[106, 97, 108, 114, 32, 120, 48, 44, 32, 48, 40, 120, 49, 41]⟩ = (⟨4, 0, 1, 0, 0, false, false, 0, 0⟩, 0) := by decide +kernel
theorem nr_5 : namedOf ({ data := #[97, 109, 111, 109, 97, 120, 117, 46, 100] } : ByteArray).toList = 87 := by decide +kernel
theorem nr_6 : (opOf 87).name.toArray = #[97, 109, 111, 109, 97, 120, 117, 46, 100] := by decide +kernel
theorem nr_7 : (opOf 88).name.toArray = #[] := by decide +kernel
theorem nr_8 : (opOf 0).form = 0 := by decide +kernel
theorem nr_9 : (opOf 68).loads = false ∧ (opOf 68).stores = true ∧ (opOf 68).size = 4 := by decide +kernel
theorem nr_10 : checkE ⟨1, 0, 0, 0, 524288, false, false, 0, 0⟩ = 2 := by decide +kernel
theorem nr_11 : checkE ⟨64, 1, 0, 0, 0, false, false, 0, 0⟩ = 2 := by decide +kernel
theorem nr_12 : checkE ⟨64, 0, 0, 0, 0, false, false, 0, 0⟩ = 0 := by decide +kernel
theorem range_kept {W W' : World} {b : Nat} {cs : List Value} (h : W.rangeAt b 0 cs) (hl : b < W.heap.size) (hb : Below W.heap.size W W') : W'.rangeAt b 0 cs := fun j v hv => by
  rw [hb.cell (p := ⟨b, 0 + j, none⟩) hl]; exact h j v hv
theorem wpList_yieldsN {P : Program} {ops : Array Oper} {rest : List Oper} {op : Oper} {a : Act} {w : World} {Q : Exit → Act → World → Prop} {S : World → Prop} {v : Value} (hy : YieldsIf P ops S op v a) (hS : S w) (h : wpList P ops Q rest (a.put op.dst v) w) : wpList P ops Q (op :: rest) a w :=
  wpList_step fun K hK => by
    rcases hy with ⟨hw, hv⟩ | ⟨hw, rfl⟩
    · rw [if_pos hw]; unfold Oper.wp; simp only [hv w hS, Oper.upon]; exact hK _ _ h
    · rw [if_neg (by simp [hw])]; exact hK _ _ h
/-- A load of many cells, where its guard is met. -/
theorem wpList_load_midN {P : Program} {ops : Array Oper} {rest : List Oper} {op : Oper} {a : Act} {w : World} {Q : Exit → Act → World → Prop} (ty : TypeId) (x : Operand) (ho : op.op = .load ty x) (hw : Region.wanted op (yielded ops a.tmps) = true)
    (b o : Nat) (hx : a.eval x = .pointer (some ⟨b, o, none⟩)) (cs : List Value) (d : TypeDesc) (hc : w.rangeAt b o cs)
    (hu : P.underlying ty = some d) (hd : d.isRow = true) (hi : (P.info? ty).map (·.size) = some cs.length)
    (h : wpList P ops Q rest (a.put op.dst (.agg cs.toArray)) w) : wpList P ops Q (op :: rest) a w :=
  wpList_yieldsN (S := fun W => W = w) (yieldsIf_load_mid hw ty x ho b o hx cs d (fun W hW => by rw [hW]; exact hc) hu hd hi) rfl h
theorem yieldsIf_eql_insnN {ops : Array Oper} {S : World → Prop} {op : Oper} {a : Act} (hw : Region.wanted op (yielded ops a.tmps) = true) (x y : Operand) (t : TypeId) (ho : op.op = .binOp .eql 23 x y t) (A B : Array Value) (b : Bool)
    (hx : a.eval x = .agg A) (hy : a.eval y = .agg B) (hq : ∀ w, (binOp .eql 23 (.agg A) (.agg B)).run Tryz.prog w = .ok (.bool b) w) : YieldsIf Tryz.prog ops S op (.bool b) a :=
  .inl ⟨hw, fun w _ => by
    unfold execOp
    simp only [ho, hx, hy, Sem.run_bind, run_eqGuard_agg w .eql 23 x y A B Tryz.eqGuardType23, hq, Result.andThen_ok, Sem.run_pure]⟩
theorem wpList_eqlG {ops : Array Oper} {rest : List Oper} {op : Oper} {a : Act} {w : World} {Q : Exit → Act → World → Prop} (hw : Region.wanted op (yielded ops a.tmps) = true) (x y : Operand) (t : TypeId) (ho : op.op = .binOp .eql 23 x y t) (A B : Array Value) (b : Bool)
    (hx : a.eval x = .agg A) (hy : a.eval y = .agg B) (hq : ∀ w, (binOp .eql 23 (.agg A) (.agg B)).run Tryz.prog w = .ok (.bool b) w) (h : wpList Tryz.prog ops Q rest (a.put op.dst (.bool b)) w) : wpList Tryz.prog ops Q (op :: rest) a w :=
  wpList_yieldsN (S := fun W => W = w) (yieldsIf_eql_insnN hw x y t ho A B b hx hy hq) rfl h
theorem nr_14 : readsP ⟨64, 0, 0, 0, 0, false, false, 0, 0⟩ = [10, 17] := by
  have h : sortI [10, 17] = [10, 17] := by
    unfold sortI
    simp [List.mergeSort]
  unfold readsP
  rw [if_pos rfl, h]
  rfl
theorem stored9 (s : World) (cs : List Value) (hl : cs.length = 9) (Z : Array Value) (hZ : Z.size = 9) (t : TypeId) : Below s.heap.size s (World.setCells (s.alloc (.cells Z t)) s.heap.size 0 cs) ∧ (World.setCells (s.alloc (.cells Z t)) s.heap.size 0 cs).rangeAt s.heap.size 0 cs ∧ s.heap.size < (World.setCells (s.alloc (.cells Z t)) s.heap.size 0 cs).heap.size := by
  have hal : Below s.heap.size s (s.alloc (.cells Z t)) := (Below.refl _ _).alloc (Nat.le_refl _) _
  refine ⟨below_cellsX (Nat.le_refl s.heap.size) cs 0 _ hal, World.rangeAt_setCells_same _ s.heap.size 0 cs (by rw [hl]; exact cells_freshX s Z t 9 (by omega)), ?_⟩
  have h2 := below_cellsX (B := s.heap.size) (w := s.alloc (.cells Z t)) (Nat.le_refl s.heap.size) cs 0 _ (Below.refl _ _)
  exact Nat.lt_of_lt_of_le (show s.heap.size < (s.alloc (.cells Z t)).heap.size by simp) h2.size
theorem lit_two (W : World) (x y : Int) (t : TypeId) : RL (W.alloc (.cells #[.int .i64 x, .int .i64 y] t)) (W.alloc (.cells #[.int .i64 x, .int .i64 y] t)).heap.size (.slice (some ⟨W.heap.size, 0, none⟩) 2 2) [x, y] :=
  ⟨⟨some ⟨W.heap.size, 0, none⟩, 2, rfl, Nat.le_refl _, by simp [maxLen], .inr ⟨W.heap.size, 0, rfl, by simp, fun k u hk => by rw [World.cell?_alloc_new, Nat.zero_add]; exact (match k, hk with
    | 0, hk => by cases hk; rfl
    | 1, hk => by cases hk; rfl)⟩⟩⟩
theorem drewN_below {B : Nat} {a w : World} (h : Below B a w) : ∀ q, Below B a (w.drewN q)
  | q => ⟨h.os, h.tape, h.output, h.size, h.block⟩
set_option maxRecDepth 100000 in
set_option maxHeartbeats 16000000 in
theorem InsnNames_any (w : World) (ht : Tabs w) (hp : P10 w) (hev : EV w) : Calls Tryz.prog 7 #[] w fun e w' => e = .returned (.bool true) ∧ Below w.heap.size w w' := by
  have hu := Tryz.underlying23
  have hT : Hid (∀ W, Below w.heap.size w W → Tabs W ∧ P10 W ∧ EV W) := Lib.hid fun W hW => ⟨ht.later hW (Nat.le_refl _), hp.later hW (Nat.le_refl _), hev.keep hW⟩
  obtain ⟨EL, hEL⟩ : ∃ l, (InsnV.cells ⟨63, 0, 0, 0, 0, false, false, 0, 15⟩).toList = l := ⟨_, rfl⟩
  have hnE : Hid (EL.length = 9) := Lib.hid (by rw [← hEL]; rfl)
  have h1E : Hid (EL.toArray.all (·.oneCell') = true) := Lib.hid (by rw [← hEL]; kernel_rfl)
  have hsE : Hid ((Tryz.prog.info? 23).map (·.size) = some EL.length) := Lib.hid (by rw [hnE.out]; kernel_rfl)
  obtain ⟨JL, hJL⟩ : ∃ l, (InsnV.cells ⟨4, 0, 1, 0, 0, false, false, 0, 0⟩).toList = l := ⟨_, rfl⟩
  have hnJ : Hid (JL.length = 9) := Lib.hid (by rw [← hJL]; rfl)
  have h1J : Hid (JL.toArray.all (·.oneCell') = true) := Lib.hid (by rw [← hJL]; kernel_rfl)
  have hsJ : Hid ((Tryz.prog.info? 23).map (·.size) = some JL.length) := Lib.hid (by rw [hnJ.out]; kernel_rfl)
  obtain ⟨ZL, hZL⟩ : ∃ l, zeroI.cells.toList = l := ⟨_, rfl⟩
  have hnZ : Hid (ZL.length = 9) := Lib.hid (by rw [← hZL]; rfl)
  have h1Z : Hid (ZL.toArray.all (·.oneCell') = true) := Lib.hid (by rw [← hZL]; kernel_rfl)
  have hsZ : Hid ((Tryz.prog.info? 23).map (·.size) = some ZL.length) := Lib.hid (by rw [hnZ.out]; kernel_rfl)
  have hI1 : Hid (∀ W, Below w.heap.size w W → Calls Tryz.prog 26 #[.string { data := #[102, 101, 110, 99, 101, 32, 48, 44, 32, 105, 111, 114, 119] }] W fun e w' => e = .returned (.tuple #[.agg EL.toArray, .int .i64 0]) ∧ Below W.heap.size W w') := Lib.hid fun W hW => by
    obtain ⟨t1, t2, t3⟩ := hT.out _ hW
    have := IRead_any { data := #[102, 101, 110, 99, 101, 32, 48, 44, 32, 105, 111, 114, 119] } (by decide) W t1 t2 t3
    rw [nr_1] at this; rw [← hEL, Array.toArray_toList]; exact this
  have hI2 : Hid (∀ W, Below w.heap.size w W → Calls Tryz.prog 26 #[.string { data := #[97, 100, 100, 105, 32, 120, 53, 44, 32, 120, 54, 44, 32, 48, 51] }] W fun e w' => e = .returned (.tuple #[.agg ZL.toArray, .int .i64 4]) ∧ Below W.heap.size W w') := Lib.hid fun W hW => by
    obtain ⟨t1, t2, t3⟩ := hT.out _ hW
    have := IRead_any { data := #[97, 100, 100, 105, 32, 120, 53, 44, 32, 120, 54, 44, 32, 48, 51] } (by decide) W t1 t2 t3
    rw [nr_2] at this; rw [← hZL, Array.toArray_toList]; exact this
  have hI3 : Hid (∀ W, Below w.heap.size w W → Calls Tryz.prog 26 #[.string { data := #[115, 108, 108, 105, 119, 32, 120, 53, 44, 32, 120, 54, 44, 32, 51, 50] }] W fun e w' => e = .returned (.tuple #[.agg ZL.toArray, .int .i64 4]) ∧ Below W.heap.size W w') := Lib.hid fun W hW => by
    obtain ⟨t1, t2, t3⟩ := hT.out _ hW
    have := IRead_any { data := #[115, 108, 108, 105, 119, 32, 120, 53, 44, 32, 120, 54, 44, 32, 51, 50] } (by decide) W t1 t2 t3
    rw [nr_3] at this; rw [← hZL, Array.toArray_toList]; exact this
  have hI4 : Hid (∀ W, Below w.heap.size w W → Calls Tryz.prog 26 #[.string { data := #[106, 97, 108, 114, 32, 120, 48, 44, 32, 48, 40, 120, 49, 41] }] W fun e w' => e = .returned (.tuple #[.agg JL.toArray, .int .i64 0]) ∧ Below W.heap.size W w') := Lib.hid fun W hW => by
    obtain ⟨t1, t2, t3⟩ := hT.out _ hW
    have := IRead_any { data := #[106, 97, 108, 114, 32, 120, 48, 44, 32, 48, 40, 120, 49, 41] } (by decide) W t1 t2 t3
    rw [nr_4] at this; rw [← hJL, Array.toArray_toList]; exact this
  have hM : Hid (∀ W, Below w.heap.size w W → Calls Tryz.prog 30 #[.int .i64 68] W fun e w' => e = .returned (.tuple #[.bool false, .bool true, .int .i64 4]) ∧ Below W.heap.size W w') := Lib.hid fun W hW => by
    obtain ⟨t1, t2, t3⟩ := hT.out _ hW
    have := Memory_any 68 (by decide) W t1; rw [nr_9.1, nr_9.2.1, nr_9.2.2] at this; exact this
  have hLv : Hid (∀ W, Below w.heap.size w W → Calls Tryz.prog 25 #[] W fun e w' => e = .returned (.bool true) ∧ Below W.heap.size W w') := Lib.hid fun W hW => by
    obtain ⟨t1, t2, t3⟩ := hT.out _ hW
    exact Lives2_any W t1 t2
  have hNd : Hid (∀ W, Below w.heap.size w W → Calls Tryz.prog 31 #[.string { data := #[97, 109, 111, 109, 97, 120, 117, 46, 100] }] W fun e w' => e = .returned (.int .i64 87) ∧ Below W.heap.size W w') := Lib.hid fun W hW => by
    obtain ⟨t1, t2, t3⟩ := hT.out _ hW
    have := Named_any { data := #[97, 109, 111, 109, 97, 120, 117, 46, 100] } W t1; rw [nr_5] at this; exact this
  have hN1 : Hid (∀ W, Below w.heap.size w W → Calls Tryz.prog 32 #[.int .i64 87] W fun e w' => e = .returned (.string { data := #[97, 109, 111, 109, 97, 120, 117, 46, 100] }) ∧ Below W.heap.size W w') := Lib.hid fun W hW => by
    obtain ⟨t1, t2, t3⟩ := hT.out _ hW
    have := IName_any 87 (by decide) W t1; rw [nr_6] at this; exact this
  have hN2 : Hid (∀ W, Below w.heap.size w W → Calls Tryz.prog 32 #[.int .i64 88] W fun e w' => e = .returned (.string { data := #[] }) ∧ Below W.heap.size W w') := Lib.hid fun W hW => by
    obtain ⟨t1, t2, t3⟩ := hT.out _ hW
    have := IName_any 88 (by decide) W t1; rw [nr_7] at this; exact this
  have hFm : Hid (∀ W, Below w.heap.size w W → Calls Tryz.prog 33 #[.int .i64 0] W fun e w' => e = .returned (.int .i64 0) ∧ Below W.heap.size W w') := Lib.hid fun W hW => by
    obtain ⟨t1, t2, t3⟩ := hT.out _ hW
    have := Form_any 0 (by decide) W t1; rw [nr_8] at this; exact this
  have hC1 : Hid (∀ W, Below w.heap.size w W → Calls Tryz.prog 27 #[.agg #[.int .i64 1, .int .i64 0, .int .i64 0, .int .i64 0, .int .i64 524288, .bool false, .bool false, .int .i64 0, .int .i64 0]] W fun e w' => e = .returned (.int .i64 2) ∧ Below W.heap.size W w') := Lib.hid fun W hW => by
    obtain ⟨t1, t2, t3⟩ := hT.out _ hW
    have := Check_any ⟨1, 0, 0, 0, 524288, false, false, 0, 0⟩ (by decide) W t1; rw [nr_10] at this; exact this
  have hC2 : Hid (∀ W, Below w.heap.size w W → Calls Tryz.prog 27 #[.agg #[.int .i64 64, .int .i64 1, .int .i64 0, .int .i64 0, .int .i64 0, .bool false, .bool false, .int .i64 0, .int .i64 0]] W fun e w' => e = .returned (.int .i64 2) ∧ Below W.heap.size W w') := Lib.hid fun W hW => by
    obtain ⟨t1, t2, t3⟩ := hT.out _ hW
    have := Check_any ⟨64, 1, 0, 0, 0, false, false, 0, 0⟩ (by decide) W t1; rw [nr_11] at this; exact this
  have hRs : Hid (∀ W, Below w.heap.size w W → Calls Tryz.prog 35 #[.agg #[.int .i64 64, .int .i64 0, .int .i64 0, .int .i64 0, .int .i64 0, .bool false, .bool false, .int .i64 0, .int .i64 0]] W (ReadsPost W [10, 17])) := Lib.hid fun W hW => by
    have := IReads_any ⟨64, 0, 0, 0, 0, false, false, 0, 0⟩ (by decide) W (hT.out _ hW).1
    rw [if_pos nr_12, nr_14] at this; exact this
  have hqE : Hid (∀ W, (binOp .eql 23 (.agg #[.int .i64 63, .int .i64 0, .int .i64 0, .int .i64 0, .int .i64 0, .bool false, .bool false, .int .i64 0, .int .i64 15]) (.agg #[.int .i64 63, .int .i64 0, .int .i64 0, .int .i64 0, .int .i64 0, .bool false, .bool false, .int .i64 0, .int .i64 15])).run Tryz.prog W = .ok (.bool true) W) := Lib.hid fun W => insn_eql ⟨63, 0, 0, 0, 0, false, false, 0, 15⟩ ⟨63, 0, 0, 0, 0, false, false, 0, 15⟩ W
  have hqJ : Hid (∀ W, (binOp .eql 23 (.agg #[.int .i64 4, .int .i64 0, .int .i64 1, .int .i64 0, .int .i64 0, .bool false, .bool false, .int .i64 0, .int .i64 0]) (.agg #[.int .i64 4, .int .i64 0, .int .i64 1, .int .i64 0, .int .i64 0, .bool false, .bool false, .int .i64 0, .int .i64 0])).run Tryz.prog W = .ok (.bool true) W) := Lib.hid fun W => insn_eql ⟨4, 0, 1, 0, 0, false, false, 0, 0⟩ ⟨4, 0, 1, 0, 0, false, false, 0, 0⟩ W
  clear ht hp hev hT hZL
  replace hEL := Lib.hid hEL
  replace hJL := Lib.hid hJL
  have hb0 := Lib.hid (Below.refl w.heap.size w)
  go_enter Tryz.func7, Tryz.ntmps7
  go_upto_region 2 with (first | (go_at_call 26; (with_reducible refine (hI1.out _ hb0.out).mono ?_); rintro e w1 ⟨rfl, hb1⟩) | (refine wpList_store_mid rfl 23 _ _ rfl w1.heap.size 0 EL.toArray rfl rfl (fun j hj => cells_freshX w1 #[.int .i64 0, .int .i64 0, .int .i64 0, .int .i64 0, .int .i64 0, .bool false, .bool false, .int .i64 0, .int .i64 0] 23 9 (by decide) j (by rw [List.size_toArray, hnE.out] at hj; exact hj)) (by rw [List.size_toArray]; exact hsE.out) h1E.out ?_))
  obtain ⟨hc1, hr1, hl1⟩ := stored9 w1 EL hnE.out #[.int .i64 0, .int .i64 0, .int .i64 0, .int .i64 0, .int .i64 0, .bool false, .bool false, .int .i64 0, .int .i64 0] rfl 23
  generalize World.setCells _ w1.heap.size 0 EL = v1 at hc1 hr1 hl1 ⊢
  have hk1 := hb1.trans (hc1.mono hb1.size)
  replace hb0 := Lib.hid (hb0.out.trans (hk1.mono hb0.out.size))
  obtain ⟨X1, hX1⟩ : ∃ X, X = w1.heap.size := ⟨_, rfl⟩
  rw [← hX1] at hr1 hl1 ⊢
  replace hr1 := Lib.hid hr1
  clear hX1 hb1 hc1 hk1
  go_upto_region 3 with (first | (go_at_call 26; (with_reducible refine (hI2.out _ hb0.out).mono ?_); rintro e w2 ⟨rfl, hb2⟩) | (refine wpList_store_mid rfl 23 _ _ rfl w2.heap.size 0 ZL.toArray rfl rfl (fun j hj => cells_freshX w2 #[.int .i64 0, .int .i64 0, .int .i64 0, .int .i64 0, .int .i64 0, .bool false, .bool false, .int .i64 0, .int .i64 0] 23 9 (by decide) j (by rw [List.size_toArray, hnZ.out] at hj; exact hj)) (by rw [List.size_toArray]; exact hsZ.out) h1Z.out ?_))
  obtain ⟨hc2, hr2, hl2⟩ := stored9 w2 ZL hnZ.out #[.int .i64 0, .int .i64 0, .int .i64 0, .int .i64 0, .int .i64 0, .bool false, .bool false, .int .i64 0, .int .i64 0] rfl 23
  generalize World.setCells _ w2.heap.size 0 ZL = v2 at hc2 hr2 hl2 ⊢
  have hk2 := hb2.trans (hc2.mono hb2.size)
  replace hb0 := Lib.hid (hb0.out.trans (hk2.mono hb0.out.size))
  replace hr1 := Lib.hid (range_kept hr1.out hl1 hk2)
  replace hl1 := Nat.lt_of_lt_of_le hl1 hk2.size
  clear hb2 hc2 hk2 hr2 hl2
  go_upto_region 4 with (first | (go_at_call 26; (with_reducible refine (hI3.out _ hb0.out).mono ?_); rintro e w3 ⟨rfl, hb3⟩) | (refine wpList_store_mid rfl 23 _ _ rfl w3.heap.size 0 ZL.toArray rfl rfl (fun j hj => cells_freshX w3 #[.int .i64 0, .int .i64 0, .int .i64 0, .int .i64 0, .int .i64 0, .bool false, .bool false, .int .i64 0, .int .i64 0] 23 9 (by decide) j (by rw [List.size_toArray, hnZ.out] at hj; exact hj)) (by rw [List.size_toArray]; exact hsZ.out) h1Z.out ?_))
  obtain ⟨hc3, hr3, hl3⟩ := stored9 w3 ZL hnZ.out #[.int .i64 0, .int .i64 0, .int .i64 0, .int .i64 0, .int .i64 0, .bool false, .bool false, .int .i64 0, .int .i64 0] rfl 23
  generalize World.setCells _ w3.heap.size 0 ZL = v3 at hc3 hr3 hl3 ⊢
  have hk3 := hb3.trans (hc3.mono hb3.size)
  replace hb0 := Lib.hid (hb0.out.trans (hk3.mono hb0.out.size))
  replace hr1 := Lib.hid (range_kept hr1.out hl1 hk3)
  replace hl1 := Nat.lt_of_lt_of_le hl1 hk3.size
  clear hb3 hc3 hk3 hr3 hl3
  go_upto_region 5 with (first | (go_at_call 26; (with_reducible refine (hI4.out _ hb0.out).mono ?_); rintro e w4 ⟨rfl, hb4⟩) | (refine wpList_store_mid rfl 23 _ _ rfl w4.heap.size 0 JL.toArray rfl rfl (fun j hj => cells_freshX w4 #[.int .i64 0, .int .i64 0, .int .i64 0, .int .i64 0, .int .i64 0, .bool false, .bool false, .int .i64 0, .int .i64 0] 23 9 (by decide) j (by rw [List.size_toArray, hnJ.out] at hj; exact hj)) (by rw [List.size_toArray]; exact hsJ.out) h1J.out ?_))
  obtain ⟨hc4, hr4, hl4⟩ := stored9 w4 JL hnJ.out #[.int .i64 0, .int .i64 0, .int .i64 0, .int .i64 0, .int .i64 0, .bool false, .bool false, .int .i64 0, .int .i64 0] rfl 23
  generalize World.setCells _ w4.heap.size 0 JL = v4 at hc4 hr4 hl4 ⊢
  have hk4 := hb4.trans (hc4.mono hb4.size)
  replace hb0 := Lib.hid (hb0.out.trans (hk4.mono hb0.out.size))
  replace hr1 := Lib.hid (range_kept hr1.out hl1 hk4)
  replace hl1 := Nat.lt_of_lt_of_le hl1 hk4.size
  obtain ⟨X4, hX4⟩ : ∃ X, X = w4.heap.size := ⟨_, rfl⟩
  rw [← hX4] at hr4 hl4 ⊢
  replace hr4 := Lib.hid hr4
  clear hX4 hb4 hc4 hk4
  clear hI1 hI2 hI3 hI4
  go_wp2_with (first | (go_at_call 30; (with_reducible refine (hM.out _ hb0.out).mono ?_); rintro e w5 ⟨rfl, hb5⟩; replace hr1 := Lib.hid (range_kept hr1.out hl1 hb5); replace hl1 := Nat.lt_of_lt_of_le hl1 hb5.size; replace hr4 := Lib.hid (range_kept hr4.out hl4 hb5); replace hl4 := Nat.lt_of_lt_of_le hl4 hb5.size; replace hb0 := Lib.hid (hb0.out.trans (hb5.mono hb0.out.size)); clear hb5 hM) | (go_at_call 25; (with_reducible refine (hLv.out _ hb0.out).mono ?_); rintro e w9 ⟨rfl, hb5⟩; have hr6 := range_kept hr1.out hl1 hb5; have hr7 := range_kept hr4.out hl4 hb5; have p0 : w9.cell? ⟨X1, 0, none⟩ = some (.int .i64 63) := hr6 0 _ (by rw [← hEL.out]; rfl); have p1 : w9.cell? ⟨X1, 1, none⟩ = some (.int .i64 0) := hr6 1 _ (by rw [← hEL.out]; rfl); have p2 : w9.cell? ⟨X1, 2, none⟩ = some (.int .i64 0) := hr6 2 _ (by rw [← hEL.out]; rfl); have p3 : w9.cell? ⟨X1, 3, none⟩ = some (.int .i64 0) := hr6 3 _ (by rw [← hEL.out]; rfl); have p4 : w9.cell? ⟨X1, 4, none⟩ = some (.int .i64 0) := hr6 4 _ (by rw [← hEL.out]; rfl); have p5 : w9.cell? ⟨X1, 5, none⟩ = some (.bool false) := hr6 5 _ (by rw [← hEL.out]; rfl); have p6 : w9.cell? ⟨X1, 6, none⟩ = some (.bool false) := hr6 6 _ (by rw [← hEL.out]; rfl); have p7 : w9.cell? ⟨X1, 7, none⟩ = some (.int .i64 0) := hr6 7 _ (by rw [← hEL.out]; rfl); have p8 : w9.cell? ⟨X1, 8, none⟩ = some (.int .i64 15) := hr6 8 _ (by rw [← hEL.out]; rfl); have q0 : w9.cell? ⟨X4, 0, none⟩ = some (.int .i64 4) := hr7 0 _ (by rw [← hJL.out]; rfl); have q1 : w9.cell? ⟨X4, 1, none⟩ = some (.int .i64 0) := hr7 1 _ (by rw [← hJL.out]; rfl); have q2 : w9.cell? ⟨X4, 2, none⟩ = some (.int .i64 1) := hr7 2 _ (by rw [← hJL.out]; rfl); have q3 : w9.cell? ⟨X4, 3, none⟩ = some (.int .i64 0) := hr7 3 _ (by rw [← hJL.out]; rfl); have q4 : w9.cell? ⟨X4, 4, none⟩ = some (.int .i64 0) := hr7 4 _ (by rw [← hJL.out]; rfl); have q5 : w9.cell? ⟨X4, 5, none⟩ = some (.bool false) := hr7 5 _ (by rw [← hJL.out]; rfl); have q6 : w9.cell? ⟨X4, 6, none⟩ = some (.bool false) := hr7 6 _ (by rw [← hJL.out]; rfl); have q7 : w9.cell? ⟨X4, 7, none⟩ = some (.int .i64 0) := hr7 7 _ (by rw [← hJL.out]; rfl); have q8 : w9.cell? ⟨X4, 8, none⟩ = some (.int .i64 0) := hr7 8 _ (by rw [← hJL.out]; rfl); clear hr6 hr7 hr1 hr4; replace hb0 := Lib.hid (hb0.out.trans (hb5.mono hb0.out.size)); clear hb5 hLv) | (refine wpList_eqlG (by first | rfl | kernel_rfl) _ _ _ rfl #[.int .i64 63, .int .i64 0, .int .i64 0, .int .i64 0, .int .i64 0, .bool false, .bool false, .int .i64 0, .int .i64 15] #[.int .i64 63, .int .i64 0, .int .i64 0, .int .i64 0, .int .i64 0, .bool false, .bool false, .int .i64 0, .int .i64 15] true rfl rfl hqE.out ?_) | (refine wpList_eqlG (by first | rfl | kernel_rfl) _ _ _ rfl #[.int .i64 4, .int .i64 0, .int .i64 1, .int .i64 0, .int .i64 0, .bool false, .bool false, .int .i64 0, .int .i64 0] #[.int .i64 4, .int .i64 0, .int .i64 1, .int .i64 0, .int .i64 0, .bool false, .bool false, .int .i64 0, .int .i64 0] true rfl rfl hqJ.out ?_) | (go_at_call 31; (with_reducible refine (hNd.out _ hb0.out).mono ?_); rintro e w6 ⟨rfl, hb6⟩; replace hb0 := Lib.hid (hb0.out.trans (hb6.mono hb0.out.size)); clear hb6 hNd) | (go_at_call 32; (with_reducible refine (hN1.out _ hb0.out).mono ?_); rintro e w6 ⟨rfl, hb6⟩; replace hb0 := Lib.hid (hb0.out.trans (hb6.mono hb0.out.size)); clear hb6 hN1) | (go_at_call 32; (with_reducible refine (hN2.out _ hb0.out).mono ?_); rintro e w6 ⟨rfl, hb6⟩; replace hb0 := Lib.hid (hb0.out.trans (hb6.mono hb0.out.size)); clear hb6 hN2) | (go_at_call 33; (with_reducible refine (hFm.out _ hb0.out).mono ?_); rintro e w6 ⟨rfl, hb6⟩; replace hb0 := Lib.hid (hb0.out.trans (hb6.mono hb0.out.size)); clear hb6 hFm) | (go_at_call 27; (with_reducible refine (hC1.out _ hb0.out).mono ?_); rintro e w6 ⟨rfl, hb6⟩; replace hb0 := Lib.hid (hb0.out.trans (hb6.mono hb0.out.size)); clear hb6 hC1) | (go_at_call 27; (with_reducible refine (hC2.out _ hb0.out).mono ?_); rintro e w6 ⟨rfl, hb6⟩; replace hb0 := Lib.hid (hb0.out.trans (hb6.mono hb0.out.size)); clear hb6 hC2) | (go_at_call 35; (with_reducible refine (hRs.out _ hb0.out).mono ?_); rintro e w7 ⟨v, rfl, hv, hb7⟩; replace hb0 := Lib.hid (hb0.out.trans (hb7.mono hb0.out.size)); clear hb7 hRs) | (go_at_call 34; (with_reducible refine (Same_any _ _ [10, 17] [10, 17] _ _ _ (hv.below ((Below.refl w7.heap.size w7).alloc (Nat.le_refl _) _) (Nat.le_refl _)) (lit_two w7 10 17 _)).mono ?_); rintro e w8 ⟨rfl, q, rfl⟩))
  go_ret
  exact ⟨rfl, drewN_below (hb0.out.trans (((Below.refl _ _).alloc (Nat.le_refl _) _).mono hb0.out.size)) q⟩
end Go.Proofs.YtdbpnbmaineniaaGreatDoor
