/- The law CodeCalls: words are made and read as the document says. Conditions: the library's tables and the fields' places lie as their initialisers lay them. -/
import Derived.Test.YtdbpnbmaineniaaGreatDoorTks
import Derived.Test.YtdbpnbmaineniaaGreatDoorCodeSs
import Derived.Test.YtdbpnbmaineniaaGreatDoorCodeWO
import Derived.Test.YtdbpnbmaineniaaGreatDoorR3D
import Derived.Test.YtdbpnbmaineniaaGreatDoorCodeHD
import Derived.Test.YtdbpnbmaineniaaGreatDoorCodeLI
import Derived.Test.YtdbpnbmaineniaaGreatDoorInsnEq
import Derived.Test.YtdbpnbmaineniaaGreatDoorInsnT
import Derived.Deep.QuietTactic
import Derived.BigQuiet
set_option linter.unusedSimpArgs false
set_option linter.unusedVariables false
namespace Go.Proofs.YtdbpnbmaineniaaGreatDoor
open Go.RowKit
theorem yieldsIf_eql_insnC {ops : Array Oper} {S : World → Prop} {op : Oper} {a : Act} (hw : Region.wanted op (yielded ops a.tmps) = true) (x y : Operand) (t : TypeId) (ho : op.op = .binOp .eql 23 x y t) (A B : Array Value) (b : Bool)
    (hx : a.eval x = .agg A) (hy : a.eval y = .agg B) (hq : ∀ w, (binOp .eql 23 (.agg A) (.agg B)).run Tryz.prog w = .ok (.bool b) w) : YieldsIf Tryz.prog ops S op (.bool b) a :=
  .inl ⟨hw, fun w _ => by
    unfold execOp
    simp only [ho, hx, hy, Sem.run_bind, run_eqGuard_agg w .eql 23 x y A B Tryz.eqGuardType23, hq, Result.andThen_ok, Sem.run_pure]⟩
section
attribute [local irreducible] un32 wordV checkE dumpT insnW strOfNums
set_option maxRecDepth 100000 in
set_option maxHeartbeats 16000000 in
theorem CodeCalls_any (i : InsnV) (x : BitVec 32) (ao bo : Option Addr) (n cap m cb : Nat) (F : Nat → BitVec 32) (f : Nat → Int) (w : World) (hlo : -9223372036854775808 ≤ i.op) (hop : i.op ≤ 9223372036854775807) (h : WordsAt w ao n F) (hg : BytesAt w bo m f) (hmc : m ≤ cb) (hbn : bo = none → cb = 0) (ht : Tabs w) (hp : P10 w) (hfl : Flds w) :
    Calls Tryz.prog 4 #[.agg i.cells, .int .u32 (un32 x), .slice ao n cap, .slice bo m cb] w fun e w' => e = .returned (.bool true) ∧ Below w.heap.size w w' := by
  have hu := Tryz.underlying23
  have hT : Hid (∀ W, Below w.heap.size w W → Tabs W ∧ P10 W ∧ Flds W) := Lib.hid fun W hW => ⟨ht.later hW (Nat.le_refl _), hp.later hW (Nat.le_refl _), hfl.later hW⟩
  have hLv : Hid (∀ W, Below w.heap.size w W → Calls Tryz.prog 12 #[] W fun e w' => e = .returned (.bool true) ∧ Below W.heap.size W w') := Lib.hid fun W hW => Lives3_any W (hT.out W hW).1 (hT.out W hW).2.2
  obtain ⟨hb0, hrI, hlI⟩ := boxed w i 23
  have hgd : ∀ (b : Bool), decide (60 < (n : Int)) = b → Hid True := fun _ _ => Lib.hid trivial
  clear hgd ht hp hfl
  by_cases hsm : n ≤ 60 ∧ m ≤ 240
  · obtain ⟨h60, h240⟩ := hsm
    have t60 : decide (60 < (n : Int)) = false := decide_eq_false (by omega)
    have t61 : decide (60 < n) = false := decide_eq_false (by omega)
    have t62 : decide (240 < (m : Int)) = false := decide_eq_false (by omega)
    have t63 : decide (240 < m) = false := decide_eq_false (by omega)
    have hW := Lib.hid h
    have hG := Lib.hid hg
    have hmc' := Lib.hid hmc
    clear h hg hmc
    obtain ⟨IL, hIL⟩ : ∃ l, i.cells.toList = l := ⟨_, rfl⟩
    obtain ⟨PL, hPL⟩ : ∃ l, (insnW x).1.cells.toList = l := ⟨_, rfl⟩
    have nI : Hid (IL.length = 9) := Lib.hid (by rw [← hIL]; rfl)
    have nP : Hid (PL.length = 9) := Lib.hid (by rw [← hPL]; rfl)
    have oP : Hid (PL.toArray.all (·.oneCell') = true) := Lib.hid (by rw [← hPL]; exact (insnW x).1.list_one)
    have sI : Hid ((Tryz.prog.info? 23).map (·.size) = some IL.length) := Lib.hid (by rw [nI.out]; kernel_rfl)
    have sP : Hid ((Tryz.prog.info? 23).map (·.size) = some PL.length) := Lib.hid (by rw [nP.out]; kernel_rfl)
    have hc1 : Hid (∀ W, Below w.heap.size w W → Calls Tryz.prog 14 #[.agg IL.toArray] W fun e w' => e = .returned (.tuple #[.int .u32 (un32 (wordV i)), .int .i64 (checkE i)]) ∧ Below W.heap.size W w') := Lib.hid fun W hb => by rw [← hIL]; exact word_list i hlo hop W (hT.out W hb).1 (hT.out W hb).2.2
    have hc2 : Hid (∀ W, Calls Tryz.prog 15 #[.agg IL.toArray] W fun e w' => e = .returned (.tuple #[.int .u32 (un32 (wordV i)), .int .i64 (checkE i)]) ∧ Below W.heap.size W w') := Lib.hid fun W => by rw [← hIL, Array.toArray_toList]; exact R3Word_any i W
    have hc3 : Hid (∀ W, Below w.heap.size w W → Calls Tryz.prog 9 #[.int .u32 (un32 x)] W fun e w' => e = .returned (.tuple #[.agg PL.toArray, .int .i64 (insnW x).2]) ∧ Below W.heap.size W w') := Lib.hid fun W hb => by rw [← hPL, Array.toArray_toList]; exact Insn_any x W (hT.out W hb).1 (hT.out W hb).2.2
    have hc4 : Hid (∀ W, Calls Tryz.prog 16 #[.int .u32 (un32 x)] W fun e w' => e = .returned (.tuple #[.agg PL.toArray, .int .i64 (insnW x).2]) ∧ Below W.heap.size W w') := Lib.hid fun W => by rw [← hPL, Array.toArray_toList]; exact R3Insn_any x W
    have hqP : Hid (∀ W, (binOp .eql 23 (.agg PL.toArray) (.agg PL.toArray)).run Tryz.prog W = .ok (.bool true) W) := Lib.hid fun W => by
      have := insn_eql (insnW x).1 (insnW x).1 W
      rw [← hPL, Array.toArray_toList]; simpa using this
    have hc5 : Hid (∀ W, Below w.heap.size w W → Calls Tryz.prog 17 #[.slice bo m cb] W fun e w' => (∃ A c, e = .returned (.slice A m c) ∧ m ≤ c ∧ BytesAt w' A m f) ∧ Below W.heap.size W w') := Lib.hid fun W hb => OwnB_any bo m cb f W (hG.out.keep hb) hbn (by omega)
    have hc6 : Hid (∀ W A c, BytesAt W A m f → m ≤ c → Calls Tryz.prog 10 #[.slice A m c] W fun e w' => (∃ v, e = .returned (.tuple #[v, .int .i64 (wordsE m)]) ∧ RLW w' w'.heap.size v (wordsL f m)) ∧ Below W.heap.size W w') := Lib.hid fun W A c hA hc => CWords_any A m c f W hA hc (by omega)
    have hc7 : Hid (∀ W, Below w.heap.size w W → Calls Tryz.prog 18 #[.slice bo m cb] W fun e w' => (∃ v, e = .returned (.tuple #[v, .int .i64 (wordsE m)]) ∧ RLW w' w'.heap.size v (wordsL f m)) ∧ Below W.heap.size W w') := Lib.hid fun W hb => R3Words_any bo m cb f W (hG.out.keep hb) hmc'.out (by omega)
    have hc8 : Hid (∀ W v u, RLW W W.heap.size v (wordsL f m) → RLW W W.heap.size u (wordsL f m) → Calls Tryz.prog 19 #[v, u] W (QuietW W (.bool true))) := Lib.hid fun W v u hv hu => by
      have := SameW_any v u _ _ _ _ W hv hu
      rwa [beq_self_eq_true] at this
    have hc9 : Hid (∀ W, Below w.heap.size w W → Calls Tryz.prog 20 #[.slice ao n cap] W fun e w' => (∃ A c, e = .returned (.slice A n c) ∧ WordsAt w' A n F) ∧ Below W.heap.size W w') := Lib.hid fun W hb => (KOwnW_any ao n cap F W (hW.out.keep hb) (by omega)).mono fun e w' hh => by
      obtain ⟨⟨v, e1, e2⟩, e3⟩ := hh
      obtain ⟨A, c, rfl, -, -, h3⟩ := own_sliceS e2 rfl
      exact ⟨⟨A, c, e1, fun h0 => (by obtain ⟨g, e, hg, hc⟩ := h3 h0; exact ⟨g, 0, e, hg, fun k hk => by rw [Nat.zero_add]; exact hc k _ (by rw [List.getElem?_map, wiL_at F n k hk]; rfl)⟩)⟩, e3⟩
    have hc10 : Hid (∀ W A c, WordsAt W A n F → Calls Tryz.prog 13 #[.slice A n c] W fun e w' => (∃ A c, e = .returned (.slice A (4 * n) c) ∧ BR w' A n F) ∧ Below W.heap.size W w') := Lib.hid fun W A c hA => (CBytes_any A n c F W hA (by omega)).mono fun e w' hh => by
      obtain ⟨⟨v, e1, e2⟩, e3⟩ := hh
      rw [List.length_map, wbL_len] at e2
      obtain ⟨A, c, rfl, hr⟩ := br_own e2
      exact ⟨⟨A, c, e1, hr⟩, e3⟩
    have hc11 : Hid (∀ W, Below w.heap.size w W → Calls Tryz.prog 21 #[.slice ao n cap] W fun e w' => (∃ A c, e = .returned (.slice A (4 * n) c) ∧ BR w' A n F) ∧ Below W.heap.size W w') := Lib.hid fun W hb => (R3Bytes_any ao n cap F W (hW.out.keep hb) (by omega)).mono fun e w' hh => by
      obtain ⟨⟨v, e1, e2⟩, e3⟩ := hh
      obtain ⟨A, c, rfl, hr⟩ := br_own e2
      exact ⟨⟨A, c, e1, hr⟩, e3⟩
    have hc12 : Hid (∀ W, Below w.heap.size w W → Calls Tryz.prog 11 #[.slice ao n cap] W fun e w' => (∃ v, e = .returned v ∧ RLS w' w'.heap.size v (dumpsB F n)) ∧ Below W.heap.size W w') := Lib.hid fun W hb => (CDump_by ao n cap F W (hW.out.keep hb) (by omega) (hT.out W hb).1 (hT.out W hb).2.2 (Lib.hid fun k W2 hk hb2 => IText_any _ (insnW_bd (F k)).1 (insnW_bd (F k)).2 W2 ((hT.out W hb).1.later hb2 (Nat.le_refl _)) ((hT.out W hb).2.1.later hb2 (Nat.le_refl _)))).mono fun e w' hh => new_dump hh
    have hc13 : Hid (∀ W, Below w.heap.size w W → Calls Tryz.prog 23 #[.slice ao n cap] W fun e w' => (∃ v, e = .returned v ∧ RLS w' w'.heap.size v (dumpsB F n)) ∧ Below W.heap.size W w') := Lib.hid fun W hb => (R3Dump_any ao n cap F W (hW.out.keep hb) (by omega)).mono fun e w' hh => new_dump hh
    have hc14 : Hid (∀ W v u, RLS W W.heap.size v (dumpsB F n) → RLS W W.heap.size u (dumpsB F n) → Calls Tryz.prog 22 #[v, u] W (QuietW W (.bool true))) := Lib.hid fun W v u hv hu => SameS_yes v u _ _ _ W hv hu
    have hcv : Hid (∀ W A c, BR W A n F → (convert 31 9 (.slice A (4 * n) c)).run Tryz.prog W = .ok (.string (strOfNums (wbL F n))) W) := Lib.hid fun W A c hA => hA.conv c
    rw [show i.cells = IL.toArray by rw [← hIL, Array.toArray_toList]] at hb0 hrI hlI ⊢
    rw [show (IL.toArray).toList = IL from rfl] at hrI
    clear hIL hPL hW hG hmc' hbn hT hlo hop
    generalize un32 (wordV i) = y at hc1 hc2
    generalize checkE i = ce at hc1 hc2
    generalize (insnW x).2 = E at hc3 hc4
    generalize un32 x = xv at hc3 hc4 ⊢
    generalize wordsE m = we at hc6 hc7
    generalize wordsL f m = wl at hc6 hc7 hc8
    generalize dumpsB F n = db at hc12 hc13 hc14
    generalize strOfNums (wbL F n) = Bs at hcv
    go_enter Tryz.func4, Tryz.ntmps4
    go_upto_region 5 with (go_at_call 12; (with_reducible refine (hLv.out _ hb0).mono ?_); rintro e w0 ⟨rfl, hb⟩)
    replace hrI := range_on hrI hlI hb
    replace hlI := Nat.lt_of_lt_of_le hlI hb.size
    replace hb0 := Lib.hid (hb0.trans (hb.mono hb0.size))
    clear hLv hb
    go_upto_region 6 with (first | (refine wpList_load_mid rfl 23 _ rfl w.heap.size 0 rfl IL _ hrI hu rfl sI.out ?_) | (go_at_call 14; (with_reducible refine (hc1.out _ hb0.out).mono ?_); rintro e w1 ⟨rfl, hb⟩))
    replace hrI := range_on hrI hlI hb
    replace hlI := Nat.lt_of_lt_of_le hlI hb.size
    replace hb0 := Lib.hid (hb0.out.trans (hb.mono hb0.out.size))
    clear hc1 hb
    go_upto_region 7 with (first | (refine wpList_load_mid rfl 23 _ rfl w.heap.size 0 rfl IL _ hrI hu rfl sI.out ?_) | (go_at_call 15; (with_reducible refine (hc2.out _).mono ?_); rintro e w2 ⟨rfl, hb⟩))
    replace hb0 := Lib.hid (hb0.out.trans (hb.mono hb0.out.size))
    clear hc2 hb hrI hlI
    go_upto_region 8 with (first | (go_at_call 9; (with_reducible refine (hc3.out _ hb0.out).mono ?_); rintro e w3 ⟨rfl, hb⟩) | (refine wpList_store_mid rfl 23 _ _ rfl w3.heap.size 0 PL.toArray rfl rfl (fun j hj => cells_fresh w3 #[.int .i64 0, .int .i64 0, .int .i64 0, .int .i64 0, .int .i64 0, .bool false, .bool false, .int .i64 0, .int .i64 0] 23 9 (by decide) j (by rw [List.size_toArray, nP.out] at hj; exact hj)) (by rw [List.size_toArray]; exact sP.out) oP.out ?_))
    obtain ⟨hcp, hr1, hl1, -⟩ := copied (s := w3) (cs := PL) nP.out #[.int .i64 0, .int .i64 0, .int .i64 0, .int .i64 0, .int .i64 0, .bool false, .bool false, .int .i64 0, .int .i64 0] rfl 23
    generalize World.setCells _ w3.heap.size 0 PL = v3 at hcp hr1 hl1 ⊢
    replace hb0 := Lib.hid (hb0.out.trans ((hb.trans (hcp.mono hb.size)).mono hb0.out.size))
    generalize w3.heap.size = X at hr1 hl1 ⊢
    clear hc3 hb hcp
    go_upto_region 9 with (first | (go_at_call 16; (with_reducible refine (hc4.out _).mono ?_); rintro e w4 ⟨rfl, hb⟩) | (refine wpList_store_mid rfl 23 _ _ rfl w4.heap.size 0 PL.toArray rfl rfl (fun j hj => cells_fresh w4 #[.int .i64 0, .int .i64 0, .int .i64 0, .int .i64 0, .int .i64 0, .bool false, .bool false, .int .i64 0, .int .i64 0] 23 9 (by decide) j (by rw [List.size_toArray, nP.out] at hj; exact hj)) (by rw [List.size_toArray]; exact sP.out) oP.out ?_))
    obtain ⟨hcp, hr2, hl2, -⟩ := copied (s := w4) (cs := PL) nP.out #[.int .i64 0, .int .i64 0, .int .i64 0, .int .i64 0, .int .i64 0, .bool false, .bool false, .int .i64 0, .int .i64 0] rfl 23
    generalize World.setCells _ w4.heap.size 0 PL = v4 at hcp hr2 hl2 ⊢
    have hk := hb.trans (hcp.mono hb.size)
    replace hr1 := range_on hr1 hl1 hk
    replace hl1 := Nat.lt_of_lt_of_le hl1 hk.size
    replace hb0 := Lib.hid (hb0.out.trans (hk.mono hb0.out.size))
    generalize w4.heap.size = Y at hr2 hl2 ⊢
    clear hc4 hb hcp hk
    go_upto_region 10 with (first | (go_at_call 17; (with_reducible refine (hc5.out _ hb0.out).mono ?_); rintro e w5 ⟨⟨A5, c5, rfl, hm5, hg5⟩, hb⟩; replace hr1 := range_on hr1 hl1 hb; replace hl1 := Nat.lt_of_lt_of_le hl1 hb.size; replace hr2 := range_on hr2 hl2 hb; replace hl2 := Nat.lt_of_lt_of_le hl2 hb.size; replace hb0 := Lib.hid (hb0.out.trans (hb.mono hb0.out.size)); replace hg5 := Lib.hid hg5; replace hm5 := Lib.hid hm5; clear hb) | (go_at_call 10; (with_reducible refine (hc6.out _ _ _ hg5.out hm5.out).mono ?_); rintro e w6 ⟨⟨v6, rfl, hw6⟩, hb⟩; replace hr1 := range_on hr1 hl1 hb; replace hl1 := Nat.lt_of_lt_of_le hl1 hb.size; replace hr2 := range_on hr2 hl2 hb; replace hl2 := Nat.lt_of_lt_of_le hl2 hb.size; replace hb0 := Lib.hid (hb0.out.trans (hb.mono hb0.out.size)); clear hb hg5 hm5))
    clear hc5 hc6
    go_upto_region 11 with (go_at_call 18; (with_reducible refine (hc7.out _ hb0.out).mono ?_); rintro e w7 ⟨⟨v7, rfl, hw7⟩, hb⟩)
    replace hr1 := Lib.hid (range_on hr1 hl1 hb)
    replace hl1 := Nat.lt_of_lt_of_le hl1 hb.size
    replace hr2 := Lib.hid (range_on hr2 hl2 hb)
    replace hl2 := Nat.lt_of_lt_of_le hl2 hb.size
    replace hw6 := Lib.hid (hw6.keep hb)
    replace hw7 := Lib.hid hw7
    replace hb0 := Lib.hid (hb0.out.trans (hb.mono hb0.out.size))
    clear hc7 hb
    refine wp_region_held_drew (S := fun W => Below w7.heap.size w7 W) (by kernel_rfl) ((Below.refl _ _).drew) (fun hHeld => ?_)
    refine tkS 0 (.int .u32 y) hHeld ?_
    try simp only [Act.put, List.getElem_toArray, List.getElem_cons_succ, List.getElem_cons_zero, List.setIfInBounds_toArray, List.set_cons_zero, List.set_cons_succ]
    refine tkS 1 (.int .u32 y) hHeld ?_
    try simp only [Act.put, List.getElem_toArray, List.getElem_cons_succ, List.getElem_cons_zero, List.setIfInBounds_toArray, List.set_cons_zero, List.set_cons_succ]
    refine tkG 2 (.bool true) hHeld ?_
    try simp only [Act.put, List.getElem_toArray, List.getElem_cons_succ, List.getElem_cons_zero, List.setIfInBounds_toArray, List.set_cons_zero, List.set_cons_succ]
    refine tkS 3 (.bool true) hHeld ?_
    try simp only [Act.put, List.getElem_toArray, List.getElem_cons_succ, List.getElem_cons_zero, List.setIfInBounds_toArray, List.set_cons_zero, List.set_cons_succ]
    refine tkS 4 (.int .i64 ce) hHeld ?_
    try simp only [Act.put, List.getElem_toArray, List.getElem_cons_succ, List.getElem_cons_zero, List.setIfInBounds_toArray, List.set_cons_zero, List.set_cons_succ]
    refine tkS 5 (.int .i64 ce) hHeld ?_
    try simp only [Act.put, List.getElem_toArray, List.getElem_cons_succ, List.getElem_cons_zero, List.setIfInBounds_toArray, List.set_cons_zero, List.set_cons_succ]
    refine tkG 6 (.bool true) hHeld ?_
    try simp only [Act.put, List.getElem_toArray, List.getElem_cons_succ, List.getElem_cons_zero, List.setIfInBounds_toArray, List.set_cons_zero, List.set_cons_succ]
    refine tkS 7 (.bool true) hHeld ?_
    try simp only [Act.put, List.getElem_toArray, List.getElem_cons_succ, List.getElem_cons_zero, List.setIfInBounds_toArray, List.set_cons_zero, List.set_cons_succ]
    refine tkS 8 (.bool true) hHeld ?_
    try simp only [Act.put, List.getElem_toArray, List.getElem_cons_succ, List.getElem_cons_zero, List.setIfInBounds_toArray, List.set_cons_zero, List.set_cons_succ]
    refine wpAnyH_take (i := 9) rfl (by kernel_rfl) (by kernel_rfl) (by kernel_rfl) (fun _ _ _ h => h) (yieldsIf_load_mid (by rfl) 23 _ rfl X 0 rfl PL _ (fun W hS => range_on hr1.out hl1 hS) hu rfl sP.out) hHeld ?_
    try simp only [Act.put, List.getElem_toArray, List.getElem_cons_succ, List.getElem_cons_zero, List.setIfInBounds_toArray, List.set_cons_zero, List.set_cons_succ]
    refine wpAnyH_take (i := 10) rfl (by kernel_rfl) (by kernel_rfl) (by kernel_rfl) (fun _ _ _ h => h) (yieldsIf_load_mid (by rfl) 23 _ rfl Y 0 rfl PL _ (fun W hS => range_on hr2.out hl2 hS) hu rfl sP.out) hHeld ?_
    try simp only [Act.put, List.getElem_toArray, List.getElem_cons_succ, List.getElem_cons_zero, List.setIfInBounds_toArray, List.set_cons_zero, List.set_cons_succ]
    refine wpAnyH_take (i := 11) rfl (by kernel_rfl) (by kernel_rfl) (by kernel_rfl) (fun _ _ _ h => h) (yieldsIf_eql_insnC (by rfl) _ _ _ rfl PL.toArray PL.toArray true rfl rfl hqP.out) hHeld ?_
    try simp only [Act.put, List.getElem_toArray, List.getElem_cons_succ, List.getElem_cons_zero, List.setIfInBounds_toArray, List.set_cons_zero, List.set_cons_succ]
    refine tkS 12 (.bool true) hHeld ?_
    try simp only [Act.put, List.getElem_toArray, List.getElem_cons_succ, List.getElem_cons_zero, List.setIfInBounds_toArray, List.set_cons_zero, List.set_cons_succ]
    refine tkS 13 (.bool true) hHeld ?_
    try simp only [Act.put, List.getElem_toArray, List.getElem_cons_succ, List.getElem_cons_zero, List.setIfInBounds_toArray, List.set_cons_zero, List.set_cons_succ]
    refine tkS 14 (.int .i64 E) hHeld ?_
    try simp only [Act.put, List.getElem_toArray, List.getElem_cons_succ, List.getElem_cons_zero, List.setIfInBounds_toArray, List.set_cons_zero, List.set_cons_succ]
    refine tkS 15 (.int .i64 E) hHeld ?_
    try simp only [Act.put, List.getElem_toArray, List.getElem_cons_succ, List.getElem_cons_zero, List.setIfInBounds_toArray, List.set_cons_zero, List.set_cons_succ]
    refine tkG 16 (.bool true) hHeld ?_
    try simp only [Act.put, List.getElem_toArray, List.getElem_cons_succ, List.getElem_cons_zero, List.setIfInBounds_toArray, List.set_cons_zero, List.set_cons_succ]
    refine tkS 17 (.bool true) hHeld ?_
    try simp only [Act.put, List.getElem_toArray, List.getElem_cons_succ, List.getElem_cons_zero, List.setIfInBounds_toArray, List.set_cons_zero, List.set_cons_succ]
    refine tkS 18 (.bool true) hHeld ?_
    try simp only [Act.put, List.getElem_toArray, List.getElem_cons_succ, List.getElem_cons_zero, List.setIfInBounds_toArray, List.set_cons_zero, List.set_cons_succ]
    refine tkS 19 (v6) hHeld ?_
    try simp only [Act.put, List.getElem_toArray, List.getElem_cons_succ, List.getElem_cons_zero, List.setIfInBounds_toArray, List.set_cons_zero, List.set_cons_succ]
    refine tkS 20 (v7) hHeld ?_
    try simp only [Act.put, List.getElem_toArray, List.getElem_cons_succ, List.getElem_cons_zero, List.setIfInBounds_toArray, List.set_cons_zero, List.set_cons_succ]
    refine wpAnyH_ready (rs := [21]) (by kernel_rfl) (by simp) (AllReadyH.cons rfl (fun K hK2 => ?_) AllReadyH.nil)
    rw [if_pos (by rfl)]
    simp only [List.getElem_toArray, List.getElem_cons_succ, List.getElem_cons_zero]
    go_wp2_with (go_at_call 19; (with_reducible refine (hc8.out _ _ _ (hw6.out.keep hHeld) (hw7.out.keep hHeld)).mono ?_); rintro e w8 ⟨rfl, q, rfl⟩)
    refine hK2.out _ _ (by first | exact below_drewN' hHeld _ | exact below_drewN' (Below.refl _ _) _) (fun hHeld2 => ?_)
    clear hK2 K hHeld
    have hHeld := hHeld2
    clear hHeld2
    try simp only [Act.put, List.getElem_toArray, List.getElem_cons_succ, List.getElem_cons_zero, List.setIfInBounds_toArray, List.set_cons_zero, List.set_cons_succ]
    refine tkS 22 (.bool true) hHeld ?_
    try simp only [Act.put, List.getElem_toArray, List.getElem_cons_succ, List.getElem_cons_zero, List.setIfInBounds_toArray, List.set_cons_zero, List.set_cons_succ]
    refine tkS 23 (.bool true) hHeld ?_
    try simp only [Act.put, List.getElem_toArray, List.getElem_cons_succ, List.getElem_cons_zero, List.setIfInBounds_toArray, List.set_cons_zero, List.set_cons_succ]
    refine tkS 24 (.int .i64 we) hHeld ?_
    try simp only [Act.put, List.getElem_toArray, List.getElem_cons_succ, List.getElem_cons_zero, List.setIfInBounds_toArray, List.set_cons_zero, List.set_cons_succ]
    refine tkS 25 (.int .i64 we) hHeld ?_
    try simp only [Act.put, List.getElem_toArray, List.getElem_cons_succ, List.getElem_cons_zero, List.setIfInBounds_toArray, List.set_cons_zero, List.set_cons_succ]
    refine tkG 26 (.bool true) hHeld ?_
    try simp only [Act.put, List.getElem_toArray, List.getElem_cons_succ, List.getElem_cons_zero, List.setIfInBounds_toArray, List.set_cons_zero, List.set_cons_succ]
    refine tkS 27 (.bool true) hHeld ?_
    try simp only [Act.put, List.getElem_toArray, List.getElem_cons_succ, List.getElem_cons_zero, List.setIfInBounds_toArray, List.set_cons_zero, List.set_cons_succ]
    refine tkS 28 (.bool true) hHeld ?_
    try simp only [Act.put, List.getElem_toArray, List.getElem_cons_succ, List.getElem_cons_zero, List.setIfInBounds_toArray, List.set_cons_zero, List.set_cons_succ]
    refine tkS 29 (.slice ao n cap) hHeld ?_
    try simp only [Act.put, List.getElem_toArray, List.getElem_cons_succ, List.getElem_cons_zero, List.setIfInBounds_toArray, List.set_cons_zero, List.set_cons_succ]
    refine tkS 33 (.slice ao n cap) hHeld ?_
    try simp only [Act.put, List.getElem_toArray, List.getElem_cons_succ, List.getElem_cons_zero, List.setIfInBounds_toArray, List.set_cons_zero, List.set_cons_succ]
    refine wpAnyH_ready (rs := [30]) (by kernel_rfl) (by simp) (AllReadyH.cons rfl (fun K hK2 => ?_) AllReadyH.nil)
    rw [if_pos (by rfl)]
    simp only [List.getElem_toArray, List.getElem_cons_succ, List.getElem_cons_zero]
    go_wp2_with (go_at_call 20; (with_reducible refine (hc9.out _ (hb0.out.trans (hHeld.mono hb0.out.size))).mono ?_); rintro e w9 ⟨⟨A9, c9, rfl, hA9⟩, hb⟩)
    replace hA9 := Lib.hid hA9
    refine hK2.out _ _ (hHeld.trans (hb.mono hHeld.size)) (fun hHeld2 => ?_)
    clear hK2 K hHeld
    have hHeld := hHeld2
    clear hHeld2
    try simp only [Act.put, List.getElem_toArray, List.getElem_cons_succ, List.getElem_cons_zero, List.setIfInBounds_toArray, List.set_cons_zero, List.set_cons_succ]
    clear hb hc9
    refine wpAnyH_ready (rs := [31]) (by kernel_rfl) (by simp) (AllReadyH.cons rfl (fun K hK2 => ?_) AllReadyH.nil)
    rw [if_pos (by rfl)]
    simp only [List.getElem_toArray, List.getElem_cons_succ, List.getElem_cons_zero]
    go_wp2_with (go_at_call 13; (with_reducible refine (hc10.out _ _ _ hA9.out).mono ?_); rintro e w10 ⟨⟨A10, c10, rfl, hA10⟩, hb⟩)
    replace hA10 := Lib.hid hA10
    refine hK2.out _ _ (hHeld.trans (hb.mono hHeld.size)) (fun hHeld2 => ?_)
    clear hK2 K hHeld
    have hHeld := hHeld2
    clear hHeld2
    try simp only [Act.put, List.getElem_toArray, List.getElem_cons_succ, List.getElem_cons_zero, List.setIfInBounds_toArray, List.set_cons_zero, List.set_cons_succ]
    clear hb hc10 hA9
    refine wpAnyH_ready (rs := [32, 34]) (by kernel_rfl) (by simp) ?_
    refine AllReadyH.cons rfl (fun K hK2 => ?_) ?_
    · rw [if_pos (by rfl)]
      simp only [List.getElem_toArray, List.getElem_cons_succ, List.getElem_cons_zero]
      have hv := hcv.out w10 A10 c10 hA10.out
      go_wp2_with fail
      refine hK2.out _ _ (hHeld) (fun hHeld2 => ?_)
      clear hK2 K hHeld
      have hHeld := hHeld2
      clear hHeld2
      try simp only [Act.put, List.getElem_toArray, List.getElem_cons_succ, List.getElem_cons_zero, List.setIfInBounds_toArray, List.set_cons_zero, List.set_cons_succ]
      clear hv
      refine wpAnyH_ready (rs := [34]) (by kernel_rfl) (by simp) (AllReadyH.cons rfl (fun K hK2 => ?_) AllReadyH.nil)
      rw [if_pos (by rfl)]
      simp only [List.getElem_toArray, List.getElem_cons_succ, List.getElem_cons_zero]
      go_wp2_with (go_at_call 21; (with_reducible refine (hc11.out _ (hb0.out.trans (hHeld.mono hb0.out.size))).mono ?_); rintro e w11 ⟨⟨A11, c11, rfl, hA11⟩, hb⟩)
      replace hA10 := Lib.hid (hA10.out.keep hb)
      replace hA11 := Lib.hid hA11
      refine hK2.out _ _ (hHeld.trans (hb.mono hHeld.size)) (fun hHeld2 => ?_)
      clear hK2 K hHeld
      have hHeld := hHeld2
      clear hHeld2
      try simp only [Act.put, List.getElem_toArray, List.getElem_cons_succ, List.getElem_cons_zero, List.setIfInBounds_toArray, List.set_cons_zero, List.set_cons_succ]
      clear hb
      refine wpAnyH_ready (rs := [35]) (by kernel_rfl) (by simp) (AllReadyH.cons rfl (fun K hK2 => ?_) AllReadyH.nil)
      rw [if_pos (by rfl)]
      simp only [List.getElem_toArray, List.getElem_cons_succ, List.getElem_cons_zero]
      have hv := hcv.out w11 A11 c11 hA11.out
      go_wp2_with fail
      refine hK2.out _ _ (hHeld) (fun hHeld2 => ?_)
      clear hK2 K hHeld
      have hHeld := hHeld2
      clear hHeld2
      try simp only [Act.put, List.getElem_toArray, List.getElem_cons_succ, List.getElem_cons_zero, List.setIfInBounds_toArray, List.set_cons_zero, List.set_cons_succ]
      clear hv
      refine tkG 36 (.bool true) hHeld ?_
      try simp only [Act.put, List.getElem_toArray, List.getElem_cons_succ, List.getElem_cons_zero, List.setIfInBounds_toArray, List.set_cons_zero, List.set_cons_succ]
      refine tkS 37 (.bool true) hHeld ?_
      try simp only [Act.put, List.getElem_toArray, List.getElem_cons_succ, List.getElem_cons_zero, List.setIfInBounds_toArray, List.set_cons_zero, List.set_cons_succ]
      refine tkS 38 (.bool true) hHeld ?_
      try simp only [Act.put, List.getElem_toArray, List.getElem_cons_succ, List.getElem_cons_zero, List.setIfInBounds_toArray, List.set_cons_zero, List.set_cons_succ]
      refine tkS 39 (.slice ao n cap) hHeld ?_
      try simp only [Act.put, List.getElem_toArray, List.getElem_cons_succ, List.getElem_cons_zero, List.setIfInBounds_toArray, List.set_cons_zero, List.set_cons_succ]
      refine tkS 41 (.slice ao n cap) hHeld ?_
      try simp only [Act.put, List.getElem_toArray, List.getElem_cons_succ, List.getElem_cons_zero, List.setIfInBounds_toArray, List.set_cons_zero, List.set_cons_succ]
      refine wpAnyH_ready (rs := [40]) (by kernel_rfl) (by simp) (AllReadyH.cons rfl (fun K hK2 => ?_) AllReadyH.nil)
      rw [if_pos (by rfl)]
      simp only [List.getElem_toArray, List.getElem_cons_succ, List.getElem_cons_zero]
      go_wp2_with (go_at_call 11; (with_reducible refine (hc12.out _ (hb0.out.trans (hHeld.mono hb0.out.size))).mono ?_); rintro e w12 ⟨⟨v12, rfl, hA12⟩, hb⟩)
      replace hA12 := Lib.hid hA12
      refine hK2.out _ _ (hHeld.trans (hb.mono hHeld.size)) (fun hHeld2 => ?_)
      clear hK2 K hHeld
      have hHeld := hHeld2
      clear hHeld2
      try simp only [Act.put, List.getElem_toArray, List.getElem_cons_succ, List.getElem_cons_zero, List.setIfInBounds_toArray, List.set_cons_zero, List.set_cons_succ]
      clear hb hc12
      refine wpAnyH_ready (rs := [42]) (by kernel_rfl) (by simp) (AllReadyH.cons rfl (fun K hK2 => ?_) AllReadyH.nil)
      rw [if_pos (by rfl)]
      simp only [List.getElem_toArray, List.getElem_cons_succ, List.getElem_cons_zero]
      go_wp2_with (go_at_call 23; (with_reducible refine (hc13.out _ (hb0.out.trans (hHeld.mono hb0.out.size))).mono ?_); rintro e w13 ⟨⟨v13, rfl, hA13⟩, hb⟩)
      replace hA12 := Lib.hid (hA12.out.keep hb)
      replace hA13 := Lib.hid hA13
      refine hK2.out _ _ (hHeld.trans (hb.mono hHeld.size)) (fun hHeld2 => ?_)
      clear hK2 K hHeld
      have hHeld := hHeld2
      clear hHeld2
      try simp only [Act.put, List.getElem_toArray, List.getElem_cons_succ, List.getElem_cons_zero, List.setIfInBounds_toArray, List.set_cons_zero, List.set_cons_succ]
      clear hb hc13
      refine wpAnyH_ready (rs := [43]) (by kernel_rfl) (by simp) (AllReadyH.cons rfl (fun K hK2 => ?_) AllReadyH.nil)
      rw [if_pos (by rfl)]
      simp only [List.getElem_toArray, List.getElem_cons_succ, List.getElem_cons_zero]
      go_wp2_with (go_at_call 22; (with_reducible refine (hc14.out _ _ _ hA12.out hA13.out).mono ?_); rintro e w14 ⟨rfl, q2, rfl⟩)
      refine hK2.out _ _ (by first | exact below_drewN' hHeld _ | exact below_drewN' (Below.refl _ _) _) (fun hHeld2 => ?_)
      clear hK2 K hHeld
      have hHeld := hHeld2
      clear hHeld2
      try simp only [Act.put, List.getElem_toArray, List.getElem_cons_succ, List.getElem_cons_zero, List.setIfInBounds_toArray, List.set_cons_zero, List.set_cons_succ]
      refine tkS 44 (.bool true) hHeld ?_
      try simp only [Act.put, List.getElem_toArray, List.getElem_cons_succ, List.getElem_cons_zero, List.setIfInBounds_toArray, List.set_cons_zero, List.set_cons_succ]
      refine tkS 45 (.bool true) hHeld ?_
      try simp only [Act.put, List.getElem_toArray, List.getElem_cons_succ, List.getElem_cons_zero, List.setIfInBounds_toArray, List.set_cons_zero, List.set_cons_succ]
      refine wpAnyH_done (by kernel_rfl) ?_ _
      go_wp2_with fail
      go_ret
      exact ⟨rfl, hb0.out.trans (hHeld.mono hb0.out.size)⟩
    refine AllReadyH.cons rfl (fun K hK2 => ?_) ?_
    · rw [if_pos (by rfl)]
      simp only [List.getElem_toArray, List.getElem_cons_succ, List.getElem_cons_zero]
      go_wp2_with (go_at_call 21; (with_reducible refine (hc11.out _ (hb0.out.trans (hHeld.mono hb0.out.size))).mono ?_); rintro e w11 ⟨⟨A11, c11, rfl, hA11⟩, hb⟩)
      replace hA10 := Lib.hid (hA10.out.keep hb)
      replace hA11 := Lib.hid hA11
      refine hK2.out _ _ (hHeld.trans (hb.mono hHeld.size)) (fun hHeld2 => ?_)
      clear hK2 K hHeld
      have hHeld := hHeld2
      clear hHeld2
      try simp only [Act.put, List.getElem_toArray, List.getElem_cons_succ, List.getElem_cons_zero, List.setIfInBounds_toArray, List.set_cons_zero, List.set_cons_succ]
      clear hb
      refine wpAnyH_ready (rs := [32, 35]) (by kernel_rfl) (by simp) ?_
      refine AllReadyH.cons rfl (fun K hK2 => ?_) ?_
      · rw [if_pos (by rfl)]
        simp only [List.getElem_toArray, List.getElem_cons_succ, List.getElem_cons_zero]
        have hv := hcv.out w11 A10 c10 hA10.out
        go_wp2_with fail
        refine hK2.out _ _ (hHeld) (fun hHeld2 => ?_)
        clear hK2 K hHeld
        have hHeld := hHeld2
        clear hHeld2
        try simp only [Act.put, List.getElem_toArray, List.getElem_cons_succ, List.getElem_cons_zero, List.setIfInBounds_toArray, List.set_cons_zero, List.set_cons_succ]
        clear hv
        refine wpAnyH_ready (rs := [35]) (by kernel_rfl) (by simp) (AllReadyH.cons rfl (fun K hK2 => ?_) AllReadyH.nil)
        rw [if_pos (by rfl)]
        simp only [List.getElem_toArray, List.getElem_cons_succ, List.getElem_cons_zero]
        have hv := hcv.out w11 A11 c11 hA11.out
        go_wp2_with fail
        refine hK2.out _ _ (hHeld) (fun hHeld2 => ?_)
        clear hK2 K hHeld
        have hHeld := hHeld2
        clear hHeld2
        try simp only [Act.put, List.getElem_toArray, List.getElem_cons_succ, List.getElem_cons_zero, List.setIfInBounds_toArray, List.set_cons_zero, List.set_cons_succ]
        clear hv
        refine tkG 36 (.bool true) hHeld ?_
        try simp only [Act.put, List.getElem_toArray, List.getElem_cons_succ, List.getElem_cons_zero, List.setIfInBounds_toArray, List.set_cons_zero, List.set_cons_succ]
        refine tkS 37 (.bool true) hHeld ?_
        try simp only [Act.put, List.getElem_toArray, List.getElem_cons_succ, List.getElem_cons_zero, List.setIfInBounds_toArray, List.set_cons_zero, List.set_cons_succ]
        refine tkS 38 (.bool true) hHeld ?_
        try simp only [Act.put, List.getElem_toArray, List.getElem_cons_succ, List.getElem_cons_zero, List.setIfInBounds_toArray, List.set_cons_zero, List.set_cons_succ]
        refine tkS 39 (.slice ao n cap) hHeld ?_
        try simp only [Act.put, List.getElem_toArray, List.getElem_cons_succ, List.getElem_cons_zero, List.setIfInBounds_toArray, List.set_cons_zero, List.set_cons_succ]
        refine tkS 41 (.slice ao n cap) hHeld ?_
        try simp only [Act.put, List.getElem_toArray, List.getElem_cons_succ, List.getElem_cons_zero, List.setIfInBounds_toArray, List.set_cons_zero, List.set_cons_succ]
        refine wpAnyH_ready (rs := [40]) (by kernel_rfl) (by simp) (AllReadyH.cons rfl (fun K hK2 => ?_) AllReadyH.nil)
        rw [if_pos (by rfl)]
        simp only [List.getElem_toArray, List.getElem_cons_succ, List.getElem_cons_zero]
        go_wp2_with (go_at_call 11; (with_reducible refine (hc12.out _ (hb0.out.trans (hHeld.mono hb0.out.size))).mono ?_); rintro e w12 ⟨⟨v12, rfl, hA12⟩, hb⟩)
        replace hA12 := Lib.hid hA12
        refine hK2.out _ _ (hHeld.trans (hb.mono hHeld.size)) (fun hHeld2 => ?_)
        clear hK2 K hHeld
        have hHeld := hHeld2
        clear hHeld2
        try simp only [Act.put, List.getElem_toArray, List.getElem_cons_succ, List.getElem_cons_zero, List.setIfInBounds_toArray, List.set_cons_zero, List.set_cons_succ]
        clear hb hc12
        refine wpAnyH_ready (rs := [42]) (by kernel_rfl) (by simp) (AllReadyH.cons rfl (fun K hK2 => ?_) AllReadyH.nil)
        rw [if_pos (by rfl)]
        simp only [List.getElem_toArray, List.getElem_cons_succ, List.getElem_cons_zero]
        go_wp2_with (go_at_call 23; (with_reducible refine (hc13.out _ (hb0.out.trans (hHeld.mono hb0.out.size))).mono ?_); rintro e w13 ⟨⟨v13, rfl, hA13⟩, hb⟩)
        replace hA12 := Lib.hid (hA12.out.keep hb)
        replace hA13 := Lib.hid hA13
        refine hK2.out _ _ (hHeld.trans (hb.mono hHeld.size)) (fun hHeld2 => ?_)
        clear hK2 K hHeld
        have hHeld := hHeld2
        clear hHeld2
        try simp only [Act.put, List.getElem_toArray, List.getElem_cons_succ, List.getElem_cons_zero, List.setIfInBounds_toArray, List.set_cons_zero, List.set_cons_succ]
        clear hb hc13
        refine wpAnyH_ready (rs := [43]) (by kernel_rfl) (by simp) (AllReadyH.cons rfl (fun K hK2 => ?_) AllReadyH.nil)
        rw [if_pos (by rfl)]
        simp only [List.getElem_toArray, List.getElem_cons_succ, List.getElem_cons_zero]
        go_wp2_with (go_at_call 22; (with_reducible refine (hc14.out _ _ _ hA12.out hA13.out).mono ?_); rintro e w14 ⟨rfl, q2, rfl⟩)
        refine hK2.out _ _ (by first | exact below_drewN' hHeld _ | exact below_drewN' (Below.refl _ _) _) (fun hHeld2 => ?_)
        clear hK2 K hHeld
        have hHeld := hHeld2
        clear hHeld2
        try simp only [Act.put, List.getElem_toArray, List.getElem_cons_succ, List.getElem_cons_zero, List.setIfInBounds_toArray, List.set_cons_zero, List.set_cons_succ]
        refine tkS 44 (.bool true) hHeld ?_
        try simp only [Act.put, List.getElem_toArray, List.getElem_cons_succ, List.getElem_cons_zero, List.setIfInBounds_toArray, List.set_cons_zero, List.set_cons_succ]
        refine tkS 45 (.bool true) hHeld ?_
        try simp only [Act.put, List.getElem_toArray, List.getElem_cons_succ, List.getElem_cons_zero, List.setIfInBounds_toArray, List.set_cons_zero, List.set_cons_succ]
        refine wpAnyH_done (by kernel_rfl) ?_ _
        go_wp2_with fail
        go_ret
        exact ⟨rfl, hb0.out.trans (hHeld.mono hb0.out.size)⟩
      refine AllReadyH.cons rfl (fun K hK2 => ?_) ?_
      · rw [if_pos (by rfl)]
        simp only [List.getElem_toArray, List.getElem_cons_succ, List.getElem_cons_zero]
        have hv := hcv.out w11 A11 c11 hA11.out
        go_wp2_with fail
        refine hK2.out _ _ (hHeld) (fun hHeld2 => ?_)
        clear hK2 K hHeld
        have hHeld := hHeld2
        clear hHeld2
        try simp only [Act.put, List.getElem_toArray, List.getElem_cons_succ, List.getElem_cons_zero, List.setIfInBounds_toArray, List.set_cons_zero, List.set_cons_succ]
        clear hv
        refine wpAnyH_ready (rs := [32]) (by kernel_rfl) (by simp) (AllReadyH.cons rfl (fun K hK2 => ?_) AllReadyH.nil)
        rw [if_pos (by rfl)]
        simp only [List.getElem_toArray, List.getElem_cons_succ, List.getElem_cons_zero]
        have hv := hcv.out w11 A10 c10 hA10.out
        go_wp2_with fail
        refine hK2.out _ _ (hHeld) (fun hHeld2 => ?_)
        clear hK2 K hHeld
        have hHeld := hHeld2
        clear hHeld2
        try simp only [Act.put, List.getElem_toArray, List.getElem_cons_succ, List.getElem_cons_zero, List.setIfInBounds_toArray, List.set_cons_zero, List.set_cons_succ]
        clear hv
        refine tkG 36 (.bool true) hHeld ?_
        try simp only [Act.put, List.getElem_toArray, List.getElem_cons_succ, List.getElem_cons_zero, List.setIfInBounds_toArray, List.set_cons_zero, List.set_cons_succ]
        refine tkS 37 (.bool true) hHeld ?_
        try simp only [Act.put, List.getElem_toArray, List.getElem_cons_succ, List.getElem_cons_zero, List.setIfInBounds_toArray, List.set_cons_zero, List.set_cons_succ]
        refine tkS 38 (.bool true) hHeld ?_
        try simp only [Act.put, List.getElem_toArray, List.getElem_cons_succ, List.getElem_cons_zero, List.setIfInBounds_toArray, List.set_cons_zero, List.set_cons_succ]
        refine tkS 39 (.slice ao n cap) hHeld ?_
        try simp only [Act.put, List.getElem_toArray, List.getElem_cons_succ, List.getElem_cons_zero, List.setIfInBounds_toArray, List.set_cons_zero, List.set_cons_succ]
        refine tkS 41 (.slice ao n cap) hHeld ?_
        try simp only [Act.put, List.getElem_toArray, List.getElem_cons_succ, List.getElem_cons_zero, List.setIfInBounds_toArray, List.set_cons_zero, List.set_cons_succ]
        refine wpAnyH_ready (rs := [40]) (by kernel_rfl) (by simp) (AllReadyH.cons rfl (fun K hK2 => ?_) AllReadyH.nil)
        rw [if_pos (by rfl)]
        simp only [List.getElem_toArray, List.getElem_cons_succ, List.getElem_cons_zero]
        go_wp2_with (go_at_call 11; (with_reducible refine (hc12.out _ (hb0.out.trans (hHeld.mono hb0.out.size))).mono ?_); rintro e w12 ⟨⟨v12, rfl, hA12⟩, hb⟩)
        replace hA12 := Lib.hid hA12
        refine hK2.out _ _ (hHeld.trans (hb.mono hHeld.size)) (fun hHeld2 => ?_)
        clear hK2 K hHeld
        have hHeld := hHeld2
        clear hHeld2
        try simp only [Act.put, List.getElem_toArray, List.getElem_cons_succ, List.getElem_cons_zero, List.setIfInBounds_toArray, List.set_cons_zero, List.set_cons_succ]
        clear hb hc12
        refine wpAnyH_ready (rs := [42]) (by kernel_rfl) (by simp) (AllReadyH.cons rfl (fun K hK2 => ?_) AllReadyH.nil)
        rw [if_pos (by rfl)]
        simp only [List.getElem_toArray, List.getElem_cons_succ, List.getElem_cons_zero]
        go_wp2_with (go_at_call 23; (with_reducible refine (hc13.out _ (hb0.out.trans (hHeld.mono hb0.out.size))).mono ?_); rintro e w13 ⟨⟨v13, rfl, hA13⟩, hb⟩)
        replace hA12 := Lib.hid (hA12.out.keep hb)
        replace hA13 := Lib.hid hA13
        refine hK2.out _ _ (hHeld.trans (hb.mono hHeld.size)) (fun hHeld2 => ?_)
        clear hK2 K hHeld
        have hHeld := hHeld2
        clear hHeld2
        try simp only [Act.put, List.getElem_toArray, List.getElem_cons_succ, List.getElem_cons_zero, List.setIfInBounds_toArray, List.set_cons_zero, List.set_cons_succ]
        clear hb hc13
        refine wpAnyH_ready (rs := [43]) (by kernel_rfl) (by simp) (AllReadyH.cons rfl (fun K hK2 => ?_) AllReadyH.nil)
        rw [if_pos (by rfl)]
        simp only [List.getElem_toArray, List.getElem_cons_succ, List.getElem_cons_zero]
        go_wp2_with (go_at_call 22; (with_reducible refine (hc14.out _ _ _ hA12.out hA13.out).mono ?_); rintro e w14 ⟨rfl, q2, rfl⟩)
        refine hK2.out _ _ (by first | exact below_drewN' hHeld _ | exact below_drewN' (Below.refl _ _) _) (fun hHeld2 => ?_)
        clear hK2 K hHeld
        have hHeld := hHeld2
        clear hHeld2
        try simp only [Act.put, List.getElem_toArray, List.getElem_cons_succ, List.getElem_cons_zero, List.setIfInBounds_toArray, List.set_cons_zero, List.set_cons_succ]
        refine tkS 44 (.bool true) hHeld ?_
        try simp only [Act.put, List.getElem_toArray, List.getElem_cons_succ, List.getElem_cons_zero, List.setIfInBounds_toArray, List.set_cons_zero, List.set_cons_succ]
        refine tkS 45 (.bool true) hHeld ?_
        try simp only [Act.put, List.getElem_toArray, List.getElem_cons_succ, List.getElem_cons_zero, List.setIfInBounds_toArray, List.set_cons_zero, List.set_cons_succ]
        refine wpAnyH_done (by kernel_rfl) ?_ _
        go_wp2_with fail
        go_ret
        exact ⟨rfl, hb0.out.trans (hHeld.mono hb0.out.size)⟩
      exact AllReadyH.nil
    exact AllReadyH.nil
  · clear h hg hmc hbn hT hrI
    have hb1 := Lib.hid hb0
    clear hb0
    by_cases h60 : n ≤ 60
    · have t60 : decide (60 < (n : Int)) = false := decide_eq_false (by omega)
      have t61 : decide (60 < n) = false := decide_eq_false (by omega)
      have t62 : decide (240 < (m : Int)) = true := decide_eq_true (by omega)
      have t63 : decide (240 < m) = true := decide_eq_true (by omega)
      go_enter Tryz.func4, Tryz.ntmps4
      go_wp2_with (go_at_call 12; (with_reducible refine (hLv.out _ hb1.out).mono ?_); rintro e w0 ⟨rfl, hb⟩)
      go_ret
      exact ⟨rfl, hb1.out.trans (hb.mono hb1.out.size)⟩
    · have t60 : decide (60 < (n : Int)) = true := decide_eq_true (by omega)
      have t61 : decide (60 < n) = true := decide_eq_true (by omega)
      go_enter Tryz.func4, Tryz.ntmps4
      go_wp2_with (go_at_call 12; (with_reducible refine (hLv.out _ hb1.out).mono ?_); rintro e w0 ⟨rfl, hb⟩)
      go_ret
      exact ⟨rfl, hb1.out.trans (hb.mono hb1.out.size)⟩
end
theorem CodeCalls_int (i : InsnV) (a : Int) (ao bo : Option Addr) (n cap m cb : Nat) (F : Nat → BitVec 32) (f : Nat → Int) (w : World) (hlo : -9223372036854775808 ≤ i.op) (hop : i.op ≤ 9223372036854775807) (hw : (Lit.int .u32 a).wf = true) (h : WordsAt w ao n F) (hg : BytesAt w bo m f) (hmc : m ≤ cb) (hbn : bo = none → cb = 0) (ht : Tabs w) (hp : P10 w) (hfl : Flds w) :
    Calls Tryz.prog 4 #[.agg i.cells, .int .u32 a, .slice ao n cap, .slice bo m cb] w fun e w' => e = .returned (.bool true) ∧ Below w.heap.size w w' := by
  have e := un32_of a (u32_bounds hw)
  have := CodeCalls_any i (BitVec.ofInt 32 a) ao bo n cap m cb F f w hlo hop h hg hmc hbn ht hp hfl
  rwa [e] at this
end Go.Proofs.YtdbpnbmaineniaaGreatDoor
