/- The walk of asm.Check. Conditions: the library's table of spaces lies as its initialiser lays it. -/
import Derived.Test.YtcgflnkgekkidaaGreatDoorAsmMy
import Derived.Test.YtcgflnkgekkidaaGreatDoorAsmB
import Derived.Shelf.Abstract
set_option linter.unusedSimpArgs false
set_option linter.unusedVariables false
namespace Go.Proofs.YtcgflnkgekkidaaGreatDoor
open Go.RowKit Go.Maps
theorem callFunc_bodyA {P : Program} {f : FuncId} {fn : Func} (hf : P.funcs[f]? = some fn) (hname : (fn.name == "runtime.NumGoroutine") = false) (hb : fn.body.isNone = false) (args : Array Value) (w : World) :
    Sem.run P (callFunc f args) w = .ok (.enter f args) w := by
  have h1 : fn.name ≠ "runtime.NumGoroutine" := by simpa using hname
  obtain ⟨c, hc⟩ : ∃ c, fn.body = some c := by
    cases h : fn.body with
    | none => rw [h] at hb; simp at hb
    | some c => exact ⟨c, rfl⟩
  simp [callFunc, hf, h1, hc]
/-- Does an item go to its label? -/
def goesV (i : ItemV) : Bool := decide (i.kind = 3) || decide (i.kind = 4)
def standsF (F : Nat → ItemV) : Nat → Int → Int
  | 0 => fun _ => 0
  | k + 1 => fun x => if (F k).kind = 2 ∧ x = (F k).label then 1 else standsF F k x
def checkV (F : Nat → ItemV) (n : Nat) : Int :=
  if 16384 < n then 2
  else if anyB (fun k => !mayV (F k)) n = true then 2
  else if anyB (fun k => decide ((F k).kind = 2) && decide (standsF F k (F k).label ≠ 0)) n = true then 8
  else if anyB (fun k => goesV (F k) && decide (standsF F n (F k).label = 0)) n = true then 6
  else 0
theorem standsF_01 (F : Nat → ItemV) (x : Int) : ∀ k, standsF F k x = 0 ∨ standsF F k x = 1
  | 0 => .inl rfl
  | k + 1 => by unfold standsF; split; exact .inr rfl; exact standsF_01 F x k
set_option maxRecDepth 100000 in
set_option maxHeartbeats 8000000 in
theorem Goes_any (i : ItemV) (w : World) : Calls Tryz.prog 59 #[.agg i.cells] w fun e w' => e = .returned (.bool (goesV i)) ∧ Below w.heap.size w w' := by
  obtain ⟨hI, hb⟩ := ItB.new w i 29
  unfold goesV
  obtain ⟨kind, ⟨op, rd, r1, r2, imm, aq, rl, pred, succ⟩, label, addr⟩ := i
  obtain ⟨c0, c1, c2, c3, c4, c5, c6, c7, c8, c9, c10, c11⟩ := hI.all
  simp only
  clear c1 c2 c3 c4 c5 c6 c7 c8 c9 c10 hI
  by_cases k3 : kind = 3
  · have t3 : (kind == 3) = true := by simpa using k3
    have hk : Hid ((decide (kind = 3) || decide (kind = 4)) = true) := Lib.hid (by simp [k3])
    clear k3
    go_enter Tryz.func59, Tryz.ntmps59
    go_wp2_with fail
    go_ret
    exact ⟨by rw [hk.out]; rfl, hb⟩
  · have t3 : (kind == 3) = false := by simpa using k3
    have hk : Hid ((decide (kind = 3) || decide (kind = 4)) = (kind == 4)) := Lib.hid (by rw [decide_eq_false k3, Bool.false_or]; rfl)
    clear k3
    go_enter Tryz.func59, Tryz.ntmps59
    go_wp2_with fail
    go_ret
    exact ⟨by rw [hk.out]; rfl, hb⟩
set_option maxRecDepth 100000 in
set_option maxHeartbeats 8000000 in
theorem Index_any (g : Nat) (lb : Array Value) (p : Nat → Bool) (eg : ∀ args w, (callFunc g args).run Tryz.prog w = .ok (.enter g args) w) (ao : Option Addr) (n cap : Nat) (F : Nat → ItemV) (w : World) (hI : ItemsAt w ao n F) (hn : n ≤ 16384)
    (hp : ∀ W k, k < n → Below w.heap.size w W → Calls Tryz.prog g (#[.agg (F k).cells] ++ lb) W fun e w' => e = .returned (.bool (p k)) ∧ Below W.heap.size W w') :
    Calls Tryz.prog 91 #[.slice ao n cap, .func (.func g) #[] lb] w fun e w' => (∃ r : Int, e = .returned (.int .i64 r) ∧ decide (0 ≤ r) = anyB p n) ∧ Below w.heap.size w w' := by
  replace hp := Lib.hid hp
  replace hI := Lib.hid hI
  go_enter Tryz.func91, Tryz.ntmps91
  go_wp2_with fail
  go_loopg [5, 8] n (fun gg _ s8 wr => ∃ k : Nat, k ≤ n ∧ gg = n - k ∧ s8 = .int .i64 k ∧ Below w.heap.size w wr ∧ Hid (∀ j, j < k → p j = false))
  case atStart => exact ⟨0, Nat.zero_le _, rfl, rfl, Below.refl _ _, Lib.hid fun j hj => absurd hj (Nat.not_lt_zero _)⟩
  case round =>
    obtain ⟨k, hk, rfl, rfl, hb, hno⟩ := hrel
    by_cases hlt : k < n
    · obtain ⟨ib, io, rfl, hib, hcc⟩ := hI.out (by omega)
      have hR0 := Lib.hid (item_range (w := wr) (b := ib) (o := io + k * 12) (i := F k) fun j v hv => by rw [hb.cell (p := ⟨ib, io + k * 12 + j, none⟩) hib]; exact hcc k hlt j v hv)
      have hcl := Lib.hid (hp.out wr k hlt hb)
      have hk1 : (0 : Int) ≤ (k : Int) := by omega
      have hk2 : (k : Int) < (n : Int) := by omega
      have hsz : Hid ((Tryz.prog.info? 29).map (·.size) = some (F k).cells.toList.length) := Lib.hid (by rw [show (F k).cells.toList.length = 12 from rfl]; kernel_rfl)
      generalize (F k).cells = cs at hR0 hcl hsz
      clear hcc
      cases hpk : p k with
      | true =>
        rw [hpk] at hcl
        go_wp2_with (first | (refine wpList_load_mid rfl 29 _ rfl ib (io + k * 12) rfl _ _ hR0.out Tryz.underlying29 rfl hsz.out ?_) | (go_at_fn g; refine hcl.out.mono ?_; rintro e w' ⟨rfl, hb'⟩))
        go_ret
        exact ⟨⟨_, rfl, by rw [anyB_true hlt hpk]; exact decide_eq_true hk1⟩, hb.trans (hb'.mono hb.size)⟩
      | false =>
        rw [hpk] at hcl
        go_wp2_with (first | (refine wpList_load_mid rfl 29 _ rfl ib (io + k * 12) rfl _ _ hR0.out Tryz.underlying29 rfl hsz.out ?_) | (go_at_fn g; refine hcl.out.mono ?_; rintro e w' ⟨rfl, hb'⟩))
        go_roundg (n - (k + 1))
        case measure => omega
        case rel =>
          refine ⟨k + 1, by omega, rfl, by go_num, hb.trans (hb'.mono hb.size), Lib.hid fun j hj => ?_⟩
          rcases Nat.lt_or_ge j k with h | h
          · exact hno.out j h
          · obtain rfl : j = k := by omega
            exact hpk
    · obtain rfl : k = n := by omega
      go_wp2_with fail
      go_ret
      exact ⟨⟨_, rfl, by rw [anyB_false hno.out]; rfl⟩, hb⟩
set_option maxRecDepth 100000 in
set_option maxHeartbeats 8000000 in
theorem Contains_any (g : Nat) (lb : Array Value) (p : Nat → Bool) (eg : ∀ args w, (callFunc g args).run Tryz.prog w = .ok (.enter g args) w) (ao : Option Addr) (n cap : Nat) (F : Nat → ItemV) (w : World) (hI : ItemsAt w ao n F) (hn : n ≤ 16384)
    (hp : ∀ W k, k < n → Below w.heap.size w W → Calls Tryz.prog g (#[.agg (F k).cells] ++ lb) W fun e w' => e = .returned (.bool (p k)) ∧ Below W.heap.size W w') :
    Calls Tryz.prog 56 #[.slice ao n cap, .func (.func g) #[] lb] w fun e w' => e = .returned (.bool (anyB p n)) ∧ Below w.heap.size w w' := by
  have hX := Lib.hid (Index_any g lb p eg ao n cap F w hI hn hp)
  clear hp hI eg
  generalize anyB p n = B at hX ⊢
  go_enter Tryz.func56, Tryz.ntmps56
  go_wp2_with (go_at_call 91; (with_reducible refine hX.out.mono ?_); rintro e w' ⟨⟨r, rfl, hr⟩, hb'⟩; have hr2 : decide (r ≥ 0) = B := hr)
  go_ret
  exact ⟨rfl, hb'⟩
set_option maxRecDepth 100000 in
set_option maxHeartbeats 8000000 in
theorem Check1_any (i : ItemV) (hop : i.insn.op ≤ 9223372036854775807) (w : World) (ht : Tabs w) : Calls Tryz.prog 57 #[.agg i.cells] w fun e w' => e = .returned (.bool (!mayV i)) ∧ Below w.heap.size w w' := by
  obtain ⟨hI, hb⟩ := ItB.new w i 29
  have hM : Hid (∀ W, Below w.heap.size w W → Calls Tryz.prog 54 #[.agg i.cells] W fun e w' => e = .returned (.bool (mayV i)) ∧ Below W.heap.size W w') := Lib.hid fun W hW => may_any i hop W (ht.later hW (Nat.le_refl _))
  have hR : Hid ((w.alloc (.cells i.cells 29)).rangeAt w.heap.size 0 i.cells.toList) := Lib.hid fun j v hv => by rw [Nat.zero_add]; exact hI.c j v (by simpa using hv)
  have hsz : Hid ((Tryz.prog.info? 29).map (·.size) = some i.cells.toList.length) := Lib.hid (by rw [show i.cells.toList.length = 12 from rfl]; kernel_rfl)
  clear hI ht
  generalize mayV i = B at hM ⊢
  generalize i.cells = cs at *
  go_enter Tryz.func57, Tryz.ntmps57
  go_wp2_with (first | (refine wpList_load_mid rfl 29 _ rfl w.heap.size 0 rfl _ _ hR.out Tryz.underlying29 rfl hsz.out ?_) | (go_at_call 54; (with_reducible refine (hM.out _ hb).mono ?_); rintro e w' ⟨rfl, hb'⟩))
  go_ret
  exact ⟨rfl, hb.trans (hb'.mono hb.size)⟩
/-- Where the labels that stand are kept. -/
structure SK (ms bm c : Nat) (m : Int → Int) (W : World) : Prop where
  cl : W.cell? ⟨ms, 0, none⟩ = some (.map (some bm))
  vm : MapAt 98 W bm c m
  lt : ms < W.heap.size
theorem SK.keep {ms bm c : Nat} {m : Int → Int} {W W' : World} (h : SK ms bm c m W) (hb : Below W.heap.size W W') : SK ms bm c m W' :=
  ⟨by rw [hb.cell (p := ⟨ms, 0, none⟩) h.lt]; exact h.cl, h.vm.keep hb, Nat.lt_of_lt_of_le h.lt hb.size⟩
set_option maxRecDepth 100000 in
set_option maxHeartbeats 8000000 in
theorem Check2_any (i : ItemV) (ms bm c : Nat) (m : Int → Int) (w : World) (hC : SK ms bm c m w) (hwl : (Lit.int .i64 i.label).wf = true) : Calls Tryz.prog 58 #[.agg i.cells, .pointer (some ⟨ms, 0, none⟩)] w fun e w' => e = .returned (.bool (goesV i && decide (m i.label = 0))) ∧ Below w.heap.size w w' := by
  obtain ⟨hI, hb⟩ := ItB.new w i 29
  have hC1 := hC.keep hb
  have hG : Hid (∀ W, Calls Tryz.prog 59 #[.agg i.cells] W fun e w' => e = .returned (.bool (goesV i)) ∧ Below W.heap.size W w') := Lib.hid fun W => Goes_any i W
  have hR : Hid ((w.alloc (.cells i.cells 29)).rangeAt w.heap.size 0 i.cells.toList) := Lib.hid fun j v hv => by rw [Nat.zero_add]; exact hI.c j v (by simpa using hv)
  have hsz : Hid ((Tryz.prog.info? 29).map (·.size) = some i.cells.toList.length) := Lib.hid (by rw [show i.cells.toList.length = 12 from rfl]; kernel_rfl)
  have c10 : Hid ((w.alloc (.cells i.cells 29)).cell? ⟨w.heap.size, 10, none⟩ = some (.int .i64 i.label)) := Lib.hid (hI.c 10 _ rfl)
  have hlt := hI.lt
  clear hI hC
  replace hC1 := Lib.hid hC1
  obtain ⟨gv, hgv⟩ : ∃ x, goesV i = x := ⟨_, rfl⟩
  rw [hgv] at hG ⊢
  clear hgv
  generalize i.label = label at *
  generalize i.cells = cs at *
  cases gv with
  | false =>
    go_enter Tryz.func58, Tryz.ntmps58
    go_wp2_with (first | (refine wpList_load_mid rfl 29 _ rfl w.heap.size 0 rfl _ _ hR.out Tryz.underlying29 rfl hsz.out ?_) | (go_at_call 59; (with_reducible refine (hG.out _).mono ?_); rintro e w' ⟨rfl, hb'⟩))
    go_ret
    exact ⟨rfl, hb.trans (hb'.mono hb.size)⟩
  | true =>
    obtain ⟨d, hd⟩ : ∃ d, decide (m label = 0) = d := ⟨_, rfl⟩
    have hd2 : (m label == 0) = d := by rw [← hd]; rfl
    rw [hd]
    go_enter Tryz.func58, Tryz.ntmps58
    go_wp2_with (first | (refine wpList_load_mid rfl 29 _ rfl w.heap.size 0 rfl _ _ hR.out Tryz.underlying29 rfl hsz.out ?_) | (go_at_call 59; (with_reducible refine (hG.out _).mono ?_); rintro e w' ⟨rfl, hb'⟩; have hC2 := hC1.out.keep hb'; have k1 := hC2.cl; have k2 := hb'.cell (p := ⟨w.heap.size, 10, none⟩) hlt; rw [c10.out] at k2) | (refine wpList_lookM _ (by first | rfl | kernel_rfl) _ _ 77 98 rfl label_keyed Tryz.underlying77 Tryz.underlying98 bm c m rfl hC2.vm label rfl hwl ?_))
    go_ret
    exact ⟨rfl, hb.trans (hb'.mono hb.size)⟩
set_option maxRecDepth 100000 in
set_option maxHeartbeats 8000000 in
/-- Which items may be laid. -/
theorem ACheck_any (ao : Option Addr) (n cap : Nat) (F : Nat → ItemV) (w : World) (hI : ItemsAt w ao n F) (hF : FitF F n) (ht : Tabs w) :
    Calls Tryz.prog 28 #[.slice ao n cap] w fun e w' => e = .returned (.int .i64 (checkV F n)) ∧ Below w.heap.size w w' := by
  have hmm := @run_makeMap Tryz.prog
  by_cases hbig : 16384 < n
  · have hz : Hid (checkV F n = 2) := Lib.hid (by unfold checkV; rw [if_pos hbig])
    have h1 : decide ((n : Int) > 16384) = true := decide_eq_true (by omega)
    have h2 : (16384 : Int) < (n : Int) := by omega
    clear hmm
    go_enter Tryz.func28, Tryz.ntmps28
    go_wp2_with fail
    go_ret
    exact ⟨by rw [hz.out]; rfl, Below.refl _ _⟩
  have h1 : decide ((n : Int) > 16384) = false := decide_eq_false (by omega)
  have h2 : ¬ (16384 : Int) < (n : Int) := by omega
  have hn : n ≤ 16384 := by omega
  have e57 : Hid (∀ args w, (callFunc 57 args).run Tryz.prog w = .ok (.enter 57 args) w) := Lib.hid fun args w => callFunc_bodyA Tryz.func57 (by kernel_rfl) (by kernel_rfl) args w
  have e58 : Hid (∀ args w, (callFunc 58 args).run Tryz.prog w = .ok (.enter 58 args) w) := Lib.hid fun args w => callFunc_bodyA Tryz.func58 (by kernel_rfl) (by kernel_rfl) args w
  have hA1 : Hid (∀ W, Below w.heap.size w W → Calls Tryz.prog 56 #[.slice ao n cap, .func (.func 57) #[] #[]] W fun e w' => e = .returned (.bool (anyB (fun k => !mayV (F k)) n)) ∧ Below W.heap.size W w') := Lib.hid fun W hW =>
    Contains_any 57 #[] (fun k => !mayV (F k)) e57.out ao n cap F W (hI.keep hW) hn fun V k hk hV => Check1_any (F k) (hF k hk).1 V (ht.later (hW.trans (hV.mono hW.size)) (Nat.le_refl _))
  have hA2 : Hid (∀ W ms bm c m, Below w.heap.size w W → SK ms bm c m W → Calls Tryz.prog 56 #[.slice ao n cap, .func (.func 58) #[] #[.pointer (some ⟨ms, 0, none⟩)]] W fun e w' => e = .returned (.bool (anyB (fun k => goesV (F k) && decide (m (F k).label = 0)) n)) ∧ Below W.heap.size W w') := Lib.hid fun W ms bm c m hW hC =>
    Contains_any 58 #[.pointer (some ⟨ms, 0, none⟩)] (fun k => goesV (F k) && decide (m (F k).label = 0)) e58.out ao n cap F W (hI.keep hW) hn fun V k hk hV => Check2_any (F k) ms bm c m V (hC.keep hV) (hF k hk).2
  clear e57 e58 ht
  replace hI := Lib.hid hI
  replace hF := Lib.hid hF
  obtain ⟨q1, hq1⟩ : ∃ x, anyB (fun k => !mayV (F k)) n = x := ⟨_, rfl⟩
  rw [hq1] at hA1
  cases q1 with
  | true =>
    have hz : Hid (checkV F n = 2) := Lib.hid (by unfold checkV; rw [if_neg hbig, if_pos hq1])
    clear hmm hA2 hq1
    go_enter Tryz.func28, Tryz.ntmps28
    go_wp2_with (go_at_call 56; (with_reducible refine (hA1.out _ (Below.refl _ _)).mono ?_); rintro e w1 ⟨rfl, hb1⟩)
    go_ret
    exact ⟨by rw [hz.out]; rfl, hb1⟩
  | false =>
    have hz : Hid (checkV F n = if anyB (fun k => decide ((F k).kind = 2) && decide (standsF F k (F k).label ≠ 0)) n = true then 8 else if anyB (fun k => goesV (F k) && decide (standsF F n (F k).label = 0)) n = true then 6 else 0) := Lib.hid (by unfold checkV; rw [if_neg hbig, if_neg (by rw [hq1]; decide)])
    clear hq1 hbig
    go_enter Tryz.func28, Tryz.ntmps28
    go_upto_region 3 with (go_at_call 56; (with_reducible refine (hA1.out _ (Below.refl _ _)).mono ?_); rintro e w1 ⟨rfl, hb1⟩)
    go_upto_region 4 with fail
    have hS0 : SK (w1.heap.size + 1) w1.heap.size 0 (fun _ => 0) ((w1.alloc (.map #[] 0)).alloc (.cells #[.map (some w1.heap.size)] 77)) := by
      have e : (w1.alloc (.map #[] 0)).heap.size = w1.heap.size + 1 := by simp
      refine ⟨?_, (MapAt.made _ w1).keep ((Below.refl _ _).alloc (Nat.le_refl _) _), by simp⟩
      rw [← e]; exact World.cell?_alloc_new _ _ _ 0
    have hb2 : Below w.heap.size w ((w1.alloc (.map #[] 0)).alloc (.cells #[.map (some w1.heap.size)] 77)) := (hb1.alloc hb1.size _).alloc (by have := hb1.size; simp; omega) _
    have hne : w1.heap.size + 1 ≠ w1.heap.size := by omega
    have hge := hb1.size
    clear hb1 hmm hA1
    generalize (w1.alloc (.map #[] 0)).alloc _ = w2 at hS0 hb2 ⊢
    generalize w1.heap.size + 1 = ms at hS0 hne ⊢
    generalize w1.heap.size = bm at hS0 hne hge ⊢
    go_wp2_with fail
    go_loopw [5, 16] (fun _ s16 wr => ∃ k : Nat, k ≤ n ∧ s16 = .int .i64 k ∧ SK ms bm k (standsF F k) wr ∧ Below w.heap.size w wr ∧ Hid (∀ j, j < k → (decide ((F j).kind = 2) && decide (standsF F j (F j).label ≠ 0)) = false)) (fun _ s16 _ => n - (intOf s16).toNat)
    case atStart => exact ⟨0, Nat.zero_le _, rfl, hS0, hb2, Lib.hid fun j hj => absurd hj (Nat.not_lt_zero _)⟩
    case round =>
      obtain ⟨k, hk, rfl, hS, hb, hno⟩ := hrel
      clear hS0 hb2
      by_cases hlt : k < n
      · obtain ⟨ib, io, rfl, hib, hcc⟩ := hI.out (by omega)
        have hR0 := Lib.hid (item_range (w := wr) (b := ib) (o := io + k * 12) (i := F k) fun j v hv => by rw [hb.cell (p := ⟨ib, io + k * 12 + j, none⟩) hib]; exact hcc k hlt j v hv)
        have hwl := (hF.out k hlt).2
        have hno1 : Hid ((decide ((F k).kind = 2) && decide (standsF F k (F k).label ≠ 0)) = false → ∀ j, j < k + 1 → (decide ((F j).kind = 2) && decide (standsF F j (F j).label ≠ 0)) = false) := Lib.hid fun h j hj => by
          rcases Nat.lt_or_ge j k with h2 | h2
          · exact hno.out j h2
          · obtain rfl : j = k := by omega
            exact h
        have hyes : Hid ((decide ((F k).kind = 2) && decide (standsF F k (F k).label ≠ 0)) = true → checkV F n = 8) := Lib.hid fun h => by rw [hz.out, if_pos (anyB_true (p := fun k => decide ((F k).kind = 2) && decide (standsF F k (F k).label ≠ 0)) hlt h)]
        have hst : Hid (standsF F (k + 1) = fun x => if (F k).kind = 2 ∧ x = (F k).label then 1 else standsF F k x) := Lib.hid rfl
        have h01 := standsF_01 F (F k).label k
        clear hcc
        generalize F k = it at hR0 hwl hno1 hyes hst h01
        obtain ⟨kind, insn, label, addr⟩ := it
        simp only at hwl hno1 hyes hst h01
        have hk1 : (0 : Int) ≤ (k : Int) := by omega
        have hk2 : (k : Int) < (n : Int) := by omega
        have hk3 : decide ((k : Int) < (n : Int)) = true := decide_eq_true hk2
        have hpt := Lib.hid (ItB.put wr ⟨kind, insn, label, addr⟩ #[.int .i64 0, .int .i64 0, .int .i64 0, .int .i64 0, .int .i64 0, .int .i64 0, .bool false, .bool false, .int .i64 0, .int .i64 0, .int .i64 0, .int .u64 0] rfl 29)
        have hth := Lib.hid (fresh12 wr #[.int .i64 0, .int .i64 0, .int .i64 0, .int .i64 0, .int .i64 0, .int .i64 0, .bool false, .bool false, .int .i64 0, .int .i64 0, .int .i64 0, .int .u64 0] rfl 29)
        have hon := Lib.hid (ItemV.one ⟨kind, insn, label, addr⟩)
        go_upto_region 7 with (first | (refine wpList_load_mid rfl 29 _ rfl ib (io + k * 12) rfl _ _ hR0.out Tryz.underlying29 rfl (by kernel_rfl) ?_) | (refine wpList_store_mid rfl 29 _ _ rfl wr.heap.size 0 (ItemV.cells ⟨kind, insn, label, addr⟩) rfl rfl (fun j hj => hth.out j hj) (by kernel_rfl) hon.out ?_))
        replace hpt := hpt.out
        clear hth hon hR0
        generalize World.setCells _ wr.heap.size 0 _ = w4 at hpt ⊢
        obtain ⟨hbx, hb1⟩ := hpt
        have hnm : wr.heap.size ≠ bm := Nat.ne_of_gt hS.vm.lt
        replace hb := hb.trans (hb1.mono hb.size)
        replace hS := hS.keep hb1
        clear hb1
        generalize wr.heap.size = bx at hbx hnm ⊢
        have k0 : w4.cell? ⟨bx, 0, none⟩ = some (.int .i64 kind) := hbx.c 0 _ rfl
        have k10 : w4.cell? ⟨bx, 10, none⟩ = some (.int .i64 label) := hbx.c 10 _ rfl
        have kc := hS.cl
        clear hbx
        by_cases h2 : kind = 2
        · subst h2
          replace hS := Lib.hid hS
          rcases h01 with h0 | h0
          · replace hno1 := Lib.hid (hno1.out (by simp [h0]))
            clear hyes
            go_wp2_with (first | (refine wpList_lookM _ (by first | rfl | kernel_rfl) _ _ 77 98 rfl label_keyed Tryz.underlying77 Tryz.underlying98 bm k _ rfl hS.out.vm label rfl hwl ?_; rw [h0]) | (at_mapUpdate; refine wpList_setM _ rfl _ _ _ 77 98 rfl label_keyed Tryz.underlying77 Tryz.underlying98 bm k _ rfl hS.out.vm (by unfold maxLen; omega) label 1 rfl rfl hwl rfl ?_; intro w5 hM5 hg5))
            go_roundw
            case rel => exact ⟨k + 1, by omega, by go_num, ⟨hg5.cell kc (fun e => hne (by injection e)), by rw [hst.out]; simpa using hM5, Nat.lt_of_lt_of_le hS.out.lt hg5.size⟩, hb.grown hg5 hb.size (fun j hj => by injection hj with hj; rw [← hj]; exact hge), Lib.hid hno1.out⟩
            case measure => simp [intOf]; omega
          · replace hyes := Lib.hid (hyes.out (by simp [h0]))
            clear hno1
            go_wp2_with (refine wpList_lookM _ (by first | rfl | kernel_rfl) _ _ 77 98 rfl label_keyed Tryz.underlying77 Tryz.underlying98 bm k _ rfl hS.out.vm label rfl hwl ?_; rw [h0])
            go_ret
            exact ⟨by rw [hyes.out]; rfl, hb⟩
        · have t2 : (kind != 2) = true := by simpa using h2
          replace hno1 := Lib.hid (hno1.out (by simp [h2]))
          replace hst : Hid (standsF F (k + 1) = standsF F k) := Lib.hid (by rw [hst.out]; funext x; rw [if_neg (fun hh => h2 hh.1)])
          clear hyes h2 h01
          replace hS := Lib.hid hS
          go_wp2_with fail
          go_roundw
          case rel => exact ⟨k + 1, by omega, by go_num, by rw [hst.out]; exact ⟨hS.out.cl, hS.out.vm.mono (by omega), hS.out.lt⟩, hb, Lib.hid hno1.out⟩
          case measure => simp [intOf]; omega
      · obtain rfl : k = n := by omega
        have hq := Lib.hid (hA2.out wr ms bm k (standsF F k) hb hS)
        replace hz : Hid (checkV F k = if anyB (fun j => goesV (F j) && decide (standsF F k (F j).label = 0)) k = true then 6 else 0) := Lib.hid (by rw [hz.out, if_neg (by rw [anyB_false hno.out]; decide)])
        clear hA2 hno
        generalize anyB (fun j => goesV (F j) && decide (standsF F k (F j).label = 0)) k = B at hq hz
        cases B with
        | true =>
          go_wp2_with (go_at_call 56; (with_reducible refine hq.out.mono ?_); rintro e w5 ⟨rfl, hb5⟩)
          go_ret
          exact ⟨by rw [hz.out]; rfl, hb.trans (hb5.mono hb.size)⟩
        | false =>
          go_wp2_with (go_at_call 56; (with_reducible refine hq.out.mono ?_); rintro e w5 ⟨rfl, hb5⟩)
          go_ret
          exact ⟨by rw [hz.out]; rfl, hb.trans (hb5.mono hb.size)⟩
end Go.Proofs.YtcgflnkgekkidaaGreatDoor
