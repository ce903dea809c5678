/- The walk of the law HartScript. Conditions: the library's table of ASCII spaces lies as its initialiser lays it. -/
import Derived.Test.YtbglinhglnbfmaaGreatDoorHartSB
import Derived.Test.YtbglinhglnbfmaaGreatDoorHartOp
import Derived.Deep.DeepCutAuto
import Derived.Deep.LoopGhost
set_option linter.unusedVariables false
namespace Go.Proofs.YtbglinhglnbfmaaGreatDoor
open Go.RowKit
theorem boxed_hart (w : World) (h : HartV) (t : TypeId) : HC w.heap.size h (w.alloc (.cells (hartArr h) t)) ∧ (w.alloc (.cells (hartArr h) t)).there w.heap.size 0 35 ∧ Below w.heap.size w (w.alloc (.cells (hartArr h) t)) ∧ w.heap.size < (w.alloc (.cells (hartArr h) t)).heap.size :=
  ⟨fun j hj => by rw [World.cell?_alloc_new, hartArr_at h j hj], there_fresh w (hartArr h) t 35 (by rw [hartArr_size]; exact Nat.le_refl 35), (Below.refl _ _).alloc (Nat.le_refl _) _, by simp⟩
/-- An operation that only yields, in its place. -/
theorem wpList_yieldsS {P : Program} {ops : Array Oper} {rest : List Oper} {op : Oper} {a : Act} {w : World} {Q : Exit → Act → World → Prop} {S : World → Prop} {v : Value} (hy : YieldsIf P ops S op v a) (hS : S w) (h : wpList P ops Q rest (a.put op.dst v) w) : wpList P ops Q (op :: rest) a w :=
  wpList_step fun K hK => by
    rcases hy with ⟨hw, hv⟩ | ⟨hw, rfl⟩
    · rw [if_pos hw]; unfold Oper.wp; simp only [hv w hS, Oper.upon]; exact hK _ _ h
    · rw [if_neg (by simp [hw])]; exact hK _ _ h
theorem yieldsIf_neq_hart {ops : Array Oper} {S : World → Prop} {op : Oper} {a : Act} (hw : Region.wanted op (yielded ops a.tmps) = true) (x y : Operand) (t : TypeId) (ho : op.op = .binOp .neq 25 x y t) (A : Array Value)
    (hx : a.eval x = .agg A) (hy : a.eval y = .agg A) (hq : ∀ w, (binOp .neq 25 (.agg A) (.agg A)).run Tryz.prog w = .ok (.bool false) w) : YieldsIf Tryz.prog ops S op (.bool false) a :=
  .inl ⟨hw, fun w _ => by
    unfold execOp
    simp only [ho, hx, hy, Sem.run_bind, run_eqGuard_agg w .neq 25 x y A A Tryz.eqGuardType25, hq, Result.andThen_ok, Sem.run_pure]⟩
theorem HAsk_off (h : HartV) (i : InsnV) (w : World) (ht : Tabs w) (hop : i.op ≤ 9223372036854775807) (e0 : Int) (he : mayE h i = e0) (hne : e0 ≠ 0) :
    Calls Tryz.prog 14 #[.agg (hartArr h), .agg i.cells] w fun e w' => e = .returned (.tuple #[.agg noAsk.cells, .int .i64 e0]) ∧ Below w.heap.size w w' := by
  obtain ⟨op, rd, r1, r2, imm, aq, rl, pred, succ⟩ := i
  exact HAsk_no h op rd r1 r2 imm aq rl pred succ w ht hop e0 he hne
theorem stepR_ok (h : HartV) (i : InsnV) (fv : BitVec 64) (wv : Bool) (hm : mayE h i = 0) : hartE (stepR h i fv wv) = 0 ∧ checkE i = 0 := by
  obtain ⟨h1, h2, h3⟩ := mayE_0 h i hm
  have hok : checkOk i = true := by
    unfold checkE at h3
    cases hk : checkOk i with
    | true => rfl
    | false => rw [hk] at h3; cases h3
  unfold stepR
  rw [if_pos hm]
  exact ⟨stepV_ok fv wv h1 h2 (checkOk_regs i hok).1, h3⟩
theorem mayE_end (h : HartV) (i : InsnV) (hb : hartE h = 0) (hf : h.fin ≠ 0) : mayE h i = 10 := by
  unfold mayE
  rw [if_neg (fun e => e hb), if_pos hf]
theorem mayE_bad (h : HartV) (i : InsnV) (hb : hartE h = 2) : mayE h i = 2 := by
  unfold mayE
  rw [if_pos (by rw [hb]; decide)]
attribute [local go_sem] wrap_u64_bv bv_un bv_sn bv_add bv_mul bv_neg bv_sub mul_bvpow shr_min shl_min sshr_min bv_lit bv_0 bv_1 un_shr sn_shr wrap_i64_un bits_u64_and bits_u64_or bits_u64_xor bits_u64_andNot bv_max u64_unsigned
section
attribute [local irreducible] un sn hartL AskV.cells
set_option maxRecDepth 100000 in
set_option maxHeartbeats 16000000 in
theorem Script_far1 (h : HartV) (ao fo bo : Option Addr) (n cap nf capf nb capb : Nat) (L : Nat → InsnV) (F : Nat → BitVec 64) (G : Nat → Bool) (w : World) (ht : Tabs w) (hn : 60 < n) :
    Calls Tryz.prog 5 #[.agg (hartArr h), .slice ao n cap, .slice fo nf capf, .slice bo nb capb] w fun e w' => e = .returned (.bool true) ∧ Below w.heap.size w w' := by
  have hund : ∀ b : Bool, (some undef = some (Value.bool b)) = False := fun b => by simp [undef]
  have hu := Tryz.underlying25
  have hu2 := Tryz.underlying27
  have d1 : decide (60 < (n : Int)) = true := by simp; omega
  have d2 : decide (60 < n) = true := by simp; omega
  have hn2 : (60 : Int) < (n : Int) := by omega
  obtain ⟨hH, hth, hbl0, hlt0⟩ := boxed_hart w h 25
  go_enter Tryz.func5, Tryz.ntmps5
  go_wp2_with (first | (go_at_call 6; refine (lives_any _ (ht.later hbl0 (Nat.le_refl _))).mono ?_; rintro e w1 ⟨rfl, hb1⟩; replace hH := hH.keep hlt0 hb1; replace hth := there_keep hth hlt0 hb1; replace hbl0 := hbl0.trans (hb1.mono hbl0.size); replace hlt0 := Nat.lt_of_lt_of_le hlt0 hb1.size; clear hb1))
  go_ret
  exact ⟨rfl, hbl0⟩
set_option maxRecDepth 100000 in
set_option maxHeartbeats 16000000 in
theorem Script_far2 (h : HartV) (ao fo bo : Option Addr) (n cap nf capf nb capb : Nat) (L : Nat → InsnV) (F : Nat → BitVec 64) (G : Nat → Bool) (w : World) (ht : Tabs w) (hn : n ≤ 60) (hf : 60 < nf) :
    Calls Tryz.prog 5 #[.agg (hartArr h), .slice ao n cap, .slice fo nf capf, .slice bo nb capb] w fun e w' => e = .returned (.bool true) ∧ Below w.heap.size w w' := by
  have hund : ∀ b : Bool, (some undef = some (Value.bool b)) = False := fun b => by simp [undef]
  have hu := Tryz.underlying25
  have hu2 := Tryz.underlying27
  have d1 : decide (60 < (n : Int)) = false := by simp; omega
  have d2 : decide (60 < n) = false := by simp; omega
  have f1 : decide (60 < (nf : Int)) = true := by simp; omega
  have f2 : decide (60 < nf) = true := by simp; omega
  have hn2 : ¬ (60 : Int) < (n : Int) := by omega
  have hf2 : (60 : Int) < (nf : Int) := by omega
  obtain ⟨hH, hth, hbl0, hlt0⟩ := boxed_hart w h 25
  go_enter Tryz.func5, Tryz.ntmps5
  go_wp2_with (first | (go_at_call 6; refine (lives_any _ (ht.later hbl0 (Nat.le_refl _))).mono ?_; rintro e w1 ⟨rfl, hb1⟩; replace hH := hH.keep hlt0 hb1; replace hth := there_keep hth hlt0 hb1; replace hbl0 := hbl0.trans (hb1.mono hbl0.size); replace hlt0 := Nat.lt_of_lt_of_le hlt0 hb1.size; clear hb1))
  go_ret
  exact ⟨rfl, hbl0⟩
set_option maxRecDepth 100000 in
set_option maxHeartbeats 16000000 in
theorem Script_far3 (h : HartV) (ao fo bo : Option Addr) (n cap nf capf nb capb : Nat) (L : Nat → InsnV) (F : Nat → BitVec 64) (G : Nat → Bool) (w : World) (ht : Tabs w) (hn : n ≤ 60) (hf : nf ≤ 60) (hb : 60 < nb) :
    Calls Tryz.prog 5 #[.agg (hartArr h), .slice ao n cap, .slice fo nf capf, .slice bo nb capb] w fun e w' => e = .returned (.bool true) ∧ Below w.heap.size w w' := by
  have hund : ∀ b : Bool, (some undef = some (Value.bool b)) = False := fun b => by simp [undef]
  have hu := Tryz.underlying25
  have hu2 := Tryz.underlying27
  have d1 : decide (60 < (n : Int)) = false := by simp; omega
  have d2 : decide (60 < n) = false := by simp; omega
  have f1 : decide (60 < (nf : Int)) = false := by simp; omega
  have f2 : decide (60 < nf) = false := by simp; omega
  have b1 : decide (60 < (nb : Int)) = true := by simp; omega
  have b2 : decide (60 < nb) = true := by simp; omega
  have hn2 : ¬ (60 : Int) < (n : Int) := by omega
  have hf2 : ¬ (60 : Int) < (nf : Int) := by omega
  have hb2 : (60 : Int) < (nb : Int) := by omega
  obtain ⟨hH, hth, hbl0, hlt0⟩ := boxed_hart w h 25
  go_enter Tryz.func5, Tryz.ntmps5
  go_wp2_with (first | (go_at_call 6; refine (lives_any _ (ht.later hbl0 (Nat.le_refl _))).mono ?_; rintro e w1 ⟨rfl, hb1⟩; replace hH := hH.keep hlt0 hb1; replace hth := there_keep hth hlt0 hb1; replace hbl0 := hbl0.trans (hb1.mono hbl0.size); replace hlt0 := Nat.lt_of_lt_of_le hlt0 hb1.size; clear hb1))
  go_ret
  exact ⟨rfl, hbl0⟩
set_option maxRecDepth 100000 in
set_option maxHeartbeats 16000000 in
theorem Script_go (h : HartV) (ao fo bo : Option Addr) (n cap nf capf nb capb : Nat) (L : Nat → InsnV) (F : Nat → BitVec 64) (G : Nat → Bool) (w : World) (ht : Tabs w) (hn : n ≤ 60) (hf : nf ≤ 60) (hb : nb ≤ 60) (hop : ∀ k, (L k).op ≤ 9223372036854775807) (hL : InsnsAt w ao n L) (hNf : NumsAt w fo nf F) (hNb : BoolsAt w bo nb G) :
    Calls Tryz.prog 5 #[.agg (hartArr h), .slice ao n cap, .slice fo nf capf, .slice bo nb capb] w fun e w' => e = .returned (.bool true) ∧ Below w.heap.size w w' := by
  have hund : ∀ b : Bool, (some undef = some (Value.bool b)) = False := fun b => by simp [undef]
  have hu := Tryz.underlying25
  have hu2 := Tryz.underlying27
  have d1 : decide (60 < (n : Int)) = false := by simp; omega
  have d2 : decide (60 < n) = false := by simp; omega
  have f1 : decide (60 < (nf : Int)) = false := by simp; omega
  have f2 : decide (60 < nf) = false := by simp; omega
  have b1 : decide (60 < (nb : Int)) = false := by simp; omega
  have b2 : decide (60 < nb) = false := by simp; omega
  have hn2 : ¬ (60 : Int) < (n : Int) := by omega
  have hf2 : ¬ (60 : Int) < (nf : Int) := by omega
  have hb2 : ¬ (60 : Int) < (nb : Int) := by omega
  obtain ⟨hH, hth, hbl0, hlt0⟩ := boxed_hart w h 25
  go_enter Tryz.func5, Tryz.ntmps5
  go_upto_region 5 with (first | (go_at_call 6; refine (lives_any _ (ht.later hbl0 (Nat.le_refl _))).mono ?_; rintro e w1 ⟨rfl, hb1⟩; replace hH := hH.keep hlt0 hb1; replace hth := there_keep hth hlt0 hb1; replace hbl0 := hbl0.trans (hb1.mono hbl0.size); replace hlt0 := Nat.lt_of_lt_of_le hlt0 hb1.size; clear hb1))
  go_upto_region 6 with (first | (refine wpList_load_mid rfl 25 _ rfl w.heap.size 0 rfl (hartL h) _ (hH).range hu rfl (size_hart _) ?_) | (refine wpList_store_mid rfl 25 _ _ rfl w1.heap.size 0 (hartL h).toArray rfl rfl (there_hart (zeros_there w1 25) _) (size_hartA _) (hartL_one _) ?_))
  have hz := zeros_there w1 25
  have hlz : w1.heap.size < (w1.alloc (.cells #[.int .u64 0, .int .u64 0, .int .u64 0, .int .u64 0, .int .u64 0, .int .u64 0, .int .u64 0, .int .u64 0, .int .u64 0, .int .u64 0, .int .u64 0, .int .u64 0, .int .u64 0, .int .u64 0, .int .u64 0, .int .u64 0, .int .u64 0, .int .u64 0, .int .u64 0, .int .u64 0, .int .u64 0, .int .u64 0, .int .u64 0, .int .u64 0, .int .u64 0, .int .u64 0, .int .u64 0, .int .u64 0, .int .u64 0, .int .u64 0, .int .u64 0, .int .u64 0, .int .u64 0, .int .i64 0, .int .u64 0] 25)).heap.size := by simp
  obtain ⟨hst, hO, ltA, hto⟩ := put_hart hz hlz h
  have hal : Below w1.heap.size w1 (w1.alloc (.cells #[.int .u64 0, .int .u64 0, .int .u64 0, .int .u64 0, .int .u64 0, .int .u64 0, .int .u64 0, .int .u64 0, .int .u64 0, .int .u64 0, .int .u64 0, .int .u64 0, .int .u64 0, .int .u64 0, .int .u64 0, .int .u64 0, .int .u64 0, .int .u64 0, .int .u64 0, .int .u64 0, .int .u64 0, .int .u64 0, .int .u64 0, .int .u64 0, .int .u64 0, .int .u64 0, .int .u64 0, .int .u64 0, .int .u64 0, .int .u64 0, .int .u64 0, .int .u64 0, .int .u64 0, .int .i64 0, .int .u64 0] 25)) := (Below.refl _ _).alloc (Nat.le_refl _) _
  replace hst := hal.trans hst
  replace hH := hH.keep hlt0 hst
  replace hth := there_keep hth hlt0 hst
  replace hbl0 := hbl0.trans (hst.mono hbl0.size)
  have hF0 : SF w h w1.heap.size _ := ⟨hH, hO, hth, hto, hbl0, hlt0, ltA⟩
  clear hz hlz hst hO ltA hto hal hH hth hbl0
  generalize World.setCells _ w1.heap.size 0 (hartL h) = u1 at hF0 ⊢
  generalize w1.heap.size = A at hF0 hlt0 ⊢
  clear hlt0
  go_wp2_with fail
  go_loopg [10] n (fun g s wx => ∃ (k : Nat) (h' : HartV), k ≤ n ∧ g = n - k ∧ s = .int .i64 k ∧ SF w h' A wx)
  case atStart => exact ⟨0, h, Nat.zero_le _, rfl, rfl, hF0⟩
  case round =>
    obtain ⟨k, h', hk, rfl, rfl, hF⟩ := hrel
    by_cases hlt : k < n
    · obtain ⟨b, off, rfl, hbw, hIc⟩ := hL (by omega)
      have hop2 := hop k
      obtain ⟨i, hi⟩ : ∃ i, L k = i := ⟨_, rfl⟩
      rw [hi] at hop2
      replace hIc := hIc k hlt
      rw [hi] at hIc
      clear hi
      have hIL : Hid (∀ W, Below w.heap.size w W → W.rangeAt b (off + k * 9) i.cells.toList) := Lib.hid fun W hb => insns_range hIc rfl hbw hb
      have hlk : 0 ≤ (k : Int) ∧ (k : Int) < (n : Int) := by omega
      have hld1 : decide ((k : Int) < (n : Int)) = true := by simp; exact hlt
      have hld2 : decide (k < n) = true := by simp; exact hlt
      go_upto_if 44 with fail
      go_cut [11] (fun s wx => (∃ v : BitVec 64, s = .int .u64 (un v)) ∧ wr = wx)
      case first =>
        by_cases hkf : k < nf
        · obtain ⟨fb, fof, rfl, hfw, hfc⟩ := hNf (by omega)
          have cf : wr.cell? ⟨fb, fof + k, none⟩ = some (.int .u64 (un (F k))) := by rw [hF.bl.cell (p := ⟨fb, fof + k, none⟩) hfw]; exact hfc k hkf
          have hlf : 0 ≤ (k : Int) ∧ (k : Int) < (nf : Int) := by omega
          have hd1 : decide ((k : Int) < (nf : Int)) = true := by simp; exact hkf
          have hd2 : decide (k < nf) = true := by simp; exact hkf
          clear hfc hIc
          go_wp2_with fail
          go_meet
          exact ⟨⟨_, rfl⟩, rfl⟩
        · have hd1 : decide ((k : Int) < (nf : Int)) = false := by simp; omega
          have hd2 : decide (k < nf) = false := by simp; omega
          have hlf : ¬ (k : Int) < (nf : Int) := by omega
          clear hIc
          go_wp2_with fail
          go_meet
          exact ⟨⟨0#64, by first | rfl | rw [un_0]⟩, rfl⟩
      case rest =>
        obtain ⟨⟨fv, rfl⟩, rfl⟩ := hcut
        go_upto_if 52 with fail
        go_cut [12] (fun s wx => (∃ v : Bool, s = .bool v) ∧ wr = wx)
        case first =>
          by_cases hkf : k < nb
          · obtain ⟨fb, fof, rfl, hfw, hfc⟩ := hNb (by omega)
            have cf : wr.cell? ⟨fb, fof + k, none⟩ = some (.bool (G k)) := by rw [hF.bl.cell (p := ⟨fb, fof + k, none⟩) hfw]; exact hfc k hkf
            have hlf : 0 ≤ (k : Int) ∧ (k : Int) < (nb : Int) := by omega
            have hd1 : decide ((k : Int) < (nb : Int)) = true := by simp; exact hkf
            have hd2 : decide (k < nb) = true := by simp; exact hkf
            clear hfc hIc
            go_wp2_with fail
            go_meet
            exact ⟨⟨_, rfl⟩, rfl⟩
          · have hd1 : decide ((k : Int) < (nb : Int)) = false := by simp; omega
            have hd2 : decide (k < nb) = false := by simp; omega
            have hlf : ¬ (k : Int) < (nb : Int) := by omega
            clear hIc
            go_wp2_with fail
            go_meet
            exact ⟨⟨false, by first | rfl | rw [un_0]⟩, rfl⟩
        case rest =>
          obtain ⟨⟨wv, rfl⟩, rfl⟩ := hcut
          obtain ⟨y, hyd⟩ : ∃ y, stepR h' i fv wv = y := ⟨_, rfl⟩
          obtain ⟨E, hEd⟩ : ∃ E, mayE h' i = E := ⟨_, rfl⟩
          have hSx : Hid (∀ W, Tabs W → Calls Tryz.prog 9 #[.agg (hartL h').toArray, .agg i.cells.toList.toArray, .int .u64 (un fv), .bool wv] W fun e w' => e = .returned (.tuple #[.agg (hartL y).toArray, .int .i64 E]) ∧ Below W.heap.size W w') := Lib.hid fun W hT => by rw [Array.toArray_toList, ← hyd, ← hEd]; exact HStep_all h' i fv wv W hT hop2
          have hSy : Hid (∀ W, Calls Tryz.prog 15 #[.agg (hartL h').toArray, .agg i.cells.toList.toArray, .int .u64 (un fv), .bool wv] W fun e w' => e = .returned (.tuple #[.agg (hartL y).toArray, .int .i64 E]) ∧ Below W.heap.size W w') := Lib.hid fun W => by rw [Array.toArray_toList, ← hyd, ← hEd]; exact RStep_all h' i fv wv W
          have hR : Hid (∀ W, Calls Tryz.prog 8 #[.agg i.cells.toList.toArray] W fun e w' => e = .returned (.int .i64 (checkE i)) ∧ Below W.heap.size W w') := Lib.hid fun W => by rw [Array.toArray_toList]; exact R2Check_any i W
          have hi2 : Hid ((Tryz.prog.info? 27).map (·.size) = some i.cells.toList.length) := Lib.hid (by rw [show i.cells.toList.length = 9 from rfl]; kernel_rfl)
          obtain ⟨IL, hILd⟩ : ∃ IL, i.cells.toList = IL := ⟨_, rfl⟩
          rw [hILd] at hSx hSy hR hi2 hIL
          replace hILd := Lib.hid hILd
          replace hyd := Lib.hid hyd
          replace hEd := Lib.hid hEd
          replace hop2 := Lib.hid hop2
          clear hIc hNf hNb hop hL hn hf hb
          go_upto_region 14 with fail
          go_cut [13, 14] (fun s13 s14 wx => ∃ X, s13 = .pointer (some ⟨X, 0, none⟩) ∧ s14 = .int .i64 E ∧ SF w h' A wx ∧ HC X y wx ∧ A < X ∧ X < wx.heap.size)
          case first =>
            refine wp_region_held_drew (S := fun W => SF w h' A W) (by kernel_rfl) hF.drew (fun hHeld => ?_)
            refine wpAnyH_take (i := 0) rfl (by kernel_rfl) (by kernel_rfl) (by kernel_rfl) (fun _ _ _ h => h) (yieldsIf_load_mid (by rfl) _ _ rfl w.heap.size 0 rfl (hartL h') _ (fun W hS => HC.range (hS.ch)) hu rfl (size_hart _)) hHeld ?_
            try simp only [Act.put, List.getElem_toArray, List.getElem_cons_zero, List.setIfInBounds_toArray, List.set_cons_zero, List.set_cons_succ]
            refine wpAnyH_take (i := 1) (v := .slice (some ⟨b, off, none⟩) n cap) rfl (by kernel_rfl) (by kernel_rfl) (by kernel_rfl) (fun _ _ _ h => h) (Or.inl ⟨by rfl, fun W _ => by kernel_rfl⟩) hHeld ?_
            try simp only [Act.put, List.getElem_toArray, List.getElem_cons_succ, List.getElem_cons_zero, List.setIfInBounds_toArray, List.set_cons_zero, List.set_cons_succ]
            refine wpAnyH_take (i := 2) (v := .int .i64 k) rfl (by kernel_rfl) (by kernel_rfl) (by kernel_rfl) (fun _ _ _ h => h) (Or.inl ⟨by rfl, fun W _ => by kernel_rfl⟩) hHeld ?_
            try simp only [Act.put, List.getElem_toArray, List.getElem_cons_succ, List.getElem_cons_zero, List.setIfInBounds_toArray, List.set_cons_zero, List.set_cons_succ]
            refine wpAnyH_take (i := 3) (v := .pointer (some ⟨b, off + k * 9, none⟩)) rfl (by kernel_rfl) (by kernel_rfl) (by kernel_rfl) (fun _ _ _ h => h) (Or.inl ⟨by rfl, fun W _ => by go_simp⟩) hHeld ?_
            try simp only [Act.put, List.getElem_toArray, List.getElem_cons_succ, List.getElem_cons_zero, List.setIfInBounds_toArray, List.set_cons_zero, List.set_cons_succ]
            refine wpAnyH_take (i := 4) rfl (by kernel_rfl) (by kernel_rfl) (by kernel_rfl) (fun _ _ _ h => h) (yieldsIf_load_mid (by rfl) _ _ rfl b (off + k * 9) rfl IL _ (fun W hS => hIL.out W (hS.bl)) hu2 rfl hi2.out) hHeld ?_
            try simp only [Act.put, List.getElem_toArray, List.getElem_cons_succ, List.getElem_cons_zero, List.setIfInBounds_toArray, List.set_cons_zero, List.set_cons_succ]
            refine wpAnyH_take (i := 5) (v := .int .u64 (un fv)) rfl (by kernel_rfl) (by kernel_rfl) (by kernel_rfl) (fun _ _ _ h => h) (Or.inl ⟨by rfl, fun W _ => by kernel_rfl⟩) hHeld ?_
            try simp only [Act.put, List.getElem_toArray, List.getElem_cons_succ, List.getElem_cons_zero, List.setIfInBounds_toArray, List.set_cons_zero, List.set_cons_succ]
            refine wpAnyH_take (i := 6) (v := .bool wv) rfl (by kernel_rfl) (by kernel_rfl) (by kernel_rfl) (fun _ _ _ h => h) (Or.inl ⟨by rfl, fun W _ => by kernel_rfl⟩) hHeld ?_
            try simp only [Act.put, List.getElem_toArray, List.getElem_cons_succ, List.getElem_cons_zero, List.setIfInBounds_toArray, List.set_cons_zero, List.set_cons_succ]
            generalize World.drew _ = W1 at hHeld ⊢
            refine wpAnyH_ready (rs := [7, 11]) (by kernel_rfl) (by simp) ?_
            refine AllReadyH.cons rfl (fun K hK2 => ?_) ?_
            · rw [if_pos (by rfl)]
              simp only [List.getElem_toArray, List.getElem_cons_succ, List.getElem_cons_zero]
              go_wp2_with (go_at_call 9; refine (hSx.out _ (ht.later hHeld.bl (Nat.le_refl _))).mono ?_; rintro e w4 ⟨rfl, hb4⟩)
              refine hK2.out _ _ (hHeld.kept hb4) (fun hHeld2 => ?_)
              clear hK2 K hHeld
              have hHeld := hHeld2
              clear hHeld2
              try simp only [Act.put, List.getElem_toArray, List.getElem_cons_succ, List.getElem_cons_zero, List.setIfInBounds_toArray, List.set_cons_zero, List.set_cons_succ]
              refine wpAnyH_take (i := 8) (v := .tuple #[.agg (hartL y).toArray, .int .i64 E]) rfl (by kernel_rfl) (by kernel_rfl) (by kernel_rfl) (fun _ _ _ h => h) (Or.inl ⟨by rfl, fun W _ => by kernel_rfl⟩) hHeld ?_
              try simp only [Act.put, List.getElem_toArray, List.getElem_cons_succ, List.getElem_cons_zero, List.setIfInBounds_toArray, List.set_cons_zero, List.set_cons_succ]
              refine wpAnyH_take (i := 9) (v := .agg (hartL y).toArray) rfl (by kernel_rfl) (by kernel_rfl) (by kernel_rfl) (fun _ _ _ h => h) (Or.inl ⟨by rfl, fun W _ => by kernel_rfl⟩) hHeld ?_
              try simp only [Act.put, List.getElem_toArray, List.getElem_cons_succ, List.getElem_cons_zero, List.setIfInBounds_toArray, List.set_cons_zero, List.set_cons_succ]
              refine wpAnyH_take (i := 10) (v := .int .i64 E) rfl (by kernel_rfl) (by kernel_rfl) (by kernel_rfl) (fun _ _ _ h => h) (Or.inl ⟨by rfl, fun W _ => by kernel_rfl⟩) hHeld ?_
              try simp only [Act.put, List.getElem_toArray, List.getElem_cons_succ, List.getElem_cons_zero, List.setIfInBounds_toArray, List.set_cons_zero, List.set_cons_succ]
              refine wpAnyH_ready (rs := [11]) (by kernel_rfl) (by simp) ?_
              refine AllReadyH.cons rfl (fun K hK2 => ?_) ?_
              · rw [if_pos (by rfl)]
                simp only [List.getElem_toArray, List.getElem_cons_succ, List.getElem_cons_zero]
                obtain ⟨X, hX⟩ : ∃ X, X = w4.heap.size := ⟨_, rfl⟩
                have hz := zeros_there w4 25
                have hlX : w4.heap.size < (w4.alloc (.cells #[.int .u64 0, .int .u64 0, .int .u64 0, .int .u64 0, .int .u64 0, .int .u64 0, .int .u64 0, .int .u64 0, .int .u64 0, .int .u64 0, .int .u64 0, .int .u64 0, .int .u64 0, .int .u64 0, .int .u64 0, .int .u64 0, .int .u64 0, .int .u64 0, .int .u64 0, .int .u64 0, .int .u64 0, .int .u64 0, .int .u64 0, .int .u64 0, .int .u64 0, .int .u64 0, .int .u64 0, .int .u64 0, .int .u64 0, .int .u64 0, .int .u64 0, .int .u64 0, .int .u64 0, .int .i64 0, .int .u64 0] 25)).heap.size := by simp
                have hAX := hHeld.sz
                have hal : Below w4.heap.size w4 (w4.alloc (.cells #[.int .u64 0, .int .u64 0, .int .u64 0, .int .u64 0, .int .u64 0, .int .u64 0, .int .u64 0, .int .u64 0, .int .u64 0, .int .u64 0, .int .u64 0, .int .u64 0, .int .u64 0, .int .u64 0, .int .u64 0, .int .u64 0, .int .u64 0, .int .u64 0, .int .u64 0, .int .u64 0, .int .u64 0, .int .u64 0, .int .u64 0, .int .u64 0, .int .u64 0, .int .u64 0, .int .u64 0, .int .u64 0, .int .u64 0, .int .u64 0, .int .u64 0, .int .u64 0, .int .u64 0, .int .i64 0, .int .u64 0] 25)) := (Below.refl _ _).alloc (Nat.le_refl _) _
                go_simp
                refine hK2.out _ _ (hHeld.kept hal) (fun hHeld2 => ?_)
                clear hK2 K hHeld
                have hHeld := hHeld2
                clear hHeld2
                try simp only [Act.put, List.getElem_toArray, List.getElem_cons_succ, List.getElem_cons_zero, List.setIfInBounds_toArray, List.set_cons_zero, List.set_cons_succ]
                generalize World.alloc _ _ = w5 at hz hlX hHeld hal ⊢
                rw [← hX] at hz hlX hAX ⊢
                clear hX hal
                refine wpAnyH_ready (rs := [12]) (by kernel_rfl) (by simp) (AllReadyH.cons rfl (fun K hK2 => ?_) AllReadyH.nil)
                rw [if_pos (by rfl)]
                simp only [List.getElem_toArray, List.getElem_cons_succ, List.getElem_cons_zero]
                obtain ⟨hst, hY, ltY, -⟩ := put_hart hz hlX y
                refine wp_store_mid 25 _ _ rfl X 0 (hartL y).toArray rfl rfl (there_hart hz _) (size_hartA _) (hartL_one _) ?_
                replace hHeld := hHeld.keep hAX hst
                change K _ (World.setCells _ X 0 (hartL y))
                generalize World.setCells _ X 0 (hartL y) = w6 at hst hY ltY hHeld ⊢
                refine hK2.out _ _ hHeld (fun _ => ?_)
                clear hK2 K hst hz hlX
                refine wpAnyH_take (i := 13) (v := .int .i64 E) rfl (by kernel_rfl) (by kernel_rfl) (by kernel_rfl) (fun _ _ _ h => h) (Or.inl ⟨by rfl, fun W _ => by kernel_rfl⟩) hHeld ?_
                try simp only [Act.put, List.getElem_toArray, List.getElem_cons_succ, List.getElem_cons_zero, List.setIfInBounds_toArray, List.set_cons_zero, List.set_cons_succ]
                refine wpAnyH_done (by kernel_rfl) ?_ _
                go_wp2_with fail
                go_meet
                exact ⟨X, rfl, rfl, hHeld, hY, hAX, ltY⟩
              exact AllReadyH.nil
            refine AllReadyH.cons rfl (fun K hK2 => ?_) ?_
            · rw [if_pos (by rfl)]
              simp only [List.getElem_toArray, List.getElem_cons_succ, List.getElem_cons_zero]
              obtain ⟨X, hX⟩ : ∃ X, X = W1.heap.size := ⟨_, rfl⟩
              have hz := zeros_there W1 25
              have hlX : W1.heap.size < (W1.alloc (.cells #[.int .u64 0, .int .u64 0, .int .u64 0, .int .u64 0, .int .u64 0, .int .u64 0, .int .u64 0, .int .u64 0, .int .u64 0, .int .u64 0, .int .u64 0, .int .u64 0, .int .u64 0, .int .u64 0, .int .u64 0, .int .u64 0, .int .u64 0, .int .u64 0, .int .u64 0, .int .u64 0, .int .u64 0, .int .u64 0, .int .u64 0, .int .u64 0, .int .u64 0, .int .u64 0, .int .u64 0, .int .u64 0, .int .u64 0, .int .u64 0, .int .u64 0, .int .u64 0, .int .u64 0, .int .i64 0, .int .u64 0] 25)).heap.size := by simp
              have hAX := hHeld.sz
              have hal : Below W1.heap.size W1 (W1.alloc (.cells #[.int .u64 0, .int .u64 0, .int .u64 0, .int .u64 0, .int .u64 0, .int .u64 0, .int .u64 0, .int .u64 0, .int .u64 0, .int .u64 0, .int .u64 0, .int .u64 0, .int .u64 0, .int .u64 0, .int .u64 0, .int .u64 0, .int .u64 0, .int .u64 0, .int .u64 0, .int .u64 0, .int .u64 0, .int .u64 0, .int .u64 0, .int .u64 0, .int .u64 0, .int .u64 0, .int .u64 0, .int .u64 0, .int .u64 0, .int .u64 0, .int .u64 0, .int .u64 0, .int .u64 0, .int .i64 0, .int .u64 0] 25)) := (Below.refl _ _).alloc (Nat.le_refl _) _
              go_simp
              refine hK2.out _ _ (hHeld.kept hal) (fun hHeld2 => ?_)
              clear hK2 K hHeld
              have hHeld := hHeld2
              clear hHeld2
              try simp only [Act.put, List.getElem_toArray, List.getElem_cons_succ, List.getElem_cons_zero, List.setIfInBounds_toArray, List.set_cons_zero, List.set_cons_succ]
              generalize World.alloc _ _ = w5 at hz hlX hHeld hal ⊢
              rw [← hX] at hz hlX hAX ⊢
              clear hX hal
              refine wpAnyH_ready (rs := [7]) (by kernel_rfl) (by simp) ?_
              refine AllReadyH.cons rfl (fun K hK2 => ?_) ?_
              · rw [if_pos (by rfl)]
                simp only [List.getElem_toArray, List.getElem_cons_succ, List.getElem_cons_zero]
                go_wp2_with (go_at_call 9; refine (hSx.out _ (ht.later hHeld.bl (Nat.le_refl _))).mono ?_; rintro e w4 ⟨rfl, hb4⟩)
                replace hz := there_keep hz hlX hb4
                replace hlX := Nat.lt_of_lt_of_le hlX hb4.size
                refine hK2.out _ _ (hHeld.kept hb4) (fun hHeld2 => ?_)
                clear hK2 K hHeld
                have hHeld := hHeld2
                clear hHeld2
                try simp only [Act.put, List.getElem_toArray, List.getElem_cons_succ, List.getElem_cons_zero, List.setIfInBounds_toArray, List.set_cons_zero, List.set_cons_succ]
                refine wpAnyH_take (i := 8) (v := .tuple #[.agg (hartL y).toArray, .int .i64 E]) rfl (by kernel_rfl) (by kernel_rfl) (by kernel_rfl) (fun _ _ _ h => h) (Or.inl ⟨by rfl, fun W _ => by kernel_rfl⟩) hHeld ?_
                try simp only [Act.put, List.getElem_toArray, List.getElem_cons_succ, List.getElem_cons_zero, List.setIfInBounds_toArray, List.set_cons_zero, List.set_cons_succ]
                refine wpAnyH_take (i := 9) (v := .agg (hartL y).toArray) rfl (by kernel_rfl) (by kernel_rfl) (by kernel_rfl) (fun _ _ _ h => h) (Or.inl ⟨by rfl, fun W _ => by kernel_rfl⟩) hHeld ?_
                try simp only [Act.put, List.getElem_toArray, List.getElem_cons_succ, List.getElem_cons_zero, List.setIfInBounds_toArray, List.set_cons_zero, List.set_cons_succ]
                refine wpAnyH_take (i := 10) (v := .int .i64 E) rfl (by kernel_rfl) (by kernel_rfl) (by kernel_rfl) (fun _ _ _ h => h) (Or.inl ⟨by rfl, fun W _ => by kernel_rfl⟩) hHeld ?_
                try simp only [Act.put, List.getElem_toArray, List.getElem_cons_succ, List.getElem_cons_zero, List.setIfInBounds_toArray, List.set_cons_zero, List.set_cons_succ]
                refine wpAnyH_ready (rs := [12]) (by kernel_rfl) (by simp) (AllReadyH.cons rfl (fun K hK2 => ?_) AllReadyH.nil)
                rw [if_pos (by rfl)]
                simp only [List.getElem_toArray, List.getElem_cons_succ, List.getElem_cons_zero]
                obtain ⟨hst, hY, ltY, -⟩ := put_hart hz hlX y
                refine wp_store_mid 25 _ _ rfl X 0 (hartL y).toArray rfl rfl (there_hart hz _) (size_hartA _) (hartL_one _) ?_
                replace hHeld := hHeld.keep hAX hst
                change K _ (World.setCells _ X 0 (hartL y))
                generalize World.setCells _ X 0 (hartL y) = w6 at hst hY ltY hHeld ⊢
                refine hK2.out _ _ hHeld (fun _ => ?_)
                clear hK2 K hst hz hlX
                refine wpAnyH_take (i := 13) (v := .int .i64 E) rfl (by kernel_rfl) (by kernel_rfl) (by kernel_rfl) (fun _ _ _ h => h) (Or.inl ⟨by rfl, fun W _ => by kernel_rfl⟩) hHeld ?_
                try simp only [Act.put, List.getElem_toArray, List.getElem_cons_succ, List.getElem_cons_zero, List.setIfInBounds_toArray, List.set_cons_zero, List.set_cons_succ]
                refine wpAnyH_done (by kernel_rfl) ?_ _
                go_wp2_with fail
                go_meet
                exact ⟨X, rfl, rfl, hHeld, hY, hAX, ltY⟩
              exact AllReadyH.nil
            exact AllReadyH.nil
          case rest =>
            obtain ⟨X0, rfl, rfl, hF, hX0, hAX0, hlX0⟩ := hcut
            have hG : SG w h' A X0 y wc := ⟨hF, hX0, hAX0, hlX0⟩
            clear hX0 hAX0 hlX0 hF
            go_upto_region 15 with fail
            go_cut [15, 16] (fun s15 s16 wx => ∃ Y, s15 = .pointer (some ⟨Y, 0, none⟩) ∧ s16 = .int .i64 E ∧ SG w h' A X0 y wx ∧ HC Y y wx ∧ A < Y ∧ Y < wx.heap.size)
            case first =>
              refine wp_region_held_drew (S := fun W => SG w h' A X0 y W) (by kernel_rfl) hG.drew (fun hHeld => ?_)
              refine wpAnyH_take (i := 0) rfl (by kernel_rfl) (by kernel_rfl) (by kernel_rfl) (fun _ _ _ h => h) (yieldsIf_load_mid (by rfl) _ _ rfl A 0 rfl (hartL h') _ (fun W hS => HC.range (hS.f.co)) hu rfl (size_hart _)) hHeld ?_
              try simp only [Act.put, List.getElem_toArray, List.getElem_cons_zero, List.setIfInBounds_toArray, List.set_cons_zero, List.set_cons_succ]
              refine wpAnyH_take (i := 1) (v := .slice (some ⟨b, off, none⟩) n cap) rfl (by kernel_rfl) (by kernel_rfl) (by kernel_rfl) (fun _ _ _ h => h) (Or.inl ⟨by rfl, fun W _ => by kernel_rfl⟩) hHeld ?_
              try simp only [Act.put, List.getElem_toArray, List.getElem_cons_succ, List.getElem_cons_zero, List.setIfInBounds_toArray, List.set_cons_zero, List.set_cons_succ]
              refine wpAnyH_take (i := 2) (v := .int .i64 k) rfl (by kernel_rfl) (by kernel_rfl) (by kernel_rfl) (fun _ _ _ h => h) (Or.inl ⟨by rfl, fun W _ => by kernel_rfl⟩) hHeld ?_
              try simp only [Act.put, List.getElem_toArray, List.getElem_cons_succ, List.getElem_cons_zero, List.setIfInBounds_toArray, List.set_cons_zero, List.set_cons_succ]
              refine wpAnyH_take (i := 3) (v := .pointer (some ⟨b, off + k * 9, none⟩)) rfl (by kernel_rfl) (by kernel_rfl) (by kernel_rfl) (fun _ _ _ h => h) (Or.inl ⟨by rfl, fun W _ => by go_simp⟩) hHeld ?_
              try simp only [Act.put, List.getElem_toArray, List.getElem_cons_succ, List.getElem_cons_zero, List.setIfInBounds_toArray, List.set_cons_zero, List.set_cons_succ]
              refine wpAnyH_take (i := 4) rfl (by kernel_rfl) (by kernel_rfl) (by kernel_rfl) (fun _ _ _ h => h) (yieldsIf_load_mid (by rfl) _ _ rfl b (off + k * 9) rfl IL _ (fun W hS => hIL.out W (hS.f.bl)) hu2 rfl hi2.out) hHeld ?_
              try simp only [Act.put, List.getElem_toArray, List.getElem_cons_succ, List.getElem_cons_zero, List.setIfInBounds_toArray, List.set_cons_zero, List.set_cons_succ]
              refine wpAnyH_take (i := 5) (v := .int .u64 (un fv)) rfl (by kernel_rfl) (by kernel_rfl) (by kernel_rfl) (fun _ _ _ h => h) (Or.inl ⟨by rfl, fun W _ => by kernel_rfl⟩) hHeld ?_
              try simp only [Act.put, List.getElem_toArray, List.getElem_cons_succ, List.getElem_cons_zero, List.setIfInBounds_toArray, List.set_cons_zero, List.set_cons_succ]
              refine wpAnyH_take (i := 6) (v := .bool wv) rfl (by kernel_rfl) (by kernel_rfl) (by kernel_rfl) (fun _ _ _ h => h) (Or.inl ⟨by rfl, fun W _ => by kernel_rfl⟩) hHeld ?_
              try simp only [Act.put, List.getElem_toArray, List.getElem_cons_succ, List.getElem_cons_zero, List.setIfInBounds_toArray, List.set_cons_zero, List.set_cons_succ]
              generalize World.drew _ = W1 at hHeld ⊢
              refine wpAnyH_ready (rs := [7, 11]) (by kernel_rfl) (by simp) ?_
              refine AllReadyH.cons rfl (fun K hK2 => ?_) ?_
              · rw [if_pos (by rfl)]
                simp only [List.getElem_toArray, List.getElem_cons_succ, List.getElem_cons_zero]
                go_wp2_with (go_at_call 15; refine (hSy.out _).mono ?_; rintro e w4 ⟨rfl, hb4⟩)
                refine hK2.out _ _ (hHeld.kept hb4) (fun hHeld2 => ?_)
                clear hK2 K hHeld
                have hHeld := hHeld2
                clear hHeld2
                try simp only [Act.put, List.getElem_toArray, List.getElem_cons_succ, List.getElem_cons_zero, List.setIfInBounds_toArray, List.set_cons_zero, List.set_cons_succ]
                refine wpAnyH_take (i := 8) (v := .tuple #[.agg (hartL y).toArray, .int .i64 E]) rfl (by kernel_rfl) (by kernel_rfl) (by kernel_rfl) (fun _ _ _ h => h) (Or.inl ⟨by rfl, fun W _ => by kernel_rfl⟩) hHeld ?_
                try simp only [Act.put, List.getElem_toArray, List.getElem_cons_succ, List.getElem_cons_zero, List.setIfInBounds_toArray, List.set_cons_zero, List.set_cons_succ]
                refine wpAnyH_take (i := 9) (v := .agg (hartL y).toArray) rfl (by kernel_rfl) (by kernel_rfl) (by kernel_rfl) (fun _ _ _ h => h) (Or.inl ⟨by rfl, fun W _ => by kernel_rfl⟩) hHeld ?_
                try simp only [Act.put, List.getElem_toArray, List.getElem_cons_succ, List.getElem_cons_zero, List.setIfInBounds_toArray, List.set_cons_zero, List.set_cons_succ]
                refine wpAnyH_take (i := 10) (v := .int .i64 E) rfl (by kernel_rfl) (by kernel_rfl) (by kernel_rfl) (fun _ _ _ h => h) (Or.inl ⟨by rfl, fun W _ => by kernel_rfl⟩) hHeld ?_
                try simp only [Act.put, List.getElem_toArray, List.getElem_cons_succ, List.getElem_cons_zero, List.setIfInBounds_toArray, List.set_cons_zero, List.set_cons_succ]
                refine wpAnyH_ready (rs := [11]) (by kernel_rfl) (by simp) ?_
                refine AllReadyH.cons rfl (fun K hK2 => ?_) ?_
                · rw [if_pos (by rfl)]
                  simp only [List.getElem_toArray, List.getElem_cons_succ, List.getElem_cons_zero]
                  obtain ⟨X, hX⟩ : ∃ X, X = w4.heap.size := ⟨_, rfl⟩
                  have hz := zeros_there w4 25
                  have hlX : w4.heap.size < (w4.alloc (.cells #[.int .u64 0, .int .u64 0, .int .u64 0, .int .u64 0, .int .u64 0, .int .u64 0, .int .u64 0, .int .u64 0, .int .u64 0, .int .u64 0, .int .u64 0, .int .u64 0, .int .u64 0, .int .u64 0, .int .u64 0, .int .u64 0, .int .u64 0, .int .u64 0, .int .u64 0, .int .u64 0, .int .u64 0, .int .u64 0, .int .u64 0, .int .u64 0, .int .u64 0, .int .u64 0, .int .u64 0, .int .u64 0, .int .u64 0, .int .u64 0, .int .u64 0, .int .u64 0, .int .u64 0, .int .i64 0, .int .u64 0] 25)).heap.size := by simp
                  have hAX := hHeld.lx
                  have hal : Below w4.heap.size w4 (w4.alloc (.cells #[.int .u64 0, .int .u64 0, .int .u64 0, .int .u64 0, .int .u64 0, .int .u64 0, .int .u64 0, .int .u64 0, .int .u64 0, .int .u64 0, .int .u64 0, .int .u64 0, .int .u64 0, .int .u64 0, .int .u64 0, .int .u64 0, .int .u64 0, .int .u64 0, .int .u64 0, .int .u64 0, .int .u64 0, .int .u64 0, .int .u64 0, .int .u64 0, .int .u64 0, .int .u64 0, .int .u64 0, .int .u64 0, .int .u64 0, .int .u64 0, .int .u64 0, .int .u64 0, .int .u64 0, .int .i64 0, .int .u64 0] 25)) := (Below.refl _ _).alloc (Nat.le_refl _) _
                  go_simp
                  refine hK2.out _ _ (hHeld.kept hal) (fun hHeld2 => ?_)
                  clear hK2 K hHeld
                  have hHeld := hHeld2
                  clear hHeld2
                  try simp only [Act.put, List.getElem_toArray, List.getElem_cons_succ, List.getElem_cons_zero, List.setIfInBounds_toArray, List.set_cons_zero, List.set_cons_succ]
                  generalize World.alloc _ _ = w5 at hz hlX hHeld hal ⊢
                  rw [← hX] at hz hlX hAX ⊢
                  clear hX hal
                  refine wpAnyH_ready (rs := [12]) (by kernel_rfl) (by simp) (AllReadyH.cons rfl (fun K hK2 => ?_) AllReadyH.nil)
                  rw [if_pos (by rfl)]
                  simp only [List.getElem_toArray, List.getElem_cons_succ, List.getElem_cons_zero]
                  obtain ⟨hst, hY, ltY, -⟩ := put_hart hz hlX y
                  refine wp_store_mid 25 _ _ rfl X 0 (hartL y).toArray rfl rfl (there_hart hz _) (size_hartA _) (hartL_one _) ?_
                  replace hHeld := hHeld.keep hAX hst
                  change K _ (World.setCells _ X 0 (hartL y))
                  generalize World.setCells _ X 0 (hartL y) = w6 at hst hY ltY hHeld ⊢
                  refine hK2.out _ _ hHeld (fun _ => ?_)
                  clear hK2 K hst hz hlX
                  refine wpAnyH_take (i := 13) (v := .int .i64 E) rfl (by kernel_rfl) (by kernel_rfl) (by kernel_rfl) (fun _ _ _ h => h) (Or.inl ⟨by rfl, fun W _ => by kernel_rfl⟩) hHeld ?_
                  try simp only [Act.put, List.getElem_toArray, List.getElem_cons_succ, List.getElem_cons_zero, List.setIfInBounds_toArray, List.set_cons_zero, List.set_cons_succ]
                  refine wpAnyH_done (by kernel_rfl) ?_ _
                  go_wp2_with fail
                  go_meet
                  exact ⟨X, rfl, rfl, hHeld, hY, Nat.lt_trans hHeld.la hAX, ltY⟩
                exact AllReadyH.nil
              refine AllReadyH.cons rfl (fun K hK2 => ?_) ?_
              · rw [if_pos (by rfl)]
                simp only [List.getElem_toArray, List.getElem_cons_succ, List.getElem_cons_zero]
                obtain ⟨X, hX⟩ : ∃ X, X = W1.heap.size := ⟨_, rfl⟩
                have hz := zeros_there W1 25
                have hlX : W1.heap.size < (W1.alloc (.cells #[.int .u64 0, .int .u64 0, .int .u64 0, .int .u64 0, .int .u64 0, .int .u64 0, .int .u64 0, .int .u64 0, .int .u64 0, .int .u64 0, .int .u64 0, .int .u64 0, .int .u64 0, .int .u64 0, .int .u64 0, .int .u64 0, .int .u64 0, .int .u64 0, .int .u64 0, .int .u64 0, .int .u64 0, .int .u64 0, .int .u64 0, .int .u64 0, .int .u64 0, .int .u64 0, .int .u64 0, .int .u64 0, .int .u64 0, .int .u64 0, .int .u64 0, .int .u64 0, .int .u64 0, .int .i64 0, .int .u64 0] 25)).heap.size := by simp
                have hAX := hHeld.lx
                have hal : Below W1.heap.size W1 (W1.alloc (.cells #[.int .u64 0, .int .u64 0, .int .u64 0, .int .u64 0, .int .u64 0, .int .u64 0, .int .u64 0, .int .u64 0, .int .u64 0, .int .u64 0, .int .u64 0, .int .u64 0, .int .u64 0, .int .u64 0, .int .u64 0, .int .u64 0, .int .u64 0, .int .u64 0, .int .u64 0, .int .u64 0, .int .u64 0, .int .u64 0, .int .u64 0, .int .u64 0, .int .u64 0, .int .u64 0, .int .u64 0, .int .u64 0, .int .u64 0, .int .u64 0, .int .u64 0, .int .u64 0, .int .u64 0, .int .i64 0, .int .u64 0] 25)) := (Below.refl _ _).alloc (Nat.le_refl _) _
                go_simp
                refine hK2.out _ _ (hHeld.kept hal) (fun hHeld2 => ?_)
                clear hK2 K hHeld
                have hHeld := hHeld2
                clear hHeld2
                try simp only [Act.put, List.getElem_toArray, List.getElem_cons_succ, List.getElem_cons_zero, List.setIfInBounds_toArray, List.set_cons_zero, List.set_cons_succ]
                generalize World.alloc _ _ = w5 at hz hlX hHeld hal ⊢
                rw [← hX] at hz hlX hAX ⊢
                clear hX hal
                refine wpAnyH_ready (rs := [7]) (by kernel_rfl) (by simp) ?_
                refine AllReadyH.cons rfl (fun K hK2 => ?_) ?_
                · rw [if_pos (by rfl)]
                  simp only [List.getElem_toArray, List.getElem_cons_succ, List.getElem_cons_zero]
                  go_wp2_with (go_at_call 15; refine (hSy.out _).mono ?_; rintro e w4 ⟨rfl, hb4⟩)
                  replace hz := there_keep hz hlX hb4
                  replace hlX := Nat.lt_of_lt_of_le hlX hb4.size
                  refine hK2.out _ _ (hHeld.kept hb4) (fun hHeld2 => ?_)
                  clear hK2 K hHeld
                  have hHeld := hHeld2
                  clear hHeld2
                  try simp only [Act.put, List.getElem_toArray, List.getElem_cons_succ, List.getElem_cons_zero, List.setIfInBounds_toArray, List.set_cons_zero, List.set_cons_succ]
                  refine wpAnyH_take (i := 8) (v := .tuple #[.agg (hartL y).toArray, .int .i64 E]) rfl (by kernel_rfl) (by kernel_rfl) (by kernel_rfl) (fun _ _ _ h => h) (Or.inl ⟨by rfl, fun W _ => by kernel_rfl⟩) hHeld ?_
                  try simp only [Act.put, List.getElem_toArray, List.getElem_cons_succ, List.getElem_cons_zero, List.setIfInBounds_toArray, List.set_cons_zero, List.set_cons_succ]
                  refine wpAnyH_take (i := 9) (v := .agg (hartL y).toArray) rfl (by kernel_rfl) (by kernel_rfl) (by kernel_rfl) (fun _ _ _ h => h) (Or.inl ⟨by rfl, fun W _ => by kernel_rfl⟩) hHeld ?_
                  try simp only [Act.put, List.getElem_toArray, List.getElem_cons_succ, List.getElem_cons_zero, List.setIfInBounds_toArray, List.set_cons_zero, List.set_cons_succ]
                  refine wpAnyH_take (i := 10) (v := .int .i64 E) rfl (by kernel_rfl) (by kernel_rfl) (by kernel_rfl) (fun _ _ _ h => h) (Or.inl ⟨by rfl, fun W _ => by kernel_rfl⟩) hHeld ?_
                  try simp only [Act.put, List.getElem_toArray, List.getElem_cons_succ, List.getElem_cons_zero, List.setIfInBounds_toArray, List.set_cons_zero, List.set_cons_succ]
                  refine wpAnyH_ready (rs := [12]) (by kernel_rfl) (by simp) (AllReadyH.cons rfl (fun K hK2 => ?_) AllReadyH.nil)
                  rw [if_pos (by rfl)]
                  simp only [List.getElem_toArray, List.getElem_cons_succ, List.getElem_cons_zero]
                  obtain ⟨hst, hY, ltY, -⟩ := put_hart hz hlX y
                  refine wp_store_mid 25 _ _ rfl X 0 (hartL y).toArray rfl rfl (there_hart hz _) (size_hartA _) (hartL_one _) ?_
                  replace hHeld := hHeld.keep hAX hst
                  change K _ (World.setCells _ X 0 (hartL y))
                  generalize World.setCells _ X 0 (hartL y) = w6 at hst hY ltY hHeld ⊢
                  refine hK2.out _ _ hHeld (fun _ => ?_)
                  clear hK2 K hst hz hlX
                  refine wpAnyH_take (i := 13) (v := .int .i64 E) rfl (by kernel_rfl) (by kernel_rfl) (by kernel_rfl) (fun _ _ _ h => h) (Or.inl ⟨by rfl, fun W _ => by kernel_rfl⟩) hHeld ?_
                  try simp only [Act.put, List.getElem_toArray, List.getElem_cons_succ, List.getElem_cons_zero, List.setIfInBounds_toArray, List.set_cons_zero, List.set_cons_succ]
                  refine wpAnyH_done (by kernel_rfl) ?_ _
                  go_wp2_with fail
                  go_meet
                  exact ⟨X, rfl, rfl, hHeld, hY, Nat.lt_trans hHeld.la hAX, ltY⟩
                exact AllReadyH.nil
              exact AllReadyH.nil
            case rest =>
              obtain ⟨Y0, rfl, rfl, hG, hY0, hAY0, hlY0⟩ := hcut
              by_cases e : E = 0
              · obtain ⟨hyE, hcE⟩ := stepR_ok h' i fv wv (hEd.out.trans e)
                rw [hyd.out] at hyE
                subst e
                go_upto_region 16 with fail
                refine wp_region_lit ?_
                refine wpList_yieldsS (S := fun W => W = wc) (v := .agg (hartL y).toArray) (yieldsIf_load_mid (by rfl) 25 _ rfl X0 0 rfl (hartL y) _ (fun W hS => by rw [hS]; exact (hG.x).range) hu rfl (size_hart _)) rfl ?_
                try simp only [Act.put, List.setIfInBounds_toArray, List.set_cons_zero, List.set_cons_succ]
                refine wpList_yieldsS (S := fun W => W = wc) (v := .agg (hartL y).toArray) (yieldsIf_load_mid (by rfl) 25 _ rfl Y0 0 rfl (hartL y) _ (fun W hS => by rw [hS]; exact (hY0).range) hu rfl (size_hart _)) rfl ?_
                try simp only [Act.put, List.setIfInBounds_toArray, List.set_cons_zero, List.set_cons_succ]
                refine wpList_yieldsS (S := fun W => W = wc) (v := .bool false) (yieldsIf_neq_hart (by rfl) _ _ _ rfl (hartL y).toArray rfl rfl (fun W => hart_neq y W)) rfl ?_
                try simp only [Act.put, List.setIfInBounds_toArray, List.set_cons_zero, List.set_cons_succ]
                refine wpList_yieldsS (S := fun W => W = wc) (v := .bool false) (Or.inl ⟨by rfl, fun W _ => by kernel_rfl⟩) rfl ?_
                try simp only [Act.put, List.setIfInBounds_toArray, List.set_cons_zero, List.set_cons_succ]
                refine wpList_yieldsS (S := fun W => W = wc) (v := .int .i64 0) (Or.inl ⟨by rfl, fun W _ => by kernel_rfl⟩) rfl ?_
                try simp only [Act.put, List.setIfInBounds_toArray, List.set_cons_zero, List.set_cons_succ]
                refine wpList_yieldsS (S := fun W => W = wc) (v := .int .i64 0) (Or.inl ⟨by rfl, fun W _ => by kernel_rfl⟩) rfl ?_
                try simp only [Act.put, List.setIfInBounds_toArray, List.set_cons_zero, List.set_cons_succ]
                refine wpList_yieldsS (S := fun W => W = wc) (v := .bool false) (Or.inl ⟨by rfl, fun W _ => by go_simp⟩) rfl ?_
                try simp only [Act.put, List.setIfInBounds_toArray, List.set_cons_zero, List.set_cons_succ]
                refine wpList_yieldsS (S := fun W => W = wc) (v := .bool false) (Or.inl ⟨by rfl, fun W _ => by kernel_rfl⟩) rfl ?_
                try simp only [Act.put, List.setIfInBounds_toArray, List.set_cons_zero, List.set_cons_succ]
                refine wpList_nil ?_
                go_upto_region 19 with fail
                go_cut [8] (fun _ wx => SF w y A wx)
                case first =>
                  refine wp_region_held_drew (S := fun W => SH w y A X0 Y0 W) (by kernel_rfl) ((SH.of hG hY0 hAY0).drew hG.lx hlY0) (fun hHeld => ?_)
                  refine wpAnyH_take (i := 0) rfl (by kernel_rfl) (by kernel_rfl) (by kernel_rfl) (fun _ _ _ h => h) (yieldsIf_load_mid (by rfl) _ _ rfl X0 0 rfl (hartL y) _ (fun W hS => HC.range (hS.cx)) hu rfl (size_hart _)) hHeld ?_
                  try simp only [Act.put, List.getElem_toArray, List.getElem_cons_zero, List.setIfInBounds_toArray, List.set_cons_zero, List.set_cons_succ]
                  refine wpAnyH_ready (rs := [1, 2]) (by kernel_rfl) (by simp) ?_
                  refine AllReadyH.cons rfl (fun K hK2 => ?_) ?_
                  · rw [if_pos (by rfl)]
                    simp only [List.getElem_toArray, List.getElem_cons_succ, List.getElem_cons_zero]
                    refine wp_load_mid 25 _ rfl Y0 0 rfl (hartL y) _ hHeld.cy.range hu rfl (size_hart _) ?_
                    refine hK2.out _ _ hHeld (fun _ => ?_)
                    clear hK2 K
                    try simp only [Act.put, List.setIfInBounds_toArray, List.set_cons_zero, List.set_cons_succ]
                    refine wpAnyH_ready (rs := [2]) (by kernel_rfl) (by simp) (AllReadyH.cons rfl (fun K hK2 => ?_) AllReadyH.nil)
                    rw [if_pos (by rfl)]
                    simp only [List.getElem_toArray, List.getElem_cons_succ, List.getElem_cons_zero]
                    refine wp_store_mid 25 _ _ rfl w.heap.size 0 (hartL y).toArray rfl rfl (there_hart hHeld.th _) (size_hartA _) (hartL_one _) ?_
                    have hB1 := HC.of_range (World.rangeAt_setCells_same _ w.heap.size 0 (hartL y) (by rw [hartL_len]; exact hHeld.th))
                    replace hHeld := hHeld.put (b := w.heap.size) (z := y) (.inl rfl)
                    refine hK2.out _ _ hHeld (fun _ => ?_)
                    clear hK2 K
                    change wpAnyH _ _ _ _ _ _ _ _ (World.setCells _ w.heap.size 0 (hartL y))
                    generalize World.setCells _ w.heap.size 0 (hartL y) = w5 at hHeld hB1 ⊢
                    refine wpAnyH_ready (rs := [3]) (by kernel_rfl) (by simp) (AllReadyH.cons rfl (fun K hK2 => ?_) AllReadyH.nil)
                    rw [if_pos (by rfl)]
                    simp only [List.getElem_toArray, List.getElem_cons_succ, List.getElem_cons_zero]
                    refine wp_store_mid 25 _ _ rfl A 0 (hartL y).toArray rfl rfl (there_hart hHeld.ta _) (size_hartA _) (hartL_one _) ?_
                    have hB2 := HC.of_range (World.rangeAt_setCells_same _ A 0 (hartL y) (by rw [hartL_len]; exact hHeld.ta))
                    replace hB1 := HC.put (b := A) (z := y) hB1 (Nat.ne_of_lt hHeld.lt)
                    replace hHeld := hHeld.put (b := A) (z := y) (.inr rfl)
                    refine hK2.out _ _ hHeld (fun _ => ?_)
                    clear hK2 K
                    change wpAnyH _ _ _ _ _ _ _ _ (World.setCells _ A 0 (hartL y))
                    generalize World.setCells _ A 0 (hartL y) = w6 at hHeld hB1 hB2 ⊢
                    refine wpAnyH_done (by kernel_rfl) ?_ _
                    go_wp2_with fail
                    go_meet
                    exact ⟨hB1, hB2, hHeld.th, hHeld.ta, hHeld.bl, hHeld.lt, hHeld.sz⟩
                  refine AllReadyH.cons rfl (fun K hK2 => ?_) ?_
                  · rw [if_pos (by rfl)]
                    simp only [List.getElem_toArray, List.getElem_cons_succ, List.getElem_cons_zero]
                    refine wp_store_mid 25 _ _ rfl w.heap.size 0 (hartL y).toArray rfl rfl (there_hart hHeld.th _) (size_hartA _) (hartL_one _) ?_
                    have hB1 := HC.of_range (World.rangeAt_setCells_same _ w.heap.size 0 (hartL y) (by rw [hartL_len]; exact hHeld.th))
                    replace hHeld := hHeld.put (b := w.heap.size) (z := y) (.inl rfl)
                    refine hK2.out _ _ hHeld (fun _ => ?_)
                    clear hK2 K
                    change wpAnyH _ _ _ _ _ _ _ _ (World.setCells _ w.heap.size 0 (hartL y))
                    generalize World.setCells _ w.heap.size 0 (hartL y) = w5 at hHeld hB1 ⊢
                    refine wpAnyH_ready (rs := [1]) (by kernel_rfl) (by simp) (AllReadyH.cons rfl (fun K hK2 => ?_) AllReadyH.nil)
                    rw [if_pos (by rfl)]
                    simp only [List.getElem_toArray, List.getElem_cons_succ, List.getElem_cons_zero]
                    refine wp_load_mid 25 _ rfl Y0 0 rfl (hartL y) _ hHeld.cy.range hu rfl (size_hart _) ?_
                    refine hK2.out _ _ hHeld (fun _ => ?_)
                    clear hK2 K
                    try simp only [Act.put, List.setIfInBounds_toArray, List.set_cons_zero, List.set_cons_succ]
                    refine wpAnyH_ready (rs := [3]) (by kernel_rfl) (by simp) (AllReadyH.cons rfl (fun K hK2 => ?_) AllReadyH.nil)
                    rw [if_pos (by rfl)]
                    simp only [List.getElem_toArray, List.getElem_cons_succ, List.getElem_cons_zero]
                    refine wp_store_mid 25 _ _ rfl A 0 (hartL y).toArray rfl rfl (there_hart hHeld.ta _) (size_hartA _) (hartL_one _) ?_
                    have hB2 := HC.of_range (World.rangeAt_setCells_same _ A 0 (hartL y) (by rw [hartL_len]; exact hHeld.ta))
                    replace hB1 := HC.put (b := A) (z := y) hB1 (Nat.ne_of_lt hHeld.lt)
                    replace hHeld := hHeld.put (b := A) (z := y) (.inr rfl)
                    refine hK2.out _ _ hHeld (fun _ => ?_)
                    clear hK2 K
                    change wpAnyH _ _ _ _ _ _ _ _ (World.setCells _ A 0 (hartL y))
                    generalize World.setCells _ A 0 (hartL y) = w6 at hHeld hB1 hB2 ⊢
                    refine wpAnyH_done (by kernel_rfl) ?_ _
                    go_wp2_with fail
                    go_meet
                    exact ⟨hB1, hB2, hHeld.th, hHeld.ta, hHeld.bl, hHeld.lt, hHeld.sz⟩
                  exact AllReadyH.nil
                case rest =>
                  have hF := hcut
                  clear hcut hG hY0
                  by_cases hf : y.fin = 0
                  · have c33 : wc.cell? ⟨A, 33, none⟩ = some (.int .i64 0) := (hF.co 33 (by decide)).trans (congrArg some (congrArg (Value.int .i64) hf))
                    clear hf
                    go_wp2_with (first | (refine wpList_load_want (by rfl) 27 _ rfl b (off + k * 9) rfl IL _ (hIL.out _ hF.bl) hu2 rfl hi2.out ?_) | (go_at_call 8; refine (hR.out _).mono ?_; rintro e w8 ⟨rfl, hb8⟩; replace hF := hF.kept hb8; clear hb8))
                    go_roundg (n - (k + 1))
                    case measure => omega
                    case rel => exact ⟨k + 1, y, by omega, rfl, by go_num, hF⟩
                  · have c33 : wc.cell? ⟨A, 33, none⟩ = some (.int .i64 y.fin) := hF.co 33 (by decide)
                    have tf : (y.fin != 0) = true := by simpa using hf
                    have hAsk : Hid (∀ W, Tabs W → Calls Tryz.prog 14 #[.agg (hartL y).toArray, .agg IL.toArray] W fun e w' => e = .returned (.tuple #[.agg noAsk.cells, .int .i64 10]) ∧ Below W.heap.size W w') := Lib.hid fun W hT => by rw [← hILd.out, Array.toArray_toList]; exact HAsk_off y i W hT hop2 10 (mayE_end y i hyE hf) (by decide)
                    rw [hcE] at hR
                    clear hf
                    go_upto_region 21 with (first | (refine wpList_load_want (by rfl) 27 _ rfl b (off + k * 9) rfl IL _ (hIL.out _ hF.bl) hu2 rfl hi2.out ?_) | (go_at_call 8; refine (hR.out _).mono ?_; rintro e w8 ⟨rfl, hb8⟩; replace hF := hF.kept hb8; clear hb8))
                    go_cut [18] (fun s18 wx => s18 = .int .i64 10 ∧ SF w y A wx)
                    case first =>
                      refine wp_region_held_drew (S := fun W => SF w y A W) (by kernel_rfl) hF.drew (fun hHeld => ?_)
                      refine wpAnyH_take (i := 0) rfl (by kernel_rfl) (by kernel_rfl) (by kernel_rfl) (fun _ _ _ h => h) (yieldsIf_load_mid (by rfl) _ _ rfl w.heap.size 0 rfl (hartL y) _ (fun W hS => HC.range (hS.ch)) hu rfl (size_hart _)) hHeld ?_
                      try simp only [Act.put, List.getElem_toArray, List.getElem_cons_zero, List.setIfInBounds_toArray, List.set_cons_zero, List.set_cons_succ]
                      refine wpAnyH_take (i := 1) (v := .slice (some ⟨b, off, none⟩) n cap) rfl (by kernel_rfl) (by kernel_rfl) (by kernel_rfl) (fun _ _ _ h => h) (Or.inl ⟨by rfl, fun W _ => by kernel_rfl⟩) hHeld ?_
                      try simp only [Act.put, List.getElem_toArray, List.getElem_cons_succ, List.getElem_cons_zero, List.setIfInBounds_toArray, List.set_cons_zero, List.set_cons_succ]
                      refine wpAnyH_take (i := 2) (v := .int .i64 k) rfl (by kernel_rfl) (by kernel_rfl) (by kernel_rfl) (fun _ _ _ h => h) (Or.inl ⟨by rfl, fun W _ => by kernel_rfl⟩) hHeld ?_
                      try simp only [Act.put, List.getElem_toArray, List.getElem_cons_succ, List.getElem_cons_zero, List.setIfInBounds_toArray, List.set_cons_zero, List.set_cons_succ]
                      refine wpAnyH_take (i := 3) (v := .pointer (some ⟨b, off + k * 9, none⟩)) rfl (by kernel_rfl) (by kernel_rfl) (by kernel_rfl) (fun _ _ _ h => h) (Or.inl ⟨by rfl, fun W _ => by go_simp⟩) hHeld ?_
                      try simp only [Act.put, List.getElem_toArray, List.getElem_cons_succ, List.getElem_cons_zero, List.setIfInBounds_toArray, List.set_cons_zero, List.set_cons_succ]
                      refine wpAnyH_take (i := 4) rfl (by kernel_rfl) (by kernel_rfl) (by kernel_rfl) (fun _ _ _ h => h) (yieldsIf_load_mid (by rfl) _ _ rfl b (off + k * 9) rfl IL _ (fun W hS => hIL.out W (hS.bl)) hu2 rfl hi2.out) hHeld ?_
                      try simp only [Act.put, List.getElem_toArray, List.getElem_cons_succ, List.getElem_cons_zero, List.setIfInBounds_toArray, List.set_cons_zero, List.set_cons_succ]
                      generalize World.drew _ = W1 at hHeld ⊢
                      refine wpAnyH_ready (rs := [5, 9]) (by kernel_rfl) (by simp) ?_
                      refine AllReadyH.cons rfl (fun K hK2 => ?_) ?_
                      · rw [if_pos (by rfl)]
                        simp only [List.getElem_toArray, List.getElem_cons_succ, List.getElem_cons_zero]
                        go_wp2_with (go_at_call 14; refine (hAsk.out _ (ht.later hHeld.bl (Nat.le_refl _))).mono ?_; rintro e w4 ⟨rfl, hb4⟩)
                        refine hK2.out _ _ (hHeld.kept hb4) (fun hHeld2 => ?_)
                        clear hK2 K hHeld
                        have hHeld := hHeld2
                        clear hHeld2
                        try simp only [Act.put, List.getElem_toArray, List.getElem_cons_succ, List.getElem_cons_zero, List.setIfInBounds_toArray, List.set_cons_zero, List.set_cons_succ]
                        refine wpAnyH_take (i := 6) (v := .tuple #[.agg noAsk.cells, .int .i64 10]) rfl (by kernel_rfl) (by kernel_rfl) (by kernel_rfl) (fun _ _ _ h => h) (Or.inl ⟨by rfl, fun W _ => by kernel_rfl⟩) hHeld ?_
                        try simp only [Act.put, List.getElem_toArray, List.getElem_cons_succ, List.getElem_cons_zero, List.setIfInBounds_toArray, List.set_cons_zero, List.set_cons_succ]
                        refine wpAnyH_take (i := 7) (v := .agg noAsk.cells) rfl (by kernel_rfl) (by kernel_rfl) (by kernel_rfl) (fun _ _ _ h => h) (Or.inl ⟨by rfl, fun W _ => by kernel_rfl⟩) hHeld ?_
                        try simp only [Act.put, List.getElem_toArray, List.getElem_cons_succ, List.getElem_cons_zero, List.setIfInBounds_toArray, List.set_cons_zero, List.set_cons_succ]
                        refine wpAnyH_take (i := 8) (v := .int .i64 10) rfl (by kernel_rfl) (by kernel_rfl) (by kernel_rfl) (fun _ _ _ h => h) (Or.inl ⟨by rfl, fun W _ => by kernel_rfl⟩) hHeld ?_
                        try simp only [Act.put, List.getElem_toArray, List.getElem_cons_succ, List.getElem_cons_zero, List.setIfInBounds_toArray, List.set_cons_zero, List.set_cons_succ]
                        refine wpAnyH_ready (rs := [9]) (by kernel_rfl) (by simp) ?_
                        refine AllReadyH.cons rfl (fun K hK2 => ?_) ?_
                        · rw [if_pos (by rfl)]
                          simp only [List.getElem_toArray, List.getElem_cons_succ, List.getElem_cons_zero]
                          obtain ⟨X, hX⟩ : ∃ X, X = w4.heap.size := ⟨_, rfl⟩
                          have hz := there_fresh w4 #[.int .i64 0, .int .u64 0, .int .u64 0, .int .i64 0, .bool false, .bool false, .int .i64 0, .int .i64 0] 42 8 (by decide)
                          have hlX : w4.heap.size < (w4.alloc (.cells #[.int .i64 0, .int .u64 0, .int .u64 0, .int .i64 0, .bool false, .bool false, .int .i64 0, .int .i64 0] 42)).heap.size := by simp
                          have hAX := hHeld.sz
                          have hal : Below w4.heap.size w4 (w4.alloc (.cells #[.int .i64 0, .int .u64 0, .int .u64 0, .int .i64 0, .bool false, .bool false, .int .i64 0, .int .i64 0] 42)) := (Below.refl _ _).alloc (Nat.le_refl _) _
                          go_simp
                          refine hK2.out _ _ (hHeld.kept hal) (fun hHeld2 => ?_)
                          clear hK2 K hHeld
                          have hHeld := hHeld2
                          clear hHeld2
                          try simp only [Act.put, List.getElem_toArray, List.getElem_cons_succ, List.getElem_cons_zero, List.setIfInBounds_toArray, List.set_cons_zero, List.set_cons_succ]
                          generalize World.alloc _ _ = w5 at hz hlX hHeld hal ⊢
                          rw [← hX] at hz hlX hAX ⊢
                          clear hX hal
                          refine wpAnyH_ready (rs := [10]) (by kernel_rfl) (by simp) (AllReadyH.cons rfl (fun K hK2 => ?_) AllReadyH.nil)
                          rw [if_pos (by rfl)]
                          simp only [List.getElem_toArray, List.getElem_cons_succ, List.getElem_cons_zero]
                          refine wp_store_mid 42 _ _ rfl X 0 noAsk.cells rfl rfl (ask_there hz noAsk) (ask_size noAsk) (ask_one noAsk) ?_
                          refine hK2.out _ _ (hHeld.keep hAX (below_setCells (Nat.le_refl X) noAsk.cells.toList 0 _ (Below.refl X _))) (fun hHeld2 => ?_)
                          clear hK2 K hHeld
                          have hHeld := hHeld2
                          clear hHeld2
                          generalize World.setCells _ X 0 _ = w6 at hHeld ⊢
                          refine wpAnyH_take (i := 11) (v := .int .i64 10) rfl (by kernel_rfl) (by kernel_rfl) (by kernel_rfl) (fun _ _ _ h => h) (Or.inl ⟨by rfl, fun W _ => by kernel_rfl⟩) hHeld ?_
                          try simp only [Act.put, List.getElem_toArray, List.getElem_cons_succ, List.getElem_cons_zero, List.setIfInBounds_toArray, List.set_cons_zero, List.set_cons_succ]
                          refine wpAnyH_done (by kernel_rfl) ?_ _
                          go_wp2_with fail
                          go_meet
                          exact ⟨rfl, hHeld⟩
                        exact AllReadyH.nil
                      refine AllReadyH.cons rfl (fun K hK2 => ?_) ?_
                      · rw [if_pos (by rfl)]
                        simp only [List.getElem_toArray, List.getElem_cons_succ, List.getElem_cons_zero]
                        obtain ⟨X, hX⟩ : ∃ X, X = W1.heap.size := ⟨_, rfl⟩
                        have hz := there_fresh W1 #[.int .i64 0, .int .u64 0, .int .u64 0, .int .i64 0, .bool false, .bool false, .int .i64 0, .int .i64 0] 42 8 (by decide)
                        have hlX : W1.heap.size < (W1.alloc (.cells #[.int .i64 0, .int .u64 0, .int .u64 0, .int .i64 0, .bool false, .bool false, .int .i64 0, .int .i64 0] 42)).heap.size := by simp
                        have hAX := hHeld.sz
                        have hal : Below W1.heap.size W1 (W1.alloc (.cells #[.int .i64 0, .int .u64 0, .int .u64 0, .int .i64 0, .bool false, .bool false, .int .i64 0, .int .i64 0] 42)) := (Below.refl _ _).alloc (Nat.le_refl _) _
                        go_simp
                        refine hK2.out _ _ (hHeld.kept hal) (fun hHeld2 => ?_)
                        clear hK2 K hHeld
                        have hHeld := hHeld2
                        clear hHeld2
                        try simp only [Act.put, List.getElem_toArray, List.getElem_cons_succ, List.getElem_cons_zero, List.setIfInBounds_toArray, List.set_cons_zero, List.set_cons_succ]
                        generalize World.alloc _ _ = w5 at hz hlX hHeld hal ⊢
                        rw [← hX] at hz hlX hAX ⊢
                        clear hX hal
                        refine wpAnyH_ready (rs := [5]) (by kernel_rfl) (by simp) ?_
                        refine AllReadyH.cons rfl (fun K hK2 => ?_) ?_
                        · rw [if_pos (by rfl)]
                          simp only [List.getElem_toArray, List.getElem_cons_succ, List.getElem_cons_zero]
                          go_wp2_with (go_at_call 14; refine (hAsk.out _ (ht.later hHeld.bl (Nat.le_refl _))).mono ?_; rintro e w4 ⟨rfl, hb4⟩)
                          replace hz := there_keepN hz hlX hb4
                          refine hK2.out _ _ (hHeld.kept hb4) (fun hHeld2 => ?_)
                          clear hK2 K hHeld
                          have hHeld := hHeld2
                          clear hHeld2
                          try simp only [Act.put, List.getElem_toArray, List.getElem_cons_succ, List.getElem_cons_zero, List.setIfInBounds_toArray, List.set_cons_zero, List.set_cons_succ]
                          refine wpAnyH_take (i := 6) (v := .tuple #[.agg noAsk.cells, .int .i64 10]) rfl (by kernel_rfl) (by kernel_rfl) (by kernel_rfl) (fun _ _ _ h => h) (Or.inl ⟨by rfl, fun W _ => by kernel_rfl⟩) hHeld ?_
                          try simp only [Act.put, List.getElem_toArray, List.getElem_cons_succ, List.getElem_cons_zero, List.setIfInBounds_toArray, List.set_cons_zero, List.set_cons_succ]
                          refine wpAnyH_take (i := 7) (v := .agg noAsk.cells) rfl (by kernel_rfl) (by kernel_rfl) (by kernel_rfl) (fun _ _ _ h => h) (Or.inl ⟨by rfl, fun W _ => by kernel_rfl⟩) hHeld ?_
                          try simp only [Act.put, List.getElem_toArray, List.getElem_cons_succ, List.getElem_cons_zero, List.setIfInBounds_toArray, List.set_cons_zero, List.set_cons_succ]
                          refine wpAnyH_take (i := 8) (v := .int .i64 10) rfl (by kernel_rfl) (by kernel_rfl) (by kernel_rfl) (fun _ _ _ h => h) (Or.inl ⟨by rfl, fun W _ => by kernel_rfl⟩) hHeld ?_
                          try simp only [Act.put, List.getElem_toArray, List.getElem_cons_succ, List.getElem_cons_zero, List.setIfInBounds_toArray, List.set_cons_zero, List.set_cons_succ]
                          refine wpAnyH_ready (rs := [10]) (by kernel_rfl) (by simp) (AllReadyH.cons rfl (fun K hK2 => ?_) AllReadyH.nil)
                          rw [if_pos (by rfl)]
                          simp only [List.getElem_toArray, List.getElem_cons_succ, List.getElem_cons_zero]
                          refine wp_store_mid 42 _ _ rfl X 0 noAsk.cells rfl rfl (ask_there hz noAsk) (ask_size noAsk) (ask_one noAsk) ?_
                          refine hK2.out _ _ (hHeld.keep hAX (below_setCells (Nat.le_refl X) noAsk.cells.toList 0 _ (Below.refl X _))) (fun hHeld2 => ?_)
                          clear hK2 K hHeld
                          have hHeld := hHeld2
                          clear hHeld2
                          generalize World.setCells _ X 0 _ = w6 at hHeld ⊢
                          refine wpAnyH_take (i := 11) (v := .int .i64 10) rfl (by kernel_rfl) (by kernel_rfl) (by kernel_rfl) (fun _ _ _ h => h) (Or.inl ⟨by rfl, fun W _ => by kernel_rfl⟩) hHeld ?_
                          try simp only [Act.put, List.getElem_toArray, List.getElem_cons_succ, List.getElem_cons_zero, List.setIfInBounds_toArray, List.set_cons_zero, List.set_cons_succ]
                          refine wpAnyH_done (by kernel_rfl) ?_ _
                          go_wp2_with fail
                          go_meet
                          exact ⟨rfl, hHeld⟩
                        exact AllReadyH.nil
                      exact AllReadyH.nil
                    case rest =>
                      obtain ⟨rfl, hF⟩ := hcut
                      go_wp2_with fail
                      go_ret
                      exact ⟨rfl, hF.bl⟩
              · have tE : (E == 0) = false := by simpa using e
                have tEE : (E != E) = false := by simp
                clear e
                go_upto_region 16 with fail
                refine wp_region_lit ?_
                refine wpList_yieldsS (S := fun W => W = wc) (v := .agg (hartL y).toArray) (yieldsIf_load_mid (by rfl) 25 _ rfl X0 0 rfl (hartL y) _ (fun W hS => by rw [hS]; exact (hG.x).range) hu rfl (size_hart _)) rfl ?_
                try simp only [Act.put, List.setIfInBounds_toArray, List.set_cons_zero, List.set_cons_succ]
                refine wpList_yieldsS (S := fun W => W = wc) (v := .agg (hartL y).toArray) (yieldsIf_load_mid (by rfl) 25 _ rfl Y0 0 rfl (hartL y) _ (fun W hS => by rw [hS]; exact (hY0).range) hu rfl (size_hart _)) rfl ?_
                try simp only [Act.put, List.setIfInBounds_toArray, List.set_cons_zero, List.set_cons_succ]
                refine wpList_yieldsS (S := fun W => W = wc) (v := .bool false) (yieldsIf_neq_hart (by rfl) _ _ _ rfl (hartL y).toArray rfl rfl (fun W => hart_neq y W)) rfl ?_
                try simp only [Act.put, List.setIfInBounds_toArray, List.set_cons_zero, List.set_cons_succ]
                refine wpList_yieldsS (S := fun W => W = wc) (v := .bool false) (Or.inl ⟨by rfl, fun W _ => by kernel_rfl⟩) rfl ?_
                try simp only [Act.put, List.setIfInBounds_toArray, List.set_cons_zero, List.set_cons_succ]
                refine wpList_yieldsS (S := fun W => W = wc) (v := .int .i64 E) (Or.inl ⟨by rfl, fun W _ => by kernel_rfl⟩) rfl ?_
                try simp only [Act.put, List.setIfInBounds_toArray, List.set_cons_zero, List.set_cons_succ]
                refine wpList_yieldsS (S := fun W => W = wc) (v := .int .i64 E) (Or.inl ⟨by rfl, fun W _ => by kernel_rfl⟩) rfl ?_
                try simp only [Act.put, List.setIfInBounds_toArray, List.set_cons_zero, List.set_cons_succ]
                refine wpList_yieldsS (S := fun W => W = wc) (v := .bool false) (Or.inl ⟨by rfl, fun W _ => by go_simp⟩) rfl ?_
                try simp only [Act.put, List.setIfInBounds_toArray, List.set_cons_zero, List.set_cons_succ]
                refine wpList_yieldsS (S := fun W => W = wc) (v := .bool false) (Or.inl ⟨by rfl, fun W _ => by kernel_rfl⟩) rfl ?_
                try simp only [Act.put, List.setIfInBounds_toArray, List.set_cons_zero, List.set_cons_succ]
                refine wpList_nil ?_
                go_upto_region 20 with fail
                have hF := hG.f
                clear hG hY0
                by_cases hf : h'.fin = 0
                · have c33 : wc.cell? ⟨A, 33, none⟩ = some (.int .i64 0) := (hF.co 33 (by decide)).trans (congrArg some (congrArg (Value.int .i64) hf))
                  clear hf
                  go_wp2_with (first | (refine wpList_load_want (by rfl) 27 _ rfl b (off + k * 9) rfl IL _ (hIL.out _ hF.bl) hu2 rfl hi2.out ?_) | (go_at_call 8; refine (hR.out _).mono ?_; rintro e w8 ⟨rfl, hb8⟩; replace hF := hF.kept hb8; clear hb8))
                  go_roundg (n - (k + 1))
                  case measure => omega
                  case rel => exact ⟨k + 1, h', by omega, rfl, by go_num, hF⟩
                · have c33 : wc.cell? ⟨A, 33, none⟩ = some (.int .i64 h'.fin) := hF.co 33 (by decide)
                  have tf : (h'.fin != 0) = true := by simpa using hf
                  by_cases hc : checkE i = 0
                  · rw [hc] at hR
                    rcases hartE_or h' with hb | hb
                    · have hAsk : Hid (∀ W, Tabs W → Calls Tryz.prog 14 #[.agg (hartL h').toArray, .agg IL.toArray] W fun e w' => e = .returned (.tuple #[.agg noAsk.cells, .int .i64 10]) ∧ Below W.heap.size W w') := Lib.hid fun W hT => by rw [← hILd.out, Array.toArray_toList]; exact HAsk_off h' i W hT hop2 10 (mayE_end h' i hb hf) (by decide)
                      clear hf hc hb
                      go_upto_region 21 with (first | (refine wpList_load_want (by rfl) 27 _ rfl b (off + k * 9) rfl IL _ (hIL.out _ hF.bl) hu2 rfl hi2.out ?_) | (go_at_call 8; refine (hR.out _).mono ?_; rintro e w8 ⟨rfl, hb8⟩; replace hF := hF.kept hb8; clear hb8))
                      go_cut [18] (fun s18 wx => s18 = .int .i64 10 ∧ SF w h' A wx)
                      case first =>
                        refine wp_region_held_drew (S := fun W => SF w h' A W) (by kernel_rfl) hF.drew (fun hHeld => ?_)
                        refine wpAnyH_take (i := 0) rfl (by kernel_rfl) (by kernel_rfl) (by kernel_rfl) (fun _ _ _ h => h) (yieldsIf_load_mid (by rfl) _ _ rfl w.heap.size 0 rfl (hartL h') _ (fun W hS => HC.range (hS.ch)) hu rfl (size_hart _)) hHeld ?_
                        try simp only [Act.put, List.getElem_toArray, List.getElem_cons_zero, List.setIfInBounds_toArray, List.set_cons_zero, List.set_cons_succ]
                        refine wpAnyH_take (i := 1) (v := .slice (some ⟨b, off, none⟩) n cap) rfl (by kernel_rfl) (by kernel_rfl) (by kernel_rfl) (fun _ _ _ h => h) (Or.inl ⟨by rfl, fun W _ => by kernel_rfl⟩) hHeld ?_
                        try simp only [Act.put, List.getElem_toArray, List.getElem_cons_succ, List.getElem_cons_zero, List.setIfInBounds_toArray, List.set_cons_zero, List.set_cons_succ]
                        refine wpAnyH_take (i := 2) (v := .int .i64 k) rfl (by kernel_rfl) (by kernel_rfl) (by kernel_rfl) (fun _ _ _ h => h) (Or.inl ⟨by rfl, fun W _ => by kernel_rfl⟩) hHeld ?_
                        try simp only [Act.put, List.getElem_toArray, List.getElem_cons_succ, List.getElem_cons_zero, List.setIfInBounds_toArray, List.set_cons_zero, List.set_cons_succ]
                        refine wpAnyH_take (i := 3) (v := .pointer (some ⟨b, off + k * 9, none⟩)) rfl (by kernel_rfl) (by kernel_rfl) (by kernel_rfl) (fun _ _ _ h => h) (Or.inl ⟨by rfl, fun W _ => by go_simp⟩) hHeld ?_
                        try simp only [Act.put, List.getElem_toArray, List.getElem_cons_succ, List.getElem_cons_zero, List.setIfInBounds_toArray, List.set_cons_zero, List.set_cons_succ]
                        refine wpAnyH_take (i := 4) rfl (by kernel_rfl) (by kernel_rfl) (by kernel_rfl) (fun _ _ _ h => h) (yieldsIf_load_mid (by rfl) _ _ rfl b (off + k * 9) rfl IL _ (fun W hS => hIL.out W (hS.bl)) hu2 rfl hi2.out) hHeld ?_
                        try simp only [Act.put, List.getElem_toArray, List.getElem_cons_succ, List.getElem_cons_zero, List.setIfInBounds_toArray, List.set_cons_zero, List.set_cons_succ]
                        generalize World.drew _ = W1 at hHeld ⊢
                        refine wpAnyH_ready (rs := [5, 9]) (by kernel_rfl) (by simp) ?_
                        refine AllReadyH.cons rfl (fun K hK2 => ?_) ?_
                        · rw [if_pos (by rfl)]
                          simp only [List.getElem_toArray, List.getElem_cons_succ, List.getElem_cons_zero]
                          go_wp2_with (go_at_call 14; refine (hAsk.out _ (ht.later hHeld.bl (Nat.le_refl _))).mono ?_; rintro e w4 ⟨rfl, hb4⟩)
                          refine hK2.out _ _ (hHeld.kept hb4) (fun hHeld2 => ?_)
                          clear hK2 K hHeld
                          have hHeld := hHeld2
                          clear hHeld2
                          try simp only [Act.put, List.getElem_toArray, List.getElem_cons_succ, List.getElem_cons_zero, List.setIfInBounds_toArray, List.set_cons_zero, List.set_cons_succ]
                          refine wpAnyH_take (i := 6) (v := .tuple #[.agg noAsk.cells, .int .i64 10]) rfl (by kernel_rfl) (by kernel_rfl) (by kernel_rfl) (fun _ _ _ h => h) (Or.inl ⟨by rfl, fun W _ => by kernel_rfl⟩) hHeld ?_
                          try simp only [Act.put, List.getElem_toArray, List.getElem_cons_succ, List.getElem_cons_zero, List.setIfInBounds_toArray, List.set_cons_zero, List.set_cons_succ]
                          refine wpAnyH_take (i := 7) (v := .agg noAsk.cells) rfl (by kernel_rfl) (by kernel_rfl) (by kernel_rfl) (fun _ _ _ h => h) (Or.inl ⟨by rfl, fun W _ => by kernel_rfl⟩) hHeld ?_
                          try simp only [Act.put, List.getElem_toArray, List.getElem_cons_succ, List.getElem_cons_zero, List.setIfInBounds_toArray, List.set_cons_zero, List.set_cons_succ]
                          refine wpAnyH_take (i := 8) (v := .int .i64 10) rfl (by kernel_rfl) (by kernel_rfl) (by kernel_rfl) (fun _ _ _ h => h) (Or.inl ⟨by rfl, fun W _ => by kernel_rfl⟩) hHeld ?_
                          try simp only [Act.put, List.getElem_toArray, List.getElem_cons_succ, List.getElem_cons_zero, List.setIfInBounds_toArray, List.set_cons_zero, List.set_cons_succ]
                          refine wpAnyH_ready (rs := [9]) (by kernel_rfl) (by simp) ?_
                          refine AllReadyH.cons rfl (fun K hK2 => ?_) ?_
                          · rw [if_pos (by rfl)]
                            simp only [List.getElem_toArray, List.getElem_cons_succ, List.getElem_cons_zero]
                            obtain ⟨X, hX⟩ : ∃ X, X = w4.heap.size := ⟨_, rfl⟩
                            have hz := there_fresh w4 #[.int .i64 0, .int .u64 0, .int .u64 0, .int .i64 0, .bool false, .bool false, .int .i64 0, .int .i64 0] 42 8 (by decide)
                            have hlX : w4.heap.size < (w4.alloc (.cells #[.int .i64 0, .int .u64 0, .int .u64 0, .int .i64 0, .bool false, .bool false, .int .i64 0, .int .i64 0] 42)).heap.size := by simp
                            have hAX := hHeld.sz
                            have hal : Below w4.heap.size w4 (w4.alloc (.cells #[.int .i64 0, .int .u64 0, .int .u64 0, .int .i64 0, .bool false, .bool false, .int .i64 0, .int .i64 0] 42)) := (Below.refl _ _).alloc (Nat.le_refl _) _
                            go_simp
                            refine hK2.out _ _ (hHeld.kept hal) (fun hHeld2 => ?_)
                            clear hK2 K hHeld
                            have hHeld := hHeld2
                            clear hHeld2
                            try simp only [Act.put, List.getElem_toArray, List.getElem_cons_succ, List.getElem_cons_zero, List.setIfInBounds_toArray, List.set_cons_zero, List.set_cons_succ]
                            generalize World.alloc _ _ = w5 at hz hlX hHeld hal ⊢
                            rw [← hX] at hz hlX hAX ⊢
                            clear hX hal
                            refine wpAnyH_ready (rs := [10]) (by kernel_rfl) (by simp) (AllReadyH.cons rfl (fun K hK2 => ?_) AllReadyH.nil)
                            rw [if_pos (by rfl)]
                            simp only [List.getElem_toArray, List.getElem_cons_succ, List.getElem_cons_zero]
                            refine wp_store_mid 42 _ _ rfl X 0 noAsk.cells rfl rfl (ask_there hz noAsk) (ask_size noAsk) (ask_one noAsk) ?_
                            refine hK2.out _ _ (hHeld.keep hAX (below_setCells (Nat.le_refl X) noAsk.cells.toList 0 _ (Below.refl X _))) (fun hHeld2 => ?_)
                            clear hK2 K hHeld
                            have hHeld := hHeld2
                            clear hHeld2
                            generalize World.setCells _ X 0 _ = w6 at hHeld ⊢
                            refine wpAnyH_take (i := 11) (v := .int .i64 10) rfl (by kernel_rfl) (by kernel_rfl) (by kernel_rfl) (fun _ _ _ h => h) (Or.inl ⟨by rfl, fun W _ => by kernel_rfl⟩) hHeld ?_
                            try simp only [Act.put, List.getElem_toArray, List.getElem_cons_succ, List.getElem_cons_zero, List.setIfInBounds_toArray, List.set_cons_zero, List.set_cons_succ]
                            refine wpAnyH_done (by kernel_rfl) ?_ _
                            go_wp2_with fail
                            go_meet
                            exact ⟨rfl, hHeld⟩
                          exact AllReadyH.nil
                        refine AllReadyH.cons rfl (fun K hK2 => ?_) ?_
                        · rw [if_pos (by rfl)]
                          simp only [List.getElem_toArray, List.getElem_cons_succ, List.getElem_cons_zero]
                          obtain ⟨X, hX⟩ : ∃ X, X = W1.heap.size := ⟨_, rfl⟩
                          have hz := there_fresh W1 #[.int .i64 0, .int .u64 0, .int .u64 0, .int .i64 0, .bool false, .bool false, .int .i64 0, .int .i64 0] 42 8 (by decide)
                          have hlX : W1.heap.size < (W1.alloc (.cells #[.int .i64 0, .int .u64 0, .int .u64 0, .int .i64 0, .bool false, .bool false, .int .i64 0, .int .i64 0] 42)).heap.size := by simp
                          have hAX := hHeld.sz
                          have hal : Below W1.heap.size W1 (W1.alloc (.cells #[.int .i64 0, .int .u64 0, .int .u64 0, .int .i64 0, .bool false, .bool false, .int .i64 0, .int .i64 0] 42)) := (Below.refl _ _).alloc (Nat.le_refl _) _
                          go_simp
                          refine hK2.out _ _ (hHeld.kept hal) (fun hHeld2 => ?_)
                          clear hK2 K hHeld
                          have hHeld := hHeld2
                          clear hHeld2
                          try simp only [Act.put, List.getElem_toArray, List.getElem_cons_succ, List.getElem_cons_zero, List.setIfInBounds_toArray, List.set_cons_zero, List.set_cons_succ]
                          generalize World.alloc _ _ = w5 at hz hlX hHeld hal ⊢
                          rw [← hX] at hz hlX hAX ⊢
                          clear hX hal
                          refine wpAnyH_ready (rs := [5]) (by kernel_rfl) (by simp) ?_
                          refine AllReadyH.cons rfl (fun K hK2 => ?_) ?_
                          · rw [if_pos (by rfl)]
                            simp only [List.getElem_toArray, List.getElem_cons_succ, List.getElem_cons_zero]
                            go_wp2_with (go_at_call 14; refine (hAsk.out _ (ht.later hHeld.bl (Nat.le_refl _))).mono ?_; rintro e w4 ⟨rfl, hb4⟩)
                            replace hz := there_keepN hz hlX hb4
                            refine hK2.out _ _ (hHeld.kept hb4) (fun hHeld2 => ?_)
                            clear hK2 K hHeld
                            have hHeld := hHeld2
                            clear hHeld2
                            try simp only [Act.put, List.getElem_toArray, List.getElem_cons_succ, List.getElem_cons_zero, List.setIfInBounds_toArray, List.set_cons_zero, List.set_cons_succ]
                            refine wpAnyH_take (i := 6) (v := .tuple #[.agg noAsk.cells, .int .i64 10]) rfl (by kernel_rfl) (by kernel_rfl) (by kernel_rfl) (fun _ _ _ h => h) (Or.inl ⟨by rfl, fun W _ => by kernel_rfl⟩) hHeld ?_
                            try simp only [Act.put, List.getElem_toArray, List.getElem_cons_succ, List.getElem_cons_zero, List.setIfInBounds_toArray, List.set_cons_zero, List.set_cons_succ]
                            refine wpAnyH_take (i := 7) (v := .agg noAsk.cells) rfl (by kernel_rfl) (by kernel_rfl) (by kernel_rfl) (fun _ _ _ h => h) (Or.inl ⟨by rfl, fun W _ => by kernel_rfl⟩) hHeld ?_
                            try simp only [Act.put, List.getElem_toArray, List.getElem_cons_succ, List.getElem_cons_zero, List.setIfInBounds_toArray, List.set_cons_zero, List.set_cons_succ]
                            refine wpAnyH_take (i := 8) (v := .int .i64 10) rfl (by kernel_rfl) (by kernel_rfl) (by kernel_rfl) (fun _ _ _ h => h) (Or.inl ⟨by rfl, fun W _ => by kernel_rfl⟩) hHeld ?_
                            try simp only [Act.put, List.getElem_toArray, List.getElem_cons_succ, List.getElem_cons_zero, List.setIfInBounds_toArray, List.set_cons_zero, List.set_cons_succ]
                            refine wpAnyH_ready (rs := [10]) (by kernel_rfl) (by simp) (AllReadyH.cons rfl (fun K hK2 => ?_) AllReadyH.nil)
                            rw [if_pos (by rfl)]
                            simp only [List.getElem_toArray, List.getElem_cons_succ, List.getElem_cons_zero]
                            refine wp_store_mid 42 _ _ rfl X 0 noAsk.cells rfl rfl (ask_there hz noAsk) (ask_size noAsk) (ask_one noAsk) ?_
                            refine hK2.out _ _ (hHeld.keep hAX (below_setCells (Nat.le_refl X) noAsk.cells.toList 0 _ (Below.refl X _))) (fun hHeld2 => ?_)
                            clear hK2 K hHeld
                            have hHeld := hHeld2
                            clear hHeld2
                            generalize World.setCells _ X 0 _ = w6 at hHeld ⊢
                            refine wpAnyH_take (i := 11) (v := .int .i64 10) rfl (by kernel_rfl) (by kernel_rfl) (by kernel_rfl) (fun _ _ _ h => h) (Or.inl ⟨by rfl, fun W _ => by kernel_rfl⟩) hHeld ?_
                            try simp only [Act.put, List.getElem_toArray, List.getElem_cons_succ, List.getElem_cons_zero, List.setIfInBounds_toArray, List.set_cons_zero, List.set_cons_succ]
                            refine wpAnyH_done (by kernel_rfl) ?_ _
                            go_wp2_with fail
                            go_meet
                            exact ⟨rfl, hHeld⟩
                          exact AllReadyH.nil
                        exact AllReadyH.nil
                      case rest =>
                        obtain ⟨rfl, hF⟩ := hcut
                        go_wp2_with fail
                        go_ret
                        exact ⟨rfl, hF.bl⟩
                    · have hAsk : Hid (∀ W, Tabs W → Calls Tryz.prog 14 #[.agg (hartL h').toArray, .agg IL.toArray] W fun e w' => e = .returned (.tuple #[.agg noAsk.cells, .int .i64 2]) ∧ Below W.heap.size W w') := Lib.hid fun W hT => by rw [← hILd.out, Array.toArray_toList]; exact HAsk_off h' i W hT hop2 2 (mayE_bad h' i hb) (by decide)
                      have hCk := Lib.hid (fun W => HCheck_any h' W)
                      rw [hb] at hCk
                      clear hf hc hb
                      go_upto_region 21 with (first | (refine wpList_load_want (by rfl) 27 _ rfl b (off + k * 9) rfl IL _ (hIL.out _ hF.bl) hu2 rfl hi2.out ?_) | (go_at_call 8; refine (hR.out _).mono ?_; rintro e w8 ⟨rfl, hb8⟩; replace hF := hF.kept hb8; clear hb8))
                      go_cut [18] (fun s18 wx => s18 = .int .i64 2 ∧ SF w h' A wx)
                      case first =>
                        refine wp_region_held_drew (S := fun W => SF w h' A W) (by kernel_rfl) hF.drew (fun hHeld => ?_)
                        refine wpAnyH_take (i := 0) rfl (by kernel_rfl) (by kernel_rfl) (by kernel_rfl) (fun _ _ _ h => h) (yieldsIf_load_mid (by rfl) _ _ rfl w.heap.size 0 rfl (hartL h') _ (fun W hS => HC.range (hS.ch)) hu rfl (size_hart _)) hHeld ?_
                        try simp only [Act.put, List.getElem_toArray, List.getElem_cons_zero, List.setIfInBounds_toArray, List.set_cons_zero, List.set_cons_succ]
                        refine wpAnyH_take (i := 1) (v := .slice (some ⟨b, off, none⟩) n cap) rfl (by kernel_rfl) (by kernel_rfl) (by kernel_rfl) (fun _ _ _ h => h) (Or.inl ⟨by rfl, fun W _ => by kernel_rfl⟩) hHeld ?_
                        try simp only [Act.put, List.getElem_toArray, List.getElem_cons_succ, List.getElem_cons_zero, List.setIfInBounds_toArray, List.set_cons_zero, List.set_cons_succ]
                        refine wpAnyH_take (i := 2) (v := .int .i64 k) rfl (by kernel_rfl) (by kernel_rfl) (by kernel_rfl) (fun _ _ _ h => h) (Or.inl ⟨by rfl, fun W _ => by kernel_rfl⟩) hHeld ?_
                        try simp only [Act.put, List.getElem_toArray, List.getElem_cons_succ, List.getElem_cons_zero, List.setIfInBounds_toArray, List.set_cons_zero, List.set_cons_succ]
                        refine wpAnyH_take (i := 3) (v := .pointer (some ⟨b, off + k * 9, none⟩)) rfl (by kernel_rfl) (by kernel_rfl) (by kernel_rfl) (fun _ _ _ h => h) (Or.inl ⟨by rfl, fun W _ => by go_simp⟩) hHeld ?_
                        try simp only [Act.put, List.getElem_toArray, List.getElem_cons_succ, List.getElem_cons_zero, List.setIfInBounds_toArray, List.set_cons_zero, List.set_cons_succ]
                        refine wpAnyH_take (i := 4) rfl (by kernel_rfl) (by kernel_rfl) (by kernel_rfl) (fun _ _ _ h => h) (yieldsIf_load_mid (by rfl) _ _ rfl b (off + k * 9) rfl IL _ (fun W hS => hIL.out W (hS.bl)) hu2 rfl hi2.out) hHeld ?_
                        try simp only [Act.put, List.getElem_toArray, List.getElem_cons_succ, List.getElem_cons_zero, List.setIfInBounds_toArray, List.set_cons_zero, List.set_cons_succ]
                        generalize World.drew _ = W1 at hHeld ⊢
                        refine wpAnyH_ready (rs := [5, 9]) (by kernel_rfl) (by simp) ?_
                        refine AllReadyH.cons rfl (fun K hK2 => ?_) ?_
                        · rw [if_pos (by rfl)]
                          simp only [List.getElem_toArray, List.getElem_cons_succ, List.getElem_cons_zero]
                          go_wp2_with (go_at_call 14; refine (hAsk.out _ (ht.later hHeld.bl (Nat.le_refl _))).mono ?_; rintro e w4 ⟨rfl, hb4⟩)
                          refine hK2.out _ _ (hHeld.kept hb4) (fun hHeld2 => ?_)
                          clear hK2 K hHeld
                          have hHeld := hHeld2
                          clear hHeld2
                          try simp only [Act.put, List.getElem_toArray, List.getElem_cons_succ, List.getElem_cons_zero, List.setIfInBounds_toArray, List.set_cons_zero, List.set_cons_succ]
                          refine wpAnyH_take (i := 6) (v := .tuple #[.agg noAsk.cells, .int .i64 2]) rfl (by kernel_rfl) (by kernel_rfl) (by kernel_rfl) (fun _ _ _ h => h) (Or.inl ⟨by rfl, fun W _ => by kernel_rfl⟩) hHeld ?_
                          try simp only [Act.put, List.getElem_toArray, List.getElem_cons_succ, List.getElem_cons_zero, List.setIfInBounds_toArray, List.set_cons_zero, List.set_cons_succ]
                          refine wpAnyH_take (i := 7) (v := .agg noAsk.cells) rfl (by kernel_rfl) (by kernel_rfl) (by kernel_rfl) (fun _ _ _ h => h) (Or.inl ⟨by rfl, fun W _ => by kernel_rfl⟩) hHeld ?_
                          try simp only [Act.put, List.getElem_toArray, List.getElem_cons_succ, List.getElem_cons_zero, List.setIfInBounds_toArray, List.set_cons_zero, List.set_cons_succ]
                          refine wpAnyH_take (i := 8) (v := .int .i64 2) rfl (by kernel_rfl) (by kernel_rfl) (by kernel_rfl) (fun _ _ _ h => h) (Or.inl ⟨by rfl, fun W _ => by kernel_rfl⟩) hHeld ?_
                          try simp only [Act.put, List.getElem_toArray, List.getElem_cons_succ, List.getElem_cons_zero, List.setIfInBounds_toArray, List.set_cons_zero, List.set_cons_succ]
                          refine wpAnyH_ready (rs := [9]) (by kernel_rfl) (by simp) ?_
                          refine AllReadyH.cons rfl (fun K hK2 => ?_) ?_
                          · rw [if_pos (by rfl)]
                            simp only [List.getElem_toArray, List.getElem_cons_succ, List.getElem_cons_zero]
                            obtain ⟨X, hX⟩ : ∃ X, X = w4.heap.size := ⟨_, rfl⟩
                            have hz := there_fresh w4 #[.int .i64 0, .int .u64 0, .int .u64 0, .int .i64 0, .bool false, .bool false, .int .i64 0, .int .i64 0] 42 8 (by decide)
                            have hlX : w4.heap.size < (w4.alloc (.cells #[.int .i64 0, .int .u64 0, .int .u64 0, .int .i64 0, .bool false, .bool false, .int .i64 0, .int .i64 0] 42)).heap.size := by simp
                            have hAX := hHeld.sz
                            have hal : Below w4.heap.size w4 (w4.alloc (.cells #[.int .i64 0, .int .u64 0, .int .u64 0, .int .i64 0, .bool false, .bool false, .int .i64 0, .int .i64 0] 42)) := (Below.refl _ _).alloc (Nat.le_refl _) _
                            go_simp
                            refine hK2.out _ _ (hHeld.kept hal) (fun hHeld2 => ?_)
                            clear hK2 K hHeld
                            have hHeld := hHeld2
                            clear hHeld2
                            try simp only [Act.put, List.getElem_toArray, List.getElem_cons_succ, List.getElem_cons_zero, List.setIfInBounds_toArray, List.set_cons_zero, List.set_cons_succ]
                            generalize World.alloc _ _ = w5 at hz hlX hHeld hal ⊢
                            rw [← hX] at hz hlX hAX ⊢
                            clear hX hal
                            refine wpAnyH_ready (rs := [10]) (by kernel_rfl) (by simp) (AllReadyH.cons rfl (fun K hK2 => ?_) AllReadyH.nil)
                            rw [if_pos (by rfl)]
                            simp only [List.getElem_toArray, List.getElem_cons_succ, List.getElem_cons_zero]
                            refine wp_store_mid 42 _ _ rfl X 0 noAsk.cells rfl rfl (ask_there hz noAsk) (ask_size noAsk) (ask_one noAsk) ?_
                            refine hK2.out _ _ (hHeld.keep hAX (below_setCells (Nat.le_refl X) noAsk.cells.toList 0 _ (Below.refl X _))) (fun hHeld2 => ?_)
                            clear hK2 K hHeld
                            have hHeld := hHeld2
                            clear hHeld2
                            generalize World.setCells _ X 0 _ = w6 at hHeld ⊢
                            refine wpAnyH_take (i := 11) (v := .int .i64 2) rfl (by kernel_rfl) (by kernel_rfl) (by kernel_rfl) (fun _ _ _ h => h) (Or.inl ⟨by rfl, fun W _ => by kernel_rfl⟩) hHeld ?_
                            try simp only [Act.put, List.getElem_toArray, List.getElem_cons_succ, List.getElem_cons_zero, List.setIfInBounds_toArray, List.set_cons_zero, List.set_cons_succ]
                            refine wpAnyH_done (by kernel_rfl) ?_ _
                            go_wp2_with fail
                            go_meet
                            exact ⟨rfl, hHeld⟩
                          exact AllReadyH.nil
                        refine AllReadyH.cons rfl (fun K hK2 => ?_) ?_
                        · rw [if_pos (by rfl)]
                          simp only [List.getElem_toArray, List.getElem_cons_succ, List.getElem_cons_zero]
                          obtain ⟨X, hX⟩ : ∃ X, X = W1.heap.size := ⟨_, rfl⟩
                          have hz := there_fresh W1 #[.int .i64 0, .int .u64 0, .int .u64 0, .int .i64 0, .bool false, .bool false, .int .i64 0, .int .i64 0] 42 8 (by decide)
                          have hlX : W1.heap.size < (W1.alloc (.cells #[.int .i64 0, .int .u64 0, .int .u64 0, .int .i64 0, .bool false, .bool false, .int .i64 0, .int .i64 0] 42)).heap.size := by simp
                          have hAX := hHeld.sz
                          have hal : Below W1.heap.size W1 (W1.alloc (.cells #[.int .i64 0, .int .u64 0, .int .u64 0, .int .i64 0, .bool false, .bool false, .int .i64 0, .int .i64 0] 42)) := (Below.refl _ _).alloc (Nat.le_refl _) _
                          go_simp
                          refine hK2.out _ _ (hHeld.kept hal) (fun hHeld2 => ?_)
                          clear hK2 K hHeld
                          have hHeld := hHeld2
                          clear hHeld2
                          try simp only [Act.put, List.getElem_toArray, List.getElem_cons_succ, List.getElem_cons_zero, List.setIfInBounds_toArray, List.set_cons_zero, List.set_cons_succ]
                          generalize World.alloc _ _ = w5 at hz hlX hHeld hal ⊢
                          rw [← hX] at hz hlX hAX ⊢
                          clear hX hal
                          refine wpAnyH_ready (rs := [5]) (by kernel_rfl) (by simp) ?_
                          refine AllReadyH.cons rfl (fun K hK2 => ?_) ?_
                          · rw [if_pos (by rfl)]
                            simp only [List.getElem_toArray, List.getElem_cons_succ, List.getElem_cons_zero]
                            go_wp2_with (go_at_call 14; refine (hAsk.out _ (ht.later hHeld.bl (Nat.le_refl _))).mono ?_; rintro e w4 ⟨rfl, hb4⟩)
                            replace hz := there_keepN hz hlX hb4
                            refine hK2.out _ _ (hHeld.kept hb4) (fun hHeld2 => ?_)
                            clear hK2 K hHeld
                            have hHeld := hHeld2
                            clear hHeld2
                            try simp only [Act.put, List.getElem_toArray, List.getElem_cons_succ, List.getElem_cons_zero, List.setIfInBounds_toArray, List.set_cons_zero, List.set_cons_succ]
                            refine wpAnyH_take (i := 6) (v := .tuple #[.agg noAsk.cells, .int .i64 2]) rfl (by kernel_rfl) (by kernel_rfl) (by kernel_rfl) (fun _ _ _ h => h) (Or.inl ⟨by rfl, fun W _ => by kernel_rfl⟩) hHeld ?_
                            try simp only [Act.put, List.getElem_toArray, List.getElem_cons_succ, List.getElem_cons_zero, List.setIfInBounds_toArray, List.set_cons_zero, List.set_cons_succ]
                            refine wpAnyH_take (i := 7) (v := .agg noAsk.cells) rfl (by kernel_rfl) (by kernel_rfl) (by kernel_rfl) (fun _ _ _ h => h) (Or.inl ⟨by rfl, fun W _ => by kernel_rfl⟩) hHeld ?_
                            try simp only [Act.put, List.getElem_toArray, List.getElem_cons_succ, List.getElem_cons_zero, List.setIfInBounds_toArray, List.set_cons_zero, List.set_cons_succ]
                            refine wpAnyH_take (i := 8) (v := .int .i64 2) rfl (by kernel_rfl) (by kernel_rfl) (by kernel_rfl) (fun _ _ _ h => h) (Or.inl ⟨by rfl, fun W _ => by kernel_rfl⟩) hHeld ?_
                            try simp only [Act.put, List.getElem_toArray, List.getElem_cons_succ, List.getElem_cons_zero, List.setIfInBounds_toArray, List.set_cons_zero, List.set_cons_succ]
                            refine wpAnyH_ready (rs := [10]) (by kernel_rfl) (by simp) (AllReadyH.cons rfl (fun K hK2 => ?_) AllReadyH.nil)
                            rw [if_pos (by rfl)]
                            simp only [List.getElem_toArray, List.getElem_cons_succ, List.getElem_cons_zero]
                            refine wp_store_mid 42 _ _ rfl X 0 noAsk.cells rfl rfl (ask_there hz noAsk) (ask_size noAsk) (ask_one noAsk) ?_
                            refine hK2.out _ _ (hHeld.keep hAX (below_setCells (Nat.le_refl X) noAsk.cells.toList 0 _ (Below.refl X _))) (fun hHeld2 => ?_)
                            clear hK2 K hHeld
                            have hHeld := hHeld2
                            clear hHeld2
                            generalize World.setCells _ X 0 _ = w6 at hHeld ⊢
                            refine wpAnyH_take (i := 11) (v := .int .i64 2) rfl (by kernel_rfl) (by kernel_rfl) (by kernel_rfl) (fun _ _ _ h => h) (Or.inl ⟨by rfl, fun W _ => by kernel_rfl⟩) hHeld ?_
                            try simp only [Act.put, List.getElem_toArray, List.getElem_cons_succ, List.getElem_cons_zero, List.setIfInBounds_toArray, List.set_cons_zero, List.set_cons_succ]
                            refine wpAnyH_done (by kernel_rfl) ?_ _
                            go_wp2_with fail
                            go_meet
                            exact ⟨rfl, hHeld⟩
                          exact AllReadyH.nil
                        exact AllReadyH.nil
                      case rest =>
                        obtain ⟨rfl, hF⟩ := hcut
                        go_wp2_with (first | (refine wpList_load_want (by rfl) 25 _ rfl w.heap.size 0 rfl (hartL h') _ (hF.ch).range hu rfl (size_hart _) ?_) | (go_at_call 7; refine (hCk.out _).mono ?_; rintro e w9 ⟨rfl, hb9⟩; replace hF := hF.kept hb9; clear hb9))
                        go_ret
                        exact ⟨rfl, hF.bl⟩
                  · have tc : (checkE i == 0) = false := by simpa using hc
                    clear hc hf
                    generalize checkE i = ce at hR tc
                    go_wp2_with (first | (refine wpList_load_want (by rfl) 27 _ rfl b (off + k * 9) rfl IL _ (hIL.out _ hF.bl) hu2 rfl hi2.out ?_) | (go_at_call 8; refine (hR.out _).mono ?_; rintro e w8 ⟨rfl, hb8⟩; replace hF := hF.kept hb8; clear hb8))
                    go_roundg (n - (k + 1))
                    case measure => omega
                    case rel => exact ⟨k + 1, h', by omega, rfl, by go_num, hF⟩
    · obtain rfl : k = n := by omega
      have hld1 : decide ((k : Int) < (k : Int)) = false := by simp
      have hld2 : decide (k < k) = false := by simp
      have hld3 : ¬ (k : Int) < (k : Int) := by omega
      go_wp2_with fail
      go_ret
      exact ⟨rfl, hF.bl⟩
end
theorem Script_any (h : HartV) (ao fo bo : Option Addr) (n cap nf capf nb capb : Nat) (L : Nat → InsnV) (F : Nat → BitVec 64) (G : Nat → Bool) (w : World) (ht : Tabs w) (hop : ∀ k, (L k).op ≤ 9223372036854775807) (hL : InsnsAt w ao n L) (hNf : NumsAt w fo nf F) (hNb : BoolsAt w bo nb G) :
    Calls Tryz.prog 5 #[.agg (hartArr h), .slice ao n cap, .slice fo nf capf, .slice bo nb capb] w fun e w' => e = .returned (.bool true) ∧ Below w.heap.size w w' := by
  rcases Nat.lt_or_ge 60 n with hn | hn
  · exact Script_far1 h ao fo bo n cap nf capf nb capb L F G w ht hn
  · rcases Nat.lt_or_ge 60 nf with hf | hf
    · exact Script_far2 h ao fo bo n cap nf capf nb capb L F G w ht hn hf
    · rcases Nat.lt_or_ge 60 nb with hb | hb
      · exact Script_far3 h ao fo bo n cap nf capf nb capb L F G w ht hn hf hb
      · exact Script_go h ao fo bo n cap nf capf nb capb L F G w ht hn hf hb hop hL hNf hNb
end Go.Proofs.YtbglinhglnbfmaaGreatDoor
