/- TaintScript, whatever comes. Conditions: the library's table of ASCII spaces lies as its initialiser lays it. -/
import Derived.Test.YtebeajnaamglkaaGreatDoorTntSf
import Derived.Test.YtebeajnaamglkaaGreatDoorTntDb
import Derived.Test.YtebeajnaamglkaaGreatDoorTntLi
import Derived.Test.YtebeajnaamglkaaGreatDoorTntKt
import Derived.Test.YtebeajnaamglkaaGreatDoorRefMem
import Derived.Deep.DeepCutAuto
import Derived.Deep.LoopGhost
import Derived.Deep.RegionHeld
import Derived.Deep.QuietTactic
import Derived.BigQuiet
set_option linter.unusedSimpArgs false
set_option linter.unusedVariables false
namespace Go.Proofs.YtebeajnaamglkaaGreatDoor
open Go.RowKit
theorem drew_belowS (w : World) : Below w.heap.size w w.drew := ⟨rfl, rfl, rfl, Nat.le_refl _, fun _ _ => rfl⟩
theorem three_oneS {va vd vw : Value} (h1 : va.oneCell' = true) (h2 : vd.oneCell' = true) (h3 : vw.oneCell' = true) : ∀ v ∈ [va, vd, vw], v.oneCell' = true := fun v hv => by
  simp only [List.mem_cons, List.not_mem_nil, or_false] at hv
  rcases hv with rfl | rfl | rfl
  · exact h1
  · exact h2
  · exact h3
theorem sameT_selfS (T : List (List Int)) : sameT T T = true := by
  unfold sameT sameF
  simp
theorem Deps_yesS (va vd vw ua ud uw : Value) (da dd dw : List Int) (w : World) (h1 : RL w w.heap.size va da) (h2 : RL w w.heap.size vd dd) (h3 : RL w w.heap.size vw dw) (g1 : RL w w.heap.size ua da) (g2 : RL w w.heap.size ud dd) (g3 : RL w w.heap.size uw dw) :
    Calls Tryz.prog 12 #[.agg #[va, vd, vw], .agg #[ua, ud, uw]] w fun e w' => e = .returned (.bool true) ∧ Below w.heap.size w w' := by
  have key := Deps_any va vd vw ua ud uw da dd dw da dd dw w h1 h2 h3 g1 g2 g3
  rw [show (da == da && dd == dd && dw == dw) = true by simp] at key
  exact key
set_option maxRecDepth 100000 in
set_option maxHeartbeats 16000000 in
theorem TScript_far1 (ao bo : Option Addr) (n cap nb capb : Nat) (L : Nat → InsnV) (G : Nat → Bool) (w : World) (ht : Tabs w) (hn : 60 < n) :
    Calls Tryz.prog 3 #[.slice ao n cap, .slice bo nb capb] w fun e w' => e = .returned (.bool true) ∧ Below w.heap.size w w' := by
  have hund : ∀ b : Bool, (some undef = some (Value.bool b)) = False := fun b => by simp [undef]
  have d1 : decide (60 < (n : Int)) = true := by simp; omega
  have d2 : decide (60 < n) = true := by simp; omega
  have hn2 : (60 : Int) < (n : Int) := by omega
  have hLv := Lib.hid (lives_any w ht)
  go_enter Tryz.func3, Tryz.ntmps3
  go_wp2_with (go_at_call 5; (with_reducible refine hLv.out.mono ?_); rintro e w1 ⟨rfl, hb1⟩; clear hLv)
  go_ret
  exact ⟨rfl, hb1⟩
set_option maxRecDepth 100000 in
set_option maxHeartbeats 16000000 in
theorem TScript_far2 (ao bo : Option Addr) (n cap nb capb : Nat) (L : Nat → InsnV) (G : Nat → Bool) (w : World) (ht : Tabs w) (hn : n ≤ 60) (hb : 60 < nb) :
    Calls Tryz.prog 3 #[.slice ao n cap, .slice bo nb capb] w fun e w' => e = .returned (.bool true) ∧ Below w.heap.size w w' := by
  have hund : ∀ b : Bool, (some undef = some (Value.bool b)) = False := fun b => by simp [undef]
  have d1 : decide (60 < (n : Int)) = false := by simp; omega
  have d2 : decide (60 < n) = false := by simp; omega
  have b1 : decide (60 < (nb : Int)) = true := by simp; omega
  have b2 : decide (60 < nb) = true := by simp; omega
  have hn2 : ¬ (60 : Int) < (n : Int) := by omega
  have hb2 : (60 : Int) < (nb : Int) := by omega
  have hLv := Lib.hid (lives_any w ht)
  go_enter Tryz.func3, Tryz.ntmps3
  go_wp2_with (go_at_call 5; (with_reducible refine hLv.out.mono ?_); rintro e w1 ⟨rfl, hb1⟩; clear hLv)
  go_ret
  exact ⟨rfl, hb1⟩
set_option maxRecDepth 100000 in
set_option maxHeartbeats 16000000 in
theorem TScript_go (ao bo : Option Addr) (n cap nb capb : Nat) (L : Nat → InsnV) (G : Nat → Bool) (w : World) (ht : Tabs w) (hn : n ≤ 60) (hb : nb ≤ 60) (hop : ∀ k, (L k).op ≤ 9223372036854775807) (hL : InsnsAt w ao n L) (hG : BoolsAt w bo nb G) :
    Calls Tryz.prog 3 #[.slice ao n cap, .slice bo nb capb] w fun e w' => e = .returned (.bool true) ∧ Below w.heap.size w w' := by
  have hund : ∀ b : Bool, (some undef = some (Value.bool b)) = False := fun b => by simp [undef]
  have d1 : decide (60 < (n : Int)) = false := by simp; omega
  have d2 : decide (60 < n) = false := by simp; omega
  have b1 : decide (60 < (nb : Int)) = false := by simp; omega
  have b2 : decide (60 < nb) = false := by simp; omega
  have hn2 : ¬ (60 : Int) < (n : Int) := by omega
  have hb2 : ¬ (60 : Int) < (nb : Int) := by omega
  have huT := Tryz.underlying28
  have huI := Tryz.underlying33
  have huD := Tryz.underlying35
  have hNw := Lib.hid (fun W => New_any W)
  have hRn := Lib.hid (fun W => RNew_any W)
  have hLv := Lib.hid (lives_any w ht)
  go_enter Tryz.func3, Tryz.ntmps3
  go_upto_region 6 with (first | (go_at_call 5; (with_reducible refine hLv.out.mono ?_); rintro e w1 ⟨rfl, hb1⟩; clear hLv) | (go_at_call 6; (with_reducible refine (hNw.out _).mono ?_); rintro e w2 ⟨rfl, hb2⟩; clear hNw) | (go_at_call 7; (with_reducible refine (hRn.out _).mono ?_); rintro e w3 ⟨rfl, hb3⟩; clear hRn; have hB3 := bl_step (bl_step hb1 hb2) hb3; clear hb1 hb2 hb3; obtain ⟨hz1, hz2, hF0⟩ := TF.new hB3 #[.slice none 0 0, .slice none 0 0, .slice none 0 0, .slice none 0 0, .slice none 0 0, .slice none 0 0, .slice none 0 0, .slice none 0 0, .slice none 0 0, .slice none 0 0, .slice none 0 0, .slice none 0 0, .slice none 0 0, .slice none 0 0, .slice none 0 0, .slice none 0 0, .slice none 0 0, .slice none 0 0, .slice none 0 0, .slice none 0 0, .slice none 0 0, .slice none 0 0, .slice none 0 0, .slice none 0 0, .slice none 0 0, .slice none 0 0, .slice none 0 0, .slice none 0 0, .slice none 0 0, .slice none 0 0, .slice none 0 0, .slice none 0 0, .slice none 0 0] rfl 28; replace hz1 := Lib.hid hz1; have hzz := Lib.hid (World.there_setCells hz2 w3.heap.size 0 zeroTL); clear hz2; replace hF0 := Lib.hid hF0) | (refine wpList_store_mid rfl 28 _ _ rfl w3.heap.size 0 zeroTL.toArray rfl rfl (fun j hj => hz1.out j hj) size_taint zeroTL_one ?_; change wpList _ _ _ _ _ (World.setCells _ w3.heap.size 0 zeroTL); generalize World.setCells _ w3.heap.size 0 zeroTL = w4 at hzz hF0 ⊢; have hz2 := hzz; clear hz1 hzz) | (refine wpList_store_mid rfl 28 _ _ rfl (w3.heap.size + 1) 0 zeroTL.toArray rfl rfl (fun j hj => hz2.out j hj) size_taint zeroTL_one ?_; change wpList _ _ _ _ _ (World.setCells w4 (w3.heap.size + 1) 0 zeroTL); replace hF0 := hF0.out; generalize World.setCells w4 (w3.heap.size + 1) 0 zeroTL = u1 at hF0 ⊢; replace hF0 := Lib.hid hF0; clear hz2))
  replace hF0 := hF0.out
  generalize w3.heap.size + 1 = B at hF0 ⊢
  generalize w3.heap.size = A at hF0 ⊢
  clear hB3 d1 d2 b1 b2 hn2 hb2
  replace hF0 := Lib.hid hF0
  go_wp2_with fail
  go_loopg [7, 8] n (fun g s7 s8 wx => ∃ (k m : Nat) (ts os : List Value) (T : List (List Int)), k ≤ n ∧ g = n - k ∧ s7 = .int .i64 m ∧ s8 = .int .i64 k ∧ m ≤ k ∧ ST m T ∧ TF w wx A B ts os T)
  case atStart => exact ⟨0, 0, _, _, _, Nat.zero_le _, rfl, rfl, rfl, Nat.le_refl _, ST.zero, hF0.out⟩
  case round =>
    clear hF0
    obtain ⟨k, m, ts, os, T, hk, rfl, rfl, rfl, hm, hT, hF⟩ := hrel
    by_cases hlt : k < n
    · obtain ⟨b, off, rfl, hbw, hIc⟩ := hL (by omega)
      have hop2 := hop k
      obtain ⟨i, hi⟩ : ∃ i, L k = i := ⟨_, rfl⟩
      rw [hi] at hop2
      replace hIc := hIc k hlt
      rw [hi] at hIc
      clear hi
      have hIL : Hid (∀ W, Below w.heap.size w W → W.rangeAt b (off + k * 9) i.cells.toList) := Lib.hid fun W hb => insns_range hIc rfl hbw hb
      have hlk1 : (0 : Int) ≤ (k : Int) := by omega
      have hlk2 : (k : Int) < (n : Int) := by omega
      have hld1 : decide ((k : Int) < (n : Int)) = true := by simp; exact hlt
      have hld2 : decide (k < n) = true := by simp; exact hlt
      have hcop : Hid (∀ W, Below w.heap.size w W → W.cell? ⟨b, off + k * 9, none⟩ = some (.int .i64 i.op)) := Lib.hid fun W hb => by have := hIL.out W hb 0 _ rfl; exact this
      have hMm : Hid (∀ W, Calls Tryz.prog 8 #[.int .i64 i.op] W fun e w' => e = .returned (memV i.op) ∧ Below W.heap.size W w') := Lib.hid fun W => R2Mem_any i.op W
      unfold memV at hMm
      generalize (opOf i.op).loads = q1 at hMm
      generalize (opOf i.op).stores = q2 at hMm
      generalize (opOf i.op).size = sz at hMm
      obtain ⟨iop, hiop⟩ : ∃ x, i.op = x := ⟨_, rfl⟩
      rw [hiop] at hMm hcop
      replace hiop := Lib.hid hiop
      clear hIc
      have hcp := hcop.out _ hF.bl
      go_upto_region 11 with (go_at_call 8; (with_reducible refine (hMm.out _).mono ?_); rintro e w9 ⟨rfl, hb9⟩; replace hF := hF.keep hb9)
      clear hcp hcop hMm hb9
      go_upto_region 12 with fail
      go_cut [60] (fun s wx => (∃ b : Bool, s = .bool b) ∧ w9 = wx)
      case first =>
        cases hsz : decide (0 < sz)
        · go_wp2_with fail
          go_meet
          exact ⟨⟨_, rfl⟩, rfl⟩
        · by_cases hkf : k < nb
          · obtain ⟨fb, fof, rfl, hfw, hfc⟩ := hG (by omega)
            have cf : w9.cell? ⟨fb, fof + k, none⟩ = some (.bool (G k)) := by rw [hF.bl.cell (p := ⟨fb, fof + k, none⟩) hfw]; exact hfc k hkf
            have hlf1 : (k : Int) < (nb : Int) := by omega
            have hd1 : decide ((nb : Int) ≤ (k : Int)) = false := by simp; omega
            have hd2 : decide (nb ≤ k) = false := by simp; omega
            clear hfc hF
            generalize G k = gk at cf
            go_wp2_with fail
            go_meet
            exact ⟨⟨_, rfl⟩, rfl⟩
          · have hd1 : decide ((nb : Int) ≤ (k : Int)) = true := by simp; omega
            have hd2 : decide (nb ≤ k) = true := by simp; omega
            clear hF
            go_wp2_with fail
            go_meet
            exact ⟨⟨_, rfl⟩, rfl⟩
      case rest =>
        obtain ⟨⟨tk, rfl⟩, rfl⟩ := hcut
        go_upto_if 60 with fail
        go_cut [7, 12] (fun s7 s12 wx => ∃ (m2 : Nat) (ev : Int), s7 = .int .i64 m2 ∧ s12 = .int .i64 ev ∧ m ≤ m2 ∧ m2 ≤ m + 1 ∧ ev < m2 ∧ -1 ≤ ev ∧ w9 = wx)
        case first =>
          cases tk
          · go_wp2_with fail
            go_meet
            exact ⟨m, -1, rfl, rfl, by omega, by omega, by omega, by omega, rfl⟩
          · go_wp2_with fail
            go_meet
            exact ⟨m + 1, m, by go_num, rfl, by omega, by omega, by omega, by omega, rfl⟩
        case rest =>
          obtain ⟨m2, ev, rfl, rfl, hm1, hm2, hev, hev1, rfl⟩ := hcut
          replace hT := hT.mono hm1
          have hlen : ∀ l ∈ T, l.length ≤ 100000 := fun l hl => Nat.le_trans (hT.len l hl) (by omega)
          obtain ⟨U, hU⟩ : ∃ x, resT T i ev = x := ⟨_, rfl⟩
          obtain ⟨da, hda⟩ : ∃ x, resA T i ev = x := ⟨_, rfl⟩
          obtain ⟨dd, hdd⟩ : ∃ x, resD T i ev = x := ⟨_, rfl⟩
          obtain ⟨dw, hdw⟩ : ∃ x, resW T i ev = x := ⟨_, rfl⟩
          obtain ⟨E, hE⟩ : ∃ x, resE T i ev = x := ⟨_, rfl⟩
          obtain ⟨IL, hILd⟩ : ∃ IL, i.cells.toList = IL := ⟨_, rfl⟩
          have hSt : Hid (∀ W, TF w W A B ts os T → Calls Tryz.prog 9 #[.agg ts.toArray, .agg IL.toArray, .int .i64 ev] W (StepE W U da dd dw E)) := Lib.hid fun W hW => by
            rw [← hILd, Array.toArray_toList, ← hU, ← hda, ← hdd, ← hdw, ← hE]; exact Step_any ts T _ i ev W hW.tt hlen hop2 (ht.later hW.bl (Nat.le_refl _))
          have hRt : Hid (∀ W, TF w W A B ts os T → Calls Tryz.prog 10 #[.agg os.toArray, .agg IL.toArray, .int .i64 ev] W (StepE W U da dd dw E)) := Lib.hid fun W hW => by
            rw [← hILd, Array.toArray_toList, ← hU, ← hda, ← hdd, ← hdw, ← hE]; exact RStep_any os T _ i ev W hW.tu hlen
          have hsi : Hid ((Tryz.prog.info? 33).map (·.size) = some IL.length) := Lib.hid (by rw [← hILd, show i.cells.toList.length = 9 from rfl]; kernel_rfl)
          rw [hILd] at hIL
          replace hILd := Lib.hid hILd
          replace hU := Lib.hid hU
          replace hda := Lib.hid hda
          replace hdd := Lib.hid hdd
          replace hdw := Lib.hid hdw
          replace hE := Lib.hid hE
          replace hlen := Lib.hid hlen
          replace hT := Lib.hid hT
          replace hop2 := Lib.hid hop2
          replace hop := Lib.hid hop
          replace hL := Lib.hid hL
          replace hG := Lib.hid hG
          replace hm := Lib.hid (And.intro hm (And.intro hm1 (And.intro hm2 hev)))
          clear hm1 hm2 hev hev1 hld1 hld2
          have hst : Hid ((Tryz.prog.info? 28).map (·.size) = some ts.length) := Lib.hid (by rw [hF.tt.lc]; exact size_taint)
          have hso : Hid ((Tryz.prog.info? 28).map (·.size) = some os.length) := Lib.hid (by rw [hF.tu.lc]; exact size_taint)
          have hwA := hF.ha
          have hwB := hF.hb
          replace hF := Lib.hid hF
          replace hSt : Hid (∀ W, Below w9.heap.size w9 W → _) := Lib.hid fun W hW => hSt.out W (hF.out.keep hW)
          generalize w9 = wb at *
          go_upto_region 15 with fail
          go_cut [13, 14, 15] (fun a b c wx => ∃ X Y ds va vd vw, a = .pointer (some ⟨X, 0, none⟩) ∧ b = .pointer (some ⟨Y, 0, none⟩) ∧ c = .int .i64 E ∧ Below wb.heap.size wb wx ∧ TX wx A B X Y ds U va vd vw da dd dw)
          case first =>
            refine wp_region_held_drew (S := fun W => Below wb.heap.size wb W) (by kernel_rfl) (drew_belowS _) (fun hHeld => ?_)
            refine wpAnyH_take (i := 0) rfl (by kernel_rfl) (by kernel_rfl) (by kernel_rfl) (fun _ _ _ h => h) (yieldsIf_load_mid (by rfl) _ _ rfl A 0 rfl ts _ (fun W hS => (hF.out.keep hS).ra) huT rfl hst.out) hHeld ?_
            try simp only [Act.put, List.getElem_toArray, List.getElem_cons_zero, List.setIfInBounds_toArray, List.set_cons_zero, List.set_cons_succ]
            refine wpAnyH_take (i := 1) (v := .slice (some ⟨b, off, none⟩) n cap) rfl (by kernel_rfl) (by kernel_rfl) (by kernel_rfl) (fun _ _ _ h => h) (Or.inl ⟨by rfl, fun W _ => by kernel_rfl⟩) hHeld ?_
            try simp only [Act.put, List.getElem_toArray, List.getElem_cons_succ, List.getElem_cons_zero, List.setIfInBounds_toArray, List.set_cons_zero, List.set_cons_succ]
            refine wpAnyH_take (i := 2) (v := .int .i64 k) rfl (by kernel_rfl) (by kernel_rfl) (by kernel_rfl) (fun _ _ _ h => h) (Or.inl ⟨by rfl, fun W _ => by kernel_rfl⟩) hHeld ?_
            try simp only [Act.put, List.getElem_toArray, List.getElem_cons_succ, List.getElem_cons_zero, List.setIfInBounds_toArray, List.set_cons_zero, List.set_cons_succ]
            refine wpAnyH_take (i := 3) (v := .pointer (some ⟨b, off + k * 9, none⟩)) rfl (by kernel_rfl) (by kernel_rfl) (by kernel_rfl) (fun _ _ _ h => h) (Or.inl ⟨by rfl, fun W _ => by go_simp⟩) hHeld ?_
            try simp only [Act.put, List.getElem_toArray, List.getElem_cons_succ, List.getElem_cons_zero, List.setIfInBounds_toArray, List.set_cons_zero, List.set_cons_succ]
            refine wpAnyH_take (i := 4) rfl (by kernel_rfl) (by kernel_rfl) (by kernel_rfl) (fun _ _ _ h => h) (yieldsIf_load_mid (by rfl) _ _ rfl b (off + k * 9) rfl IL _ (fun W hS => hIL.out W (bl_step hF.out.bl hS)) huI rfl hsi.out) hHeld ?_
            try simp only [Act.put, List.getElem_toArray, List.getElem_cons_succ, List.getElem_cons_zero, List.setIfInBounds_toArray, List.set_cons_zero, List.set_cons_succ]
            refine wpAnyH_take (i := 5) (v := .int .i64 ev) rfl (by kernel_rfl) (by kernel_rfl) (by kernel_rfl) (fun _ _ _ h => h) (Or.inl ⟨by rfl, fun W _ => by kernel_rfl⟩) hHeld ?_
            try simp only [Act.put, List.getElem_toArray, List.getElem_cons_succ, List.getElem_cons_zero, List.setIfInBounds_toArray, List.set_cons_zero, List.set_cons_succ]
            generalize World.drew _ = W1 at hHeld ⊢
            refine wpAnyH_ready (rs := [6, 11, 12]) (by kernel_rfl) (by simp) ?_
            refine AllReadyH.cons rfl (fun K hK2 => ?_) ?_
            · as_aux_lemma =>
                rw [if_pos (by rfl)]
                simp only [List.getElem_toArray, List.getElem_cons_succ, List.getElem_cons_zero]
                have hlo : wb.heap.size ≤ W1.heap.size := hHeld.size
                go_wp2_with (go_at_call 9; (with_reducible refine (hSt.out _ hHeld).mono ?_); rintro e W2 ⟨ds, va, vd, vw, rfl, hTs, has, hds, hws, hb⟩)
                obtain ⟨hi, hhe⟩ : ∃ n, n = W2.heap.size := ⟨_, rfl⟩
                have hSR : SR W2 W1.heap.size hi ds U va vd vw da dd dw := by rw [hhe]; exact ⟨hTs.win, has.win, hds.win, hws.win⟩
                have hhi : hi ≤ W2.heap.size := Nat.le_of_eq hhe
                clear hhe
                refine hK2.out _ _ (bl_step hHeld hb) (fun hHeld2 => ?_)
                clear hK2 K hHeld
                have hHeld := hHeld2
                clear hHeld2
                try simp only [Act.put, List.getElem_toArray, List.getElem_cons_succ, List.getElem_cons_zero, List.setIfInBounds_toArray, List.set_cons_zero, List.set_cons_succ]
                clear hb hTs has hds hws
                refine wpAnyH_take (i := 7) (v := .tuple #[.agg ds.toArray, .agg #[va, vd, vw], .int .i64 E]) rfl (by kernel_rfl) (by kernel_rfl) (by kernel_rfl) (fun _ _ _ h => h) (Or.inl ⟨by rfl, fun W _ => by kernel_rfl⟩) hHeld ?_
                try simp only [Act.put, List.getElem_toArray, List.getElem_cons_succ, List.getElem_cons_zero, List.setIfInBounds_toArray, List.set_cons_zero, List.set_cons_succ]
                refine wpAnyH_take (i := 8) (v := .agg ds.toArray) rfl (by kernel_rfl) (by kernel_rfl) (by kernel_rfl) (fun _ _ _ h => h) (Or.inl ⟨by rfl, fun W _ => by kernel_rfl⟩) hHeld ?_
                try simp only [Act.put, List.getElem_toArray, List.getElem_cons_succ, List.getElem_cons_zero, List.setIfInBounds_toArray, List.set_cons_zero, List.set_cons_succ]
                refine wpAnyH_take (i := 9) (v := .agg #[va, vd, vw]) rfl (by kernel_rfl) (by kernel_rfl) (by kernel_rfl) (fun _ _ _ h => h) (Or.inl ⟨by rfl, fun W _ => by kernel_rfl⟩) hHeld ?_
                try simp only [Act.put, List.getElem_toArray, List.getElem_cons_succ, List.getElem_cons_zero, List.setIfInBounds_toArray, List.set_cons_zero, List.set_cons_succ]
                refine wpAnyH_take (i := 10) (v := .int .i64 E) rfl (by kernel_rfl) (by kernel_rfl) (by kernel_rfl) (fun _ _ _ h => h) (Or.inl ⟨by rfl, fun W _ => by kernel_rfl⟩) hHeld ?_
                try simp only [Act.put, List.getElem_toArray, List.getElem_cons_succ, List.getElem_cons_zero, List.setIfInBounds_toArray, List.set_cons_zero, List.set_cons_succ]
                refine wpAnyH_ready (rs := [11, 12]) (by kernel_rfl) (by simp) ?_
                refine AllReadyH.cons rfl (fun K hK2 => ?_) ?_
                · as_aux_lemma =>
                    rw [if_pos (by rfl)]
                    simp only [List.getElem_toArray, List.getElem_cons_succ, List.getElem_cons_zero]
                    obtain ⟨-, htX, hb, hsz⟩ := new_block W2 #[.slice none 0 0, .slice none 0 0, .slice none 0 0, .slice none 0 0, .slice none 0 0, .slice none 0 0, .slice none 0 0, .slice none 0 0, .slice none 0 0, .slice none 0 0, .slice none 0 0, .slice none 0 0, .slice none 0 0, .slice none 0 0, .slice none 0 0, .slice none 0 0, .slice none 0 0, .slice none 0 0, .slice none 0 0, .slice none 0 0, .slice none 0 0, .slice none 0 0, .slice none 0 0, .slice none 0 0, .slice none 0 0, .slice none 0 0, .slice none 0 0, .slice none 0 0, .slice none 0 0, .slice none 0 0, .slice none 0 0, .slice none 0 0, .slice none 0 0] 28
                    have hX1 : wb.heap.size ≤ W2.heap.size := hHeld.size
                    have nX : W2.heap.size < W1.heap.size ∨ hi ≤ W2.heap.size := .inr hhi
                    replace hSR := hSR.keep hb
                    replace hhi := Nat.le_trans hhi hb.size
                    have hlX : W2.heap.size < (W2.alloc (.cells #[.slice none 0 0, .slice none 0 0, .slice none 0 0, .slice none 0 0, .slice none 0 0, .slice none 0 0, .slice none 0 0, .slice none 0 0, .slice none 0 0, .slice none 0 0, .slice none 0 0, .slice none 0 0, .slice none 0 0, .slice none 0 0, .slice none 0 0, .slice none 0 0, .slice none 0 0, .slice none 0 0, .slice none 0 0, .slice none 0 0, .slice none 0 0, .slice none 0 0, .slice none 0 0, .slice none 0 0, .slice none 0 0, .slice none 0 0, .slice none 0 0, .slice none 0 0, .slice none 0 0, .slice none 0 0, .slice none 0 0, .slice none 0 0, .slice none 0 0] 28)).heap.size := by rw [hsz]; exact Nat.lt_succ_self _
                    go_simp
                    refine hK2.out _ _ (bl_step hHeld hb) (fun hHeld2 => ?_)
                    clear hK2 K hHeld
                    have hHeld := hHeld2
                    clear hHeld2
                    try simp only [Act.put, List.getElem_toArray, List.getElem_cons_succ, List.getElem_cons_zero, List.setIfInBounds_toArray, List.set_cons_zero, List.set_cons_succ]
                    clear hb hsz
                    generalize W2.alloc (.cells #[.slice none 0 0, .slice none 0 0, .slice none 0 0, .slice none 0 0, .slice none 0 0, .slice none 0 0, .slice none 0 0, .slice none 0 0, .slice none 0 0, .slice none 0 0, .slice none 0 0, .slice none 0 0, .slice none 0 0, .slice none 0 0, .slice none 0 0, .slice none 0 0, .slice none 0 0, .slice none 0 0, .slice none 0 0, .slice none 0 0, .slice none 0 0, .slice none 0 0, .slice none 0 0, .slice none 0 0, .slice none 0 0, .slice none 0 0, .slice none 0 0, .slice none 0 0, .slice none 0 0, .slice none 0 0, .slice none 0 0, .slice none 0 0, .slice none 0 0] 28) = W3 at hHeld htX hlX hSR hhi ⊢
                    generalize hXe : W2.heap.size = X at htX hX1 hlX nX ⊢
                    clear hXe
                    refine wpAnyH_ready (rs := [12]) (by kernel_rfl) (by simp) (AllReadyH.cons rfl (fun K hK2 => ?_) AllReadyH.nil)
                    rw [if_pos (by rfl)]
                    simp only [List.getElem_toArray, List.getElem_cons_succ, List.getElem_cons_zero]
                    obtain ⟨-, htY, hb, hsz⟩ := new_block W3 #[.slice none 0 0, .slice none 0 0, .slice none 0 0] 35
                    have hY1 : wb.heap.size ≤ W3.heap.size := hHeld.size
                    have hne : X ≠ W3.heap.size := by omega
                    have nY : W3.heap.size < W1.heap.size ∨ hi ≤ W3.heap.size := .inr hhi
                    replace htX := tn_there htX hlX hb
                    replace hlX := Nat.lt_of_lt_of_le hlX hb.size
                    replace hSR := hSR.keep hb
                    replace hhi := Nat.le_trans hhi hb.size
                    have hlY : W3.heap.size < (W3.alloc (.cells #[.slice none 0 0, .slice none 0 0, .slice none 0 0] 35)).heap.size := by rw [hsz]; exact Nat.lt_succ_self _
                    go_simp
                    refine hK2.out _ _ (bl_step hHeld hb) (fun hHeld2 => ?_)
                    clear hK2 K hHeld
                    have hHeld := hHeld2
                    clear hHeld2
                    try simp only [Act.put, List.getElem_toArray, List.getElem_cons_succ, List.getElem_cons_zero, List.setIfInBounds_toArray, List.set_cons_zero, List.set_cons_succ]
                    clear hb hsz
                    generalize W3.alloc (.cells #[.slice none 0 0, .slice none 0 0, .slice none 0 0] 35) = W4 at hHeld htY hlY htX hlX hSR hhi ⊢
                    generalize hYe : W3.heap.size = Y at htY hY1 hlY hne nY ⊢
                    clear hYe
                    have hTZ := TX.make hSR htX htY hne hlX hlY nX nY hlo hX1 hwA hwB
                    have hlcd := Lib.hid hSR.ts.lc
                    have hod : Hid (ds.toArray.all (·.oneCell') = true) := Lib.hid (all_oneCell_toArray hSR.ts.one)
                    have hpd : Hid ((#[va, vd, vw] : Array Value).all (·.oneCell') = true) := Lib.hid (all_oneCell_toArray (three_oneS hSR.ra.one hSR.rv.one hSR.rx.one))
                    have hsd : Hid ((Tryz.prog.info? 28).map (·.size) = some ds.toArray.size) := Lib.hid (by rw [List.size_toArray, hSR.ts.lc]; exact size_taint)
                    clear hSR hhi nX nY hne
                    refine wpAnyH_ready (rs := [13]) (by kernel_rfl) (by simp) (AllReadyH.cons rfl (fun K hK2 => ?_) AllReadyH.nil)
                    rw [if_pos (by rfl)]
                    simp only [List.getElem_toArray, List.getElem_cons_succ, List.getElem_cons_zero]
                    refine wp_store_mid 28 _ _ rfl X 0 ds.toArray rfl rfl (fun j hj => htX j (by rw [List.size_toArray, hlcd.out] at hj; exact hj)) hsd.out hod.out ?_
                    change K _ (World.setCells _ X 0 ds)
                    refine hK2.out _ _ (tn_below hX1 ds 0 _ hHeld) (fun hHeld2 => ?_)
                    clear hK2 K hHeld
                    have hHeld := hHeld2
                    clear hHeld2
                    try simp only [Act.put, List.getElem_toArray, List.getElem_cons_succ, List.getElem_cons_zero, List.setIfInBounds_toArray, List.set_cons_zero, List.set_cons_succ]
                    refine wpAnyH_ready (rs := [14]) (by kernel_rfl) (by simp) (AllReadyH.cons rfl (fun K hK2 => ?_) AllReadyH.nil)
                    rw [if_pos (by rfl)]
                    simp only [List.getElem_toArray, List.getElem_cons_succ, List.getElem_cons_zero]
                    refine wp_store_mid 35 _ _ rfl Y 0 #[va, vd, vw] rfl rfl (World.there_setCells htY X 0 ds) size_deps hpd.out ?_
                    change K _ (World.setCells (World.setCells _ X 0 ds) Y 0 [va, vd, vw])
                    refine hK2.out _ _ (tn_below hY1 [va, vd, vw] 0 _ hHeld) (fun hHeld2 => ?_)
                    clear hK2 K hHeld
                    have hHeld := hHeld2
                    clear hHeld2
                    try simp only [Act.put, List.getElem_toArray, List.getElem_cons_succ, List.getElem_cons_zero, List.setIfInBounds_toArray, List.set_cons_zero, List.set_cons_succ]
                    refine wpAnyH_take (i := 15) (v := .int .i64 E) rfl (by kernel_rfl) (by kernel_rfl) (by kernel_rfl) (fun _ _ _ h => h) (Or.inl ⟨by rfl, fun W _ => by kernel_rfl⟩) hHeld ?_
                    try simp only [Act.put, List.getElem_toArray, List.getElem_cons_succ, List.getElem_cons_zero, List.setIfInBounds_toArray, List.set_cons_zero, List.set_cons_succ]
                    refine wpAnyH_done (by kernel_rfl) ?_ _
                    go_wp2_with fail
                    go_meet
                    exact ⟨X, Y, ds, va, vd, vw, rfl, rfl, rfl, hHeld, hTZ⟩
                refine AllReadyH.cons rfl (fun K hK2 => ?_) ?_
                · as_aux_lemma =>
                    rw [if_pos (by rfl)]
                    simp only [List.getElem_toArray, List.getElem_cons_succ, List.getElem_cons_zero]
                    obtain ⟨-, htY, hb, hsz⟩ := new_block W2 #[.slice none 0 0, .slice none 0 0, .slice none 0 0] 35
                    have hY1 : wb.heap.size ≤ W2.heap.size := hHeld.size
                    have nY : W2.heap.size < W1.heap.size ∨ hi ≤ W2.heap.size := .inr hhi
                    replace hSR := hSR.keep hb
                    replace hhi := Nat.le_trans hhi hb.size
                    have hlY : W2.heap.size < (W2.alloc (.cells #[.slice none 0 0, .slice none 0 0, .slice none 0 0] 35)).heap.size := by rw [hsz]; exact Nat.lt_succ_self _
                    go_simp
                    refine hK2.out _ _ (bl_step hHeld hb) (fun hHeld2 => ?_)
                    clear hK2 K hHeld
                    have hHeld := hHeld2
                    clear hHeld2
                    try simp only [Act.put, List.getElem_toArray, List.getElem_cons_succ, List.getElem_cons_zero, List.setIfInBounds_toArray, List.set_cons_zero, List.set_cons_succ]
                    clear hb hsz
                    generalize W2.alloc (.cells #[.slice none 0 0, .slice none 0 0, .slice none 0 0] 35) = W3 at hHeld htY hlY hSR hhi ⊢
                    generalize hYe : W2.heap.size = Y at htY hY1 hlY nY ⊢
                    clear hYe
                    refine wpAnyH_ready (rs := [11]) (by kernel_rfl) (by simp) (AllReadyH.cons rfl (fun K hK2 => ?_) AllReadyH.nil)
                    rw [if_pos (by rfl)]
                    simp only [List.getElem_toArray, List.getElem_cons_succ, List.getElem_cons_zero]
                    obtain ⟨-, htX, hb, hsz⟩ := new_block W3 #[.slice none 0 0, .slice none 0 0, .slice none 0 0, .slice none 0 0, .slice none 0 0, .slice none 0 0, .slice none 0 0, .slice none 0 0, .slice none 0 0, .slice none 0 0, .slice none 0 0, .slice none 0 0, .slice none 0 0, .slice none 0 0, .slice none 0 0, .slice none 0 0, .slice none 0 0, .slice none 0 0, .slice none 0 0, .slice none 0 0, .slice none 0 0, .slice none 0 0, .slice none 0 0, .slice none 0 0, .slice none 0 0, .slice none 0 0, .slice none 0 0, .slice none 0 0, .slice none 0 0, .slice none 0 0, .slice none 0 0, .slice none 0 0, .slice none 0 0] 28
                    have hX1 : wb.heap.size ≤ W3.heap.size := hHeld.size
                    have hne : W3.heap.size ≠ Y := by omega
                    have nX : W3.heap.size < W1.heap.size ∨ hi ≤ W3.heap.size := .inr hhi
                    replace htY := tn_there htY hlY hb
                    replace hlY := Nat.lt_of_lt_of_le hlY hb.size
                    replace hSR := hSR.keep hb
                    replace hhi := Nat.le_trans hhi hb.size
                    have hlX : W3.heap.size < (W3.alloc (.cells #[.slice none 0 0, .slice none 0 0, .slice none 0 0, .slice none 0 0, .slice none 0 0, .slice none 0 0, .slice none 0 0, .slice none 0 0, .slice none 0 0, .slice none 0 0, .slice none 0 0, .slice none 0 0, .slice none 0 0, .slice none 0 0, .slice none 0 0, .slice none 0 0, .slice none 0 0, .slice none 0 0, .slice none 0 0, .slice none 0 0, .slice none 0 0, .slice none 0 0, .slice none 0 0, .slice none 0 0, .slice none 0 0, .slice none 0 0, .slice none 0 0, .slice none 0 0, .slice none 0 0, .slice none 0 0, .slice none 0 0, .slice none 0 0, .slice none 0 0] 28)).heap.size := by rw [hsz]; exact Nat.lt_succ_self _
                    go_simp
                    refine hK2.out _ _ (bl_step hHeld hb) (fun hHeld2 => ?_)
                    clear hK2 K hHeld
                    have hHeld := hHeld2
                    clear hHeld2
                    try simp only [Act.put, List.getElem_toArray, List.getElem_cons_succ, List.getElem_cons_zero, List.setIfInBounds_toArray, List.set_cons_zero, List.set_cons_succ]
                    clear hb hsz
                    generalize W3.alloc (.cells #[.slice none 0 0, .slice none 0 0, .slice none 0 0, .slice none 0 0, .slice none 0 0, .slice none 0 0, .slice none 0 0, .slice none 0 0, .slice none 0 0, .slice none 0 0, .slice none 0 0, .slice none 0 0, .slice none 0 0, .slice none 0 0, .slice none 0 0, .slice none 0 0, .slice none 0 0, .slice none 0 0, .slice none 0 0, .slice none 0 0, .slice none 0 0, .slice none 0 0, .slice none 0 0, .slice none 0 0, .slice none 0 0, .slice none 0 0, .slice none 0 0, .slice none 0 0, .slice none 0 0, .slice none 0 0, .slice none 0 0, .slice none 0 0, .slice none 0 0] 28) = W4 at hHeld htX hlX htY hlY hSR hhi ⊢
                    generalize hXe : W3.heap.size = X at htX hX1 hlX hne nX ⊢
                    clear hXe
                    have hTZ := TX.make hSR htX htY hne hlX hlY nX nY hlo hX1 hwA hwB
                    have hlcd := Lib.hid hSR.ts.lc
                    have hod : Hid (ds.toArray.all (·.oneCell') = true) := Lib.hid (all_oneCell_toArray hSR.ts.one)
                    have hpd : Hid ((#[va, vd, vw] : Array Value).all (·.oneCell') = true) := Lib.hid (all_oneCell_toArray (three_oneS hSR.ra.one hSR.rv.one hSR.rx.one))
                    have hsd : Hid ((Tryz.prog.info? 28).map (·.size) = some ds.toArray.size) := Lib.hid (by rw [List.size_toArray, hSR.ts.lc]; exact size_taint)
                    clear hSR hhi nX nY hne
                    refine wpAnyH_ready (rs := [13]) (by kernel_rfl) (by simp) (AllReadyH.cons rfl (fun K hK2 => ?_) AllReadyH.nil)
                    rw [if_pos (by rfl)]
                    simp only [List.getElem_toArray, List.getElem_cons_succ, List.getElem_cons_zero]
                    refine wp_store_mid 28 _ _ rfl X 0 ds.toArray rfl rfl (fun j hj => htX j (by rw [List.size_toArray, hlcd.out] at hj; exact hj)) hsd.out hod.out ?_
                    change K _ (World.setCells _ X 0 ds)
                    refine hK2.out _ _ (tn_below hX1 ds 0 _ hHeld) (fun hHeld2 => ?_)
                    clear hK2 K hHeld
                    have hHeld := hHeld2
                    clear hHeld2
                    try simp only [Act.put, List.getElem_toArray, List.getElem_cons_succ, List.getElem_cons_zero, List.setIfInBounds_toArray, List.set_cons_zero, List.set_cons_succ]
                    refine wpAnyH_ready (rs := [14]) (by kernel_rfl) (by simp) (AllReadyH.cons rfl (fun K hK2 => ?_) AllReadyH.nil)
                    rw [if_pos (by rfl)]
                    simp only [List.getElem_toArray, List.getElem_cons_succ, List.getElem_cons_zero]
                    refine wp_store_mid 35 _ _ rfl Y 0 #[va, vd, vw] rfl rfl (World.there_setCells htY X 0 ds) size_deps hpd.out ?_
                    change K _ (World.setCells (World.setCells _ X 0 ds) Y 0 [va, vd, vw])
                    refine hK2.out _ _ (tn_below hY1 [va, vd, vw] 0 _ hHeld) (fun hHeld2 => ?_)
                    clear hK2 K hHeld
                    have hHeld := hHeld2
                    clear hHeld2
                    try simp only [Act.put, List.getElem_toArray, List.getElem_cons_succ, List.getElem_cons_zero, List.setIfInBounds_toArray, List.set_cons_zero, List.set_cons_succ]
                    refine wpAnyH_take (i := 15) (v := .int .i64 E) rfl (by kernel_rfl) (by kernel_rfl) (by kernel_rfl) (fun _ _ _ h => h) (Or.inl ⟨by rfl, fun W _ => by kernel_rfl⟩) hHeld ?_
                    try simp only [Act.put, List.getElem_toArray, List.getElem_cons_succ, List.getElem_cons_zero, List.setIfInBounds_toArray, List.set_cons_zero, List.set_cons_succ]
                    refine wpAnyH_done (by kernel_rfl) ?_ _
                    go_wp2_with fail
                    go_meet
                    exact ⟨X, Y, ds, va, vd, vw, rfl, rfl, rfl, hHeld, hTZ⟩
                exact AllReadyH.nil
            refine AllReadyH.cons rfl (fun K hK2 => ?_) ?_
            · as_aux_lemma =>
                rw [if_pos (by rfl)]
                simp only [List.getElem_toArray, List.getElem_cons_succ, List.getElem_cons_zero]
                obtain ⟨-, htX, hb, hsz⟩ := new_block W1 #[.slice none 0 0, .slice none 0 0, .slice none 0 0, .slice none 0 0, .slice none 0 0, .slice none 0 0, .slice none 0 0, .slice none 0 0, .slice none 0 0, .slice none 0 0, .slice none 0 0, .slice none 0 0, .slice none 0 0, .slice none 0 0, .slice none 0 0, .slice none 0 0, .slice none 0 0, .slice none 0 0, .slice none 0 0, .slice none 0 0, .slice none 0 0, .slice none 0 0, .slice none 0 0, .slice none 0 0, .slice none 0 0, .slice none 0 0, .slice none 0 0, .slice none 0 0, .slice none 0 0, .slice none 0 0, .slice none 0 0, .slice none 0 0, .slice none 0 0] 28
                have hX1 : wb.heap.size ≤ W1.heap.size := hHeld.size
                have hlX : W1.heap.size < (W1.alloc (.cells #[.slice none 0 0, .slice none 0 0, .slice none 0 0, .slice none 0 0, .slice none 0 0, .slice none 0 0, .slice none 0 0, .slice none 0 0, .slice none 0 0, .slice none 0 0, .slice none 0 0, .slice none 0 0, .slice none 0 0, .slice none 0 0, .slice none 0 0, .slice none 0 0, .slice none 0 0, .slice none 0 0, .slice none 0 0, .slice none 0 0, .slice none 0 0, .slice none 0 0, .slice none 0 0, .slice none 0 0, .slice none 0 0, .slice none 0 0, .slice none 0 0, .slice none 0 0, .slice none 0 0, .slice none 0 0, .slice none 0 0, .slice none 0 0, .slice none 0 0] 28)).heap.size := by rw [hsz]; exact Nat.lt_succ_self _
                go_simp
                refine hK2.out _ _ (bl_step hHeld hb) (fun hHeld2 => ?_)
                clear hK2 K hHeld
                have hHeld := hHeld2
                clear hHeld2
                try simp only [Act.put, List.getElem_toArray, List.getElem_cons_succ, List.getElem_cons_zero, List.setIfInBounds_toArray, List.set_cons_zero, List.set_cons_succ]
                clear hb hsz
                generalize W1.alloc (.cells #[.slice none 0 0, .slice none 0 0, .slice none 0 0, .slice none 0 0, .slice none 0 0, .slice none 0 0, .slice none 0 0, .slice none 0 0, .slice none 0 0, .slice none 0 0, .slice none 0 0, .slice none 0 0, .slice none 0 0, .slice none 0 0, .slice none 0 0, .slice none 0 0, .slice none 0 0, .slice none 0 0, .slice none 0 0, .slice none 0 0, .slice none 0 0, .slice none 0 0, .slice none 0 0, .slice none 0 0, .slice none 0 0, .slice none 0 0, .slice none 0 0, .slice none 0 0, .slice none 0 0, .slice none 0 0, .slice none 0 0, .slice none 0 0, .slice none 0 0] 28) = W2 at hHeld htX hlX ⊢
                generalize hXe : W1.heap.size = X at htX hX1 hlX ⊢
                clear hXe
                refine wpAnyH_ready (rs := [6, 12]) (by kernel_rfl) (by simp) ?_
                refine AllReadyH.cons rfl (fun K hK2 => ?_) ?_
                · as_aux_lemma =>
                    rw [if_pos (by rfl)]
                    simp only [List.getElem_toArray, List.getElem_cons_succ, List.getElem_cons_zero]
                    have hlo : wb.heap.size ≤ W2.heap.size := hHeld.size
                    go_wp2_with (go_at_call 9; (with_reducible refine (hSt.out _ hHeld).mono ?_); rintro e W3 ⟨ds, va, vd, vw, rfl, hTs, has, hds, hws, hb⟩)
                    obtain ⟨hi, hhe⟩ : ∃ n, n = W3.heap.size := ⟨_, rfl⟩
                    have hSR : SR W3 W2.heap.size hi ds U va vd vw da dd dw := by rw [hhe]; exact ⟨hTs.win, has.win, hds.win, hws.win⟩
                    have hhi : hi ≤ W3.heap.size := Nat.le_of_eq hhe
                    clear hhe
                    have nX : X < W2.heap.size ∨ hi ≤ X := .inl hlX
                    replace htX := tn_there htX hlX hb
                    replace hlX := Nat.lt_of_lt_of_le hlX hb.size
                    refine hK2.out _ _ (bl_step hHeld hb) (fun hHeld2 => ?_)
                    clear hK2 K hHeld
                    have hHeld := hHeld2
                    clear hHeld2
                    try simp only [Act.put, List.getElem_toArray, List.getElem_cons_succ, List.getElem_cons_zero, List.setIfInBounds_toArray, List.set_cons_zero, List.set_cons_succ]
                    clear hb hTs has hds hws
                    refine wpAnyH_take (i := 7) (v := .tuple #[.agg ds.toArray, .agg #[va, vd, vw], .int .i64 E]) rfl (by kernel_rfl) (by kernel_rfl) (by kernel_rfl) (fun _ _ _ h => h) (Or.inl ⟨by rfl, fun W _ => by kernel_rfl⟩) hHeld ?_
                    try simp only [Act.put, List.getElem_toArray, List.getElem_cons_succ, List.getElem_cons_zero, List.setIfInBounds_toArray, List.set_cons_zero, List.set_cons_succ]
                    refine wpAnyH_take (i := 8) (v := .agg ds.toArray) rfl (by kernel_rfl) (by kernel_rfl) (by kernel_rfl) (fun _ _ _ h => h) (Or.inl ⟨by rfl, fun W _ => by kernel_rfl⟩) hHeld ?_
                    try simp only [Act.put, List.getElem_toArray, List.getElem_cons_succ, List.getElem_cons_zero, List.setIfInBounds_toArray, List.set_cons_zero, List.set_cons_succ]
                    refine wpAnyH_take (i := 9) (v := .agg #[va, vd, vw]) rfl (by kernel_rfl) (by kernel_rfl) (by kernel_rfl) (fun _ _ _ h => h) (Or.inl ⟨by rfl, fun W _ => by kernel_rfl⟩) hHeld ?_
                    try simp only [Act.put, List.getElem_toArray, List.getElem_cons_succ, List.getElem_cons_zero, List.setIfInBounds_toArray, List.set_cons_zero, List.set_cons_succ]
                    refine wpAnyH_take (i := 10) (v := .int .i64 E) rfl (by kernel_rfl) (by kernel_rfl) (by kernel_rfl) (fun _ _ _ h => h) (Or.inl ⟨by rfl, fun W _ => by kernel_rfl⟩) hHeld ?_
                    try simp only [Act.put, List.getElem_toArray, List.getElem_cons_succ, List.getElem_cons_zero, List.setIfInBounds_toArray, List.set_cons_zero, List.set_cons_succ]
                    refine wpAnyH_ready (rs := [12]) (by kernel_rfl) (by simp) (AllReadyH.cons rfl (fun K hK2 => ?_) AllReadyH.nil)
                    rw [if_pos (by rfl)]
                    simp only [List.getElem_toArray, List.getElem_cons_succ, List.getElem_cons_zero]
                    obtain ⟨-, htY, hb, hsz⟩ := new_block W3 #[.slice none 0 0, .slice none 0 0, .slice none 0 0] 35
                    have hY1 : wb.heap.size ≤ W3.heap.size := hHeld.size
                    have hne : X ≠ W3.heap.size := by omega
                    have nY : W3.heap.size < W2.heap.size ∨ hi ≤ W3.heap.size := .inr hhi
                    replace htX := tn_there htX hlX hb
                    replace hlX := Nat.lt_of_lt_of_le hlX hb.size
                    replace hSR := hSR.keep hb
                    replace hhi := Nat.le_trans hhi hb.size
                    have hlY : W3.heap.size < (W3.alloc (.cells #[.slice none 0 0, .slice none 0 0, .slice none 0 0] 35)).heap.size := by rw [hsz]; exact Nat.lt_succ_self _
                    go_simp
                    refine hK2.out _ _ (bl_step hHeld hb) (fun hHeld2 => ?_)
                    clear hK2 K hHeld
                    have hHeld := hHeld2
                    clear hHeld2
                    try simp only [Act.put, List.getElem_toArray, List.getElem_cons_succ, List.getElem_cons_zero, List.setIfInBounds_toArray, List.set_cons_zero, List.set_cons_succ]
                    clear hb hsz
                    generalize W3.alloc (.cells #[.slice none 0 0, .slice none 0 0, .slice none 0 0] 35) = W4 at hHeld htY hlY htX hlX hSR hhi ⊢
                    generalize hYe : W3.heap.size = Y at htY hY1 hlY hne nY ⊢
                    clear hYe
                    have hTZ := TX.make hSR htX htY hne hlX hlY nX nY hlo hX1 hwA hwB
                    have hlcd := Lib.hid hSR.ts.lc
                    have hod : Hid (ds.toArray.all (·.oneCell') = true) := Lib.hid (all_oneCell_toArray hSR.ts.one)
                    have hpd : Hid ((#[va, vd, vw] : Array Value).all (·.oneCell') = true) := Lib.hid (all_oneCell_toArray (three_oneS hSR.ra.one hSR.rv.one hSR.rx.one))
                    have hsd : Hid ((Tryz.prog.info? 28).map (·.size) = some ds.toArray.size) := Lib.hid (by rw [List.size_toArray, hSR.ts.lc]; exact size_taint)
                    clear hSR hhi nX nY hne
                    refine wpAnyH_ready (rs := [13]) (by kernel_rfl) (by simp) (AllReadyH.cons rfl (fun K hK2 => ?_) AllReadyH.nil)
                    rw [if_pos (by rfl)]
                    simp only [List.getElem_toArray, List.getElem_cons_succ, List.getElem_cons_zero]
                    refine wp_store_mid 28 _ _ rfl X 0 ds.toArray rfl rfl (fun j hj => htX j (by rw [List.size_toArray, hlcd.out] at hj; exact hj)) hsd.out hod.out ?_
                    change K _ (World.setCells _ X 0 ds)
                    refine hK2.out _ _ (tn_below hX1 ds 0 _ hHeld) (fun hHeld2 => ?_)
                    clear hK2 K hHeld
                    have hHeld := hHeld2
                    clear hHeld2
                    try simp only [Act.put, List.getElem_toArray, List.getElem_cons_succ, List.getElem_cons_zero, List.setIfInBounds_toArray, List.set_cons_zero, List.set_cons_succ]
                    refine wpAnyH_ready (rs := [14]) (by kernel_rfl) (by simp) (AllReadyH.cons rfl (fun K hK2 => ?_) AllReadyH.nil)
                    rw [if_pos (by rfl)]
                    simp only [List.getElem_toArray, List.getElem_cons_succ, List.getElem_cons_zero]
                    refine wp_store_mid 35 _ _ rfl Y 0 #[va, vd, vw] rfl rfl (World.there_setCells htY X 0 ds) size_deps hpd.out ?_
                    change K _ (World.setCells (World.setCells _ X 0 ds) Y 0 [va, vd, vw])
                    refine hK2.out _ _ (tn_below hY1 [va, vd, vw] 0 _ hHeld) (fun hHeld2 => ?_)
                    clear hK2 K hHeld
                    have hHeld := hHeld2
                    clear hHeld2
                    try simp only [Act.put, List.getElem_toArray, List.getElem_cons_succ, List.getElem_cons_zero, List.setIfInBounds_toArray, List.set_cons_zero, List.set_cons_succ]
                    refine wpAnyH_take (i := 15) (v := .int .i64 E) rfl (by kernel_rfl) (by kernel_rfl) (by kernel_rfl) (fun _ _ _ h => h) (Or.inl ⟨by rfl, fun W _ => by kernel_rfl⟩) hHeld ?_
                    try simp only [Act.put, List.getElem_toArray, List.getElem_cons_succ, List.getElem_cons_zero, List.setIfInBounds_toArray, List.set_cons_zero, List.set_cons_succ]
                    refine wpAnyH_done (by kernel_rfl) ?_ _
                    go_wp2_with fail
                    go_meet
                    exact ⟨X, Y, ds, va, vd, vw, rfl, rfl, rfl, hHeld, hTZ⟩
                refine AllReadyH.cons rfl (fun K hK2 => ?_) ?_
                · as_aux_lemma =>
                    rw [if_pos (by rfl)]
                    simp only [List.getElem_toArray, List.getElem_cons_succ, List.getElem_cons_zero]
                    obtain ⟨-, htY, hb, hsz⟩ := new_block W2 #[.slice none 0 0, .slice none 0 0, .slice none 0 0] 35
                    have hY1 : wb.heap.size ≤ W2.heap.size := hHeld.size
                    have hne : X ≠ W2.heap.size := by omega
                    replace htX := tn_there htX hlX hb
                    replace hlX := Nat.lt_of_lt_of_le hlX hb.size
                    have hlY : W2.heap.size < (W2.alloc (.cells #[.slice none 0 0, .slice none 0 0, .slice none 0 0] 35)).heap.size := by rw [hsz]; exact Nat.lt_succ_self _
                    go_simp
                    refine hK2.out _ _ (bl_step hHeld hb) (fun hHeld2 => ?_)
                    clear hK2 K hHeld
                    have hHeld := hHeld2
                    clear hHeld2
                    try simp only [Act.put, List.getElem_toArray, List.getElem_cons_succ, List.getElem_cons_zero, List.setIfInBounds_toArray, List.set_cons_zero, List.set_cons_succ]
                    clear hb hsz
                    generalize W2.alloc (.cells #[.slice none 0 0, .slice none 0 0, .slice none 0 0] 35) = W3 at hHeld htY hlY htX hlX ⊢
                    generalize hYe : W2.heap.size = Y at htY hY1 hlY hne ⊢
                    clear hYe
                    refine wpAnyH_ready (rs := [6]) (by kernel_rfl) (by simp) (AllReadyH.cons rfl (fun K hK2 => ?_) AllReadyH.nil)
                    rw [if_pos (by rfl)]
                    simp only [List.getElem_toArray, List.getElem_cons_succ, List.getElem_cons_zero]
                    have hlo : wb.heap.size ≤ W3.heap.size := hHeld.size
                    go_wp2_with (go_at_call 9; (with_reducible refine (hSt.out _ hHeld).mono ?_); rintro e W4 ⟨ds, va, vd, vw, rfl, hTs, has, hds, hws, hb⟩)
                    obtain ⟨hi, hhe⟩ : ∃ n, n = W4.heap.size := ⟨_, rfl⟩
                    have hSR : SR W4 W3.heap.size hi ds U va vd vw da dd dw := by rw [hhe]; exact ⟨hTs.win, has.win, hds.win, hws.win⟩
                    have hhi : hi ≤ W4.heap.size := Nat.le_of_eq hhe
                    clear hhe
                    have nX : X < W3.heap.size ∨ hi ≤ X := .inl hlX
                    have nY : Y < W3.heap.size ∨ hi ≤ Y := .inl hlY
                    replace htX := tn_there htX hlX hb
                    replace hlX := Nat.lt_of_lt_of_le hlX hb.size
                    replace htY := tn_there htY hlY hb
                    replace hlY := Nat.lt_of_lt_of_le hlY hb.size
                    refine hK2.out _ _ (bl_step hHeld hb) (fun hHeld2 => ?_)
                    clear hK2 K hHeld
                    have hHeld := hHeld2
                    clear hHeld2
                    try simp only [Act.put, List.getElem_toArray, List.getElem_cons_succ, List.getElem_cons_zero, List.setIfInBounds_toArray, List.set_cons_zero, List.set_cons_succ]
                    clear hb hTs has hds hws
                    refine wpAnyH_take (i := 7) (v := .tuple #[.agg ds.toArray, .agg #[va, vd, vw], .int .i64 E]) rfl (by kernel_rfl) (by kernel_rfl) (by kernel_rfl) (fun _ _ _ h => h) (Or.inl ⟨by rfl, fun W _ => by kernel_rfl⟩) hHeld ?_
                    try simp only [Act.put, List.getElem_toArray, List.getElem_cons_succ, List.getElem_cons_zero, List.setIfInBounds_toArray, List.set_cons_zero, List.set_cons_succ]
                    refine wpAnyH_take (i := 8) (v := .agg ds.toArray) rfl (by kernel_rfl) (by kernel_rfl) (by kernel_rfl) (fun _ _ _ h => h) (Or.inl ⟨by rfl, fun W _ => by kernel_rfl⟩) hHeld ?_
                    try simp only [Act.put, List.getElem_toArray, List.getElem_cons_succ, List.getElem_cons_zero, List.setIfInBounds_toArray, List.set_cons_zero, List.set_cons_succ]
                    refine wpAnyH_take (i := 9) (v := .agg #[va, vd, vw]) rfl (by kernel_rfl) (by kernel_rfl) (by kernel_rfl) (fun _ _ _ h => h) (Or.inl ⟨by rfl, fun W _ => by kernel_rfl⟩) hHeld ?_
                    try simp only [Act.put, List.getElem_toArray, List.getElem_cons_succ, List.getElem_cons_zero, List.setIfInBounds_toArray, List.set_cons_zero, List.set_cons_succ]
                    refine wpAnyH_take (i := 10) (v := .int .i64 E) rfl (by kernel_rfl) (by kernel_rfl) (by kernel_rfl) (fun _ _ _ h => h) (Or.inl ⟨by rfl, fun W _ => by kernel_rfl⟩) hHeld ?_
                    try simp only [Act.put, List.getElem_toArray, List.getElem_cons_succ, List.getElem_cons_zero, List.setIfInBounds_toArray, List.set_cons_zero, List.set_cons_succ]
                    have hTZ := TX.make hSR htX htY hne hlX hlY nX nY hlo hX1 hwA hwB
                    have hlcd := Lib.hid hSR.ts.lc
                    have hod : Hid (ds.toArray.all (·.oneCell') = true) := Lib.hid (all_oneCell_toArray hSR.ts.one)
                    have hpd : Hid ((#[va, vd, vw] : Array Value).all (·.oneCell') = true) := Lib.hid (all_oneCell_toArray (three_oneS hSR.ra.one hSR.rv.one hSR.rx.one))
                    have hsd : Hid ((Tryz.prog.info? 28).map (·.size) = some ds.toArray.size) := Lib.hid (by rw [List.size_toArray, hSR.ts.lc]; exact size_taint)
                    clear hSR hhi nX nY hne
                    refine wpAnyH_ready (rs := [13]) (by kernel_rfl) (by simp) (AllReadyH.cons rfl (fun K hK2 => ?_) AllReadyH.nil)
                    rw [if_pos (by rfl)]
                    simp only [List.getElem_toArray, List.getElem_cons_succ, List.getElem_cons_zero]
                    refine wp_store_mid 28 _ _ rfl X 0 ds.toArray rfl rfl (fun j hj => htX j (by rw [List.size_toArray, hlcd.out] at hj; exact hj)) hsd.out hod.out ?_
                    change K _ (World.setCells _ X 0 ds)
                    refine hK2.out _ _ (tn_below hX1 ds 0 _ hHeld) (fun hHeld2 => ?_)
                    clear hK2 K hHeld
                    have hHeld := hHeld2
                    clear hHeld2
                    try simp only [Act.put, List.getElem_toArray, List.getElem_cons_succ, List.getElem_cons_zero, List.setIfInBounds_toArray, List.set_cons_zero, List.set_cons_succ]
                    refine wpAnyH_ready (rs := [14]) (by kernel_rfl) (by simp) (AllReadyH.cons rfl (fun K hK2 => ?_) AllReadyH.nil)
                    rw [if_pos (by rfl)]
                    simp only [List.getElem_toArray, List.getElem_cons_succ, List.getElem_cons_zero]
                    refine wp_store_mid 35 _ _ rfl Y 0 #[va, vd, vw] rfl rfl (World.there_setCells htY X 0 ds) size_deps hpd.out ?_
                    change K _ (World.setCells (World.setCells _ X 0 ds) Y 0 [va, vd, vw])
                    refine hK2.out _ _ (tn_below hY1 [va, vd, vw] 0 _ hHeld) (fun hHeld2 => ?_)
                    clear hK2 K hHeld
                    have hHeld := hHeld2
                    clear hHeld2
                    try simp only [Act.put, List.getElem_toArray, List.getElem_cons_succ, List.getElem_cons_zero, List.setIfInBounds_toArray, List.set_cons_zero, List.set_cons_succ]
                    refine wpAnyH_take (i := 15) (v := .int .i64 E) rfl (by kernel_rfl) (by kernel_rfl) (by kernel_rfl) (fun _ _ _ h => h) (Or.inl ⟨by rfl, fun W _ => by kernel_rfl⟩) hHeld ?_
                    try simp only [Act.put, List.getElem_toArray, List.getElem_cons_succ, List.getElem_cons_zero, List.setIfInBounds_toArray, List.set_cons_zero, List.set_cons_succ]
                    refine wpAnyH_done (by kernel_rfl) ?_ _
                    go_wp2_with fail
                    go_meet
                    exact ⟨X, Y, ds, va, vd, vw, rfl, rfl, rfl, hHeld, hTZ⟩
                exact AllReadyH.nil
            refine AllReadyH.cons rfl (fun K hK2 => ?_) ?_
            · as_aux_lemma =>
                rw [if_pos (by rfl)]
                simp only [List.getElem_toArray, List.getElem_cons_succ, List.getElem_cons_zero]
                obtain ⟨-, htY, hb, hsz⟩ := new_block W1 #[.slice none 0 0, .slice none 0 0, .slice none 0 0] 35
                have hY1 : wb.heap.size ≤ W1.heap.size := hHeld.size
                have hlY : W1.heap.size < (W1.alloc (.cells #[.slice none 0 0, .slice none 0 0, .slice none 0 0] 35)).heap.size := by rw [hsz]; exact Nat.lt_succ_self _
                go_simp
                refine hK2.out _ _ (bl_step hHeld hb) (fun hHeld2 => ?_)
                clear hK2 K hHeld
                have hHeld := hHeld2
                clear hHeld2
                try simp only [Act.put, List.getElem_toArray, List.getElem_cons_succ, List.getElem_cons_zero, List.setIfInBounds_toArray, List.set_cons_zero, List.set_cons_succ]
                clear hb hsz
                generalize W1.alloc (.cells #[.slice none 0 0, .slice none 0 0, .slice none 0 0] 35) = W2 at hHeld htY hlY ⊢
                generalize hYe : W1.heap.size = Y at htY hY1 hlY ⊢
                clear hYe
                refine wpAnyH_ready (rs := [6, 11]) (by kernel_rfl) (by simp) ?_
                refine AllReadyH.cons rfl (fun K hK2 => ?_) ?_
                · as_aux_lemma =>
                    rw [if_pos (by rfl)]
                    simp only [List.getElem_toArray, List.getElem_cons_succ, List.getElem_cons_zero]
                    have hlo : wb.heap.size ≤ W2.heap.size := hHeld.size
                    go_wp2_with (go_at_call 9; (with_reducible refine (hSt.out _ hHeld).mono ?_); rintro e W3 ⟨ds, va, vd, vw, rfl, hTs, has, hds, hws, hb⟩)
                    obtain ⟨hi, hhe⟩ : ∃ n, n = W3.heap.size := ⟨_, rfl⟩
                    have hSR : SR W3 W2.heap.size hi ds U va vd vw da dd dw := by rw [hhe]; exact ⟨hTs.win, has.win, hds.win, hws.win⟩
                    have hhi : hi ≤ W3.heap.size := Nat.le_of_eq hhe
                    clear hhe
                    have nY : Y < W2.heap.size ∨ hi ≤ Y := .inl hlY
                    replace htY := tn_there htY hlY hb
                    replace hlY := Nat.lt_of_lt_of_le hlY hb.size
                    refine hK2.out _ _ (bl_step hHeld hb) (fun hHeld2 => ?_)
                    clear hK2 K hHeld
                    have hHeld := hHeld2
                    clear hHeld2
                    try simp only [Act.put, List.getElem_toArray, List.getElem_cons_succ, List.getElem_cons_zero, List.setIfInBounds_toArray, List.set_cons_zero, List.set_cons_succ]
                    clear hb hTs has hds hws
                    refine wpAnyH_take (i := 7) (v := .tuple #[.agg ds.toArray, .agg #[va, vd, vw], .int .i64 E]) rfl (by kernel_rfl) (by kernel_rfl) (by kernel_rfl) (fun _ _ _ h => h) (Or.inl ⟨by rfl, fun W _ => by kernel_rfl⟩) hHeld ?_
                    try simp only [Act.put, List.getElem_toArray, List.getElem_cons_succ, List.getElem_cons_zero, List.setIfInBounds_toArray, List.set_cons_zero, List.set_cons_succ]
                    refine wpAnyH_take (i := 8) (v := .agg ds.toArray) rfl (by kernel_rfl) (by kernel_rfl) (by kernel_rfl) (fun _ _ _ h => h) (Or.inl ⟨by rfl, fun W _ => by kernel_rfl⟩) hHeld ?_
                    try simp only [Act.put, List.getElem_toArray, List.getElem_cons_succ, List.getElem_cons_zero, List.setIfInBounds_toArray, List.set_cons_zero, List.set_cons_succ]
                    refine wpAnyH_take (i := 9) (v := .agg #[va, vd, vw]) rfl (by kernel_rfl) (by kernel_rfl) (by kernel_rfl) (fun _ _ _ h => h) (Or.inl ⟨by rfl, fun W _ => by kernel_rfl⟩) hHeld ?_
                    try simp only [Act.put, List.getElem_toArray, List.getElem_cons_succ, List.getElem_cons_zero, List.setIfInBounds_toArray, List.set_cons_zero, List.set_cons_succ]
                    refine wpAnyH_take (i := 10) (v := .int .i64 E) rfl (by kernel_rfl) (by kernel_rfl) (by kernel_rfl) (fun _ _ _ h => h) (Or.inl ⟨by rfl, fun W _ => by kernel_rfl⟩) hHeld ?_
                    try simp only [Act.put, List.getElem_toArray, List.getElem_cons_succ, List.getElem_cons_zero, List.setIfInBounds_toArray, List.set_cons_zero, List.set_cons_succ]
                    refine wpAnyH_ready (rs := [11]) (by kernel_rfl) (by simp) (AllReadyH.cons rfl (fun K hK2 => ?_) AllReadyH.nil)
                    rw [if_pos (by rfl)]
                    simp only [List.getElem_toArray, List.getElem_cons_succ, List.getElem_cons_zero]
                    obtain ⟨-, htX, hb, hsz⟩ := new_block W3 #[.slice none 0 0, .slice none 0 0, .slice none 0 0, .slice none 0 0, .slice none 0 0, .slice none 0 0, .slice none 0 0, .slice none 0 0, .slice none 0 0, .slice none 0 0, .slice none 0 0, .slice none 0 0, .slice none 0 0, .slice none 0 0, .slice none 0 0, .slice none 0 0, .slice none 0 0, .slice none 0 0, .slice none 0 0, .slice none 0 0, .slice none 0 0, .slice none 0 0, .slice none 0 0, .slice none 0 0, .slice none 0 0, .slice none 0 0, .slice none 0 0, .slice none 0 0, .slice none 0 0, .slice none 0 0, .slice none 0 0, .slice none 0 0, .slice none 0 0] 28
                    have hX1 : wb.heap.size ≤ W3.heap.size := hHeld.size
                    have hne : W3.heap.size ≠ Y := by omega
                    have nX : W3.heap.size < W2.heap.size ∨ hi ≤ W3.heap.size := .inr hhi
                    replace htY := tn_there htY hlY hb
                    replace hlY := Nat.lt_of_lt_of_le hlY hb.size
                    replace hSR := hSR.keep hb
                    replace hhi := Nat.le_trans hhi hb.size
                    have hlX : W3.heap.size < (W3.alloc (.cells #[.slice none 0 0, .slice none 0 0, .slice none 0 0, .slice none 0 0, .slice none 0 0, .slice none 0 0, .slice none 0 0, .slice none 0 0, .slice none 0 0, .slice none 0 0, .slice none 0 0, .slice none 0 0, .slice none 0 0, .slice none 0 0, .slice none 0 0, .slice none 0 0, .slice none 0 0, .slice none 0 0, .slice none 0 0, .slice none 0 0, .slice none 0 0, .slice none 0 0, .slice none 0 0, .slice none 0 0, .slice none 0 0, .slice none 0 0, .slice none 0 0, .slice none 0 0, .slice none 0 0, .slice none 0 0, .slice none 0 0, .slice none 0 0, .slice none 0 0] 28)).heap.size := by rw [hsz]; exact Nat.lt_succ_self _
                    go_simp
                    refine hK2.out _ _ (bl_step hHeld hb) (fun hHeld2 => ?_)
                    clear hK2 K hHeld
                    have hHeld := hHeld2
                    clear hHeld2
                    try simp only [Act.put, List.getElem_toArray, List.getElem_cons_succ, List.getElem_cons_zero, List.setIfInBounds_toArray, List.set_cons_zero, List.set_cons_succ]
                    clear hb hsz
                    generalize W3.alloc (.cells #[.slice none 0 0, .slice none 0 0, .slice none 0 0, .slice none 0 0, .slice none 0 0, .slice none 0 0, .slice none 0 0, .slice none 0 0, .slice none 0 0, .slice none 0 0, .slice none 0 0, .slice none 0 0, .slice none 0 0, .slice none 0 0, .slice none 0 0, .slice none 0 0, .slice none 0 0, .slice none 0 0, .slice none 0 0, .slice none 0 0, .slice none 0 0, .slice none 0 0, .slice none 0 0, .slice none 0 0, .slice none 0 0, .slice none 0 0, .slice none 0 0, .slice none 0 0, .slice none 0 0, .slice none 0 0, .slice none 0 0, .slice none 0 0, .slice none 0 0] 28) = W4 at hHeld htX hlX htY hlY hSR hhi ⊢
                    generalize hXe : W3.heap.size = X at htX hX1 hlX hne nX ⊢
                    clear hXe
                    have hTZ := TX.make hSR htX htY hne hlX hlY nX nY hlo hX1 hwA hwB
                    have hlcd := Lib.hid hSR.ts.lc
                    have hod : Hid (ds.toArray.all (·.oneCell') = true) := Lib.hid (all_oneCell_toArray hSR.ts.one)
                    have hpd : Hid ((#[va, vd, vw] : Array Value).all (·.oneCell') = true) := Lib.hid (all_oneCell_toArray (three_oneS hSR.ra.one hSR.rv.one hSR.rx.one))
                    have hsd : Hid ((Tryz.prog.info? 28).map (·.size) = some ds.toArray.size) := Lib.hid (by rw [List.size_toArray, hSR.ts.lc]; exact size_taint)
                    clear hSR hhi nX nY hne
                    refine wpAnyH_ready (rs := [13]) (by kernel_rfl) (by simp) (AllReadyH.cons rfl (fun K hK2 => ?_) AllReadyH.nil)
                    rw [if_pos (by rfl)]
                    simp only [List.getElem_toArray, List.getElem_cons_succ, List.getElem_cons_zero]
                    refine wp_store_mid 28 _ _ rfl X 0 ds.toArray rfl rfl (fun j hj => htX j (by rw [List.size_toArray, hlcd.out] at hj; exact hj)) hsd.out hod.out ?_
                    change K _ (World.setCells _ X 0 ds)
                    refine hK2.out _ _ (tn_below hX1 ds 0 _ hHeld) (fun hHeld2 => ?_)
                    clear hK2 K hHeld
                    have hHeld := hHeld2
                    clear hHeld2
                    try simp only [Act.put, List.getElem_toArray, List.getElem_cons_succ, List.getElem_cons_zero, List.setIfInBounds_toArray, List.set_cons_zero, List.set_cons_succ]
                    refine wpAnyH_ready (rs := [14]) (by kernel_rfl) (by simp) (AllReadyH.cons rfl (fun K hK2 => ?_) AllReadyH.nil)
                    rw [if_pos (by rfl)]
                    simp only [List.getElem_toArray, List.getElem_cons_succ, List.getElem_cons_zero]
                    refine wp_store_mid 35 _ _ rfl Y 0 #[va, vd, vw] rfl rfl (World.there_setCells htY X 0 ds) size_deps hpd.out ?_
                    change K _ (World.setCells (World.setCells _ X 0 ds) Y 0 [va, vd, vw])
                    refine hK2.out _ _ (tn_below hY1 [va, vd, vw] 0 _ hHeld) (fun hHeld2 => ?_)
                    clear hK2 K hHeld
                    have hHeld := hHeld2
                    clear hHeld2
                    try simp only [Act.put, List.getElem_toArray, List.getElem_cons_succ, List.getElem_cons_zero, List.setIfInBounds_toArray, List.set_cons_zero, List.set_cons_succ]
                    refine wpAnyH_take (i := 15) (v := .int .i64 E) rfl (by kernel_rfl) (by kernel_rfl) (by kernel_rfl) (fun _ _ _ h => h) (Or.inl ⟨by rfl, fun W _ => by kernel_rfl⟩) hHeld ?_
                    try simp only [Act.put, List.getElem_toArray, List.getElem_cons_succ, List.getElem_cons_zero, List.setIfInBounds_toArray, List.set_cons_zero, List.set_cons_succ]
                    refine wpAnyH_done (by kernel_rfl) ?_ _
                    go_wp2_with fail
                    go_meet
                    exact ⟨X, Y, ds, va, vd, vw, rfl, rfl, rfl, hHeld, hTZ⟩
                refine AllReadyH.cons rfl (fun K hK2 => ?_) ?_
                · as_aux_lemma =>
                    rw [if_pos (by rfl)]
                    simp only [List.getElem_toArray, List.getElem_cons_succ, List.getElem_cons_zero]
                    obtain ⟨-, htX, hb, hsz⟩ := new_block W2 #[.slice none 0 0, .slice none 0 0, .slice none 0 0, .slice none 0 0, .slice none 0 0, .slice none 0 0, .slice none 0 0, .slice none 0 0, .slice none 0 0, .slice none 0 0, .slice none 0 0, .slice none 0 0, .slice none 0 0, .slice none 0 0, .slice none 0 0, .slice none 0 0, .slice none 0 0, .slice none 0 0, .slice none 0 0, .slice none 0 0, .slice none 0 0, .slice none 0 0, .slice none 0 0, .slice none 0 0, .slice none 0 0, .slice none 0 0, .slice none 0 0, .slice none 0 0, .slice none 0 0, .slice none 0 0, .slice none 0 0, .slice none 0 0, .slice none 0 0] 28
                    have hX1 : wb.heap.size ≤ W2.heap.size := hHeld.size
                    have hne : W2.heap.size ≠ Y := by omega
                    replace htY := tn_there htY hlY hb
                    replace hlY := Nat.lt_of_lt_of_le hlY hb.size
                    have hlX : W2.heap.size < (W2.alloc (.cells #[.slice none 0 0, .slice none 0 0, .slice none 0 0, .slice none 0 0, .slice none 0 0, .slice none 0 0, .slice none 0 0, .slice none 0 0, .slice none 0 0, .slice none 0 0, .slice none 0 0, .slice none 0 0, .slice none 0 0, .slice none 0 0, .slice none 0 0, .slice none 0 0, .slice none 0 0, .slice none 0 0, .slice none 0 0, .slice none 0 0, .slice none 0 0, .slice none 0 0, .slice none 0 0, .slice none 0 0, .slice none 0 0, .slice none 0 0, .slice none 0 0, .slice none 0 0, .slice none 0 0, .slice none 0 0, .slice none 0 0, .slice none 0 0, .slice none 0 0] 28)).heap.size := by rw [hsz]; exact Nat.lt_succ_self _
                    go_simp
                    refine hK2.out _ _ (bl_step hHeld hb) (fun hHeld2 => ?_)
                    clear hK2 K hHeld
                    have hHeld := hHeld2
                    clear hHeld2
                    try simp only [Act.put, List.getElem_toArray, List.getElem_cons_succ, List.getElem_cons_zero, List.setIfInBounds_toArray, List.set_cons_zero, List.set_cons_succ]
                    clear hb hsz
                    generalize W2.alloc (.cells #[.slice none 0 0, .slice none 0 0, .slice none 0 0, .slice none 0 0, .slice none 0 0, .slice none 0 0, .slice none 0 0, .slice none 0 0, .slice none 0 0, .slice none 0 0, .slice none 0 0, .slice none 0 0, .slice none 0 0, .slice none 0 0, .slice none 0 0, .slice none 0 0, .slice none 0 0, .slice none 0 0, .slice none 0 0, .slice none 0 0, .slice none 0 0, .slice none 0 0, .slice none 0 0, .slice none 0 0, .slice none 0 0, .slice none 0 0, .slice none 0 0, .slice none 0 0, .slice none 0 0, .slice none 0 0, .slice none 0 0, .slice none 0 0, .slice none 0 0] 28) = W3 at hHeld htX hlX htY hlY ⊢
                    generalize hXe : W2.heap.size = X at htX hX1 hlX hne ⊢
                    clear hXe
                    refine wpAnyH_ready (rs := [6]) (by kernel_rfl) (by simp) (AllReadyH.cons rfl (fun K hK2 => ?_) AllReadyH.nil)
                    rw [if_pos (by rfl)]
                    simp only [List.getElem_toArray, List.getElem_cons_succ, List.getElem_cons_zero]
                    have hlo : wb.heap.size ≤ W3.heap.size := hHeld.size
                    go_wp2_with (go_at_call 9; (with_reducible refine (hSt.out _ hHeld).mono ?_); rintro e W4 ⟨ds, va, vd, vw, rfl, hTs, has, hds, hws, hb⟩)
                    obtain ⟨hi, hhe⟩ : ∃ n, n = W4.heap.size := ⟨_, rfl⟩
                    have hSR : SR W4 W3.heap.size hi ds U va vd vw da dd dw := by rw [hhe]; exact ⟨hTs.win, has.win, hds.win, hws.win⟩
                    have hhi : hi ≤ W4.heap.size := Nat.le_of_eq hhe
                    clear hhe
                    have nY : Y < W3.heap.size ∨ hi ≤ Y := .inl hlY
                    have nX : X < W3.heap.size ∨ hi ≤ X := .inl hlX
                    replace htY := tn_there htY hlY hb
                    replace hlY := Nat.lt_of_lt_of_le hlY hb.size
                    replace htX := tn_there htX hlX hb
                    replace hlX := Nat.lt_of_lt_of_le hlX hb.size
                    refine hK2.out _ _ (bl_step hHeld hb) (fun hHeld2 => ?_)
                    clear hK2 K hHeld
                    have hHeld := hHeld2
                    clear hHeld2
                    try simp only [Act.put, List.getElem_toArray, List.getElem_cons_succ, List.getElem_cons_zero, List.setIfInBounds_toArray, List.set_cons_zero, List.set_cons_succ]
                    clear hb hTs has hds hws
                    refine wpAnyH_take (i := 7) (v := .tuple #[.agg ds.toArray, .agg #[va, vd, vw], .int .i64 E]) rfl (by kernel_rfl) (by kernel_rfl) (by kernel_rfl) (fun _ _ _ h => h) (Or.inl ⟨by rfl, fun W _ => by kernel_rfl⟩) hHeld ?_
                    try simp only [Act.put, List.getElem_toArray, List.getElem_cons_succ, List.getElem_cons_zero, List.setIfInBounds_toArray, List.set_cons_zero, List.set_cons_succ]
                    refine wpAnyH_take (i := 8) (v := .agg ds.toArray) rfl (by kernel_rfl) (by kernel_rfl) (by kernel_rfl) (fun _ _ _ h => h) (Or.inl ⟨by rfl, fun W _ => by kernel_rfl⟩) hHeld ?_
                    try simp only [Act.put, List.getElem_toArray, List.getElem_cons_succ, List.getElem_cons_zero, List.setIfInBounds_toArray, List.set_cons_zero, List.set_cons_succ]
                    refine wpAnyH_take (i := 9) (v := .agg #[va, vd, vw]) rfl (by kernel_rfl) (by kernel_rfl) (by kernel_rfl) (fun _ _ _ h => h) (Or.inl ⟨by rfl, fun W _ => by kernel_rfl⟩) hHeld ?_
                    try simp only [Act.put, List.getElem_toArray, List.getElem_cons_succ, List.getElem_cons_zero, List.setIfInBounds_toArray, List.set_cons_zero, List.set_cons_succ]
                    refine wpAnyH_take (i := 10) (v := .int .i64 E) rfl (by kernel_rfl) (by kernel_rfl) (by kernel_rfl) (fun _ _ _ h => h) (Or.inl ⟨by rfl, fun W _ => by kernel_rfl⟩) hHeld ?_
                    try simp only [Act.put, List.getElem_toArray, List.getElem_cons_succ, List.getElem_cons_zero, List.setIfInBounds_toArray, List.set_cons_zero, List.set_cons_succ]
                    have hTZ := TX.make hSR htX htY hne hlX hlY nX nY hlo hX1 hwA hwB
                    have hlcd := Lib.hid hSR.ts.lc
                    have hod : Hid (ds.toArray.all (·.oneCell') = true) := Lib.hid (all_oneCell_toArray hSR.ts.one)
                    have hpd : Hid ((#[va, vd, vw] : Array Value).all (·.oneCell') = true) := Lib.hid (all_oneCell_toArray (three_oneS hSR.ra.one hSR.rv.one hSR.rx.one))
                    have hsd : Hid ((Tryz.prog.info? 28).map (·.size) = some ds.toArray.size) := Lib.hid (by rw [List.size_toArray, hSR.ts.lc]; exact size_taint)
                    clear hSR hhi nX nY hne
                    refine wpAnyH_ready (rs := [13]) (by kernel_rfl) (by simp) (AllReadyH.cons rfl (fun K hK2 => ?_) AllReadyH.nil)
                    rw [if_pos (by rfl)]
                    simp only [List.getElem_toArray, List.getElem_cons_succ, List.getElem_cons_zero]
                    refine wp_store_mid 28 _ _ rfl X 0 ds.toArray rfl rfl (fun j hj => htX j (by rw [List.size_toArray, hlcd.out] at hj; exact hj)) hsd.out hod.out ?_
                    change K _ (World.setCells _ X 0 ds)
                    refine hK2.out _ _ (tn_below hX1 ds 0 _ hHeld) (fun hHeld2 => ?_)
                    clear hK2 K hHeld
                    have hHeld := hHeld2
                    clear hHeld2
                    try simp only [Act.put, List.getElem_toArray, List.getElem_cons_succ, List.getElem_cons_zero, List.setIfInBounds_toArray, List.set_cons_zero, List.set_cons_succ]
                    refine wpAnyH_ready (rs := [14]) (by kernel_rfl) (by simp) (AllReadyH.cons rfl (fun K hK2 => ?_) AllReadyH.nil)
                    rw [if_pos (by rfl)]
                    simp only [List.getElem_toArray, List.getElem_cons_succ, List.getElem_cons_zero]
                    refine wp_store_mid 35 _ _ rfl Y 0 #[va, vd, vw] rfl rfl (World.there_setCells htY X 0 ds) size_deps hpd.out ?_
                    change K _ (World.setCells (World.setCells _ X 0 ds) Y 0 [va, vd, vw])
                    refine hK2.out _ _ (tn_below hY1 [va, vd, vw] 0 _ hHeld) (fun hHeld2 => ?_)
                    clear hK2 K hHeld
                    have hHeld := hHeld2
                    clear hHeld2
                    try simp only [Act.put, List.getElem_toArray, List.getElem_cons_succ, List.getElem_cons_zero, List.setIfInBounds_toArray, List.set_cons_zero, List.set_cons_succ]
                    refine wpAnyH_take (i := 15) (v := .int .i64 E) rfl (by kernel_rfl) (by kernel_rfl) (by kernel_rfl) (fun _ _ _ h => h) (Or.inl ⟨by rfl, fun W _ => by kernel_rfl⟩) hHeld ?_
                    try simp only [Act.put, List.getElem_toArray, List.getElem_cons_succ, List.getElem_cons_zero, List.setIfInBounds_toArray, List.set_cons_zero, List.set_cons_succ]
                    refine wpAnyH_done (by kernel_rfl) ?_ _
                    go_wp2_with fail
                    go_meet
                    exact ⟨X, Y, ds, va, vd, vw, rfl, rfl, rfl, hHeld, hTZ⟩
                exact AllReadyH.nil
            exact AllReadyH.nil
          case rest =>
            obtain ⟨X, Y, ds, va, vd, vw, rfl, rfl, rfl, hb15, hX1⟩ := hcut
            replace hF := Lib.hid (hF.out.keep hb15)
            clear hSt hwA hwB hst
            have hwA := hF.out.ha
            have hwB := hF.out.hb
            replace hRt : Hid (∀ W, Below wc.heap.size wc W → _) := Lib.hid fun W hW => hRt.out W (hF.out.keep hW)
            clear hb15
            generalize wc = wb2 at *
            clear wb
            replace hX1 := Lib.hid hX1
            go_upto_region 16 with fail
            go_cut [16, 17, 18] (fun a b c wx => ∃ X Y ds va vd vw, a = .pointer (some ⟨X, 0, none⟩) ∧ b = .pointer (some ⟨Y, 0, none⟩) ∧ c = .int .i64 E ∧ Below wb2.heap.size wb2 wx ∧ TX wx A B X Y ds U va vd vw da dd dw)
            case first =>
              have hX0 := hX1
              clear hX1
              refine wp_region_held_drew (S := fun W => Below wb2.heap.size wb2 W) (by kernel_rfl) (drew_belowS _) (fun hHeld => ?_)
              refine wpAnyH_take (i := 0) rfl (by kernel_rfl) (by kernel_rfl) (by kernel_rfl) (fun _ _ _ h => h) (yieldsIf_load_mid (by rfl) _ _ rfl B 0 rfl os _ (fun W hS => (hF.out.keep hS).rb) huT rfl hso.out) hHeld ?_
              try simp only [Act.put, List.getElem_toArray, List.getElem_cons_zero, List.setIfInBounds_toArray, List.set_cons_zero, List.set_cons_succ]
              refine wpAnyH_take (i := 1) (v := .slice (some ⟨b, off, none⟩) n cap) rfl (by kernel_rfl) (by kernel_rfl) (by kernel_rfl) (fun _ _ _ h => h) (Or.inl ⟨by rfl, fun W _ => by kernel_rfl⟩) hHeld ?_
              try simp only [Act.put, List.getElem_toArray, List.getElem_cons_succ, List.getElem_cons_zero, List.setIfInBounds_toArray, List.set_cons_zero, List.set_cons_succ]
              refine wpAnyH_take (i := 2) (v := .int .i64 k) rfl (by kernel_rfl) (by kernel_rfl) (by kernel_rfl) (fun _ _ _ h => h) (Or.inl ⟨by rfl, fun W _ => by kernel_rfl⟩) hHeld ?_
              try simp only [Act.put, List.getElem_toArray, List.getElem_cons_succ, List.getElem_cons_zero, List.setIfInBounds_toArray, List.set_cons_zero, List.set_cons_succ]
              refine wpAnyH_take (i := 3) (v := .pointer (some ⟨b, off + k * 9, none⟩)) rfl (by kernel_rfl) (by kernel_rfl) (by kernel_rfl) (fun _ _ _ h => h) (Or.inl ⟨by rfl, fun W _ => by go_simp⟩) hHeld ?_
              try simp only [Act.put, List.getElem_toArray, List.getElem_cons_succ, List.getElem_cons_zero, List.setIfInBounds_toArray, List.set_cons_zero, List.set_cons_succ]
              refine wpAnyH_take (i := 4) rfl (by kernel_rfl) (by kernel_rfl) (by kernel_rfl) (fun _ _ _ h => h) (yieldsIf_load_mid (by rfl) _ _ rfl b (off + k * 9) rfl IL _ (fun W hS => hIL.out W (bl_step hF.out.bl hS)) huI rfl hsi.out) hHeld ?_
              try simp only [Act.put, List.getElem_toArray, List.getElem_cons_succ, List.getElem_cons_zero, List.setIfInBounds_toArray, List.set_cons_zero, List.set_cons_succ]
              refine wpAnyH_take (i := 5) (v := .int .i64 ev) rfl (by kernel_rfl) (by kernel_rfl) (by kernel_rfl) (fun _ _ _ h => h) (Or.inl ⟨by rfl, fun W _ => by kernel_rfl⟩) hHeld ?_
              try simp only [Act.put, List.getElem_toArray, List.getElem_cons_succ, List.getElem_cons_zero, List.setIfInBounds_toArray, List.set_cons_zero, List.set_cons_succ]
              generalize World.drew _ = W1 at hHeld ⊢
              refine wpAnyH_ready (rs := [6, 11, 12]) (by kernel_rfl) (by simp) ?_
              refine AllReadyH.cons rfl (fun K hK2 => ?_) ?_
              · as_aux_lemma =>
                  rw [if_pos (by rfl)]
                  simp only [List.getElem_toArray, List.getElem_cons_succ, List.getElem_cons_zero]
                  have hlo : wb2.heap.size ≤ W1.heap.size := hHeld.size
                  go_wp2_with (go_at_call 10; (with_reducible refine (hRt.out _ hHeld).mono ?_); rintro e W2 ⟨ds, va, vd, vw, rfl, hTs, has, hds, hws, hb⟩)
                  obtain ⟨hi, hhe⟩ : ∃ n, n = W2.heap.size := ⟨_, rfl⟩
                  have hSR : SR W2 W1.heap.size hi ds U va vd vw da dd dw := by rw [hhe]; exact ⟨hTs.win, has.win, hds.win, hws.win⟩
                  have hhi : hi ≤ W2.heap.size := Nat.le_of_eq hhe
                  clear hhe
                  refine hK2.out _ _ (bl_step hHeld hb) (fun hHeld2 => ?_)
                  clear hK2 K hHeld
                  have hHeld := hHeld2
                  clear hHeld2
                  try simp only [Act.put, List.getElem_toArray, List.getElem_cons_succ, List.getElem_cons_zero, List.setIfInBounds_toArray, List.set_cons_zero, List.set_cons_succ]
                  clear hb hTs has hds hws
                  refine wpAnyH_take (i := 7) (v := .tuple #[.agg ds.toArray, .agg #[va, vd, vw], .int .i64 E]) rfl (by kernel_rfl) (by kernel_rfl) (by kernel_rfl) (fun _ _ _ h => h) (Or.inl ⟨by rfl, fun W _ => by kernel_rfl⟩) hHeld ?_
                  try simp only [Act.put, List.getElem_toArray, List.getElem_cons_succ, List.getElem_cons_zero, List.setIfInBounds_toArray, List.set_cons_zero, List.set_cons_succ]
                  refine wpAnyH_take (i := 8) (v := .agg ds.toArray) rfl (by kernel_rfl) (by kernel_rfl) (by kernel_rfl) (fun _ _ _ h => h) (Or.inl ⟨by rfl, fun W _ => by kernel_rfl⟩) hHeld ?_
                  try simp only [Act.put, List.getElem_toArray, List.getElem_cons_succ, List.getElem_cons_zero, List.setIfInBounds_toArray, List.set_cons_zero, List.set_cons_succ]
                  refine wpAnyH_take (i := 9) (v := .agg #[va, vd, vw]) rfl (by kernel_rfl) (by kernel_rfl) (by kernel_rfl) (fun _ _ _ h => h) (Or.inl ⟨by rfl, fun W _ => by kernel_rfl⟩) hHeld ?_
                  try simp only [Act.put, List.getElem_toArray, List.getElem_cons_succ, List.getElem_cons_zero, List.setIfInBounds_toArray, List.set_cons_zero, List.set_cons_succ]
                  refine wpAnyH_take (i := 10) (v := .int .i64 E) rfl (by kernel_rfl) (by kernel_rfl) (by kernel_rfl) (fun _ _ _ h => h) (Or.inl ⟨by rfl, fun W _ => by kernel_rfl⟩) hHeld ?_
                  try simp only [Act.put, List.getElem_toArray, List.getElem_cons_succ, List.getElem_cons_zero, List.setIfInBounds_toArray, List.set_cons_zero, List.set_cons_succ]
                  refine wpAnyH_ready (rs := [11, 12]) (by kernel_rfl) (by simp) ?_
                  refine AllReadyH.cons rfl (fun K hK2 => ?_) ?_
                  · as_aux_lemma =>
                      rw [if_pos (by rfl)]
                      simp only [List.getElem_toArray, List.getElem_cons_succ, List.getElem_cons_zero]
                      obtain ⟨-, htX, hb, hsz⟩ := new_block W2 #[.slice none 0 0, .slice none 0 0, .slice none 0 0, .slice none 0 0, .slice none 0 0, .slice none 0 0, .slice none 0 0, .slice none 0 0, .slice none 0 0, .slice none 0 0, .slice none 0 0, .slice none 0 0, .slice none 0 0, .slice none 0 0, .slice none 0 0, .slice none 0 0, .slice none 0 0, .slice none 0 0, .slice none 0 0, .slice none 0 0, .slice none 0 0, .slice none 0 0, .slice none 0 0, .slice none 0 0, .slice none 0 0, .slice none 0 0, .slice none 0 0, .slice none 0 0, .slice none 0 0, .slice none 0 0, .slice none 0 0, .slice none 0 0, .slice none 0 0] 28
                      have hX1 : wb2.heap.size ≤ W2.heap.size := hHeld.size
                      have nX : W2.heap.size < W1.heap.size ∨ hi ≤ W2.heap.size := .inr hhi
                      replace hSR := hSR.keep hb
                      replace hhi := Nat.le_trans hhi hb.size
                      have hlX : W2.heap.size < (W2.alloc (.cells #[.slice none 0 0, .slice none 0 0, .slice none 0 0, .slice none 0 0, .slice none 0 0, .slice none 0 0, .slice none 0 0, .slice none 0 0, .slice none 0 0, .slice none 0 0, .slice none 0 0, .slice none 0 0, .slice none 0 0, .slice none 0 0, .slice none 0 0, .slice none 0 0, .slice none 0 0, .slice none 0 0, .slice none 0 0, .slice none 0 0, .slice none 0 0, .slice none 0 0, .slice none 0 0, .slice none 0 0, .slice none 0 0, .slice none 0 0, .slice none 0 0, .slice none 0 0, .slice none 0 0, .slice none 0 0, .slice none 0 0, .slice none 0 0, .slice none 0 0] 28)).heap.size := by rw [hsz]; exact Nat.lt_succ_self _
                      go_simp
                      refine hK2.out _ _ (bl_step hHeld hb) (fun hHeld2 => ?_)
                      clear hK2 K hHeld
                      have hHeld := hHeld2
                      clear hHeld2
                      try simp only [Act.put, List.getElem_toArray, List.getElem_cons_succ, List.getElem_cons_zero, List.setIfInBounds_toArray, List.set_cons_zero, List.set_cons_succ]
                      clear hb hsz
                      generalize W2.alloc (.cells #[.slice none 0 0, .slice none 0 0, .slice none 0 0, .slice none 0 0, .slice none 0 0, .slice none 0 0, .slice none 0 0, .slice none 0 0, .slice none 0 0, .slice none 0 0, .slice none 0 0, .slice none 0 0, .slice none 0 0, .slice none 0 0, .slice none 0 0, .slice none 0 0, .slice none 0 0, .slice none 0 0, .slice none 0 0, .slice none 0 0, .slice none 0 0, .slice none 0 0, .slice none 0 0, .slice none 0 0, .slice none 0 0, .slice none 0 0, .slice none 0 0, .slice none 0 0, .slice none 0 0, .slice none 0 0, .slice none 0 0, .slice none 0 0, .slice none 0 0] 28) = W3 at hHeld htX hlX hSR hhi ⊢
                      generalize hXe : W2.heap.size = X at htX hX1 hlX nX ⊢
                      clear hXe
                      refine wpAnyH_ready (rs := [12]) (by kernel_rfl) (by simp) (AllReadyH.cons rfl (fun K hK2 => ?_) AllReadyH.nil)
                      rw [if_pos (by rfl)]
                      simp only [List.getElem_toArray, List.getElem_cons_succ, List.getElem_cons_zero]
                      obtain ⟨-, htY, hb, hsz⟩ := new_block W3 #[.slice none 0 0, .slice none 0 0, .slice none 0 0] 35
                      have hY1 : wb2.heap.size ≤ W3.heap.size := hHeld.size
                      have hne : X ≠ W3.heap.size := by omega
                      have nY : W3.heap.size < W1.heap.size ∨ hi ≤ W3.heap.size := .inr hhi
                      replace htX := tn_there htX hlX hb
                      replace hlX := Nat.lt_of_lt_of_le hlX hb.size
                      replace hSR := hSR.keep hb
                      replace hhi := Nat.le_trans hhi hb.size
                      have hlY : W3.heap.size < (W3.alloc (.cells #[.slice none 0 0, .slice none 0 0, .slice none 0 0] 35)).heap.size := by rw [hsz]; exact Nat.lt_succ_self _
                      go_simp
                      refine hK2.out _ _ (bl_step hHeld hb) (fun hHeld2 => ?_)
                      clear hK2 K hHeld
                      have hHeld := hHeld2
                      clear hHeld2
                      try simp only [Act.put, List.getElem_toArray, List.getElem_cons_succ, List.getElem_cons_zero, List.setIfInBounds_toArray, List.set_cons_zero, List.set_cons_succ]
                      clear hb hsz
                      generalize W3.alloc (.cells #[.slice none 0 0, .slice none 0 0, .slice none 0 0] 35) = W4 at hHeld htY hlY htX hlX hSR hhi ⊢
                      generalize hYe : W3.heap.size = Y at htY hY1 hlY hne nY ⊢
                      clear hYe
                      have hTZ := TX.make hSR htX htY hne hlX hlY nX nY hlo hX1 hwA hwB
                      have hlcd := Lib.hid hSR.ts.lc
                      have hod : Hid (ds.toArray.all (·.oneCell') = true) := Lib.hid (all_oneCell_toArray hSR.ts.one)
                      have hpd : Hid ((#[va, vd, vw] : Array Value).all (·.oneCell') = true) := Lib.hid (all_oneCell_toArray (three_oneS hSR.ra.one hSR.rv.one hSR.rx.one))
                      have hsd : Hid ((Tryz.prog.info? 28).map (·.size) = some ds.toArray.size) := Lib.hid (by rw [List.size_toArray, hSR.ts.lc]; exact size_taint)
                      clear hSR hhi nX nY hne
                      refine wpAnyH_ready (rs := [13]) (by kernel_rfl) (by simp) (AllReadyH.cons rfl (fun K hK2 => ?_) AllReadyH.nil)
                      rw [if_pos (by rfl)]
                      simp only [List.getElem_toArray, List.getElem_cons_succ, List.getElem_cons_zero]
                      refine wp_store_mid 28 _ _ rfl X 0 ds.toArray rfl rfl (fun j hj => htX j (by rw [List.size_toArray, hlcd.out] at hj; exact hj)) hsd.out hod.out ?_
                      change K _ (World.setCells _ X 0 ds)
                      refine hK2.out _ _ (tn_below hX1 ds 0 _ hHeld) (fun hHeld2 => ?_)
                      clear hK2 K hHeld
                      have hHeld := hHeld2
                      clear hHeld2
                      try simp only [Act.put, List.getElem_toArray, List.getElem_cons_succ, List.getElem_cons_zero, List.setIfInBounds_toArray, List.set_cons_zero, List.set_cons_succ]
                      refine wpAnyH_ready (rs := [14]) (by kernel_rfl) (by simp) (AllReadyH.cons rfl (fun K hK2 => ?_) AllReadyH.nil)
                      rw [if_pos (by rfl)]
                      simp only [List.getElem_toArray, List.getElem_cons_succ, List.getElem_cons_zero]
                      refine wp_store_mid 35 _ _ rfl Y 0 #[va, vd, vw] rfl rfl (World.there_setCells htY X 0 ds) size_deps hpd.out ?_
                      change K _ (World.setCells (World.setCells _ X 0 ds) Y 0 [va, vd, vw])
                      refine hK2.out _ _ (tn_below hY1 [va, vd, vw] 0 _ hHeld) (fun hHeld2 => ?_)
                      clear hK2 K hHeld
                      have hHeld := hHeld2
                      clear hHeld2
                      try simp only [Act.put, List.getElem_toArray, List.getElem_cons_succ, List.getElem_cons_zero, List.setIfInBounds_toArray, List.set_cons_zero, List.set_cons_succ]
                      refine wpAnyH_take (i := 15) (v := .int .i64 E) rfl (by kernel_rfl) (by kernel_rfl) (by kernel_rfl) (fun _ _ _ h => h) (Or.inl ⟨by rfl, fun W _ => by kernel_rfl⟩) hHeld ?_
                      try simp only [Act.put, List.getElem_toArray, List.getElem_cons_succ, List.getElem_cons_zero, List.setIfInBounds_toArray, List.set_cons_zero, List.set_cons_succ]
                      refine wpAnyH_done (by kernel_rfl) ?_ _
                      go_wp2_with fail
                      go_meet
                      exact ⟨X, Y, ds, va, vd, vw, rfl, rfl, rfl, hHeld, hTZ⟩
                  refine AllReadyH.cons rfl (fun K hK2 => ?_) ?_
                  · as_aux_lemma =>
                      rw [if_pos (by rfl)]
                      simp only [List.getElem_toArray, List.getElem_cons_succ, List.getElem_cons_zero]
                      obtain ⟨-, htY, hb, hsz⟩ := new_block W2 #[.slice none 0 0, .slice none 0 0, .slice none 0 0] 35
                      have hY1 : wb2.heap.size ≤ W2.heap.size := hHeld.size
                      have nY : W2.heap.size < W1.heap.size ∨ hi ≤ W2.heap.size := .inr hhi
                      replace hSR := hSR.keep hb
                      replace hhi := Nat.le_trans hhi hb.size
                      have hlY : W2.heap.size < (W2.alloc (.cells #[.slice none 0 0, .slice none 0 0, .slice none 0 0] 35)).heap.size := by rw [hsz]; exact Nat.lt_succ_self _
                      go_simp
                      refine hK2.out _ _ (bl_step hHeld hb) (fun hHeld2 => ?_)
                      clear hK2 K hHeld
                      have hHeld := hHeld2
                      clear hHeld2
                      try simp only [Act.put, List.getElem_toArray, List.getElem_cons_succ, List.getElem_cons_zero, List.setIfInBounds_toArray, List.set_cons_zero, List.set_cons_succ]
                      clear hb hsz
                      generalize W2.alloc (.cells #[.slice none 0 0, .slice none 0 0, .slice none 0 0] 35) = W3 at hHeld htY hlY hSR hhi ⊢
                      generalize hYe : W2.heap.size = Y at htY hY1 hlY nY ⊢
                      clear hYe
                      refine wpAnyH_ready (rs := [11]) (by kernel_rfl) (by simp) (AllReadyH.cons rfl (fun K hK2 => ?_) AllReadyH.nil)
                      rw [if_pos (by rfl)]
                      simp only [List.getElem_toArray, List.getElem_cons_succ, List.getElem_cons_zero]
                      obtain ⟨-, htX, hb, hsz⟩ := new_block W3 #[.slice none 0 0, .slice none 0 0, .slice none 0 0, .slice none 0 0, .slice none 0 0, .slice none 0 0, .slice none 0 0, .slice none 0 0, .slice none 0 0, .slice none 0 0, .slice none 0 0, .slice none 0 0, .slice none 0 0, .slice none 0 0, .slice none 0 0, .slice none 0 0, .slice none 0 0, .slice none 0 0, .slice none 0 0, .slice none 0 0, .slice none 0 0, .slice none 0 0, .slice none 0 0, .slice none 0 0, .slice none 0 0, .slice none 0 0, .slice none 0 0, .slice none 0 0, .slice none 0 0, .slice none 0 0, .slice none 0 0, .slice none 0 0, .slice none 0 0] 28
                      have hX1 : wb2.heap.size ≤ W3.heap.size := hHeld.size
                      have hne : W3.heap.size ≠ Y := by omega
                      have nX : W3.heap.size < W1.heap.size ∨ hi ≤ W3.heap.size := .inr hhi
                      replace htY := tn_there htY hlY hb
                      replace hlY := Nat.lt_of_lt_of_le hlY hb.size
                      replace hSR := hSR.keep hb
                      replace hhi := Nat.le_trans hhi hb.size
                      have hlX : W3.heap.size < (W3.alloc (.cells #[.slice none 0 0, .slice none 0 0, .slice none 0 0, .slice none 0 0, .slice none 0 0, .slice none 0 0, .slice none 0 0, .slice none 0 0, .slice none 0 0, .slice none 0 0, .slice none 0 0, .slice none 0 0, .slice none 0 0, .slice none 0 0, .slice none 0 0, .slice none 0 0, .slice none 0 0, .slice none 0 0, .slice none 0 0, .slice none 0 0, .slice none 0 0, .slice none 0 0, .slice none 0 0, .slice none 0 0, .slice none 0 0, .slice none 0 0, .slice none 0 0, .slice none 0 0, .slice none 0 0, .slice none 0 0, .slice none 0 0, .slice none 0 0, .slice none 0 0] 28)).heap.size := by rw [hsz]; exact Nat.lt_succ_self _
                      go_simp
                      refine hK2.out _ _ (bl_step hHeld hb) (fun hHeld2 => ?_)
                      clear hK2 K hHeld
                      have hHeld := hHeld2
                      clear hHeld2
                      try simp only [Act.put, List.getElem_toArray, List.getElem_cons_succ, List.getElem_cons_zero, List.setIfInBounds_toArray, List.set_cons_zero, List.set_cons_succ]
                      clear hb hsz
                      generalize W3.alloc (.cells #[.slice none 0 0, .slice none 0 0, .slice none 0 0, .slice none 0 0, .slice none 0 0, .slice none 0 0, .slice none 0 0, .slice none 0 0, .slice none 0 0, .slice none 0 0, .slice none 0 0, .slice none 0 0, .slice none 0 0, .slice none 0 0, .slice none 0 0, .slice none 0 0, .slice none 0 0, .slice none 0 0, .slice none 0 0, .slice none 0 0, .slice none 0 0, .slice none 0 0, .slice none 0 0, .slice none 0 0, .slice none 0 0, .slice none 0 0, .slice none 0 0, .slice none 0 0, .slice none 0 0, .slice none 0 0, .slice none 0 0, .slice none 0 0, .slice none 0 0] 28) = W4 at hHeld htX hlX htY hlY hSR hhi ⊢
                      generalize hXe : W3.heap.size = X at htX hX1 hlX hne nX ⊢
                      clear hXe
                      have hTZ := TX.make hSR htX htY hne hlX hlY nX nY hlo hX1 hwA hwB
                      have hlcd := Lib.hid hSR.ts.lc
                      have hod : Hid (ds.toArray.all (·.oneCell') = true) := Lib.hid (all_oneCell_toArray hSR.ts.one)
                      have hpd : Hid ((#[va, vd, vw] : Array Value).all (·.oneCell') = true) := Lib.hid (all_oneCell_toArray (three_oneS hSR.ra.one hSR.rv.one hSR.rx.one))
                      have hsd : Hid ((Tryz.prog.info? 28).map (·.size) = some ds.toArray.size) := Lib.hid (by rw [List.size_toArray, hSR.ts.lc]; exact size_taint)
                      clear hSR hhi nX nY hne
                      refine wpAnyH_ready (rs := [13]) (by kernel_rfl) (by simp) (AllReadyH.cons rfl (fun K hK2 => ?_) AllReadyH.nil)
                      rw [if_pos (by rfl)]
                      simp only [List.getElem_toArray, List.getElem_cons_succ, List.getElem_cons_zero]
                      refine wp_store_mid 28 _ _ rfl X 0 ds.toArray rfl rfl (fun j hj => htX j (by rw [List.size_toArray, hlcd.out] at hj; exact hj)) hsd.out hod.out ?_
                      change K _ (World.setCells _ X 0 ds)
                      refine hK2.out _ _ (tn_below hX1 ds 0 _ hHeld) (fun hHeld2 => ?_)
                      clear hK2 K hHeld
                      have hHeld := hHeld2
                      clear hHeld2
                      try simp only [Act.put, List.getElem_toArray, List.getElem_cons_succ, List.getElem_cons_zero, List.setIfInBounds_toArray, List.set_cons_zero, List.set_cons_succ]
                      refine wpAnyH_ready (rs := [14]) (by kernel_rfl) (by simp) (AllReadyH.cons rfl (fun K hK2 => ?_) AllReadyH.nil)
                      rw [if_pos (by rfl)]
                      simp only [List.getElem_toArray, List.getElem_cons_succ, List.getElem_cons_zero]
                      refine wp_store_mid 35 _ _ rfl Y 0 #[va, vd, vw] rfl rfl (World.there_setCells htY X 0 ds) size_deps hpd.out ?_
                      change K _ (World.setCells (World.setCells _ X 0 ds) Y 0 [va, vd, vw])
                      refine hK2.out _ _ (tn_below hY1 [va, vd, vw] 0 _ hHeld) (fun hHeld2 => ?_)
                      clear hK2 K hHeld
                      have hHeld := hHeld2
                      clear hHeld2
                      try simp only [Act.put, List.getElem_toArray, List.getElem_cons_succ, List.getElem_cons_zero, List.setIfInBounds_toArray, List.set_cons_zero, List.set_cons_succ]
                      refine wpAnyH_take (i := 15) (v := .int .i64 E) rfl (by kernel_rfl) (by kernel_rfl) (by kernel_rfl) (fun _ _ _ h => h) (Or.inl ⟨by rfl, fun W _ => by kernel_rfl⟩) hHeld ?_
                      try simp only [Act.put, List.getElem_toArray, List.getElem_cons_succ, List.getElem_cons_zero, List.setIfInBounds_toArray, List.set_cons_zero, List.set_cons_succ]
                      refine wpAnyH_done (by kernel_rfl) ?_ _
                      go_wp2_with fail
                      go_meet
                      exact ⟨X, Y, ds, va, vd, vw, rfl, rfl, rfl, hHeld, hTZ⟩
                  exact AllReadyH.nil
              refine AllReadyH.cons rfl (fun K hK2 => ?_) ?_
              · as_aux_lemma =>
                  rw [if_pos (by rfl)]
                  simp only [List.getElem_toArray, List.getElem_cons_succ, List.getElem_cons_zero]
                  obtain ⟨-, htX, hb, hsz⟩ := new_block W1 #[.slice none 0 0, .slice none 0 0, .slice none 0 0, .slice none 0 0, .slice none 0 0, .slice none 0 0, .slice none 0 0, .slice none 0 0, .slice none 0 0, .slice none 0 0, .slice none 0 0, .slice none 0 0, .slice none 0 0, .slice none 0 0, .slice none 0 0, .slice none 0 0, .slice none 0 0, .slice none 0 0, .slice none 0 0, .slice none 0 0, .slice none 0 0, .slice none 0 0, .slice none 0 0, .slice none 0 0, .slice none 0 0, .slice none 0 0, .slice none 0 0, .slice none 0 0, .slice none 0 0, .slice none 0 0, .slice none 0 0, .slice none 0 0, .slice none 0 0] 28
                  have hX1 : wb2.heap.size ≤ W1.heap.size := hHeld.size
                  have hlX : W1.heap.size < (W1.alloc (.cells #[.slice none 0 0, .slice none 0 0, .slice none 0 0, .slice none 0 0, .slice none 0 0, .slice none 0 0, .slice none 0 0, .slice none 0 0, .slice none 0 0, .slice none 0 0, .slice none 0 0, .slice none 0 0, .slice none 0 0, .slice none 0 0, .slice none 0 0, .slice none 0 0, .slice none 0 0, .slice none 0 0, .slice none 0 0, .slice none 0 0, .slice none 0 0, .slice none 0 0, .slice none 0 0, .slice none 0 0, .slice none 0 0, .slice none 0 0, .slice none 0 0, .slice none 0 0, .slice none 0 0, .slice none 0 0, .slice none 0 0, .slice none 0 0, .slice none 0 0] 28)).heap.size := by rw [hsz]; exact Nat.lt_succ_self _
                  go_simp
                  refine hK2.out _ _ (bl_step hHeld hb) (fun hHeld2 => ?_)
                  clear hK2 K hHeld
                  have hHeld := hHeld2
                  clear hHeld2
                  try simp only [Act.put, List.getElem_toArray, List.getElem_cons_succ, List.getElem_cons_zero, List.setIfInBounds_toArray, List.set_cons_zero, List.set_cons_succ]
                  clear hb hsz
                  generalize W1.alloc (.cells #[.slice none 0 0, .slice none 0 0, .slice none 0 0, .slice none 0 0, .slice none 0 0, .slice none 0 0, .slice none 0 0, .slice none 0 0, .slice none 0 0, .slice none 0 0, .slice none 0 0, .slice none 0 0, .slice none 0 0, .slice none 0 0, .slice none 0 0, .slice none 0 0, .slice none 0 0, .slice none 0 0, .slice none 0 0, .slice none 0 0, .slice none 0 0, .slice none 0 0, .slice none 0 0, .slice none 0 0, .slice none 0 0, .slice none 0 0, .slice none 0 0, .slice none 0 0, .slice none 0 0, .slice none 0 0, .slice none 0 0, .slice none 0 0, .slice none 0 0] 28) = W2 at hHeld htX hlX ⊢
                  generalize hXe : W1.heap.size = X at htX hX1 hlX ⊢
                  clear hXe
                  refine wpAnyH_ready (rs := [6, 12]) (by kernel_rfl) (by simp) ?_
                  refine AllReadyH.cons rfl (fun K hK2 => ?_) ?_
                  · as_aux_lemma =>
                      rw [if_pos (by rfl)]
                      simp only [List.getElem_toArray, List.getElem_cons_succ, List.getElem_cons_zero]
                      have hlo : wb2.heap.size ≤ W2.heap.size := hHeld.size
                      go_wp2_with (go_at_call 10; (with_reducible refine (hRt.out _ hHeld).mono ?_); rintro e W3 ⟨ds, va, vd, vw, rfl, hTs, has, hds, hws, hb⟩)
                      obtain ⟨hi, hhe⟩ : ∃ n, n = W3.heap.size := ⟨_, rfl⟩
                      have hSR : SR W3 W2.heap.size hi ds U va vd vw da dd dw := by rw [hhe]; exact ⟨hTs.win, has.win, hds.win, hws.win⟩
                      have hhi : hi ≤ W3.heap.size := Nat.le_of_eq hhe
                      clear hhe
                      have nX : X < W2.heap.size ∨ hi ≤ X := .inl hlX
                      replace htX := tn_there htX hlX hb
                      replace hlX := Nat.lt_of_lt_of_le hlX hb.size
                      refine hK2.out _ _ (bl_step hHeld hb) (fun hHeld2 => ?_)
                      clear hK2 K hHeld
                      have hHeld := hHeld2
                      clear hHeld2
                      try simp only [Act.put, List.getElem_toArray, List.getElem_cons_succ, List.getElem_cons_zero, List.setIfInBounds_toArray, List.set_cons_zero, List.set_cons_succ]
                      clear hb hTs has hds hws
                      refine wpAnyH_take (i := 7) (v := .tuple #[.agg ds.toArray, .agg #[va, vd, vw], .int .i64 E]) rfl (by kernel_rfl) (by kernel_rfl) (by kernel_rfl) (fun _ _ _ h => h) (Or.inl ⟨by rfl, fun W _ => by kernel_rfl⟩) hHeld ?_
                      try simp only [Act.put, List.getElem_toArray, List.getElem_cons_succ, List.getElem_cons_zero, List.setIfInBounds_toArray, List.set_cons_zero, List.set_cons_succ]
                      refine wpAnyH_take (i := 8) (v := .agg ds.toArray) rfl (by kernel_rfl) (by kernel_rfl) (by kernel_rfl) (fun _ _ _ h => h) (Or.inl ⟨by rfl, fun W _ => by kernel_rfl⟩) hHeld ?_
                      try simp only [Act.put, List.getElem_toArray, List.getElem_cons_succ, List.getElem_cons_zero, List.setIfInBounds_toArray, List.set_cons_zero, List.set_cons_succ]
                      refine wpAnyH_take (i := 9) (v := .agg #[va, vd, vw]) rfl (by kernel_rfl) (by kernel_rfl) (by kernel_rfl) (fun _ _ _ h => h) (Or.inl ⟨by rfl, fun W _ => by kernel_rfl⟩) hHeld ?_
                      try simp only [Act.put, List.getElem_toArray, List.getElem_cons_succ, List.getElem_cons_zero, List.setIfInBounds_toArray, List.set_cons_zero, List.set_cons_succ]
                      refine wpAnyH_take (i := 10) (v := .int .i64 E) rfl (by kernel_rfl) (by kernel_rfl) (by kernel_rfl) (fun _ _ _ h => h) (Or.inl ⟨by rfl, fun W _ => by kernel_rfl⟩) hHeld ?_
                      try simp only [Act.put, List.getElem_toArray, List.getElem_cons_succ, List.getElem_cons_zero, List.setIfInBounds_toArray, List.set_cons_zero, List.set_cons_succ]
                      refine wpAnyH_ready (rs := [12]) (by kernel_rfl) (by simp) (AllReadyH.cons rfl (fun K hK2 => ?_) AllReadyH.nil)
                      rw [if_pos (by rfl)]
                      simp only [List.getElem_toArray, List.getElem_cons_succ, List.getElem_cons_zero]
                      obtain ⟨-, htY, hb, hsz⟩ := new_block W3 #[.slice none 0 0, .slice none 0 0, .slice none 0 0] 35
                      have hY1 : wb2.heap.size ≤ W3.heap.size := hHeld.size
                      have hne : X ≠ W3.heap.size := by omega
                      have nY : W3.heap.size < W2.heap.size ∨ hi ≤ W3.heap.size := .inr hhi
                      replace htX := tn_there htX hlX hb
                      replace hlX := Nat.lt_of_lt_of_le hlX hb.size
                      replace hSR := hSR.keep hb
                      replace hhi := Nat.le_trans hhi hb.size
                      have hlY : W3.heap.size < (W3.alloc (.cells #[.slice none 0 0, .slice none 0 0, .slice none 0 0] 35)).heap.size := by rw [hsz]; exact Nat.lt_succ_self _
                      go_simp
                      refine hK2.out _ _ (bl_step hHeld hb) (fun hHeld2 => ?_)
                      clear hK2 K hHeld
                      have hHeld := hHeld2
                      clear hHeld2
                      try simp only [Act.put, List.getElem_toArray, List.getElem_cons_succ, List.getElem_cons_zero, List.setIfInBounds_toArray, List.set_cons_zero, List.set_cons_succ]
                      clear hb hsz
                      generalize W3.alloc (.cells #[.slice none 0 0, .slice none 0 0, .slice none 0 0] 35) = W4 at hHeld htY hlY htX hlX hSR hhi ⊢
                      generalize hYe : W3.heap.size = Y at htY hY1 hlY hne nY ⊢
                      clear hYe
                      have hTZ := TX.make hSR htX htY hne hlX hlY nX nY hlo hX1 hwA hwB
                      have hlcd := Lib.hid hSR.ts.lc
                      have hod : Hid (ds.toArray.all (·.oneCell') = true) := Lib.hid (all_oneCell_toArray hSR.ts.one)
                      have hpd : Hid ((#[va, vd, vw] : Array Value).all (·.oneCell') = true) := Lib.hid (all_oneCell_toArray (three_oneS hSR.ra.one hSR.rv.one hSR.rx.one))
                      have hsd : Hid ((Tryz.prog.info? 28).map (·.size) = some ds.toArray.size) := Lib.hid (by rw [List.size_toArray, hSR.ts.lc]; exact size_taint)
                      clear hSR hhi nX nY hne
                      refine wpAnyH_ready (rs := [13]) (by kernel_rfl) (by simp) (AllReadyH.cons rfl (fun K hK2 => ?_) AllReadyH.nil)
                      rw [if_pos (by rfl)]
                      simp only [List.getElem_toArray, List.getElem_cons_succ, List.getElem_cons_zero]
                      refine wp_store_mid 28 _ _ rfl X 0 ds.toArray rfl rfl (fun j hj => htX j (by rw [List.size_toArray, hlcd.out] at hj; exact hj)) hsd.out hod.out ?_
                      change K _ (World.setCells _ X 0 ds)
                      refine hK2.out _ _ (tn_below hX1 ds 0 _ hHeld) (fun hHeld2 => ?_)
                      clear hK2 K hHeld
                      have hHeld := hHeld2
                      clear hHeld2
                      try simp only [Act.put, List.getElem_toArray, List.getElem_cons_succ, List.getElem_cons_zero, List.setIfInBounds_toArray, List.set_cons_zero, List.set_cons_succ]
                      refine wpAnyH_ready (rs := [14]) (by kernel_rfl) (by simp) (AllReadyH.cons rfl (fun K hK2 => ?_) AllReadyH.nil)
                      rw [if_pos (by rfl)]
                      simp only [List.getElem_toArray, List.getElem_cons_succ, List.getElem_cons_zero]
                      refine wp_store_mid 35 _ _ rfl Y 0 #[va, vd, vw] rfl rfl (World.there_setCells htY X 0 ds) size_deps hpd.out ?_
                      change K _ (World.setCells (World.setCells _ X 0 ds) Y 0 [va, vd, vw])
                      refine hK2.out _ _ (tn_below hY1 [va, vd, vw] 0 _ hHeld) (fun hHeld2 => ?_)
                      clear hK2 K hHeld
                      have hHeld := hHeld2
                      clear hHeld2
                      try simp only [Act.put, List.getElem_toArray, List.getElem_cons_succ, List.getElem_cons_zero, List.setIfInBounds_toArray, List.set_cons_zero, List.set_cons_succ]
                      refine wpAnyH_take (i := 15) (v := .int .i64 E) rfl (by kernel_rfl) (by kernel_rfl) (by kernel_rfl) (fun _ _ _ h => h) (Or.inl ⟨by rfl, fun W _ => by kernel_rfl⟩) hHeld ?_
                      try simp only [Act.put, List.getElem_toArray, List.getElem_cons_succ, List.getElem_cons_zero, List.setIfInBounds_toArray, List.set_cons_zero, List.set_cons_succ]
                      refine wpAnyH_done (by kernel_rfl) ?_ _
                      go_wp2_with fail
                      go_meet
                      exact ⟨X, Y, ds, va, vd, vw, rfl, rfl, rfl, hHeld, hTZ⟩
                  refine AllReadyH.cons rfl (fun K hK2 => ?_) ?_
                  · as_aux_lemma =>
                      rw [if_pos (by rfl)]
                      simp only [List.getElem_toArray, List.getElem_cons_succ, List.getElem_cons_zero]
                      obtain ⟨-, htY, hb, hsz⟩ := new_block W2 #[.slice none 0 0, .slice none 0 0, .slice none 0 0] 35
                      have hY1 : wb2.heap.size ≤ W2.heap.size := hHeld.size
                      have hne : X ≠ W2.heap.size := by omega
                      replace htX := tn_there htX hlX hb
                      replace hlX := Nat.lt_of_lt_of_le hlX hb.size
                      have hlY : W2.heap.size < (W2.alloc (.cells #[.slice none 0 0, .slice none 0 0, .slice none 0 0] 35)).heap.size := by rw [hsz]; exact Nat.lt_succ_self _
                      go_simp
                      refine hK2.out _ _ (bl_step hHeld hb) (fun hHeld2 => ?_)
                      clear hK2 K hHeld
                      have hHeld := hHeld2
                      clear hHeld2
                      try simp only [Act.put, List.getElem_toArray, List.getElem_cons_succ, List.getElem_cons_zero, List.setIfInBounds_toArray, List.set_cons_zero, List.set_cons_succ]
                      clear hb hsz
                      generalize W2.alloc (.cells #[.slice none 0 0, .slice none 0 0, .slice none 0 0] 35) = W3 at hHeld htY hlY htX hlX ⊢
                      generalize hYe : W2.heap.size = Y at htY hY1 hlY hne ⊢
                      clear hYe
                      refine wpAnyH_ready (rs := [6]) (by kernel_rfl) (by simp) (AllReadyH.cons rfl (fun K hK2 => ?_) AllReadyH.nil)
                      rw [if_pos (by rfl)]
                      simp only [List.getElem_toArray, List.getElem_cons_succ, List.getElem_cons_zero]
                      have hlo : wb2.heap.size ≤ W3.heap.size := hHeld.size
                      go_wp2_with (go_at_call 10; (with_reducible refine (hRt.out _ hHeld).mono ?_); rintro e W4 ⟨ds, va, vd, vw, rfl, hTs, has, hds, hws, hb⟩)
                      obtain ⟨hi, hhe⟩ : ∃ n, n = W4.heap.size := ⟨_, rfl⟩
                      have hSR : SR W4 W3.heap.size hi ds U va vd vw da dd dw := by rw [hhe]; exact ⟨hTs.win, has.win, hds.win, hws.win⟩
                      have hhi : hi ≤ W4.heap.size := Nat.le_of_eq hhe
                      clear hhe
                      have nX : X < W3.heap.size ∨ hi ≤ X := .inl hlX
                      have nY : Y < W3.heap.size ∨ hi ≤ Y := .inl hlY
                      replace htX := tn_there htX hlX hb
                      replace hlX := Nat.lt_of_lt_of_le hlX hb.size
                      replace htY := tn_there htY hlY hb
                      replace hlY := Nat.lt_of_lt_of_le hlY hb.size
                      refine hK2.out _ _ (bl_step hHeld hb) (fun hHeld2 => ?_)
                      clear hK2 K hHeld
                      have hHeld := hHeld2
                      clear hHeld2
                      try simp only [Act.put, List.getElem_toArray, List.getElem_cons_succ, List.getElem_cons_zero, List.setIfInBounds_toArray, List.set_cons_zero, List.set_cons_succ]
                      clear hb hTs has hds hws
                      refine wpAnyH_take (i := 7) (v := .tuple #[.agg ds.toArray, .agg #[va, vd, vw], .int .i64 E]) rfl (by kernel_rfl) (by kernel_rfl) (by kernel_rfl) (fun _ _ _ h => h) (Or.inl ⟨by rfl, fun W _ => by kernel_rfl⟩) hHeld ?_
                      try simp only [Act.put, List.getElem_toArray, List.getElem_cons_succ, List.getElem_cons_zero, List.setIfInBounds_toArray, List.set_cons_zero, List.set_cons_succ]
                      refine wpAnyH_take (i := 8) (v := .agg ds.toArray) rfl (by kernel_rfl) (by kernel_rfl) (by kernel_rfl) (fun _ _ _ h => h) (Or.inl ⟨by rfl, fun W _ => by kernel_rfl⟩) hHeld ?_
                      try simp only [Act.put, List.getElem_toArray, List.getElem_cons_succ, List.getElem_cons_zero, List.setIfInBounds_toArray, List.set_cons_zero, List.set_cons_succ]
                      refine wpAnyH_take (i := 9) (v := .agg #[va, vd, vw]) rfl (by kernel_rfl) (by kernel_rfl) (by kernel_rfl) (fun _ _ _ h => h) (Or.inl ⟨by rfl, fun W _ => by kernel_rfl⟩) hHeld ?_
                      try simp only [Act.put, List.getElem_toArray, List.getElem_cons_succ, List.getElem_cons_zero, List.setIfInBounds_toArray, List.set_cons_zero, List.set_cons_succ]
                      refine wpAnyH_take (i := 10) (v := .int .i64 E) rfl (by kernel_rfl) (by kernel_rfl) (by kernel_rfl) (fun _ _ _ h => h) (Or.inl ⟨by rfl, fun W _ => by kernel_rfl⟩) hHeld ?_
                      try simp only [Act.put, List.getElem_toArray, List.getElem_cons_succ, List.getElem_cons_zero, List.setIfInBounds_toArray, List.set_cons_zero, List.set_cons_succ]
                      have hTZ := TX.make hSR htX htY hne hlX hlY nX nY hlo hX1 hwA hwB
                      have hlcd := Lib.hid hSR.ts.lc
                      have hod : Hid (ds.toArray.all (·.oneCell') = true) := Lib.hid (all_oneCell_toArray hSR.ts.one)
                      have hpd : Hid ((#[va, vd, vw] : Array Value).all (·.oneCell') = true) := Lib.hid (all_oneCell_toArray (three_oneS hSR.ra.one hSR.rv.one hSR.rx.one))
                      have hsd : Hid ((Tryz.prog.info? 28).map (·.size) = some ds.toArray.size) := Lib.hid (by rw [List.size_toArray, hSR.ts.lc]; exact size_taint)
                      clear hSR hhi nX nY hne
                      refine wpAnyH_ready (rs := [13]) (by kernel_rfl) (by simp) (AllReadyH.cons rfl (fun K hK2 => ?_) AllReadyH.nil)
                      rw [if_pos (by rfl)]
                      simp only [List.getElem_toArray, List.getElem_cons_succ, List.getElem_cons_zero]
                      refine wp_store_mid 28 _ _ rfl X 0 ds.toArray rfl rfl (fun j hj => htX j (by rw [List.size_toArray, hlcd.out] at hj; exact hj)) hsd.out hod.out ?_
                      change K _ (World.setCells _ X 0 ds)
                      refine hK2.out _ _ (tn_below hX1 ds 0 _ hHeld) (fun hHeld2 => ?_)
                      clear hK2 K hHeld
                      have hHeld := hHeld2
                      clear hHeld2
                      try simp only [Act.put, List.getElem_toArray, List.getElem_cons_succ, List.getElem_cons_zero, List.setIfInBounds_toArray, List.set_cons_zero, List.set_cons_succ]
                      refine wpAnyH_ready (rs := [14]) (by kernel_rfl) (by simp) (AllReadyH.cons rfl (fun K hK2 => ?_) AllReadyH.nil)
                      rw [if_pos (by rfl)]
                      simp only [List.getElem_toArray, List.getElem_cons_succ, List.getElem_cons_zero]
                      refine wp_store_mid 35 _ _ rfl Y 0 #[va, vd, vw] rfl rfl (World.there_setCells htY X 0 ds) size_deps hpd.out ?_
                      change K _ (World.setCells (World.setCells _ X 0 ds) Y 0 [va, vd, vw])
                      refine hK2.out _ _ (tn_below hY1 [va, vd, vw] 0 _ hHeld) (fun hHeld2 => ?_)
                      clear hK2 K hHeld
                      have hHeld := hHeld2
                      clear hHeld2
                      try simp only [Act.put, List.getElem_toArray, List.getElem_cons_succ, List.getElem_cons_zero, List.setIfInBounds_toArray, List.set_cons_zero, List.set_cons_succ]
                      refine wpAnyH_take (i := 15) (v := .int .i64 E) rfl (by kernel_rfl) (by kernel_rfl) (by kernel_rfl) (fun _ _ _ h => h) (Or.inl ⟨by rfl, fun W _ => by kernel_rfl⟩) hHeld ?_
                      try simp only [Act.put, List.getElem_toArray, List.getElem_cons_succ, List.getElem_cons_zero, List.setIfInBounds_toArray, List.set_cons_zero, List.set_cons_succ]
                      refine wpAnyH_done (by kernel_rfl) ?_ _
                      go_wp2_with fail
                      go_meet
                      exact ⟨X, Y, ds, va, vd, vw, rfl, rfl, rfl, hHeld, hTZ⟩
                  exact AllReadyH.nil
              refine AllReadyH.cons rfl (fun K hK2 => ?_) ?_
              · as_aux_lemma =>
                  rw [if_pos (by rfl)]
                  simp only [List.getElem_toArray, List.getElem_cons_succ, List.getElem_cons_zero]
                  obtain ⟨-, htY, hb, hsz⟩ := new_block W1 #[.slice none 0 0, .slice none 0 0, .slice none 0 0] 35
                  have hY1 : wb2.heap.size ≤ W1.heap.size := hHeld.size
                  have hlY : W1.heap.size < (W1.alloc (.cells #[.slice none 0 0, .slice none 0 0, .slice none 0 0] 35)).heap.size := by rw [hsz]; exact Nat.lt_succ_self _
                  go_simp
                  refine hK2.out _ _ (bl_step hHeld hb) (fun hHeld2 => ?_)
                  clear hK2 K hHeld
                  have hHeld := hHeld2
                  clear hHeld2
                  try simp only [Act.put, List.getElem_toArray, List.getElem_cons_succ, List.getElem_cons_zero, List.setIfInBounds_toArray, List.set_cons_zero, List.set_cons_succ]
                  clear hb hsz
                  generalize W1.alloc (.cells #[.slice none 0 0, .slice none 0 0, .slice none 0 0] 35) = W2 at hHeld htY hlY ⊢
                  generalize hYe : W1.heap.size = Y at htY hY1 hlY ⊢
                  clear hYe
                  refine wpAnyH_ready (rs := [6, 11]) (by kernel_rfl) (by simp) ?_
                  refine AllReadyH.cons rfl (fun K hK2 => ?_) ?_
                  · as_aux_lemma =>
                      rw [if_pos (by rfl)]
                      simp only [List.getElem_toArray, List.getElem_cons_succ, List.getElem_cons_zero]
                      have hlo : wb2.heap.size ≤ W2.heap.size := hHeld.size
                      go_wp2_with (go_at_call 10; (with_reducible refine (hRt.out _ hHeld).mono ?_); rintro e W3 ⟨ds, va, vd, vw, rfl, hTs, has, hds, hws, hb⟩)
                      obtain ⟨hi, hhe⟩ : ∃ n, n = W3.heap.size := ⟨_, rfl⟩
                      have hSR : SR W3 W2.heap.size hi ds U va vd vw da dd dw := by rw [hhe]; exact ⟨hTs.win, has.win, hds.win, hws.win⟩
                      have hhi : hi ≤ W3.heap.size := Nat.le_of_eq hhe
                      clear hhe
                      have nY : Y < W2.heap.size ∨ hi ≤ Y := .inl hlY
                      replace htY := tn_there htY hlY hb
                      replace hlY := Nat.lt_of_lt_of_le hlY hb.size
                      refine hK2.out _ _ (bl_step hHeld hb) (fun hHeld2 => ?_)
                      clear hK2 K hHeld
                      have hHeld := hHeld2
                      clear hHeld2
                      try simp only [Act.put, List.getElem_toArray, List.getElem_cons_succ, List.getElem_cons_zero, List.setIfInBounds_toArray, List.set_cons_zero, List.set_cons_succ]
                      clear hb hTs has hds hws
                      refine wpAnyH_take (i := 7) (v := .tuple #[.agg ds.toArray, .agg #[va, vd, vw], .int .i64 E]) rfl (by kernel_rfl) (by kernel_rfl) (by kernel_rfl) (fun _ _ _ h => h) (Or.inl ⟨by rfl, fun W _ => by kernel_rfl⟩) hHeld ?_
                      try simp only [Act.put, List.getElem_toArray, List.getElem_cons_succ, List.getElem_cons_zero, List.setIfInBounds_toArray, List.set_cons_zero, List.set_cons_succ]
                      refine wpAnyH_take (i := 8) (v := .agg ds.toArray) rfl (by kernel_rfl) (by kernel_rfl) (by kernel_rfl) (fun _ _ _ h => h) (Or.inl ⟨by rfl, fun W _ => by kernel_rfl⟩) hHeld ?_
                      try simp only [Act.put, List.getElem_toArray, List.getElem_cons_succ, List.getElem_cons_zero, List.setIfInBounds_toArray, List.set_cons_zero, List.set_cons_succ]
                      refine wpAnyH_take (i := 9) (v := .agg #[va, vd, vw]) rfl (by kernel_rfl) (by kernel_rfl) (by kernel_rfl) (fun _ _ _ h => h) (Or.inl ⟨by rfl, fun W _ => by kernel_rfl⟩) hHeld ?_
                      try simp only [Act.put, List.getElem_toArray, List.getElem_cons_succ, List.getElem_cons_zero, List.setIfInBounds_toArray, List.set_cons_zero, List.set_cons_succ]
                      refine wpAnyH_take (i := 10) (v := .int .i64 E) rfl (by kernel_rfl) (by kernel_rfl) (by kernel_rfl) (fun _ _ _ h => h) (Or.inl ⟨by rfl, fun W _ => by kernel_rfl⟩) hHeld ?_
                      try simp only [Act.put, List.getElem_toArray, List.getElem_cons_succ, List.getElem_cons_zero, List.setIfInBounds_toArray, List.set_cons_zero, List.set_cons_succ]
                      refine wpAnyH_ready (rs := [11]) (by kernel_rfl) (by simp) (AllReadyH.cons rfl (fun K hK2 => ?_) AllReadyH.nil)
                      rw [if_pos (by rfl)]
                      simp only [List.getElem_toArray, List.getElem_cons_succ, List.getElem_cons_zero]
                      obtain ⟨-, htX, hb, hsz⟩ := new_block W3 #[.slice none 0 0, .slice none 0 0, .slice none 0 0, .slice none 0 0, .slice none 0 0, .slice none 0 0, .slice none 0 0, .slice none 0 0, .slice none 0 0, .slice none 0 0, .slice none 0 0, .slice none 0 0, .slice none 0 0, .slice none 0 0, .slice none 0 0, .slice none 0 0, .slice none 0 0, .slice none 0 0, .slice none 0 0, .slice none 0 0, .slice none 0 0, .slice none 0 0, .slice none 0 0, .slice none 0 0, .slice none 0 0, .slice none 0 0, .slice none 0 0, .slice none 0 0, .slice none 0 0, .slice none 0 0, .slice none 0 0, .slice none 0 0, .slice none 0 0] 28
                      have hX1 : wb2.heap.size ≤ W3.heap.size := hHeld.size
                      have hne : W3.heap.size ≠ Y := by omega
                      have nX : W3.heap.size < W2.heap.size ∨ hi ≤ W3.heap.size := .inr hhi
                      replace htY := tn_there htY hlY hb
                      replace hlY := Nat.lt_of_lt_of_le hlY hb.size
                      replace hSR := hSR.keep hb
                      replace hhi := Nat.le_trans hhi hb.size
                      have hlX : W3.heap.size < (W3.alloc (.cells #[.slice none 0 0, .slice none 0 0, .slice none 0 0, .slice none 0 0, .slice none 0 0, .slice none 0 0, .slice none 0 0, .slice none 0 0, .slice none 0 0, .slice none 0 0, .slice none 0 0, .slice none 0 0, .slice none 0 0, .slice none 0 0, .slice none 0 0, .slice none 0 0, .slice none 0 0, .slice none 0 0, .slice none 0 0, .slice none 0 0, .slice none 0 0, .slice none 0 0, .slice none 0 0, .slice none 0 0, .slice none 0 0, .slice none 0 0, .slice none 0 0, .slice none 0 0, .slice none 0 0, .slice none 0 0, .slice none 0 0, .slice none 0 0, .slice none 0 0] 28)).heap.size := by rw [hsz]; exact Nat.lt_succ_self _
                      go_simp
                      refine hK2.out _ _ (bl_step hHeld hb) (fun hHeld2 => ?_)
                      clear hK2 K hHeld
                      have hHeld := hHeld2
                      clear hHeld2
                      try simp only [Act.put, List.getElem_toArray, List.getElem_cons_succ, List.getElem_cons_zero, List.setIfInBounds_toArray, List.set_cons_zero, List.set_cons_succ]
                      clear hb hsz
                      generalize W3.alloc (.cells #[.slice none 0 0, .slice none 0 0, .slice none 0 0, .slice none 0 0, .slice none 0 0, .slice none 0 0, .slice none 0 0, .slice none 0 0, .slice none 0 0, .slice none 0 0, .slice none 0 0, .slice none 0 0, .slice none 0 0, .slice none 0 0, .slice none 0 0, .slice none 0 0, .slice none 0 0, .slice none 0 0, .slice none 0 0, .slice none 0 0, .slice none 0 0, .slice none 0 0, .slice none 0 0, .slice none 0 0, .slice none 0 0, .slice none 0 0, .slice none 0 0, .slice none 0 0, .slice none 0 0, .slice none 0 0, .slice none 0 0, .slice none 0 0, .slice none 0 0] 28) = W4 at hHeld htX hlX htY hlY hSR hhi ⊢
                      generalize hXe : W3.heap.size = X at htX hX1 hlX hne nX ⊢
                      clear hXe
                      have hTZ := TX.make hSR htX htY hne hlX hlY nX nY hlo hX1 hwA hwB
                      have hlcd := Lib.hid hSR.ts.lc
                      have hod : Hid (ds.toArray.all (·.oneCell') = true) := Lib.hid (all_oneCell_toArray hSR.ts.one)
                      have hpd : Hid ((#[va, vd, vw] : Array Value).all (·.oneCell') = true) := Lib.hid (all_oneCell_toArray (three_oneS hSR.ra.one hSR.rv.one hSR.rx.one))
                      have hsd : Hid ((Tryz.prog.info? 28).map (·.size) = some ds.toArray.size) := Lib.hid (by rw [List.size_toArray, hSR.ts.lc]; exact size_taint)
                      clear hSR hhi nX nY hne
                      refine wpAnyH_ready (rs := [13]) (by kernel_rfl) (by simp) (AllReadyH.cons rfl (fun K hK2 => ?_) AllReadyH.nil)
                      rw [if_pos (by rfl)]
                      simp only [List.getElem_toArray, List.getElem_cons_succ, List.getElem_cons_zero]
                      refine wp_store_mid 28 _ _ rfl X 0 ds.toArray rfl rfl (fun j hj => htX j (by rw [List.size_toArray, hlcd.out] at hj; exact hj)) hsd.out hod.out ?_
                      change K _ (World.setCells _ X 0 ds)
                      refine hK2.out _ _ (tn_below hX1 ds 0 _ hHeld) (fun hHeld2 => ?_)
                      clear hK2 K hHeld
                      have hHeld := hHeld2
                      clear hHeld2
                      try simp only [Act.put, List.getElem_toArray, List.getElem_cons_succ, List.getElem_cons_zero, List.setIfInBounds_toArray, List.set_cons_zero, List.set_cons_succ]
                      refine wpAnyH_ready (rs := [14]) (by kernel_rfl) (by simp) (AllReadyH.cons rfl (fun K hK2 => ?_) AllReadyH.nil)
                      rw [if_pos (by rfl)]
                      simp only [List.getElem_toArray, List.getElem_cons_succ, List.getElem_cons_zero]
                      refine wp_store_mid 35 _ _ rfl Y 0 #[va, vd, vw] rfl rfl (World.there_setCells htY X 0 ds) size_deps hpd.out ?_
                      change K _ (World.setCells (World.setCells _ X 0 ds) Y 0 [va, vd, vw])
                      refine hK2.out _ _ (tn_below hY1 [va, vd, vw] 0 _ hHeld) (fun hHeld2 => ?_)
                      clear hK2 K hHeld
                      have hHeld := hHeld2
                      clear hHeld2
                      try simp only [Act.put, List.getElem_toArray, List.getElem_cons_succ, List.getElem_cons_zero, List.setIfInBounds_toArray, List.set_cons_zero, List.set_cons_succ]
                      refine wpAnyH_take (i := 15) (v := .int .i64 E) rfl (by kernel_rfl) (by kernel_rfl) (by kernel_rfl) (fun _ _ _ h => h) (Or.inl ⟨by rfl, fun W _ => by kernel_rfl⟩) hHeld ?_
                      try simp only [Act.put, List.getElem_toArray, List.getElem_cons_succ, List.getElem_cons_zero, List.setIfInBounds_toArray, List.set_cons_zero, List.set_cons_succ]
                      refine wpAnyH_done (by kernel_rfl) ?_ _
                      go_wp2_with fail
                      go_meet
                      exact ⟨X, Y, ds, va, vd, vw, rfl, rfl, rfl, hHeld, hTZ⟩
                  refine AllReadyH.cons rfl (fun K hK2 => ?_) ?_
                  · as_aux_lemma =>
                      rw [if_pos (by rfl)]
                      simp only [List.getElem_toArray, List.getElem_cons_succ, List.getElem_cons_zero]
                      obtain ⟨-, htX, hb, hsz⟩ := new_block W2 #[.slice none 0 0, .slice none 0 0, .slice none 0 0, .slice none 0 0, .slice none 0 0, .slice none 0 0, .slice none 0 0, .slice none 0 0, .slice none 0 0, .slice none 0 0, .slice none 0 0, .slice none 0 0, .slice none 0 0, .slice none 0 0, .slice none 0 0, .slice none 0 0, .slice none 0 0, .slice none 0 0, .slice none 0 0, .slice none 0 0, .slice none 0 0, .slice none 0 0, .slice none 0 0, .slice none 0 0, .slice none 0 0, .slice none 0 0, .slice none 0 0, .slice none 0 0, .slice none 0 0, .slice none 0 0, .slice none 0 0, .slice none 0 0, .slice none 0 0] 28
                      have hX1 : wb2.heap.size ≤ W2.heap.size := hHeld.size
                      have hne : W2.heap.size ≠ Y := by omega
                      replace htY := tn_there htY hlY hb
                      replace hlY := Nat.lt_of_lt_of_le hlY hb.size
                      have hlX : W2.heap.size < (W2.alloc (.cells #[.slice none 0 0, .slice none 0 0, .slice none 0 0, .slice none 0 0, .slice none 0 0, .slice none 0 0, .slice none 0 0, .slice none 0 0, .slice none 0 0, .slice none 0 0, .slice none 0 0, .slice none 0 0, .slice none 0 0, .slice none 0 0, .slice none 0 0, .slice none 0 0, .slice none 0 0, .slice none 0 0, .slice none 0 0, .slice none 0 0, .slice none 0 0, .slice none 0 0, .slice none 0 0, .slice none 0 0, .slice none 0 0, .slice none 0 0, .slice none 0 0, .slice none 0 0, .slice none 0 0, .slice none 0 0, .slice none 0 0, .slice none 0 0, .slice none 0 0] 28)).heap.size := by rw [hsz]; exact Nat.lt_succ_self _
                      go_simp
                      refine hK2.out _ _ (bl_step hHeld hb) (fun hHeld2 => ?_)
                      clear hK2 K hHeld
                      have hHeld := hHeld2
                      clear hHeld2
                      try simp only [Act.put, List.getElem_toArray, List.getElem_cons_succ, List.getElem_cons_zero, List.setIfInBounds_toArray, List.set_cons_zero, List.set_cons_succ]
                      clear hb hsz
                      generalize W2.alloc (.cells #[.slice none 0 0, .slice none 0 0, .slice none 0 0, .slice none 0 0, .slice none 0 0, .slice none 0 0, .slice none 0 0, .slice none 0 0, .slice none 0 0, .slice none 0 0, .slice none 0 0, .slice none 0 0, .slice none 0 0, .slice none 0 0, .slice none 0 0, .slice none 0 0, .slice none 0 0, .slice none 0 0, .slice none 0 0, .slice none 0 0, .slice none 0 0, .slice none 0 0, .slice none 0 0, .slice none 0 0, .slice none 0 0, .slice none 0 0, .slice none 0 0, .slice none 0 0, .slice none 0 0, .slice none 0 0, .slice none 0 0, .slice none 0 0, .slice none 0 0] 28) = W3 at hHeld htX hlX htY hlY ⊢
                      generalize hXe : W2.heap.size = X at htX hX1 hlX hne ⊢
                      clear hXe
                      refine wpAnyH_ready (rs := [6]) (by kernel_rfl) (by simp) (AllReadyH.cons rfl (fun K hK2 => ?_) AllReadyH.nil)
                      rw [if_pos (by rfl)]
                      simp only [List.getElem_toArray, List.getElem_cons_succ, List.getElem_cons_zero]
                      have hlo : wb2.heap.size ≤ W3.heap.size := hHeld.size
                      go_wp2_with (go_at_call 10; (with_reducible refine (hRt.out _ hHeld).mono ?_); rintro e W4 ⟨ds, va, vd, vw, rfl, hTs, has, hds, hws, hb⟩)
                      obtain ⟨hi, hhe⟩ : ∃ n, n = W4.heap.size := ⟨_, rfl⟩
                      have hSR : SR W4 W3.heap.size hi ds U va vd vw da dd dw := by rw [hhe]; exact ⟨hTs.win, has.win, hds.win, hws.win⟩
                      have hhi : hi ≤ W4.heap.size := Nat.le_of_eq hhe
                      clear hhe
                      have nY : Y < W3.heap.size ∨ hi ≤ Y := .inl hlY
                      have nX : X < W3.heap.size ∨ hi ≤ X := .inl hlX
                      replace htY := tn_there htY hlY hb
                      replace hlY := Nat.lt_of_lt_of_le hlY hb.size
                      replace htX := tn_there htX hlX hb
                      replace hlX := Nat.lt_of_lt_of_le hlX hb.size
                      refine hK2.out _ _ (bl_step hHeld hb) (fun hHeld2 => ?_)
                      clear hK2 K hHeld
                      have hHeld := hHeld2
                      clear hHeld2
                      try simp only [Act.put, List.getElem_toArray, List.getElem_cons_succ, List.getElem_cons_zero, List.setIfInBounds_toArray, List.set_cons_zero, List.set_cons_succ]
                      clear hb hTs has hds hws
                      refine wpAnyH_take (i := 7) (v := .tuple #[.agg ds.toArray, .agg #[va, vd, vw], .int .i64 E]) rfl (by kernel_rfl) (by kernel_rfl) (by kernel_rfl) (fun _ _ _ h => h) (Or.inl ⟨by rfl, fun W _ => by kernel_rfl⟩) hHeld ?_
                      try simp only [Act.put, List.getElem_toArray, List.getElem_cons_succ, List.getElem_cons_zero, List.setIfInBounds_toArray, List.set_cons_zero, List.set_cons_succ]
                      refine wpAnyH_take (i := 8) (v := .agg ds.toArray) rfl (by kernel_rfl) (by kernel_rfl) (by kernel_rfl) (fun _ _ _ h => h) (Or.inl ⟨by rfl, fun W _ => by kernel_rfl⟩) hHeld ?_
                      try simp only [Act.put, List.getElem_toArray, List.getElem_cons_succ, List.getElem_cons_zero, List.setIfInBounds_toArray, List.set_cons_zero, List.set_cons_succ]
                      refine wpAnyH_take (i := 9) (v := .agg #[va, vd, vw]) rfl (by kernel_rfl) (by kernel_rfl) (by kernel_rfl) (fun _ _ _ h => h) (Or.inl ⟨by rfl, fun W _ => by kernel_rfl⟩) hHeld ?_
                      try simp only [Act.put, List.getElem_toArray, List.getElem_cons_succ, List.getElem_cons_zero, List.setIfInBounds_toArray, List.set_cons_zero, List.set_cons_succ]
                      refine wpAnyH_take (i := 10) (v := .int .i64 E) rfl (by kernel_rfl) (by kernel_rfl) (by kernel_rfl) (fun _ _ _ h => h) (Or.inl ⟨by rfl, fun W _ => by kernel_rfl⟩) hHeld ?_
                      try simp only [Act.put, List.getElem_toArray, List.getElem_cons_succ, List.getElem_cons_zero, List.setIfInBounds_toArray, List.set_cons_zero, List.set_cons_succ]
                      have hTZ := TX.make hSR htX htY hne hlX hlY nX nY hlo hX1 hwA hwB
                      have hlcd := Lib.hid hSR.ts.lc
                      have hod : Hid (ds.toArray.all (·.oneCell') = true) := Lib.hid (all_oneCell_toArray hSR.ts.one)
                      have hpd : Hid ((#[va, vd, vw] : Array Value).all (·.oneCell') = true) := Lib.hid (all_oneCell_toArray (three_oneS hSR.ra.one hSR.rv.one hSR.rx.one))
                      have hsd : Hid ((Tryz.prog.info? 28).map (·.size) = some ds.toArray.size) := Lib.hid (by rw [List.size_toArray, hSR.ts.lc]; exact size_taint)
                      clear hSR hhi nX nY hne
                      refine wpAnyH_ready (rs := [13]) (by kernel_rfl) (by simp) (AllReadyH.cons rfl (fun K hK2 => ?_) AllReadyH.nil)
                      rw [if_pos (by rfl)]
                      simp only [List.getElem_toArray, List.getElem_cons_succ, List.getElem_cons_zero]
                      refine wp_store_mid 28 _ _ rfl X 0 ds.toArray rfl rfl (fun j hj => htX j (by rw [List.size_toArray, hlcd.out] at hj; exact hj)) hsd.out hod.out ?_
                      change K _ (World.setCells _ X 0 ds)
                      refine hK2.out _ _ (tn_below hX1 ds 0 _ hHeld) (fun hHeld2 => ?_)
                      clear hK2 K hHeld
                      have hHeld := hHeld2
                      clear hHeld2
                      try simp only [Act.put, List.getElem_toArray, List.getElem_cons_succ, List.getElem_cons_zero, List.setIfInBounds_toArray, List.set_cons_zero, List.set_cons_succ]
                      refine wpAnyH_ready (rs := [14]) (by kernel_rfl) (by simp) (AllReadyH.cons rfl (fun K hK2 => ?_) AllReadyH.nil)
                      rw [if_pos (by rfl)]
                      simp only [List.getElem_toArray, List.getElem_cons_succ, List.getElem_cons_zero]
                      refine wp_store_mid 35 _ _ rfl Y 0 #[va, vd, vw] rfl rfl (World.there_setCells htY X 0 ds) size_deps hpd.out ?_
                      change K _ (World.setCells (World.setCells _ X 0 ds) Y 0 [va, vd, vw])
                      refine hK2.out _ _ (tn_below hY1 [va, vd, vw] 0 _ hHeld) (fun hHeld2 => ?_)
                      clear hK2 K hHeld
                      have hHeld := hHeld2
                      clear hHeld2
                      try simp only [Act.put, List.getElem_toArray, List.getElem_cons_succ, List.getElem_cons_zero, List.setIfInBounds_toArray, List.set_cons_zero, List.set_cons_succ]
                      refine wpAnyH_take (i := 15) (v := .int .i64 E) rfl (by kernel_rfl) (by kernel_rfl) (by kernel_rfl) (fun _ _ _ h => h) (Or.inl ⟨by rfl, fun W _ => by kernel_rfl⟩) hHeld ?_
                      try simp only [Act.put, List.getElem_toArray, List.getElem_cons_succ, List.getElem_cons_zero, List.setIfInBounds_toArray, List.set_cons_zero, List.set_cons_succ]
                      refine wpAnyH_done (by kernel_rfl) ?_ _
                      go_wp2_with fail
                      go_meet
                      exact ⟨X, Y, ds, va, vd, vw, rfl, rfl, rfl, hHeld, hTZ⟩
                  exact AllReadyH.nil
              exact AllReadyH.nil
            case rest =>
              obtain ⟨X2, Y2, css, vas, vds, vws, rfl, rfl, rfl, hb16, hX2⟩ := hcut
              replace hF := Lib.hid (hF.out.keep hb16)
              replace hX1 := hX1.out.keep hb16
              clear hRt hwA hwB hso hb16
              generalize wc = w5 at *
              clear wb2
              have hrx := hX1.rt
              have hrc := hX2.rt
              have hlcd := Lib.hid hX1.ts.lc
              have hlcc := Lib.hid hX2.ts.lc
              have hsd : Hid ((Tryz.prog.info? 28).map (·.size) = some ds.length) := Lib.hid (by rw [hlcd.out]; exact size_taint)
              have hsc : Hid ((Tryz.prog.info? 28).map (·.size) = some css.length) := Lib.hid (by rw [hlcc.out]; exact size_taint)
              have tEE : (E != E) = false := by simp
              have hK1 : Hid (∀ W, Below w5.heap.size w5 W → Calls Tryz.prog 11 #[.agg ds.toArray, .agg css.toArray] W fun e w' => e = .returned (.bool true) ∧ Below W.heap.size W w') := Lib.hid fun W hW => by
                have := KTaint_any ds css U U _ _ W (hX1.keep hW).ts (hX2.keep hW).ts
                rw [sameT_selfS] at this; exact this
              replace hX1 := Lib.hid hX1
              replace hX2 := Lib.hid hX2
              go_upto_region 17 with fail
              go_upto_region 19 with (first | (refine wpList_load_mid rfl 28 _ rfl X 0 rfl ds _ hrx huT rfl hsd.out ?_) | (refine wpList_load_mid rfl 28 _ rfl X2 0 rfl css _ hrc huT rfl hsc.out ?_) | (go_at_call 11; (with_reducible refine (hK1.out _ (Below.refl _ _)).mono ?_); rintro e w6 ⟨rfl, hb6⟩; have hV1 := hX1.out.keep hb6; have hV2 := hX2.out.keep hb6; have hr1 := hV1.rd; have hr2 := hV2.rd; have hD := Lib.hid (Deps_yesS va vd vw vas vds vws da dd dw w6 hV1.ra.rl hV1.rv.rl hV1.rx.rl hV2.ra.rl hV2.rv.rl hV2.rx.rl); clear hV1 hV2 hK1 hrx hrc) | (refine wpList_load_midG 35 _ rfl (by rfl) Y 0 rfl [va, vd, vw] _ hr1 huD rfl size_deps ?_) | (refine wpList_load_midG 35 _ rfl (by rfl) Y2 0 rfl [vas, vds, vws] _ hr2 huD rfl size_deps ?_) | (go_at_call 12; (with_reducible refine hD.out.mono ?_); rintro e w7 ⟨rfl, hb7⟩; replace hb7 := bl_step hb6 hb7; clear hb6 hD hr1 hr2))
              replace hF := Lib.hid (hF.out.keep hb7)
              replace hX1 := Lib.hid (hX1.out.keep hb7)
              replace hX2 := Lib.hid (hX2.out.keep hb7)
              clear hb7 tEE
              cases hmt : mayT T i ev
              · obtain rfl : E = 2 := by rw [← hE.out]; unfold resE; rw [hmt]; rfl
                have hF2 := hF.out
                have hT2 := hT.out
                have hm2 := hm.out
                clear hX1 hX2 hU hda hdd hdw hE hmt
                go_wp2_with fail
                go_roundg (n - (k + 1))
                case measure => omega
                case rel => exact ⟨k + 1, m2, ts, os, T, by omega, rfl, rfl, by go_num, by omega, hT2, hF2⟩
              · obtain rfl : E = 0 := by rw [← hE.out]; unfold resE; rw [hmt]; rfl
                have hT2 : ST m2 U := by rw [← hU.out]; unfold resT; rw [hmt]; exact hT.out.step i hm.out.2.2.2
                have hm2 := hm.out
                have hTH := TH.of hF.out hX1.out hX2.out
                have hod : Hid (ds.toArray.all (·.oneCell') = true) := Lib.hid (all_oneCell_toArray hX1.out.ts.one)
                have hoc : Hid (css.toArray.all (·.oneCell') = true) := Lib.hid (all_oneCell_toArray hX2.out.ts.one)
                have hsdA : Hid ((Tryz.prog.info? 28).map (·.size) = some ds.toArray.size) := Lib.hid hsd.out
                have hscA : Hid ((Tryz.prog.info? 28).map (·.size) = some css.toArray.size) := Lib.hid hsc.out
                clear hF hX1 hX2 hU hda hdd hdw hE hmt hT
                go_upto_region 20 with fail
                refine wp_region_held_drew (S := fun W => TH w W A B X X2 ds css U) (by kernel_rfl) hTH.drew (fun hHeld => ?_)
                refine wpAnyH_take (i := 0) rfl (by kernel_rfl) (by kernel_rfl) (by kernel_rfl) (fun _ _ _ h => h) (yieldsIf_load_mid (by rfl) _ _ rfl X 0 rfl ds _ (fun W hS => hS.rx) huT rfl hsd.out) hHeld ?_
                try simp only [Act.put, List.getElem_toArray, List.getElem_cons_zero, List.setIfInBounds_toArray, List.set_cons_zero, List.set_cons_succ]
                refine wpAnyH_ready (rs := [1, 2]) (by kernel_rfl) (by simp) ?_
                refine AllReadyH.cons rfl (fun K hK2 => ?_) ?_
                · as_aux_lemma =>
                    rw [if_pos (by rfl)]
                    simp only [List.getElem_toArray, List.getElem_cons_succ, List.getElem_cons_zero]
                    refine wp_load_mid 28 _ rfl X2 0 rfl css _ hHeld.ry huT rfl hsc.out ?_
                    refine hK2.out _ _ hHeld (fun _ => ?_)
                    clear hK2 K
                    try simp only [Act.put, List.getElem_toArray, List.getElem_cons_succ, List.getElem_cons_zero, List.setIfInBounds_toArray, List.set_cons_zero, List.set_cons_succ]
                    refine wpAnyH_ready (rs := [2]) (by kernel_rfl) (by simp) (AllReadyH.cons rfl (fun K hK2 => ?_) AllReadyH.nil)
                    rw [if_pos (by rfl)]
                    simp only [List.getElem_toArray, List.getElem_cons_succ, List.getElem_cons_zero]
                    refine wp_store_mid 28 _ _ rfl A 0 ds.toArray rfl rfl (fun j hj => hHeld.ta j (by rw [List.size_toArray, hlcd.out] at hj; exact hj)) hsdA.out hod.out ?_
                    have hB1 := World.rangeAt_setCells_same _ A 0 ds (by rw [hlcd.out]; exact hHeld.ta)
                    replace hHeld := hHeld.put (b := A) (vs := ds) (.inl rfl)
                    refine hK2.out _ _ hHeld (fun _ => ?_)
                    clear hK2 K
                    change wpAnyH _ _ _ _ _ _ _ _ (World.setCells _ A 0 ds)
                    generalize World.setCells _ A 0 ds = w5 at hHeld hB1 ⊢
                    try simp only [Act.put, List.getElem_toArray, List.getElem_cons_succ, List.getElem_cons_zero, List.setIfInBounds_toArray, List.set_cons_zero, List.set_cons_succ]
                    refine wpAnyH_ready (rs := [3]) (by kernel_rfl) (by simp) (AllReadyH.cons rfl (fun K hK2 => ?_) AllReadyH.nil)
                    rw [if_pos (by rfl)]
                    simp only [List.getElem_toArray, List.getElem_cons_succ, List.getElem_cons_zero]
                    refine wp_store_mid 28 _ _ rfl B 0 css.toArray rfl rfl (fun j hj => hHeld.tb j (by rw [List.size_toArray, hlcc.out] at hj; exact hj)) hscA.out hoc.out ?_
                    have hB2 := World.rangeAt_setCells_same _ B 0 css (by rw [hlcc.out]; exact hHeld.tb)
                    replace hB1 := World.rangeAt_setCells_apart hB1 B 0 css (.inl hHeld.ne)
                    replace hHeld := hHeld.put (b := B) (vs := css) (.inr rfl)
                    refine hK2.out _ _ hHeld (fun _ => ?_)
                    clear hK2 K
                    change wpAnyH _ _ _ _ _ _ _ _ (World.setCells _ B 0 css)
                    generalize World.setCells _ B 0 css = w6 at hHeld hB1 hB2 ⊢
                    refine wpAnyH_done (by kernel_rfl) ?_ _
                    have hF2 := hHeld.full hB1 hB2
                    clear hHeld hB1 hB2
                    go_wp2_with fail
                    go_roundg (n - (k + 1))
                    case measure => omega
                    case rel => exact ⟨k + 1, m2, ds, css, U, by omega, rfl, rfl, by go_num, by omega, hT2, hF2⟩
                refine AllReadyH.cons rfl (fun K hK2 => ?_) ?_
                · as_aux_lemma =>
                    rw [if_pos (by rfl)]
                    simp only [List.getElem_toArray, List.getElem_cons_succ, List.getElem_cons_zero]
                    refine wp_store_mid 28 _ _ rfl A 0 ds.toArray rfl rfl (fun j hj => hHeld.ta j (by rw [List.size_toArray, hlcd.out] at hj; exact hj)) hsdA.out hod.out ?_
                    have hB1 := World.rangeAt_setCells_same _ A 0 ds (by rw [hlcd.out]; exact hHeld.ta)
                    replace hHeld := hHeld.put (b := A) (vs := ds) (.inl rfl)
                    refine hK2.out _ _ hHeld (fun _ => ?_)
                    clear hK2 K
                    change wpAnyH _ _ _ _ _ _ _ _ (World.setCells _ A 0 ds)
                    generalize World.setCells _ A 0 ds = w5 at hHeld hB1 ⊢
                    try simp only [Act.put, List.getElem_toArray, List.getElem_cons_succ, List.getElem_cons_zero, List.setIfInBounds_toArray, List.set_cons_zero, List.set_cons_succ]
                    refine wpAnyH_ready (rs := [1]) (by kernel_rfl) (by simp) (AllReadyH.cons rfl (fun K hK2 => ?_) AllReadyH.nil)
                    rw [if_pos (by rfl)]
                    simp only [List.getElem_toArray, List.getElem_cons_succ, List.getElem_cons_zero]
                    refine wp_load_mid 28 _ rfl X2 0 rfl css _ hHeld.ry huT rfl hsc.out ?_
                    refine hK2.out _ _ hHeld (fun _ => ?_)
                    clear hK2 K
                    try simp only [Act.put, List.getElem_toArray, List.getElem_cons_succ, List.getElem_cons_zero, List.setIfInBounds_toArray, List.set_cons_zero, List.set_cons_succ]
                    refine wpAnyH_ready (rs := [3]) (by kernel_rfl) (by simp) (AllReadyH.cons rfl (fun K hK2 => ?_) AllReadyH.nil)
                    rw [if_pos (by rfl)]
                    simp only [List.getElem_toArray, List.getElem_cons_succ, List.getElem_cons_zero]
                    refine wp_store_mid 28 _ _ rfl B 0 css.toArray rfl rfl (fun j hj => hHeld.tb j (by rw [List.size_toArray, hlcc.out] at hj; exact hj)) hscA.out hoc.out ?_
                    have hB2 := World.rangeAt_setCells_same _ B 0 css (by rw [hlcc.out]; exact hHeld.tb)
                    replace hB1 := World.rangeAt_setCells_apart hB1 B 0 css (.inl hHeld.ne)
                    replace hHeld := hHeld.put (b := B) (vs := css) (.inr rfl)
                    refine hK2.out _ _ hHeld (fun _ => ?_)
                    clear hK2 K
                    change wpAnyH _ _ _ _ _ _ _ _ (World.setCells _ B 0 css)
                    generalize World.setCells _ B 0 css = w6 at hHeld hB1 hB2 ⊢
                    refine wpAnyH_done (by kernel_rfl) ?_ _
                    have hF2 := hHeld.full hB1 hB2
                    clear hHeld hB1 hB2
                    go_wp2_with fail
                    go_roundg (n - (k + 1))
                    case measure => omega
                    case rel => exact ⟨k + 1, m2, ds, css, U, by omega, rfl, rfl, by go_num, by omega, hT2, hF2⟩
                exact AllReadyH.nil
    · obtain rfl : k = n := by omega
      have hld1 : decide ((k : Int) < (k : Int)) = false := by simp
      have hld2 : decide (k < k) = false := by simp
      have hld3 : ¬ (k : Int) < (k : Int) := by omega
      have hra := hF.ra
      have hst : Hid ((Tryz.prog.info? 28).map (·.size) = some ts.length) := Lib.hid (by rw [hF.tt.lc]; exact size_taint)
      have hCk := TCheck_any ts T _ _ hF.tt
      rw [hT.ok] at hCk
      have hbl := Lib.hid hF.bl
      replace hCk := Lib.hid hCk
      clear hF hop hL hG
      go_wp2_with (first | (refine wpList_load_mid rfl 28 _ rfl A 0 rfl ts _ hra huT rfl hst.out ?_) | (go_at_call 13; (with_reducible refine hCk.out.mono ?_); rintro e w9 ⟨rfl, hb9⟩))
      go_ret
      exact ⟨rfl, bl_step hbl.out hb9⟩
/-- TaintScript, whatever comes. -/
theorem TaintScript_any (ao bo : Option Addr) (n cap nb capb : Nat) (L : Nat → InsnV) (G : Nat → Bool) (w : World) (ht : Tabs w) (hop : ∀ k, (L k).op ≤ 9223372036854775807) (hL : InsnsAt w ao n L) (hG : BoolsAt w bo nb G) :
    Calls Tryz.prog 3 #[.slice ao n cap, .slice bo nb capb] w fun e w' => e = .returned (.bool true) ∧ Below w.heap.size w w' := by
  rcases Nat.lt_or_ge 60 n with hn | hn
  · exact TScript_far1 ao bo n cap nb capb L G w ht hn
  · rcases Nat.lt_or_ge 60 nb with hb | hb
    · exact TScript_far2 ao bo n cap nb capb L G w ht hn hb
    · exact TScript_go ao bo n cap nb capb L G w ht hn hb hop hL hG
end Go.Proofs.YtebeajnaamglkaaGreatDoor
