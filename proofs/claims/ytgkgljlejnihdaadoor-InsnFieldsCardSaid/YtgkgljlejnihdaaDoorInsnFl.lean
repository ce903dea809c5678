/- The walk of InsnFields. Conditions: the library's tables lie as their initialisers lay them. -/
import Derived.Test.YtgkgljlejnihdaaDoorFieldsPl
import Derived.Test.YtgkgljlejnihdaaDoorInsnSh
import Derived.Deep.DeepCutAuto
import Derived.Deep.RegionHeld
import Derived.Deep.QuietTactic
import Derived.BigQuiet
set_option linter.unusedSimpArgs false
set_option linter.unusedVariables false
namespace Go.Proofs.YtgkgljlejnihdaaDoor
open Go.RowKit
/-- Four blocks beside the instruction's box. -/
structure Four (w : World) (CS A B C D : List Value) (X Y Z V : Nat) (W : World) : Prop where
  bX : BK w W X A
  bY : BK w W Y B
  bZ : BK w W Z C
  bV : BK w W V D
  xy : X ≠ Y
  xz : X ≠ Z
  xv : X ≠ V
  yz : Y ≠ Z
  yv : Y ≠ V
  zv : Z ≠ V
  box : XB w CS W
theorem Four.keep {w W W' : World} {CS A B C D : List Value} {X Y Z V : Nat} (h : Four w CS A B C D X Y Z V W) (hb : Below W.heap.size W W') : Four w CS A B C D X Y Z V W' :=
  ⟨h.bX.keep hb, h.bY.keep hb, h.bZ.keep hb, h.bV.keep hb, h.xy, h.xz, h.xv, h.yz, h.yv, h.zv, h.box.keep hb⟩
theorem Four.set {w W : World} {CS A B C D : List Value} {X Y Z V : Nat} (h : Four w CS A B C D X Y Z V W) (a b c d : Nat) (p q r s : Value) :
    Four w CS (A.set a p) (B.set b q) (C.set c r) (D.set d s) X Y Z V ((((W.setCell ⟨X, a, none⟩ p).setCell ⟨Y, b, none⟩ q).setCell ⟨Z, c, none⟩ r).setCell ⟨V, d, none⟩ s) :=
  ⟨(((h.bX.set a p).far1 h.xy b q).far1 h.xz c r).far1 h.xv d s, (((h.bY.far1 h.xy.symm a p).set b q).far1 h.yz c r).far1 h.yv d s,
   (((h.bZ.far1 h.xz.symm a p).far1 h.yz.symm b q).set c r).far1 h.zv d s, (((h.bV.far1 h.xv.symm a p).far1 h.yv.symm b q).far1 h.zv.symm c r).set d s,
   h.xy, h.xz, h.xv, h.yz, h.yv, h.zv, (((h.box.far h.bX.lo a [p]).far h.bY.lo b [q]).far h.bZ.lo c [r]).far h.bV.lo d [s]⟩
set_option maxRecDepth 100000 in
set_option maxHeartbeats 4000000 in
theorem Fields_no (i : InsnV) (r : Int) (hop : i.op ≤ 9223372036854775807) (him : -9223372036854775808 ≤ i.imm ∧ i.imm ≤ 9223372036854775807) (hc : checkE i ≠ 0) (w : World) (ht : Tabs w) (hp : P10 w) :
    Calls Tryd.prog 9 #[.agg i.cells, .int .i64 r] w fun e w' => e = .returned (.bool true) ∧ Below w.heap.size w w' := by
  have hB := XB.start w i.cells.toList 23
  rw [Array.toArray_toList] at hB
  have hu := Tryd.underlying23
  have hi : (Tryd.prog.info? 23).map (·.size) = some i.cells.toList.length := by kernel_rfl
  have hL := Lib.hid (fun W h1 h2 => Lives2_any W h1 h2)
  have hK := Lib.hid (fun W hW => Check_any i hop W hW)
  have hW := Lib.hid (fun W hW => Writes_any i hop W hW)
  have hR := Lib.hid (fun W hW => IReads_any i hop W hW)
  rw [checkE_ne hc] at hK
  rw [if_neg hc] at hW hR
  clear hc hop him
  generalize i.cells = cs at *
  go_enter Tryd.func9, Tryd.ntmps9
  go_wp2_with (first | (refine wpList_load_midG 23 _ rfl (by rfl) w.heap.size 0 rfl cs.toList _ hB.c hu rfl hi ?_) | (go_at_call 10; refine (hL.out _ (ht.later hB.bl (Nat.le_refl _)) (hp.later hB.bl (Nat.le_refl _))).mono ?_; rintro e w1 ⟨rfl, hb1⟩; replace hB := hB.keep hb1; clear hb1) | (go_at_call 11; refine (hK.out _ (ht.later hB.bl (Nat.le_refl _))).mono ?_; rintro e w1 ⟨rfl, hb1⟩; replace hB := hB.keep hb1; clear hb1) | (go_at_call 36; refine (hW.out _ (ht.later hB.bl (Nat.le_refl _))).mono ?_; rintro e w1 ⟨rfl, hb1⟩; replace hB := hB.keep hb1; clear hb1) | (go_at_call 37; refine (hR.out _ (ht.later hB.bl (Nat.le_refl _))).mono ?_; rintro e w1 ⟨v, rfl, hv, hb1⟩; obtain ⟨A, c, rfl, v1, v2, v3⟩ := hv.form; replace hB := hB.keep hb1; clear hb1 hv v1 v2 v3))
  go_ret
  exact ⟨rfl, hB.bl⟩
set_option maxRecDepth 100000 in
set_option maxHeartbeats 32000000 in
theorem Fields_ok (i : InsnV) (r0 : Int) (hop : i.op ≤ 9223372036854775807) (him : -9223372036854775808 ≤ i.imm ∧ i.imm ≤ 9223372036854775807) (hc : checkE i = 0) (w : World) (ht : Tabs w) (hp : P10 w) :
    Calls Tryd.prog 9 #[.agg i.cells, .int .i64 r0] w fun e w' => e = .returned (.bool true) ∧ Below w.heap.size w w' := by
  have hu := Tryd.underlying23
  obtain ⟨p, hp9, hPk⟩ := Pick_nat_any r0 9 (by decide) (by decide)
  have hKA := Lib.hid (fun W hW => Check_any { i with rd := 32 + p } hop W hW)
  have hKB := Lib.hid (fun W hW => Check_any { i with rs1 := -1 - p } hop W hW)
  have hKC := Lib.hid (fun W hW => Check_any { i with rs2 := 32 } hop W hW)
  have hKD := Lib.hid (fun W hW => Check_any { i with pred := 16 } hop W hW)
  have hKE := Lib.hid (fun W hW => Check_any { i with aq := !i.aq } hop W hW)
  rw [bad_rd (i := { i with rd := 32 + p }) (by simp; omega)] at hKA
  rw [bad_rs1 (i := { i with rs1 := -1 - p }) (by simp; omega)] at hKB
  rw [bad_rs2 (i := { i with rs2 := 32 }) (by simp)] at hKC
  rw [bad_pred (i := { i with pred := 16 }) (by simp)] at hKD
  rw [flag_flip i hc] at hKE
  have hL := Lib.hid (fun W h1 h2 => Lives2_any W h1 h2)
  have hK := Lib.hid (fun W hW => Check_any i hop W hW)
  have hW := Lib.hid (fun W hW => Writes_any i hop W hW)
  have hR := Lib.hid (fun W hW => IReads_any i hop W hW)
  have hF := Lib.hid (fun W hW => Form_any i.op hop W hW)
  rw [hc] at hK
  rw [if_pos hc] at hW hR
  have hrf := Lib.hid (reads_form i hc)
  obtain ⟨CS, hCS⟩ : ∃ l, l = i.cells.toList := ⟨_, rfl⟩
  have hCn : Hid (CS.length = 9) := Lib.hid (by rw [hCS]; rfl)
  have hsC : Hid ((Tryd.prog.info? 23).map (·.size) = some CS.length) := Lib.hid (by rw [hCS]; kernel_rfl)
  have h1c : Hid (CS.toArray.all (·.oneCell') = true) := Lib.hid (by rw [hCS]; obtain ⟨op, rd, r1, r2, imm, aq, rl, pred, succ⟩ := i; kernel_rfl)
  have k0 : Hid (CS[0]? = some (.int .i64 i.op)) := Lib.hid (by rw [hCS]; rfl)
  have k1 : Hid (CS[1]? = some (.int .i64 i.rd)) := Lib.hid (by rw [hCS]; rfl)
  have k2 : Hid (CS[2]? = some (.int .i64 i.rs1)) := Lib.hid (by rw [hCS]; rfl)
  have k3 : Hid (CS[3]? = some (.int .i64 i.rs2)) := Lib.hid (by rw [hCS]; rfl)
  have k5 : Hid (CS[5]? = some (.bool i.aq)) := Lib.hid (by rw [hCS]; rfl)
  have k7 : Hid (CS[7]? = some (.int .i64 i.pred)) := Lib.hid (by rw [hCS]; rfl)
  have eA : Hid (CS.set 1 (.int .i64 (32 + p)) = (InsnV.cells { i with rd := 32 + p }).toList) := Lib.hid (by rw [hCS]; rfl)
  have eB : Hid (CS.set 2 (.int .i64 (-1 - p)) = (InsnV.cells { i with rs1 := -1 - p }).toList) := Lib.hid (by rw [hCS]; rfl)
  have eC : Hid (CS.set 3 (.int .i64 32) = (InsnV.cells { i with rs2 := 32 }).toList) := Lib.hid (by rw [hCS]; rfl)
  have eD : Hid (CS.set 7 (.int .i64 16) = (InsnV.cells { i with pred := 16 }).toList) := Lib.hid (by rw [hCS]; rfl)
  have eE : Hid (CS.set 5 (.bool !i.aq) = (InsnV.cells { i with aq := !i.aq }).toList) := Lib.hid (by rw [hCS]; rfl)
  have hB := XB.start w CS 23
  have hCa : i.cells = CS.toArray := by rw [hCS]
  rw [hCa] at hK hW hR ⊢
  obtain ⟨LA, hLA⟩ : ∃ l, l = (InsnV.cells { i with rd := 32 + p }).toList := ⟨_, rfl⟩
  rw [← hLA] at eA
  rw [show InsnV.cells { i with rd := 32 + p } = LA.toArray by rw [hLA]] at hKA
  have zA : Hid ((Tryd.prog.info? 23).map (·.size) = some LA.length) := Lib.hid (by rw [hLA]; kernel_rfl)
  clear hLA
  obtain ⟨LB, hLB⟩ : ∃ l, l = (InsnV.cells { i with rs1 := -1 - p }).toList := ⟨_, rfl⟩
  rw [← hLB] at eB
  rw [show InsnV.cells { i with rs1 := -1 - p } = LB.toArray by rw [hLB]] at hKB
  have zB : Hid ((Tryd.prog.info? 23).map (·.size) = some LB.length) := Lib.hid (by rw [hLB]; kernel_rfl)
  clear hLB
  obtain ⟨LC, hLC⟩ : ∃ l, l = (InsnV.cells { i with rs2 := 32 }).toList := ⟨_, rfl⟩
  rw [← hLC] at eC
  rw [show InsnV.cells { i with rs2 := 32 } = LC.toArray by rw [hLC]] at hKC
  have zC : Hid ((Tryd.prog.info? 23).map (·.size) = some LC.length) := Lib.hid (by rw [hLC]; kernel_rfl)
  clear hLC
  obtain ⟨LD, hLD⟩ : ∃ l, l = (InsnV.cells { i with pred := 16 }).toList := ⟨_, rfl⟩
  rw [← hLD] at eD
  rw [show InsnV.cells { i with pred := 16 } = LD.toArray by rw [hLD]] at hKD
  have zD : Hid ((Tryd.prog.info? 23).map (·.size) = some LD.length) := Lib.hid (by rw [hLD]; kernel_rfl)
  clear hLD
  obtain ⟨LE, hLE⟩ : ∃ l, l = (InsnV.cells { i with aq := !i.aq }).toList := ⟨_, rfl⟩
  rw [← hLE] at eE
  rw [show InsnV.cells { i with aq := !i.aq } = LE.toArray by rw [hLE]] at hKE
  have zE : Hid ((Tryd.prog.info? 23).map (·.size) = some LE.length) := Lib.hid (by rw [hLE]; kernel_rfl)
  clear hLE
  clear hCS hCa hc hop him
  generalize readsP i = RL0 at hR hrf
  generalize hfm : (opOf i.op).form = f at *
  clear hfm
  generalize i.op = op at *
  generalize i.rd = fd at *
  generalize i.rs1 = f1 at *
  generalize i.rs2 = f2 at *
  generalize i.aq = fa at *
  generalize i.pred = fp at *
  go_enter Tryd.func9, Tryd.ntmps9
  go_upto_region 5 with (first | (refine wpList_load_mid rfl 23 _ rfl w.heap.size 0 rfl CS _ hB.c hu rfl hsC.out ?_) | (go_at_call 10; refine (hL.out _ (ht.later hB.bl (Nat.le_refl _)) (hp.later hB.bl (Nat.le_refl _))).mono ?_; rintro e w1 ⟨rfl, hb1⟩; replace hB := hB.keep hb1; clear hb1) | (go_at_call 11; refine (hK.out _ (ht.later hB.bl (Nat.le_refl _))).mono ?_; rintro e w1 ⟨rfl, hb1⟩; replace hB := hB.keep hb1; clear hb1))
  go_cut [5, 6, 7, 8] (fun s5 s6 s7 s8 wx => ∃ X Y Z V, s5 = .pointer (some ⟨X, 0, none⟩) ∧ s6 = .pointer (some ⟨Y, 0, none⟩) ∧ s7 = .pointer (some ⟨Z, 0, none⟩) ∧ s8 = .pointer (some ⟨V, 0, none⟩) ∧ Four w CS CS CS CS CS X Y Z V wx)
  case first =>
    as_aux_lemma =>
      refine wp_region_held_drew (S := fun W => XB w CS W) (by kernel_rfl) (hB.keep (Below.refl _ _).drew) (fun hHeld => ?_)
      refine wpAnyH_take (i := 0) rfl (by kernel_rfl) (by kernel_rfl) (by kernel_rfl) (fun _ _ _ h => h) (yieldsIf_load_mid (by rfl) _ _ rfl w.heap.size 0 rfl CS _ (fun W hS => hS.c) hu rfl hsC.out) hHeld ?_
      try simp only [Act.put, List.getElem_toArray, List.getElem_cons_zero, List.setIfInBounds_toArray, List.set_cons_zero, List.set_cons_succ]
      generalize World.drew _ = W0 at hHeld ⊢
      refine wpAnyH_take (i := 1) rfl (by kernel_rfl) (by kernel_rfl) (by kernel_rfl) (fun _ _ _ h => h) (yieldsIf_load_mid (by rfl) _ _ rfl w.heap.size 0 rfl CS _ (fun W hS => hS.c) hu rfl hsC.out) hHeld ?_
      try simp only [Act.put, List.getElem_toArray, List.getElem_cons_succ, List.getElem_cons_zero, List.setIfInBounds_toArray, List.set_cons_zero, List.set_cons_succ]
      refine wpAnyH_take (i := 2) rfl (by kernel_rfl) (by kernel_rfl) (by kernel_rfl) (fun _ _ _ h => h) (yieldsIf_load_mid (by rfl) _ _ rfl w.heap.size 0 rfl CS _ (fun W hS => hS.c) hu rfl hsC.out) hHeld ?_
      try simp only [Act.put, List.getElem_toArray, List.getElem_cons_succ, List.getElem_cons_zero, List.setIfInBounds_toArray, List.set_cons_zero, List.set_cons_succ]
      refine wpAnyH_take (i := 3) rfl (by kernel_rfl) (by kernel_rfl) (by kernel_rfl) (fun _ _ _ h => h) (yieldsIf_load_mid (by rfl) _ _ rfl w.heap.size 0 rfl CS _ (fun W hS => hS.c) hu rfl hsC.out) hHeld ?_
      try simp only [Act.put, List.getElem_toArray, List.getElem_cons_succ, List.getElem_cons_zero, List.setIfInBounds_toArray, List.set_cons_zero, List.set_cons_succ]
      refine wpAnyH_ready (rs := [4, 5, 6, 7]) (by kernel_rfl) (by simp) ?_
      refine AllReadyH.cons rfl (fun K hK2 => ?_) ?_
      · as_aux_lemma =>
          rw [if_pos (by rfl)]
          simp only [List.getElem_toArray, List.getElem_cons_succ, List.getElem_cons_zero]
          obtain ⟨X, hX⟩ : ∃ n, n = W0.heap.size := ⟨_, rfl⟩
          have bX := BK.new (w := w) (W := W0) #[.int .i64 0, .int .i64 0, .int .i64 0, .int .i64 0, .int .i64 0, .bool false, .bool false, .int .i64 0, .int .i64 0] 23 rfl hHeld.lt
          have al : Below W0.heap.size W0 (W0.alloc (.cells #[.int .i64 0, .int .i64 0, .int .i64 0, .int .i64 0, .int .i64 0, .bool false, .bool false, .int .i64 0, .int .i64 0] 23)) := (Below.refl _ _).alloc (Nat.le_refl _) _
          go_simp
          refine hK2.out _ _ (hHeld.keep al) (fun hHeld2 => ?_)
          clear hK2 K hHeld
          have hHeld := hHeld2
          clear hHeld2
          try simp only [Act.put, List.getElem_toArray, List.getElem_cons_succ, List.getElem_cons_zero, List.setIfInBounds_toArray, List.set_cons_zero, List.set_cons_succ]
          generalize World.alloc _ _ = W1 at hHeld al bX  ⊢
          rw [← hX] at bX ⊢
          clear al hX
          refine wpAnyH_ready (rs := [5, 6, 7]) (by kernel_rfl) (by simp) ?_
          refine AllReadyH.cons rfl (fun K hK2 => ?_) ?_
          · as_aux_lemma =>
              rw [if_pos (by rfl)]
              simp only [List.getElem_toArray, List.getElem_cons_succ, List.getElem_cons_zero]
              obtain ⟨Y, hY⟩ : ∃ n, n = W1.heap.size := ⟨_, rfl⟩
              have bY := BK.new (w := w) (W := W1) #[.int .i64 0, .int .i64 0, .int .i64 0, .int .i64 0, .int .i64 0, .bool false, .bool false, .int .i64 0, .int .i64 0] 23 rfl hHeld.lt
              have al : Below W1.heap.size W1 (W1.alloc (.cells #[.int .i64 0, .int .i64 0, .int .i64 0, .int .i64 0, .int .i64 0, .bool false, .bool false, .int .i64 0, .int .i64 0] 23)) := (Below.refl _ _).alloc (Nat.le_refl _) _
              have nXY : X < Y := by rw [hY]; exact bX.hi
              replace bX := bX.keep al
              go_simp
              refine hK2.out _ _ (hHeld.keep al) (fun hHeld2 => ?_)
              clear hK2 K hHeld
              have hHeld := hHeld2
              clear hHeld2
              try simp only [Act.put, List.getElem_toArray, List.getElem_cons_succ, List.getElem_cons_zero, List.setIfInBounds_toArray, List.set_cons_zero, List.set_cons_succ]
              generalize World.alloc _ _ = W2 at hHeld al bY bX ⊢
              rw [← hY] at bY ⊢
              clear al hY
              refine wpAnyH_ready (rs := [6, 7]) (by kernel_rfl) (by simp) ?_
              refine AllReadyH.cons rfl (fun K hK2 => ?_) ?_
              · rw [if_pos (by rfl)]
                simp only [List.getElem_toArray, List.getElem_cons_succ, List.getElem_cons_zero]
                obtain ⟨Z, hZ⟩ : ∃ n, n = W2.heap.size := ⟨_, rfl⟩
                have bZ := BK.new (w := w) (W := W2) #[.int .i64 0, .int .i64 0, .int .i64 0, .int .i64 0, .int .i64 0, .bool false, .bool false, .int .i64 0, .int .i64 0] 23 rfl hHeld.lt
                have al : Below W2.heap.size W2 (W2.alloc (.cells #[.int .i64 0, .int .i64 0, .int .i64 0, .int .i64 0, .int .i64 0, .bool false, .bool false, .int .i64 0, .int .i64 0] 23)) := (Below.refl _ _).alloc (Nat.le_refl _) _
                have nXZ : X < Z := by rw [hZ]; exact bX.hi
                replace bX := bX.keep al
                have nYZ : Y < Z := by rw [hZ]; exact bY.hi
                replace bY := bY.keep al
                go_simp
                refine hK2.out _ _ (hHeld.keep al) (fun hHeld2 => ?_)
                clear hK2 K hHeld
                have hHeld := hHeld2
                clear hHeld2
                try simp only [Act.put, List.getElem_toArray, List.getElem_cons_succ, List.getElem_cons_zero, List.setIfInBounds_toArray, List.set_cons_zero, List.set_cons_succ]
                generalize World.alloc _ _ = W3 at hHeld al bZ bX bY ⊢
                rw [← hZ] at bZ ⊢
                clear al hZ
                refine wpAnyH_ready (rs := [7]) (by kernel_rfl) (by simp) (AllReadyH.cons rfl (fun K hK2 => ?_) AllReadyH.nil)
                rw [if_pos (by rfl)]
                simp only [List.getElem_toArray, List.getElem_cons_succ, List.getElem_cons_zero]
                obtain ⟨V, hV⟩ : ∃ n, n = W3.heap.size := ⟨_, rfl⟩
                have bV := BK.new (w := w) (W := W3) #[.int .i64 0, .int .i64 0, .int .i64 0, .int .i64 0, .int .i64 0, .bool false, .bool false, .int .i64 0, .int .i64 0] 23 rfl hHeld.lt
                have al : Below W3.heap.size W3 (W3.alloc (.cells #[.int .i64 0, .int .i64 0, .int .i64 0, .int .i64 0, .int .i64 0, .bool false, .bool false, .int .i64 0, .int .i64 0] 23)) := (Below.refl _ _).alloc (Nat.le_refl _) _
                have nXV : X < V := by rw [hV]; exact bX.hi
                replace bX := bX.keep al
                have nYV : Y < V := by rw [hV]; exact bY.hi
                replace bY := bY.keep al
                have nZV : Z < V := by rw [hV]; exact bZ.hi
                replace bZ := bZ.keep al
                go_simp
                refine hK2.out _ _ (hHeld.keep al) (fun hHeld2 => ?_)
                clear hK2 K hHeld
                have hHeld := hHeld2
                clear hHeld2
                try simp only [Act.put, List.getElem_toArray, List.getElem_cons_succ, List.getElem_cons_zero, List.setIfInBounds_toArray, List.set_cons_zero, List.set_cons_succ]
                generalize World.alloc _ _ = W4 at hHeld al bV bX bY bZ ⊢
                rw [← hV] at bV ⊢
                clear al hV
                refine wpAnyH_ready (rs := [8]) (by kernel_rfl) (by simp) (AllReadyH.cons rfl (fun K hK2 => ?_) AllReadyH.nil)
                rw [if_pos (by rfl)]
                simp only [List.getElem_toArray, List.getElem_cons_succ, List.getElem_cons_zero]
                refine wp_store_mid 23 _ _ rfl X 0 CS.toArray rfl rfl (fun j hj => bX.t j (by rw [List.size_toArray, hCn.out] at hj; exact hj)) (by rw [List.size_toArray]; exact hsC.out) h1c.out ?_
                change K _ (World.setCells _ X 0 CS)
                refine hK2.out _ _ (hHeld.far bX.lo 0 CS) (fun hHeld2 => ?_)
                clear hK2 K hHeld
                have hHeld := hHeld2
                clear hHeld2
                try simp only [Act.put, List.getElem_toArray, List.getElem_cons_succ, List.getElem_cons_zero, List.setIfInBounds_toArray, List.set_cons_zero, List.set_cons_succ]
                replace bX := bX.fill hCn.out
                replace bY := bY.far ((Nat.ne_of_lt nXY).symm) 0 CS
                replace bZ := bZ.far ((Nat.ne_of_lt nXZ).symm) 0 CS
                replace bV := bV.far ((Nat.ne_of_lt nXV).symm) 0 CS
                refine wpAnyH_ready (rs := [9]) (by kernel_rfl) (by simp) (AllReadyH.cons rfl (fun K hK2 => ?_) AllReadyH.nil)
                rw [if_pos (by rfl)]
                simp only [List.getElem_toArray, List.getElem_cons_succ, List.getElem_cons_zero]
                refine wp_store_mid 23 _ _ rfl Y 0 CS.toArray rfl rfl (fun j hj => bY.t j (by rw [List.size_toArray, hCn.out] at hj; exact hj)) (by rw [List.size_toArray]; exact hsC.out) h1c.out ?_
                change K _ (World.setCells _ Y 0 CS)
                refine hK2.out _ _ (hHeld.far bY.lo 0 CS) (fun hHeld2 => ?_)
                clear hK2 K hHeld
                have hHeld := hHeld2
                clear hHeld2
                try simp only [Act.put, List.getElem_toArray, List.getElem_cons_succ, List.getElem_cons_zero, List.setIfInBounds_toArray, List.set_cons_zero, List.set_cons_succ]
                replace bX := bX.far (Nat.ne_of_lt nXY) 0 CS
                replace bY := bY.fill hCn.out
                replace bZ := bZ.far ((Nat.ne_of_lt nYZ).symm) 0 CS
                replace bV := bV.far ((Nat.ne_of_lt nYV).symm) 0 CS
                refine wpAnyH_ready (rs := [10]) (by kernel_rfl) (by simp) (AllReadyH.cons rfl (fun K hK2 => ?_) AllReadyH.nil)
                rw [if_pos (by rfl)]
                simp only [List.getElem_toArray, List.getElem_cons_succ, List.getElem_cons_zero]
                refine wp_store_mid 23 _ _ rfl Z 0 CS.toArray rfl rfl (fun j hj => bZ.t j (by rw [List.size_toArray, hCn.out] at hj; exact hj)) (by rw [List.size_toArray]; exact hsC.out) h1c.out ?_
                change K _ (World.setCells _ Z 0 CS)
                refine hK2.out _ _ (hHeld.far bZ.lo 0 CS) (fun hHeld2 => ?_)
                clear hK2 K hHeld
                have hHeld := hHeld2
                clear hHeld2
                try simp only [Act.put, List.getElem_toArray, List.getElem_cons_succ, List.getElem_cons_zero, List.setIfInBounds_toArray, List.set_cons_zero, List.set_cons_succ]
                replace bX := bX.far (Nat.ne_of_lt nXZ) 0 CS
                replace bY := bY.far (Nat.ne_of_lt nYZ) 0 CS
                replace bZ := bZ.fill hCn.out
                replace bV := bV.far ((Nat.ne_of_lt nZV).symm) 0 CS
                refine wpAnyH_ready (rs := [11]) (by kernel_rfl) (by simp) (AllReadyH.cons rfl (fun K hK2 => ?_) AllReadyH.nil)
                rw [if_pos (by rfl)]
                simp only [List.getElem_toArray, List.getElem_cons_succ, List.getElem_cons_zero]
                refine wp_store_mid 23 _ _ rfl V 0 CS.toArray rfl rfl (fun j hj => bV.t j (by rw [List.size_toArray, hCn.out] at hj; exact hj)) (by rw [List.size_toArray]; exact hsC.out) h1c.out ?_
                change K _ (World.setCells _ V 0 CS)
                refine hK2.out _ _ (hHeld.far bV.lo 0 CS) (fun hHeld2 => ?_)
                clear hK2 K hHeld
                have hHeld := hHeld2
                clear hHeld2
                try simp only [Act.put, List.getElem_toArray, List.getElem_cons_succ, List.getElem_cons_zero, List.setIfInBounds_toArray, List.set_cons_zero, List.set_cons_succ]
                replace bX := bX.far (Nat.ne_of_lt nXV) 0 CS
                replace bY := bY.far (Nat.ne_of_lt nYV) 0 CS
                replace bZ := bZ.far (Nat.ne_of_lt nZV) 0 CS
                replace bV := bV.fill hCn.out
                refine wpAnyH_done (by kernel_rfl) ?_ _
                go_wp2_with fail
                go_meet
                exact ⟨X, Y, Z, V, rfl, rfl, rfl, rfl, ⟨bX, bY, bZ, bV, Nat.ne_of_lt nXY, Nat.ne_of_lt nXZ, Nat.ne_of_lt nXV, Nat.ne_of_lt nYZ, Nat.ne_of_lt nYV, Nat.ne_of_lt nZV, hHeld⟩⟩
              refine AllReadyH.cons rfl (fun K hK2 => ?_) ?_
              · rw [if_pos (by rfl)]
                simp only [List.getElem_toArray, List.getElem_cons_succ, List.getElem_cons_zero]
                obtain ⟨V, hV⟩ : ∃ n, n = W2.heap.size := ⟨_, rfl⟩
                have bV := BK.new (w := w) (W := W2) #[.int .i64 0, .int .i64 0, .int .i64 0, .int .i64 0, .int .i64 0, .bool false, .bool false, .int .i64 0, .int .i64 0] 23 rfl hHeld.lt
                have al : Below W2.heap.size W2 (W2.alloc (.cells #[.int .i64 0, .int .i64 0, .int .i64 0, .int .i64 0, .int .i64 0, .bool false, .bool false, .int .i64 0, .int .i64 0] 23)) := (Below.refl _ _).alloc (Nat.le_refl _) _
                have nXV : X < V := by rw [hV]; exact bX.hi
                replace bX := bX.keep al
                have nYV : Y < V := by rw [hV]; exact bY.hi
                replace bY := bY.keep al
                go_simp
                refine hK2.out _ _ (hHeld.keep al) (fun hHeld2 => ?_)
                clear hK2 K hHeld
                have hHeld := hHeld2
                clear hHeld2
                try simp only [Act.put, List.getElem_toArray, List.getElem_cons_succ, List.getElem_cons_zero, List.setIfInBounds_toArray, List.set_cons_zero, List.set_cons_succ]
                generalize World.alloc _ _ = W3 at hHeld al bV bX bY ⊢
                rw [← hV] at bV ⊢
                clear al hV
                refine wpAnyH_ready (rs := [6]) (by kernel_rfl) (by simp) (AllReadyH.cons rfl (fun K hK2 => ?_) AllReadyH.nil)
                rw [if_pos (by rfl)]
                simp only [List.getElem_toArray, List.getElem_cons_succ, List.getElem_cons_zero]
                obtain ⟨Z, hZ⟩ : ∃ n, n = W3.heap.size := ⟨_, rfl⟩
                have bZ := BK.new (w := w) (W := W3) #[.int .i64 0, .int .i64 0, .int .i64 0, .int .i64 0, .int .i64 0, .bool false, .bool false, .int .i64 0, .int .i64 0] 23 rfl hHeld.lt
                have al : Below W3.heap.size W3 (W3.alloc (.cells #[.int .i64 0, .int .i64 0, .int .i64 0, .int .i64 0, .int .i64 0, .bool false, .bool false, .int .i64 0, .int .i64 0] 23)) := (Below.refl _ _).alloc (Nat.le_refl _) _
                have nXZ : X < Z := by rw [hZ]; exact bX.hi
                replace bX := bX.keep al
                have nYZ : Y < Z := by rw [hZ]; exact bY.hi
                replace bY := bY.keep al
                have nVZ : V < Z := by rw [hZ]; exact bV.hi
                replace bV := bV.keep al
                go_simp
                refine hK2.out _ _ (hHeld.keep al) (fun hHeld2 => ?_)
                clear hK2 K hHeld
                have hHeld := hHeld2
                clear hHeld2
                try simp only [Act.put, List.getElem_toArray, List.getElem_cons_succ, List.getElem_cons_zero, List.setIfInBounds_toArray, List.set_cons_zero, List.set_cons_succ]
                generalize World.alloc _ _ = W4 at hHeld al bZ bX bY bV ⊢
                rw [← hZ] at bZ ⊢
                clear al hZ
                refine wpAnyH_ready (rs := [8]) (by kernel_rfl) (by simp) (AllReadyH.cons rfl (fun K hK2 => ?_) AllReadyH.nil)
                rw [if_pos (by rfl)]
                simp only [List.getElem_toArray, List.getElem_cons_succ, List.getElem_cons_zero]
                refine wp_store_mid 23 _ _ rfl X 0 CS.toArray rfl rfl (fun j hj => bX.t j (by rw [List.size_toArray, hCn.out] at hj; exact hj)) (by rw [List.size_toArray]; exact hsC.out) h1c.out ?_
                change K _ (World.setCells _ X 0 CS)
                refine hK2.out _ _ (hHeld.far bX.lo 0 CS) (fun hHeld2 => ?_)
                clear hK2 K hHeld
                have hHeld := hHeld2
                clear hHeld2
                try simp only [Act.put, List.getElem_toArray, List.getElem_cons_succ, List.getElem_cons_zero, List.setIfInBounds_toArray, List.set_cons_zero, List.set_cons_succ]
                replace bX := bX.fill hCn.out
                replace bY := bY.far ((Nat.ne_of_lt nXY).symm) 0 CS
                replace bZ := bZ.far ((Nat.ne_of_lt nXZ).symm) 0 CS
                replace bV := bV.far ((Nat.ne_of_lt nXV).symm) 0 CS
                refine wpAnyH_ready (rs := [9]) (by kernel_rfl) (by simp) (AllReadyH.cons rfl (fun K hK2 => ?_) AllReadyH.nil)
                rw [if_pos (by rfl)]
                simp only [List.getElem_toArray, List.getElem_cons_succ, List.getElem_cons_zero]
                refine wp_store_mid 23 _ _ rfl Y 0 CS.toArray rfl rfl (fun j hj => bY.t j (by rw [List.size_toArray, hCn.out] at hj; exact hj)) (by rw [List.size_toArray]; exact hsC.out) h1c.out ?_
                change K _ (World.setCells _ Y 0 CS)
                refine hK2.out _ _ (hHeld.far bY.lo 0 CS) (fun hHeld2 => ?_)
                clear hK2 K hHeld
                have hHeld := hHeld2
                clear hHeld2
                try simp only [Act.put, List.getElem_toArray, List.getElem_cons_succ, List.getElem_cons_zero, List.setIfInBounds_toArray, List.set_cons_zero, List.set_cons_succ]
                replace bX := bX.far (Nat.ne_of_lt nXY) 0 CS
                replace bY := bY.fill hCn.out
                replace bZ := bZ.far ((Nat.ne_of_lt nYZ).symm) 0 CS
                replace bV := bV.far ((Nat.ne_of_lt nYV).symm) 0 CS
                refine wpAnyH_ready (rs := [10]) (by kernel_rfl) (by simp) (AllReadyH.cons rfl (fun K hK2 => ?_) AllReadyH.nil)
                rw [if_pos (by rfl)]
                simp only [List.getElem_toArray, List.getElem_cons_succ, List.getElem_cons_zero]
                refine wp_store_mid 23 _ _ rfl Z 0 CS.toArray rfl rfl (fun j hj => bZ.t j (by rw [List.size_toArray, hCn.out] at hj; exact hj)) (by rw [List.size_toArray]; exact hsC.out) h1c.out ?_
                change K _ (World.setCells _ Z 0 CS)
                refine hK2.out _ _ (hHeld.far bZ.lo 0 CS) (fun hHeld2 => ?_)
                clear hK2 K hHeld
                have hHeld := hHeld2
                clear hHeld2
                try simp only [Act.put, List.getElem_toArray, List.getElem_cons_succ, List.getElem_cons_zero, List.setIfInBounds_toArray, List.set_cons_zero, List.set_cons_succ]
                replace bX := bX.far (Nat.ne_of_lt nXZ) 0 CS
                replace bY := bY.far (Nat.ne_of_lt nYZ) 0 CS
                replace bZ := bZ.fill hCn.out
                replace bV := bV.far (Nat.ne_of_lt nVZ) 0 CS
                refine wpAnyH_ready (rs := [11]) (by kernel_rfl) (by simp) (AllReadyH.cons rfl (fun K hK2 => ?_) AllReadyH.nil)
                rw [if_pos (by rfl)]
                simp only [List.getElem_toArray, List.getElem_cons_succ, List.getElem_cons_zero]
                refine wp_store_mid 23 _ _ rfl V 0 CS.toArray rfl rfl (fun j hj => bV.t j (by rw [List.size_toArray, hCn.out] at hj; exact hj)) (by rw [List.size_toArray]; exact hsC.out) h1c.out ?_
                change K _ (World.setCells _ V 0 CS)
                refine hK2.out _ _ (hHeld.far bV.lo 0 CS) (fun hHeld2 => ?_)
                clear hK2 K hHeld
                have hHeld := hHeld2
                clear hHeld2
                try simp only [Act.put, List.getElem_toArray, List.getElem_cons_succ, List.getElem_cons_zero, List.setIfInBounds_toArray, List.set_cons_zero, List.set_cons_succ]
                replace bX := bX.far (Nat.ne_of_lt nXV) 0 CS
                replace bY := bY.far (Nat.ne_of_lt nYV) 0 CS
                replace bZ := bZ.far ((Nat.ne_of_lt nVZ).symm) 0 CS
                replace bV := bV.fill hCn.out
                refine wpAnyH_done (by kernel_rfl) ?_ _
                go_wp2_with fail
                go_meet
                exact ⟨X, Y, Z, V, rfl, rfl, rfl, rfl, ⟨bX, bY, bZ, bV, Nat.ne_of_lt nXY, Nat.ne_of_lt nXZ, Nat.ne_of_lt nXV, Nat.ne_of_lt nYZ, Nat.ne_of_lt nYV, (Nat.ne_of_lt nVZ).symm, hHeld⟩⟩
              exact AllReadyH.nil
          refine AllReadyH.cons rfl (fun K hK2 => ?_) ?_
          · as_aux_lemma =>
              rw [if_pos (by rfl)]
              simp only [List.getElem_toArray, List.getElem_cons_succ, List.getElem_cons_zero]
              obtain ⟨Z, hZ⟩ : ∃ n, n = W1.heap.size := ⟨_, rfl⟩
              have bZ := BK.new (w := w) (W := W1) #[.int .i64 0, .int .i64 0, .int .i64 0, .int .i64 0, .int .i64 0, .bool false, .bool false, .int .i64 0, .int .i64 0] 23 rfl hHeld.lt
              have al : Below W1.heap.size W1 (W1.alloc (.cells #[.int .i64 0, .int .i64 0, .int .i64 0, .int .i64 0, .int .i64 0, .bool false, .bool false, .int .i64 0, .int .i64 0] 23)) := (Below.refl _ _).alloc (Nat.le_refl _) _
              have nXZ : X < Z := by rw [hZ]; exact bX.hi
              replace bX := bX.keep al
              go_simp
              refine hK2.out _ _ (hHeld.keep al) (fun hHeld2 => ?_)
              clear hK2 K hHeld
              have hHeld := hHeld2
              clear hHeld2
              try simp only [Act.put, List.getElem_toArray, List.getElem_cons_succ, List.getElem_cons_zero, List.setIfInBounds_toArray, List.set_cons_zero, List.set_cons_succ]
              generalize World.alloc _ _ = W2 at hHeld al bZ bX ⊢
              rw [← hZ] at bZ ⊢
              clear al hZ
              refine wpAnyH_ready (rs := [5, 7]) (by kernel_rfl) (by simp) ?_
              refine AllReadyH.cons rfl (fun K hK2 => ?_) ?_
              · rw [if_pos (by rfl)]
                simp only [List.getElem_toArray, List.getElem_cons_succ, List.getElem_cons_zero]
                obtain ⟨Y, hY⟩ : ∃ n, n = W2.heap.size := ⟨_, rfl⟩
                have bY := BK.new (w := w) (W := W2) #[.int .i64 0, .int .i64 0, .int .i64 0, .int .i64 0, .int .i64 0, .bool false, .bool false, .int .i64 0, .int .i64 0] 23 rfl hHeld.lt
                have al : Below W2.heap.size W2 (W2.alloc (.cells #[.int .i64 0, .int .i64 0, .int .i64 0, .int .i64 0, .int .i64 0, .bool false, .bool false, .int .i64 0, .int .i64 0] 23)) := (Below.refl _ _).alloc (Nat.le_refl _) _
                have nXY : X < Y := by rw [hY]; exact bX.hi
                replace bX := bX.keep al
                have nZY : Z < Y := by rw [hY]; exact bZ.hi
                replace bZ := bZ.keep al
                go_simp
                refine hK2.out _ _ (hHeld.keep al) (fun hHeld2 => ?_)
                clear hK2 K hHeld
                have hHeld := hHeld2
                clear hHeld2
                try simp only [Act.put, List.getElem_toArray, List.getElem_cons_succ, List.getElem_cons_zero, List.setIfInBounds_toArray, List.set_cons_zero, List.set_cons_succ]
                generalize World.alloc _ _ = W3 at hHeld al bY bX bZ ⊢
                rw [← hY] at bY ⊢
                clear al hY
                refine wpAnyH_ready (rs := [7]) (by kernel_rfl) (by simp) (AllReadyH.cons rfl (fun K hK2 => ?_) AllReadyH.nil)
                rw [if_pos (by rfl)]
                simp only [List.getElem_toArray, List.getElem_cons_succ, List.getElem_cons_zero]
                obtain ⟨V, hV⟩ : ∃ n, n = W3.heap.size := ⟨_, rfl⟩
                have bV := BK.new (w := w) (W := W3) #[.int .i64 0, .int .i64 0, .int .i64 0, .int .i64 0, .int .i64 0, .bool false, .bool false, .int .i64 0, .int .i64 0] 23 rfl hHeld.lt
                have al : Below W3.heap.size W3 (W3.alloc (.cells #[.int .i64 0, .int .i64 0, .int .i64 0, .int .i64 0, .int .i64 0, .bool false, .bool false, .int .i64 0, .int .i64 0] 23)) := (Below.refl _ _).alloc (Nat.le_refl _) _
                have nXV : X < V := by rw [hV]; exact bX.hi
                replace bX := bX.keep al
                have nZV : Z < V := by rw [hV]; exact bZ.hi
                replace bZ := bZ.keep al
                have nYV : Y < V := by rw [hV]; exact bY.hi
                replace bY := bY.keep al
                go_simp
                refine hK2.out _ _ (hHeld.keep al) (fun hHeld2 => ?_)
                clear hK2 K hHeld
                have hHeld := hHeld2
                clear hHeld2
                try simp only [Act.put, List.getElem_toArray, List.getElem_cons_succ, List.getElem_cons_zero, List.setIfInBounds_toArray, List.set_cons_zero, List.set_cons_succ]
                generalize World.alloc _ _ = W4 at hHeld al bV bX bZ bY ⊢
                rw [← hV] at bV ⊢
                clear al hV
                refine wpAnyH_ready (rs := [8]) (by kernel_rfl) (by simp) (AllReadyH.cons rfl (fun K hK2 => ?_) AllReadyH.nil)
                rw [if_pos (by rfl)]
                simp only [List.getElem_toArray, List.getElem_cons_succ, List.getElem_cons_zero]
                refine wp_store_mid 23 _ _ rfl X 0 CS.toArray rfl rfl (fun j hj => bX.t j (by rw [List.size_toArray, hCn.out] at hj; exact hj)) (by rw [List.size_toArray]; exact hsC.out) h1c.out ?_
                change K _ (World.setCells _ X 0 CS)
                refine hK2.out _ _ (hHeld.far bX.lo 0 CS) (fun hHeld2 => ?_)
                clear hK2 K hHeld
                have hHeld := hHeld2
                clear hHeld2
                try simp only [Act.put, List.getElem_toArray, List.getElem_cons_succ, List.getElem_cons_zero, List.setIfInBounds_toArray, List.set_cons_zero, List.set_cons_succ]
                replace bX := bX.fill hCn.out
                replace bY := bY.far ((Nat.ne_of_lt nXY).symm) 0 CS
                replace bZ := bZ.far ((Nat.ne_of_lt nXZ).symm) 0 CS
                replace bV := bV.far ((Nat.ne_of_lt nXV).symm) 0 CS
                refine wpAnyH_ready (rs := [9]) (by kernel_rfl) (by simp) (AllReadyH.cons rfl (fun K hK2 => ?_) AllReadyH.nil)
                rw [if_pos (by rfl)]
                simp only [List.getElem_toArray, List.getElem_cons_succ, List.getElem_cons_zero]
                refine wp_store_mid 23 _ _ rfl Y 0 CS.toArray rfl rfl (fun j hj => bY.t j (by rw [List.size_toArray, hCn.out] at hj; exact hj)) (by rw [List.size_toArray]; exact hsC.out) h1c.out ?_
                change K _ (World.setCells _ Y 0 CS)
                refine hK2.out _ _ (hHeld.far bY.lo 0 CS) (fun hHeld2 => ?_)
                clear hK2 K hHeld
                have hHeld := hHeld2
                clear hHeld2
                try simp only [Act.put, List.getElem_toArray, List.getElem_cons_succ, List.getElem_cons_zero, List.setIfInBounds_toArray, List.set_cons_zero, List.set_cons_succ]
                replace bX := bX.far (Nat.ne_of_lt nXY) 0 CS
                replace bY := bY.fill hCn.out
                replace bZ := bZ.far (Nat.ne_of_lt nZY) 0 CS
                replace bV := bV.far ((Nat.ne_of_lt nYV).symm) 0 CS
                refine wpAnyH_ready (rs := [10]) (by kernel_rfl) (by simp) (AllReadyH.cons rfl (fun K hK2 => ?_) AllReadyH.nil)
                rw [if_pos (by rfl)]
                simp only [List.getElem_toArray, List.getElem_cons_succ, List.getElem_cons_zero]
                refine wp_store_mid 23 _ _ rfl Z 0 CS.toArray rfl rfl (fun j hj => bZ.t j (by rw [List.size_toArray, hCn.out] at hj; exact hj)) (by rw [List.size_toArray]; exact hsC.out) h1c.out ?_
                change K _ (World.setCells _ Z 0 CS)
                refine hK2.out _ _ (hHeld.far bZ.lo 0 CS) (fun hHeld2 => ?_)
                clear hK2 K hHeld
                have hHeld := hHeld2
                clear hHeld2
                try simp only [Act.put, List.getElem_toArray, List.getElem_cons_succ, List.getElem_cons_zero, List.setIfInBounds_toArray, List.set_cons_zero, List.set_cons_succ]
                replace bX := bX.far (Nat.ne_of_lt nXZ) 0 CS
                replace bY := bY.far ((Nat.ne_of_lt nZY).symm) 0 CS
                replace bZ := bZ.fill hCn.out
                replace bV := bV.far ((Nat.ne_of_lt nZV).symm) 0 CS
                refine wpAnyH_ready (rs := [11]) (by kernel_rfl) (by simp) (AllReadyH.cons rfl (fun K hK2 => ?_) AllReadyH.nil)
                rw [if_pos (by rfl)]
                simp only [List.getElem_toArray, List.getElem_cons_succ, List.getElem_cons_zero]
                refine wp_store_mid 23 _ _ rfl V 0 CS.toArray rfl rfl (fun j hj => bV.t j (by rw [List.size_toArray, hCn.out] at hj; exact hj)) (by rw [List.size_toArray]; exact hsC.out) h1c.out ?_
                change K _ (World.setCells _ V 0 CS)
                refine hK2.out _ _ (hHeld.far bV.lo 0 CS) (fun hHeld2 => ?_)
                clear hK2 K hHeld
                have hHeld := hHeld2
                clear hHeld2
                try simp only [Act.put, List.getElem_toArray, List.getElem_cons_succ, List.getElem_cons_zero, List.setIfInBounds_toArray, List.set_cons_zero, List.set_cons_succ]
                replace bX := bX.far (Nat.ne_of_lt nXV) 0 CS
                replace bY := bY.far (Nat.ne_of_lt nYV) 0 CS
                replace bZ := bZ.far (Nat.ne_of_lt nZV) 0 CS
                replace bV := bV.fill hCn.out
                refine wpAnyH_done (by kernel_rfl) ?_ _
                go_wp2_with fail
                go_meet
                exact ⟨X, Y, Z, V, rfl, rfl, rfl, rfl, ⟨bX, bY, bZ, bV, Nat.ne_of_lt nXY, Nat.ne_of_lt nXZ, Nat.ne_of_lt nXV, (Nat.ne_of_lt nZY).symm, Nat.ne_of_lt nYV, Nat.ne_of_lt nZV, hHeld⟩⟩
              refine AllReadyH.cons rfl (fun K hK2 => ?_) ?_
              · rw [if_pos (by rfl)]
                simp only [List.getElem_toArray, List.getElem_cons_succ, List.getElem_cons_zero]
                obtain ⟨V, hV⟩ : ∃ n, n = W2.heap.size := ⟨_, rfl⟩
                have bV := BK.new (w := w) (W := W2) #[.int .i64 0, .int .i64 0, .int .i64 0, .int .i64 0, .int .i64 0, .bool false, .bool false, .int .i64 0, .int .i64 0] 23 rfl hHeld.lt
                have al : Below W2.heap.size W2 (W2.alloc (.cells #[.int .i64 0, .int .i64 0, .int .i64 0, .int .i64 0, .int .i64 0, .bool false, .bool false, .int .i64 0, .int .i64 0] 23)) := (Below.refl _ _).alloc (Nat.le_refl _) _
                have nXV : X < V := by rw [hV]; exact bX.hi
                replace bX := bX.keep al
                have nZV : Z < V := by rw [hV]; exact bZ.hi
                replace bZ := bZ.keep al
                go_simp
                refine hK2.out _ _ (hHeld.keep al) (fun hHeld2 => ?_)
                clear hK2 K hHeld
                have hHeld := hHeld2
                clear hHeld2
                try simp only [Act.put, List.getElem_toArray, List.getElem_cons_succ, List.getElem_cons_zero, List.setIfInBounds_toArray, List.set_cons_zero, List.set_cons_succ]
                generalize World.alloc _ _ = W3 at hHeld al bV bX bZ ⊢
                rw [← hV] at bV ⊢
                clear al hV
                refine wpAnyH_ready (rs := [5]) (by kernel_rfl) (by simp) (AllReadyH.cons rfl (fun K hK2 => ?_) AllReadyH.nil)
                rw [if_pos (by rfl)]
                simp only [List.getElem_toArray, List.getElem_cons_succ, List.getElem_cons_zero]
                obtain ⟨Y, hY⟩ : ∃ n, n = W3.heap.size := ⟨_, rfl⟩
                have bY := BK.new (w := w) (W := W3) #[.int .i64 0, .int .i64 0, .int .i64 0, .int .i64 0, .int .i64 0, .bool false, .bool false, .int .i64 0, .int .i64 0] 23 rfl hHeld.lt
                have al : Below W3.heap.size W3 (W3.alloc (.cells #[.int .i64 0, .int .i64 0, .int .i64 0, .int .i64 0, .int .i64 0, .bool false, .bool false, .int .i64 0, .int .i64 0] 23)) := (Below.refl _ _).alloc (Nat.le_refl _) _
                have nXY : X < Y := by rw [hY]; exact bX.hi
                replace bX := bX.keep al
                have nZY : Z < Y := by rw [hY]; exact bZ.hi
                replace bZ := bZ.keep al
                have nVY : V < Y := by rw [hY]; exact bV.hi
                replace bV := bV.keep al
                go_simp
                refine hK2.out _ _ (hHeld.keep al) (fun hHeld2 => ?_)
                clear hK2 K hHeld
                have hHeld := hHeld2
                clear hHeld2
                try simp only [Act.put, List.getElem_toArray, List.getElem_cons_succ, List.getElem_cons_zero, List.setIfInBounds_toArray, List.set_cons_zero, List.set_cons_succ]
                generalize World.alloc _ _ = W4 at hHeld al bY bX bZ bV ⊢
                rw [← hY] at bY ⊢
                clear al hY
                refine wpAnyH_ready (rs := [8]) (by kernel_rfl) (by simp) (AllReadyH.cons rfl (fun K hK2 => ?_) AllReadyH.nil)
                rw [if_pos (by rfl)]
                simp only [List.getElem_toArray, List.getElem_cons_succ, List.getElem_cons_zero]
                refine wp_store_mid 23 _ _ rfl X 0 CS.toArray rfl rfl (fun j hj => bX.t j (by rw [List.size_toArray, hCn.out] at hj; exact hj)) (by rw [List.size_toArray]; exact hsC.out) h1c.out ?_
                change K _ (World.setCells _ X 0 CS)
                refine hK2.out _ _ (hHeld.far bX.lo 0 CS) (fun hHeld2 => ?_)
                clear hK2 K hHeld
                have hHeld := hHeld2
                clear hHeld2
                try simp only [Act.put, List.getElem_toArray, List.getElem_cons_succ, List.getElem_cons_zero, List.setIfInBounds_toArray, List.set_cons_zero, List.set_cons_succ]
                replace bX := bX.fill hCn.out
                replace bY := bY.far ((Nat.ne_of_lt nXY).symm) 0 CS
                replace bZ := bZ.far ((Nat.ne_of_lt nXZ).symm) 0 CS
                replace bV := bV.far ((Nat.ne_of_lt nXV).symm) 0 CS
                refine wpAnyH_ready (rs := [9]) (by kernel_rfl) (by simp) (AllReadyH.cons rfl (fun K hK2 => ?_) AllReadyH.nil)
                rw [if_pos (by rfl)]
                simp only [List.getElem_toArray, List.getElem_cons_succ, List.getElem_cons_zero]
                refine wp_store_mid 23 _ _ rfl Y 0 CS.toArray rfl rfl (fun j hj => bY.t j (by rw [List.size_toArray, hCn.out] at hj; exact hj)) (by rw [List.size_toArray]; exact hsC.out) h1c.out ?_
                change K _ (World.setCells _ Y 0 CS)
                refine hK2.out _ _ (hHeld.far bY.lo 0 CS) (fun hHeld2 => ?_)
                clear hK2 K hHeld
                have hHeld := hHeld2
                clear hHeld2
                try simp only [Act.put, List.getElem_toArray, List.getElem_cons_succ, List.getElem_cons_zero, List.setIfInBounds_toArray, List.set_cons_zero, List.set_cons_succ]
                replace bX := bX.far (Nat.ne_of_lt nXY) 0 CS
                replace bY := bY.fill hCn.out
                replace bZ := bZ.far (Nat.ne_of_lt nZY) 0 CS
                replace bV := bV.far (Nat.ne_of_lt nVY) 0 CS
                refine wpAnyH_ready (rs := [10]) (by kernel_rfl) (by simp) (AllReadyH.cons rfl (fun K hK2 => ?_) AllReadyH.nil)
                rw [if_pos (by rfl)]
                simp only [List.getElem_toArray, List.getElem_cons_succ, List.getElem_cons_zero]
                refine wp_store_mid 23 _ _ rfl Z 0 CS.toArray rfl rfl (fun j hj => bZ.t j (by rw [List.size_toArray, hCn.out] at hj; exact hj)) (by rw [List.size_toArray]; exact hsC.out) h1c.out ?_
                change K _ (World.setCells _ Z 0 CS)
                refine hK2.out _ _ (hHeld.far bZ.lo 0 CS) (fun hHeld2 => ?_)
                clear hK2 K hHeld
                have hHeld := hHeld2
                clear hHeld2
                try simp only [Act.put, List.getElem_toArray, List.getElem_cons_succ, List.getElem_cons_zero, List.setIfInBounds_toArray, List.set_cons_zero, List.set_cons_succ]
                replace bX := bX.far (Nat.ne_of_lt nXZ) 0 CS
                replace bY := bY.far ((Nat.ne_of_lt nZY).symm) 0 CS
                replace bZ := bZ.fill hCn.out
                replace bV := bV.far ((Nat.ne_of_lt nZV).symm) 0 CS
                refine wpAnyH_ready (rs := [11]) (by kernel_rfl) (by simp) (AllReadyH.cons rfl (fun K hK2 => ?_) AllReadyH.nil)
                rw [if_pos (by rfl)]
                simp only [List.getElem_toArray, List.getElem_cons_succ, List.getElem_cons_zero]
                refine wp_store_mid 23 _ _ rfl V 0 CS.toArray rfl rfl (fun j hj => bV.t j (by rw [List.size_toArray, hCn.out] at hj; exact hj)) (by rw [List.size_toArray]; exact hsC.out) h1c.out ?_
                change K _ (World.setCells _ V 0 CS)
                refine hK2.out _ _ (hHeld.far bV.lo 0 CS) (fun hHeld2 => ?_)
                clear hK2 K hHeld
                have hHeld := hHeld2
                clear hHeld2
                try simp only [Act.put, List.getElem_toArray, List.getElem_cons_succ, List.getElem_cons_zero, List.setIfInBounds_toArray, List.set_cons_zero, List.set_cons_succ]
                replace bX := bX.far (Nat.ne_of_lt nXV) 0 CS
                replace bY := bY.far ((Nat.ne_of_lt nVY).symm) 0 CS
                replace bZ := bZ.far (Nat.ne_of_lt nZV) 0 CS
                replace bV := bV.fill hCn.out
                refine wpAnyH_done (by kernel_rfl) ?_ _
                go_wp2_with fail
                go_meet
                exact ⟨X, Y, Z, V, rfl, rfl, rfl, rfl, ⟨bX, bY, bZ, bV, Nat.ne_of_lt nXY, Nat.ne_of_lt nXZ, Nat.ne_of_lt nXV, (Nat.ne_of_lt nZY).symm, (Nat.ne_of_lt nVY).symm, Nat.ne_of_lt nZV, hHeld⟩⟩
              exact AllReadyH.nil
          refine AllReadyH.cons rfl (fun K hK2 => ?_) ?_
          · as_aux_lemma =>
              rw [if_pos (by rfl)]
              simp only [List.getElem_toArray, List.getElem_cons_succ, List.getElem_cons_zero]
              obtain ⟨V, hV⟩ : ∃ n, n = W1.heap.size := ⟨_, rfl⟩
              have bV := BK.new (w := w) (W := W1) #[.int .i64 0, .int .i64 0, .int .i64 0, .int .i64 0, .int .i64 0, .bool false, .bool false, .int .i64 0, .int .i64 0] 23 rfl hHeld.lt
              have al : Below W1.heap.size W1 (W1.alloc (.cells #[.int .i64 0, .int .i64 0, .int .i64 0, .int .i64 0, .int .i64 0, .bool false, .bool false, .int .i64 0, .int .i64 0] 23)) := (Below.refl _ _).alloc (Nat.le_refl _) _
              have nXV : X < V := by rw [hV]; exact bX.hi
              replace bX := bX.keep al
              go_simp
              refine hK2.out _ _ (hHeld.keep al) (fun hHeld2 => ?_)
              clear hK2 K hHeld
              have hHeld := hHeld2
              clear hHeld2
              try simp only [Act.put, List.getElem_toArray, List.getElem_cons_succ, List.getElem_cons_zero, List.setIfInBounds_toArray, List.set_cons_zero, List.set_cons_succ]
              generalize World.alloc _ _ = W2 at hHeld al bV bX ⊢
              rw [← hV] at bV ⊢
              clear al hV
              refine wpAnyH_ready (rs := [5, 6]) (by kernel_rfl) (by simp) ?_
              refine AllReadyH.cons rfl (fun K hK2 => ?_) ?_
              · rw [if_pos (by rfl)]
                simp only [List.getElem_toArray, List.getElem_cons_succ, List.getElem_cons_zero]
                obtain ⟨Y, hY⟩ : ∃ n, n = W2.heap.size := ⟨_, rfl⟩
                have bY := BK.new (w := w) (W := W2) #[.int .i64 0, .int .i64 0, .int .i64 0, .int .i64 0, .int .i64 0, .bool false, .bool false, .int .i64 0, .int .i64 0] 23 rfl hHeld.lt
                have al : Below W2.heap.size W2 (W2.alloc (.cells #[.int .i64 0, .int .i64 0, .int .i64 0, .int .i64 0, .int .i64 0, .bool false, .bool false, .int .i64 0, .int .i64 0] 23)) := (Below.refl _ _).alloc (Nat.le_refl _) _
                have nXY : X < Y := by rw [hY]; exact bX.hi
                replace bX := bX.keep al
                have nVY : V < Y := by rw [hY]; exact bV.hi
                replace bV := bV.keep al
                go_simp
                refine hK2.out _ _ (hHeld.keep al) (fun hHeld2 => ?_)
                clear hK2 K hHeld
                have hHeld := hHeld2
                clear hHeld2
                try simp only [Act.put, List.getElem_toArray, List.getElem_cons_succ, List.getElem_cons_zero, List.setIfInBounds_toArray, List.set_cons_zero, List.set_cons_succ]
                generalize World.alloc _ _ = W3 at hHeld al bY bX bV ⊢
                rw [← hY] at bY ⊢
                clear al hY
                refine wpAnyH_ready (rs := [6]) (by kernel_rfl) (by simp) (AllReadyH.cons rfl (fun K hK2 => ?_) AllReadyH.nil)
                rw [if_pos (by rfl)]
                simp only [List.getElem_toArray, List.getElem_cons_succ, List.getElem_cons_zero]
                obtain ⟨Z, hZ⟩ : ∃ n, n = W3.heap.size := ⟨_, rfl⟩
                have bZ := BK.new (w := w) (W := W3) #[.int .i64 0, .int .i64 0, .int .i64 0, .int .i64 0, .int .i64 0, .bool false, .bool false, .int .i64 0, .int .i64 0] 23 rfl hHeld.lt
                have al : Below W3.heap.size W3 (W3.alloc (.cells #[.int .i64 0, .int .i64 0, .int .i64 0, .int .i64 0, .int .i64 0, .bool false, .bool false, .int .i64 0, .int .i64 0] 23)) := (Below.refl _ _).alloc (Nat.le_refl _) _
                have nXZ : X < Z := by rw [hZ]; exact bX.hi
                replace bX := bX.keep al
                have nVZ : V < Z := by rw [hZ]; exact bV.hi
                replace bV := bV.keep al
                have nYZ : Y < Z := by rw [hZ]; exact bY.hi
                replace bY := bY.keep al
                go_simp
                refine hK2.out _ _ (hHeld.keep al) (fun hHeld2 => ?_)
                clear hK2 K hHeld
                have hHeld := hHeld2
                clear hHeld2
                try simp only [Act.put, List.getElem_toArray, List.getElem_cons_succ, List.getElem_cons_zero, List.setIfInBounds_toArray, List.set_cons_zero, List.set_cons_succ]
                generalize World.alloc _ _ = W4 at hHeld al bZ bX bV bY ⊢
                rw [← hZ] at bZ ⊢
                clear al hZ
                refine wpAnyH_ready (rs := [8]) (by kernel_rfl) (by simp) (AllReadyH.cons rfl (fun K hK2 => ?_) AllReadyH.nil)
                rw [if_pos (by rfl)]
                simp only [List.getElem_toArray, List.getElem_cons_succ, List.getElem_cons_zero]
                refine wp_store_mid 23 _ _ rfl X 0 CS.toArray rfl rfl (fun j hj => bX.t j (by rw [List.size_toArray, hCn.out] at hj; exact hj)) (by rw [List.size_toArray]; exact hsC.out) h1c.out ?_
                change K _ (World.setCells _ X 0 CS)
                refine hK2.out _ _ (hHeld.far bX.lo 0 CS) (fun hHeld2 => ?_)
                clear hK2 K hHeld
                have hHeld := hHeld2
                clear hHeld2
                try simp only [Act.put, List.getElem_toArray, List.getElem_cons_succ, List.getElem_cons_zero, List.setIfInBounds_toArray, List.set_cons_zero, List.set_cons_succ]
                replace bX := bX.fill hCn.out
                replace bY := bY.far ((Nat.ne_of_lt nXY).symm) 0 CS
                replace bZ := bZ.far ((Nat.ne_of_lt nXZ).symm) 0 CS
                replace bV := bV.far ((Nat.ne_of_lt nXV).symm) 0 CS
                refine wpAnyH_ready (rs := [9]) (by kernel_rfl) (by simp) (AllReadyH.cons rfl (fun K hK2 => ?_) AllReadyH.nil)
                rw [if_pos (by rfl)]
                simp only [List.getElem_toArray, List.getElem_cons_succ, List.getElem_cons_zero]
                refine wp_store_mid 23 _ _ rfl Y 0 CS.toArray rfl rfl (fun j hj => bY.t j (by rw [List.size_toArray, hCn.out] at hj; exact hj)) (by rw [List.size_toArray]; exact hsC.out) h1c.out ?_
                change K _ (World.setCells _ Y 0 CS)
                refine hK2.out _ _ (hHeld.far bY.lo 0 CS) (fun hHeld2 => ?_)
                clear hK2 K hHeld
                have hHeld := hHeld2
                clear hHeld2
                try simp only [Act.put, List.getElem_toArray, List.getElem_cons_succ, List.getElem_cons_zero, List.setIfInBounds_toArray, List.set_cons_zero, List.set_cons_succ]
                replace bX := bX.far (Nat.ne_of_lt nXY) 0 CS
                replace bY := bY.fill hCn.out
                replace bZ := bZ.far ((Nat.ne_of_lt nYZ).symm) 0 CS
                replace bV := bV.far (Nat.ne_of_lt nVY) 0 CS
                refine wpAnyH_ready (rs := [10]) (by kernel_rfl) (by simp) (AllReadyH.cons rfl (fun K hK2 => ?_) AllReadyH.nil)
                rw [if_pos (by rfl)]
                simp only [List.getElem_toArray, List.getElem_cons_succ, List.getElem_cons_zero]
                refine wp_store_mid 23 _ _ rfl Z 0 CS.toArray rfl rfl (fun j hj => bZ.t j (by rw [List.size_toArray, hCn.out] at hj; exact hj)) (by rw [List.size_toArray]; exact hsC.out) h1c.out ?_
                change K _ (World.setCells _ Z 0 CS)
                refine hK2.out _ _ (hHeld.far bZ.lo 0 CS) (fun hHeld2 => ?_)
                clear hK2 K hHeld
                have hHeld := hHeld2
                clear hHeld2
                try simp only [Act.put, List.getElem_toArray, List.getElem_cons_succ, List.getElem_cons_zero, List.setIfInBounds_toArray, List.set_cons_zero, List.set_cons_succ]
                replace bX := bX.far (Nat.ne_of_lt nXZ) 0 CS
                replace bY := bY.far (Nat.ne_of_lt nYZ) 0 CS
                replace bZ := bZ.fill hCn.out
                replace bV := bV.far (Nat.ne_of_lt nVZ) 0 CS
                refine wpAnyH_ready (rs := [11]) (by kernel_rfl) (by simp) (AllReadyH.cons rfl (fun K hK2 => ?_) AllReadyH.nil)
                rw [if_pos (by rfl)]
                simp only [List.getElem_toArray, List.getElem_cons_succ, List.getElem_cons_zero]
                refine wp_store_mid 23 _ _ rfl V 0 CS.toArray rfl rfl (fun j hj => bV.t j (by rw [List.size_toArray, hCn.out] at hj; exact hj)) (by rw [List.size_toArray]; exact hsC.out) h1c.out ?_
                change K _ (World.setCells _ V 0 CS)
                refine hK2.out _ _ (hHeld.far bV.lo 0 CS) (fun hHeld2 => ?_)
                clear hK2 K hHeld
                have hHeld := hHeld2
                clear hHeld2
                try simp only [Act.put, List.getElem_toArray, List.getElem_cons_succ, List.getElem_cons_zero, List.setIfInBounds_toArray, List.set_cons_zero, List.set_cons_succ]
                replace bX := bX.far (Nat.ne_of_lt nXV) 0 CS
                replace bY := bY.far ((Nat.ne_of_lt nVY).symm) 0 CS
                replace bZ := bZ.far ((Nat.ne_of_lt nVZ).symm) 0 CS
                replace bV := bV.fill hCn.out
                refine wpAnyH_done (by kernel_rfl) ?_ _
                go_wp2_with fail
                go_meet
                exact ⟨X, Y, Z, V, rfl, rfl, rfl, rfl, ⟨bX, bY, bZ, bV, Nat.ne_of_lt nXY, Nat.ne_of_lt nXZ, Nat.ne_of_lt nXV, Nat.ne_of_lt nYZ, (Nat.ne_of_lt nVY).symm, (Nat.ne_of_lt nVZ).symm, hHeld⟩⟩
              refine AllReadyH.cons rfl (fun K hK2 => ?_) ?_
              · rw [if_pos (by rfl)]
                simp only [List.getElem_toArray, List.getElem_cons_succ, List.getElem_cons_zero]
                obtain ⟨Z, hZ⟩ : ∃ n, n = W2.heap.size := ⟨_, rfl⟩
                have bZ := BK.new (w := w) (W := W2) #[.int .i64 0, .int .i64 0, .int .i64 0, .int .i64 0, .int .i64 0, .bool false, .bool false, .int .i64 0, .int .i64 0] 23 rfl hHeld.lt
                have al : Below W2.heap.size W2 (W2.alloc (.cells #[.int .i64 0, .int .i64 0, .int .i64 0, .int .i64 0, .int .i64 0, .bool false, .bool false, .int .i64 0, .int .i64 0] 23)) := (Below.refl _ _).alloc (Nat.le_refl _) _
                have nXZ : X < Z := by rw [hZ]; exact bX.hi
                replace bX := bX.keep al
                have nVZ : V < Z := by rw [hZ]; exact bV.hi
                replace bV := bV.keep al
                go_simp
                refine hK2.out _ _ (hHeld.keep al) (fun hHeld2 => ?_)
                clear hK2 K hHeld
                have hHeld := hHeld2
                clear hHeld2
                try simp only [Act.put, List.getElem_toArray, List.getElem_cons_succ, List.getElem_cons_zero, List.setIfInBounds_toArray, List.set_cons_zero, List.set_cons_succ]
                generalize World.alloc _ _ = W3 at hHeld al bZ bX bV ⊢
                rw [← hZ] at bZ ⊢
                clear al hZ
                refine wpAnyH_ready (rs := [5]) (by kernel_rfl) (by simp) (AllReadyH.cons rfl (fun K hK2 => ?_) AllReadyH.nil)
                rw [if_pos (by rfl)]
                simp only [List.getElem_toArray, List.getElem_cons_succ, List.getElem_cons_zero]
                obtain ⟨Y, hY⟩ : ∃ n, n = W3.heap.size := ⟨_, rfl⟩
                have bY := BK.new (w := w) (W := W3) #[.int .i64 0, .int .i64 0, .int .i64 0, .int .i64 0, .int .i64 0, .bool false, .bool false, .int .i64 0, .int .i64 0] 23 rfl hHeld.lt
                have al : Below W3.heap.size W3 (W3.alloc (.cells #[.int .i64 0, .int .i64 0, .int .i64 0, .int .i64 0, .int .i64 0, .bool false, .bool false, .int .i64 0, .int .i64 0] 23)) := (Below.refl _ _).alloc (Nat.le_refl _) _
                have nXY : X < Y := by rw [hY]; exact bX.hi
                replace bX := bX.keep al
                have nVY : V < Y := by rw [hY]; exact bV.hi
                replace bV := bV.keep al
                have nZY : Z < Y := by rw [hY]; exact bZ.hi
                replace bZ := bZ.keep al
                go_simp
                refine hK2.out _ _ (hHeld.keep al) (fun hHeld2 => ?_)
                clear hK2 K hHeld
                have hHeld := hHeld2
                clear hHeld2
                try simp only [Act.put, List.getElem_toArray, List.getElem_cons_succ, List.getElem_cons_zero, List.setIfInBounds_toArray, List.set_cons_zero, List.set_cons_succ]
                generalize World.alloc _ _ = W4 at hHeld al bY bX bV bZ ⊢
                rw [← hY] at bY ⊢
                clear al hY
                refine wpAnyH_ready (rs := [8]) (by kernel_rfl) (by simp) (AllReadyH.cons rfl (fun K hK2 => ?_) AllReadyH.nil)
                rw [if_pos (by rfl)]
                simp only [List.getElem_toArray, List.getElem_cons_succ, List.getElem_cons_zero]
                refine wp_store_mid 23 _ _ rfl X 0 CS.toArray rfl rfl (fun j hj => bX.t j (by rw [List.size_toArray, hCn.out] at hj; exact hj)) (by rw [List.size_toArray]; exact hsC.out) h1c.out ?_
                change K _ (World.setCells _ X 0 CS)
                refine hK2.out _ _ (hHeld.far bX.lo 0 CS) (fun hHeld2 => ?_)
                clear hK2 K hHeld
                have hHeld := hHeld2
                clear hHeld2
                try simp only [Act.put, List.getElem_toArray, List.getElem_cons_succ, List.getElem_cons_zero, List.setIfInBounds_toArray, List.set_cons_zero, List.set_cons_succ]
                replace bX := bX.fill hCn.out
                replace bY := bY.far ((Nat.ne_of_lt nXY).symm) 0 CS
                replace bZ := bZ.far ((Nat.ne_of_lt nXZ).symm) 0 CS
                replace bV := bV.far ((Nat.ne_of_lt nXV).symm) 0 CS
                refine wpAnyH_ready (rs := [9]) (by kernel_rfl) (by simp) (AllReadyH.cons rfl (fun K hK2 => ?_) AllReadyH.nil)
                rw [if_pos (by rfl)]
                simp only [List.getElem_toArray, List.getElem_cons_succ, List.getElem_cons_zero]
                refine wp_store_mid 23 _ _ rfl Y 0 CS.toArray rfl rfl (fun j hj => bY.t j (by rw [List.size_toArray, hCn.out] at hj; exact hj)) (by rw [List.size_toArray]; exact hsC.out) h1c.out ?_
                change K _ (World.setCells _ Y 0 CS)
                refine hK2.out _ _ (hHeld.far bY.lo 0 CS) (fun hHeld2 => ?_)
                clear hK2 K hHeld
                have hHeld := hHeld2
                clear hHeld2
                try simp only [Act.put, List.getElem_toArray, List.getElem_cons_succ, List.getElem_cons_zero, List.setIfInBounds_toArray, List.set_cons_zero, List.set_cons_succ]
                replace bX := bX.far (Nat.ne_of_lt nXY) 0 CS
                replace bY := bY.fill hCn.out
                replace bZ := bZ.far (Nat.ne_of_lt nZY) 0 CS
                replace bV := bV.far (Nat.ne_of_lt nVY) 0 CS
                refine wpAnyH_ready (rs := [10]) (by kernel_rfl) (by simp) (AllReadyH.cons rfl (fun K hK2 => ?_) AllReadyH.nil)
                rw [if_pos (by rfl)]
                simp only [List.getElem_toArray, List.getElem_cons_succ, List.getElem_cons_zero]
                refine wp_store_mid 23 _ _ rfl Z 0 CS.toArray rfl rfl (fun j hj => bZ.t j (by rw [List.size_toArray, hCn.out] at hj; exact hj)) (by rw [List.size_toArray]; exact hsC.out) h1c.out ?_
                change K _ (World.setCells _ Z 0 CS)
                refine hK2.out _ _ (hHeld.far bZ.lo 0 CS) (fun hHeld2 => ?_)
                clear hK2 K hHeld
                have hHeld := hHeld2
                clear hHeld2
                try simp only [Act.put, List.getElem_toArray, List.getElem_cons_succ, List.getElem_cons_zero, List.setIfInBounds_toArray, List.set_cons_zero, List.set_cons_succ]
                replace bX := bX.far (Nat.ne_of_lt nXZ) 0 CS
                replace bY := bY.far ((Nat.ne_of_lt nZY).symm) 0 CS
                replace bZ := bZ.fill hCn.out
                replace bV := bV.far (Nat.ne_of_lt nVZ) 0 CS
                refine wpAnyH_ready (rs := [11]) (by kernel_rfl) (by simp) (AllReadyH.cons rfl (fun K hK2 => ?_) AllReadyH.nil)
                rw [if_pos (by rfl)]
                simp only [List.getElem_toArray, List.getElem_cons_succ, List.getElem_cons_zero]
                refine wp_store_mid 23 _ _ rfl V 0 CS.toArray rfl rfl (fun j hj => bV.t j (by rw [List.size_toArray, hCn.out] at hj; exact hj)) (by rw [List.size_toArray]; exact hsC.out) h1c.out ?_
                change K _ (World.setCells _ V 0 CS)
                refine hK2.out _ _ (hHeld.far bV.lo 0 CS) (fun hHeld2 => ?_)
                clear hK2 K hHeld
                have hHeld := hHeld2
                clear hHeld2
                try simp only [Act.put, List.getElem_toArray, List.getElem_cons_succ, List.getElem_cons_zero, List.setIfInBounds_toArray, List.set_cons_zero, List.set_cons_succ]
                replace bX := bX.far (Nat.ne_of_lt nXV) 0 CS
                replace bY := bY.far ((Nat.ne_of_lt nVY).symm) 0 CS
                replace bZ := bZ.far ((Nat.ne_of_lt nVZ).symm) 0 CS
                replace bV := bV.fill hCn.out
                refine wpAnyH_done (by kernel_rfl) ?_ _
                go_wp2_with fail
                go_meet
                exact ⟨X, Y, Z, V, rfl, rfl, rfl, rfl, ⟨bX, bY, bZ, bV, Nat.ne_of_lt nXY, Nat.ne_of_lt nXZ, Nat.ne_of_lt nXV, (Nat.ne_of_lt nZY).symm, (Nat.ne_of_lt nVY).symm, (Nat.ne_of_lt nVZ).symm, hHeld⟩⟩
              exact AllReadyH.nil
          exact AllReadyH.nil
      refine AllReadyH.cons rfl (fun K hK2 => ?_) ?_
      · as_aux_lemma =>
          rw [if_pos (by rfl)]
          simp only [List.getElem_toArray, List.getElem_cons_succ, List.getElem_cons_zero]
          obtain ⟨Y, hY⟩ : ∃ n, n = W0.heap.size := ⟨_, rfl⟩
          have bY := BK.new (w := w) (W := W0) #[.int .i64 0, .int .i64 0, .int .i64 0, .int .i64 0, .int .i64 0, .bool false, .bool false, .int .i64 0, .int .i64 0] 23 rfl hHeld.lt
          have al : Below W0.heap.size W0 (W0.alloc (.cells #[.int .i64 0, .int .i64 0, .int .i64 0, .int .i64 0, .int .i64 0, .bool false, .bool false, .int .i64 0, .int .i64 0] 23)) := (Below.refl _ _).alloc (Nat.le_refl _) _
          go_simp
          refine hK2.out _ _ (hHeld.keep al) (fun hHeld2 => ?_)
          clear hK2 K hHeld
          have hHeld := hHeld2
          clear hHeld2
          try simp only [Act.put, List.getElem_toArray, List.getElem_cons_succ, List.getElem_cons_zero, List.setIfInBounds_toArray, List.set_cons_zero, List.set_cons_succ]
          generalize World.alloc _ _ = W1 at hHeld al bY  ⊢
          rw [← hY] at bY ⊢
          clear al hY
          refine wpAnyH_ready (rs := [4, 6, 7]) (by kernel_rfl) (by simp) ?_
          refine AllReadyH.cons rfl (fun K hK2 => ?_) ?_
          · as_aux_lemma =>
              rw [if_pos (by rfl)]
              simp only [List.getElem_toArray, List.getElem_cons_succ, List.getElem_cons_zero]
              obtain ⟨X, hX⟩ : ∃ n, n = W1.heap.size := ⟨_, rfl⟩
              have bX := BK.new (w := w) (W := W1) #[.int .i64 0, .int .i64 0, .int .i64 0, .int .i64 0, .int .i64 0, .bool false, .bool false, .int .i64 0, .int .i64 0] 23 rfl hHeld.lt
              have al : Below W1.heap.size W1 (W1.alloc (.cells #[.int .i64 0, .int .i64 0, .int .i64 0, .int .i64 0, .int .i64 0, .bool false, .bool false, .int .i64 0, .int .i64 0] 23)) := (Below.refl _ _).alloc (Nat.le_refl _) _
              have nYX : Y < X := by rw [hX]; exact bY.hi
              replace bY := bY.keep al
              go_simp
              refine hK2.out _ _ (hHeld.keep al) (fun hHeld2 => ?_)
              clear hK2 K hHeld
              have hHeld := hHeld2
              clear hHeld2
              try simp only [Act.put, List.getElem_toArray, List.getElem_cons_succ, List.getElem_cons_zero, List.setIfInBounds_toArray, List.set_cons_zero, List.set_cons_succ]
              generalize World.alloc _ _ = W2 at hHeld al bX bY ⊢
              rw [← hX] at bX ⊢
              clear al hX
              refine wpAnyH_ready (rs := [6, 7]) (by kernel_rfl) (by simp) ?_
              refine AllReadyH.cons rfl (fun K hK2 => ?_) ?_
              · rw [if_pos (by rfl)]
                simp only [List.getElem_toArray, List.getElem_cons_succ, List.getElem_cons_zero]
                obtain ⟨Z, hZ⟩ : ∃ n, n = W2.heap.size := ⟨_, rfl⟩
                have bZ := BK.new (w := w) (W := W2) #[.int .i64 0, .int .i64 0, .int .i64 0, .int .i64 0, .int .i64 0, .bool false, .bool false, .int .i64 0, .int .i64 0] 23 rfl hHeld.lt
                have al : Below W2.heap.size W2 (W2.alloc (.cells #[.int .i64 0, .int .i64 0, .int .i64 0, .int .i64 0, .int .i64 0, .bool false, .bool false, .int .i64 0, .int .i64 0] 23)) := (Below.refl _ _).alloc (Nat.le_refl _) _
                have nYZ : Y < Z := by rw [hZ]; exact bY.hi
                replace bY := bY.keep al
                have nXZ : X < Z := by rw [hZ]; exact bX.hi
                replace bX := bX.keep al
                go_simp
                refine hK2.out _ _ (hHeld.keep al) (fun hHeld2 => ?_)
                clear hK2 K hHeld
                have hHeld := hHeld2
                clear hHeld2
                try simp only [Act.put, List.getElem_toArray, List.getElem_cons_succ, List.getElem_cons_zero, List.setIfInBounds_toArray, List.set_cons_zero, List.set_cons_succ]
                generalize World.alloc _ _ = W3 at hHeld al bZ bY bX ⊢
                rw [← hZ] at bZ ⊢
                clear al hZ
                refine wpAnyH_ready (rs := [7]) (by kernel_rfl) (by simp) (AllReadyH.cons rfl (fun K hK2 => ?_) AllReadyH.nil)
                rw [if_pos (by rfl)]
                simp only [List.getElem_toArray, List.getElem_cons_succ, List.getElem_cons_zero]
                obtain ⟨V, hV⟩ : ∃ n, n = W3.heap.size := ⟨_, rfl⟩
                have bV := BK.new (w := w) (W := W3) #[.int .i64 0, .int .i64 0, .int .i64 0, .int .i64 0, .int .i64 0, .bool false, .bool false, .int .i64 0, .int .i64 0] 23 rfl hHeld.lt
                have al : Below W3.heap.size W3 (W3.alloc (.cells #[.int .i64 0, .int .i64 0, .int .i64 0, .int .i64 0, .int .i64 0, .bool false, .bool false, .int .i64 0, .int .i64 0] 23)) := (Below.refl _ _).alloc (Nat.le_refl _) _
                have nYV : Y < V := by rw [hV]; exact bY.hi
                replace bY := bY.keep al
                have nXV : X < V := by rw [hV]; exact bX.hi
                replace bX := bX.keep al
                have nZV : Z < V := by rw [hV]; exact bZ.hi
                replace bZ := bZ.keep al
                go_simp
                refine hK2.out _ _ (hHeld.keep al) (fun hHeld2 => ?_)
                clear hK2 K hHeld
                have hHeld := hHeld2
                clear hHeld2
                try simp only [Act.put, List.getElem_toArray, List.getElem_cons_succ, List.getElem_cons_zero, List.setIfInBounds_toArray, List.set_cons_zero, List.set_cons_succ]
                generalize World.alloc _ _ = W4 at hHeld al bV bY bX bZ ⊢
                rw [← hV] at bV ⊢
                clear al hV
                refine wpAnyH_ready (rs := [8]) (by kernel_rfl) (by simp) (AllReadyH.cons rfl (fun K hK2 => ?_) AllReadyH.nil)
                rw [if_pos (by rfl)]
                simp only [List.getElem_toArray, List.getElem_cons_succ, List.getElem_cons_zero]
                refine wp_store_mid 23 _ _ rfl X 0 CS.toArray rfl rfl (fun j hj => bX.t j (by rw [List.size_toArray, hCn.out] at hj; exact hj)) (by rw [List.size_toArray]; exact hsC.out) h1c.out ?_
                change K _ (World.setCells _ X 0 CS)
                refine hK2.out _ _ (hHeld.far bX.lo 0 CS) (fun hHeld2 => ?_)
                clear hK2 K hHeld
                have hHeld := hHeld2
                clear hHeld2
                try simp only [Act.put, List.getElem_toArray, List.getElem_cons_succ, List.getElem_cons_zero, List.setIfInBounds_toArray, List.set_cons_zero, List.set_cons_succ]
                replace bX := bX.fill hCn.out
                replace bY := bY.far (Nat.ne_of_lt nYX) 0 CS
                replace bZ := bZ.far ((Nat.ne_of_lt nXZ).symm) 0 CS
                replace bV := bV.far ((Nat.ne_of_lt nXV).symm) 0 CS
                refine wpAnyH_ready (rs := [9]) (by kernel_rfl) (by simp) (AllReadyH.cons rfl (fun K hK2 => ?_) AllReadyH.nil)
                rw [if_pos (by rfl)]
                simp only [List.getElem_toArray, List.getElem_cons_succ, List.getElem_cons_zero]
                refine wp_store_mid 23 _ _ rfl Y 0 CS.toArray rfl rfl (fun j hj => bY.t j (by rw [List.size_toArray, hCn.out] at hj; exact hj)) (by rw [List.size_toArray]; exact hsC.out) h1c.out ?_
                change K _ (World.setCells _ Y 0 CS)
                refine hK2.out _ _ (hHeld.far bY.lo 0 CS) (fun hHeld2 => ?_)
                clear hK2 K hHeld
                have hHeld := hHeld2
                clear hHeld2
                try simp only [Act.put, List.getElem_toArray, List.getElem_cons_succ, List.getElem_cons_zero, List.setIfInBounds_toArray, List.set_cons_zero, List.set_cons_succ]
                replace bX := bX.far ((Nat.ne_of_lt nYX).symm) 0 CS
                replace bY := bY.fill hCn.out
                replace bZ := bZ.far ((Nat.ne_of_lt nYZ).symm) 0 CS
                replace bV := bV.far ((Nat.ne_of_lt nYV).symm) 0 CS
                refine wpAnyH_ready (rs := [10]) (by kernel_rfl) (by simp) (AllReadyH.cons rfl (fun K hK2 => ?_) AllReadyH.nil)
                rw [if_pos (by rfl)]
                simp only [List.getElem_toArray, List.getElem_cons_succ, List.getElem_cons_zero]
                refine wp_store_mid 23 _ _ rfl Z 0 CS.toArray rfl rfl (fun j hj => bZ.t j (by rw [List.size_toArray, hCn.out] at hj; exact hj)) (by rw [List.size_toArray]; exact hsC.out) h1c.out ?_
                change K _ (World.setCells _ Z 0 CS)
                refine hK2.out _ _ (hHeld.far bZ.lo 0 CS) (fun hHeld2 => ?_)
                clear hK2 K hHeld
                have hHeld := hHeld2
                clear hHeld2
                try simp only [Act.put, List.getElem_toArray, List.getElem_cons_succ, List.getElem_cons_zero, List.setIfInBounds_toArray, List.set_cons_zero, List.set_cons_succ]
                replace bX := bX.far (Nat.ne_of_lt nXZ) 0 CS
                replace bY := bY.far (Nat.ne_of_lt nYZ) 0 CS
                replace bZ := bZ.fill hCn.out
                replace bV := bV.far ((Nat.ne_of_lt nZV).symm) 0 CS
                refine wpAnyH_ready (rs := [11]) (by kernel_rfl) (by simp) (AllReadyH.cons rfl (fun K hK2 => ?_) AllReadyH.nil)
                rw [if_pos (by rfl)]
                simp only [List.getElem_toArray, List.getElem_cons_succ, List.getElem_cons_zero]
                refine wp_store_mid 23 _ _ rfl V 0 CS.toArray rfl rfl (fun j hj => bV.t j (by rw [List.size_toArray, hCn.out] at hj; exact hj)) (by rw [List.size_toArray]; exact hsC.out) h1c.out ?_
                change K _ (World.setCells _ V 0 CS)
                refine hK2.out _ _ (hHeld.far bV.lo 0 CS) (fun hHeld2 => ?_)
                clear hK2 K hHeld
                have hHeld := hHeld2
                clear hHeld2
                try simp only [Act.put, List.getElem_toArray, List.getElem_cons_succ, List.getElem_cons_zero, List.setIfInBounds_toArray, List.set_cons_zero, List.set_cons_succ]
                replace bX := bX.far (Nat.ne_of_lt nXV) 0 CS
                replace bY := bY.far (Nat.ne_of_lt nYV) 0 CS
                replace bZ := bZ.far (Nat.ne_of_lt nZV) 0 CS
                replace bV := bV.fill hCn.out
                refine wpAnyH_done (by kernel_rfl) ?_ _
                go_wp2_with fail
                go_meet
                exact ⟨X, Y, Z, V, rfl, rfl, rfl, rfl, ⟨bX, bY, bZ, bV, (Nat.ne_of_lt nYX).symm, Nat.ne_of_lt nXZ, Nat.ne_of_lt nXV, Nat.ne_of_lt nYZ, Nat.ne_of_lt nYV, Nat.ne_of_lt nZV, hHeld⟩⟩
              refine AllReadyH.cons rfl (fun K hK2 => ?_) ?_
              · rw [if_pos (by rfl)]
                simp only [List.getElem_toArray, List.getElem_cons_succ, List.getElem_cons_zero]
                obtain ⟨V, hV⟩ : ∃ n, n = W2.heap.size := ⟨_, rfl⟩
                have bV := BK.new (w := w) (W := W2) #[.int .i64 0, .int .i64 0, .int .i64 0, .int .i64 0, .int .i64 0, .bool false, .bool false, .int .i64 0, .int .i64 0] 23 rfl hHeld.lt
                have al : Below W2.heap.size W2 (W2.alloc (.cells #[.int .i64 0, .int .i64 0, .int .i64 0, .int .i64 0, .int .i64 0, .bool false, .bool false, .int .i64 0, .int .i64 0] 23)) := (Below.refl _ _).alloc (Nat.le_refl _) _
                have nYV : Y < V := by rw [hV]; exact bY.hi
                replace bY := bY.keep al
                have nXV : X < V := by rw [hV]; exact bX.hi
                replace bX := bX.keep al
                go_simp
                refine hK2.out _ _ (hHeld.keep al) (fun hHeld2 => ?_)
                clear hK2 K hHeld
                have hHeld := hHeld2
                clear hHeld2
                try simp only [Act.put, List.getElem_toArray, List.getElem_cons_succ, List.getElem_cons_zero, List.setIfInBounds_toArray, List.set_cons_zero, List.set_cons_succ]
                generalize World.alloc _ _ = W3 at hHeld al bV bY bX ⊢
                rw [← hV] at bV ⊢
                clear al hV
                refine wpAnyH_ready (rs := [6]) (by kernel_rfl) (by simp) (AllReadyH.cons rfl (fun K hK2 => ?_) AllReadyH.nil)
                rw [if_pos (by rfl)]
                simp only [List.getElem_toArray, List.getElem_cons_succ, List.getElem_cons_zero]
                obtain ⟨Z, hZ⟩ : ∃ n, n = W3.heap.size := ⟨_, rfl⟩
                have bZ := BK.new (w := w) (W := W3) #[.int .i64 0, .int .i64 0, .int .i64 0, .int .i64 0, .int .i64 0, .bool false, .bool false, .int .i64 0, .int .i64 0] 23 rfl hHeld.lt
                have al : Below W3.heap.size W3 (W3.alloc (.cells #[.int .i64 0, .int .i64 0, .int .i64 0, .int .i64 0, .int .i64 0, .bool false, .bool false, .int .i64 0, .int .i64 0] 23)) := (Below.refl _ _).alloc (Nat.le_refl _) _
                have nYZ : Y < Z := by rw [hZ]; exact bY.hi
                replace bY := bY.keep al
                have nXZ : X < Z := by rw [hZ]; exact bX.hi
                replace bX := bX.keep al
                have nVZ : V < Z := by rw [hZ]; exact bV.hi
                replace bV := bV.keep al
                go_simp
                refine hK2.out _ _ (hHeld.keep al) (fun hHeld2 => ?_)
                clear hK2 K hHeld
                have hHeld := hHeld2
                clear hHeld2
                try simp only [Act.put, List.getElem_toArray, List.getElem_cons_succ, List.getElem_cons_zero, List.setIfInBounds_toArray, List.set_cons_zero, List.set_cons_succ]
                generalize World.alloc _ _ = W4 at hHeld al bZ bY bX bV ⊢
                rw [← hZ] at bZ ⊢
                clear al hZ
                refine wpAnyH_ready (rs := [8]) (by kernel_rfl) (by simp) (AllReadyH.cons rfl (fun K hK2 => ?_) AllReadyH.nil)
                rw [if_pos (by rfl)]
                simp only [List.getElem_toArray, List.getElem_cons_succ, List.getElem_cons_zero]
                refine wp_store_mid 23 _ _ rfl X 0 CS.toArray rfl rfl (fun j hj => bX.t j (by rw [List.size_toArray, hCn.out] at hj; exact hj)) (by rw [List.size_toArray]; exact hsC.out) h1c.out ?_
                change K _ (World.setCells _ X 0 CS)
                refine hK2.out _ _ (hHeld.far bX.lo 0 CS) (fun hHeld2 => ?_)
                clear hK2 K hHeld
                have hHeld := hHeld2
                clear hHeld2
                try simp only [Act.put, List.getElem_toArray, List.getElem_cons_succ, List.getElem_cons_zero, List.setIfInBounds_toArray, List.set_cons_zero, List.set_cons_succ]
                replace bX := bX.fill hCn.out
                replace bY := bY.far (Nat.ne_of_lt nYX) 0 CS
                replace bZ := bZ.far ((Nat.ne_of_lt nXZ).symm) 0 CS
                replace bV := bV.far ((Nat.ne_of_lt nXV).symm) 0 CS
                refine wpAnyH_ready (rs := [9]) (by kernel_rfl) (by simp) (AllReadyH.cons rfl (fun K hK2 => ?_) AllReadyH.nil)
                rw [if_pos (by rfl)]
                simp only [List.getElem_toArray, List.getElem_cons_succ, List.getElem_cons_zero]
                refine wp_store_mid 23 _ _ rfl Y 0 CS.toArray rfl rfl (fun j hj => bY.t j (by rw [List.size_toArray, hCn.out] at hj; exact hj)) (by rw [List.size_toArray]; exact hsC.out) h1c.out ?_
                change K _ (World.setCells _ Y 0 CS)
                refine hK2.out _ _ (hHeld.far bY.lo 0 CS) (fun hHeld2 => ?_)
                clear hK2 K hHeld
                have hHeld := hHeld2
                clear hHeld2
                try simp only [Act.put, List.getElem_toArray, List.getElem_cons_succ, List.getElem_cons_zero, List.setIfInBounds_toArray, List.set_cons_zero, List.set_cons_succ]
                replace bX := bX.far ((Nat.ne_of_lt nYX).symm) 0 CS
                replace bY := bY.fill hCn.out
                replace bZ := bZ.far ((Nat.ne_of_lt nYZ).symm) 0 CS
                replace bV := bV.far ((Nat.ne_of_lt nYV).symm) 0 CS
                refine wpAnyH_ready (rs := [10]) (by kernel_rfl) (by simp) (AllReadyH.cons rfl (fun K hK2 => ?_) AllReadyH.nil)
                rw [if_pos (by rfl)]
                simp only [List.getElem_toArray, List.getElem_cons_succ, List.getElem_cons_zero]
                refine wp_store_mid 23 _ _ rfl Z 0 CS.toArray rfl rfl (fun j hj => bZ.t j (by rw [List.size_toArray, hCn.out] at hj; exact hj)) (by rw [List.size_toArray]; exact hsC.out) h1c.out ?_
                change K _ (World.setCells _ Z 0 CS)
                refine hK2.out _ _ (hHeld.far bZ.lo 0 CS) (fun hHeld2 => ?_)
                clear hK2 K hHeld
                have hHeld := hHeld2
                clear hHeld2
                try simp only [Act.put, List.getElem_toArray, List.getElem_cons_succ, List.getElem_cons_zero, List.setIfInBounds_toArray, List.set_cons_zero, List.set_cons_succ]
                replace bX := bX.far (Nat.ne_of_lt nXZ) 0 CS
                replace bY := bY.far (Nat.ne_of_lt nYZ) 0 CS
                replace bZ := bZ.fill hCn.out
                replace bV := bV.far (Nat.ne_of_lt nVZ) 0 CS
                refine wpAnyH_ready (rs := [11]) (by kernel_rfl) (by simp) (AllReadyH.cons rfl (fun K hK2 => ?_) AllReadyH.nil)
                rw [if_pos (by rfl)]
                simp only [List.getElem_toArray, List.getElem_cons_succ, List.getElem_cons_zero]
                refine wp_store_mid 23 _ _ rfl V 0 CS.toArray rfl rfl (fun j hj => bV.t j (by rw [List.size_toArray, hCn.out] at hj; exact hj)) (by rw [List.size_toArray]; exact hsC.out) h1c.out ?_
                change K _ (World.setCells _ V 0 CS)
                refine hK2.out _ _ (hHeld.far bV.lo 0 CS) (fun hHeld2 => ?_)
                clear hK2 K hHeld
                have hHeld := hHeld2
                clear hHeld2
                try simp only [Act.put, List.getElem_toArray, List.getElem_cons_succ, List.getElem_cons_zero, List.setIfInBounds_toArray, List.set_cons_zero, List.set_cons_succ]
                replace bX := bX.far (Nat.ne_of_lt nXV) 0 CS
                replace bY := bY.far (Nat.ne_of_lt nYV) 0 CS
                replace bZ := bZ.far ((Nat.ne_of_lt nVZ).symm) 0 CS
                replace bV := bV.fill hCn.out
                refine wpAnyH_done (by kernel_rfl) ?_ _
                go_wp2_with fail
                go_meet
                exact ⟨X, Y, Z, V, rfl, rfl, rfl, rfl, ⟨bX, bY, bZ, bV, (Nat.ne_of_lt nYX).symm, Nat.ne_of_lt nXZ, Nat.ne_of_lt nXV, Nat.ne_of_lt nYZ, Nat.ne_of_lt nYV, (Nat.ne_of_lt nVZ).symm, hHeld⟩⟩
              exact AllReadyH.nil
          refine AllReadyH.cons rfl (fun K hK2 => ?_) ?_
          · as_aux_lemma =>
              rw [if_pos (by rfl)]
              simp only [List.getElem_toArray, List.getElem_cons_succ, List.getElem_cons_zero]
              obtain ⟨Z, hZ⟩ : ∃ n, n = W1.heap.size := ⟨_, rfl⟩
              have bZ := BK.new (w := w) (W := W1) #[.int .i64 0, .int .i64 0, .int .i64 0, .int .i64 0, .int .i64 0, .bool false, .bool false, .int .i64 0, .int .i64 0] 23 rfl hHeld.lt
              have al : Below W1.heap.size W1 (W1.alloc (.cells #[.int .i64 0, .int .i64 0, .int .i64 0, .int .i64 0, .int .i64 0, .bool false, .bool false, .int .i64 0, .int .i64 0] 23)) := (Below.refl _ _).alloc (Nat.le_refl _) _
              have nYZ : Y < Z := by rw [hZ]; exact bY.hi
              replace bY := bY.keep al
              go_simp
              refine hK2.out _ _ (hHeld.keep al) (fun hHeld2 => ?_)
              clear hK2 K hHeld
              have hHeld := hHeld2
              clear hHeld2
              try simp only [Act.put, List.getElem_toArray, List.getElem_cons_succ, List.getElem_cons_zero, List.setIfInBounds_toArray, List.set_cons_zero, List.set_cons_succ]
              generalize World.alloc _ _ = W2 at hHeld al bZ bY ⊢
              rw [← hZ] at bZ ⊢
              clear al hZ
              refine wpAnyH_ready (rs := [4, 7]) (by kernel_rfl) (by simp) ?_
              refine AllReadyH.cons rfl (fun K hK2 => ?_) ?_
              · rw [if_pos (by rfl)]
                simp only [List.getElem_toArray, List.getElem_cons_succ, List.getElem_cons_zero]
                obtain ⟨X, hX⟩ : ∃ n, n = W2.heap.size := ⟨_, rfl⟩
                have bX := BK.new (w := w) (W := W2) #[.int .i64 0, .int .i64 0, .int .i64 0, .int .i64 0, .int .i64 0, .bool false, .bool false, .int .i64 0, .int .i64 0] 23 rfl hHeld.lt
                have al : Below W2.heap.size W2 (W2.alloc (.cells #[.int .i64 0, .int .i64 0, .int .i64 0, .int .i64 0, .int .i64 0, .bool false, .bool false, .int .i64 0, .int .i64 0] 23)) := (Below.refl _ _).alloc (Nat.le_refl _) _
                have nYX : Y < X := by rw [hX]; exact bY.hi
                replace bY := bY.keep al
                have nZX : Z < X := by rw [hX]; exact bZ.hi
                replace bZ := bZ.keep al
                go_simp
                refine hK2.out _ _ (hHeld.keep al) (fun hHeld2 => ?_)
                clear hK2 K hHeld
                have hHeld := hHeld2
                clear hHeld2
                try simp only [Act.put, List.getElem_toArray, List.getElem_cons_succ, List.getElem_cons_zero, List.setIfInBounds_toArray, List.set_cons_zero, List.set_cons_succ]
                generalize World.alloc _ _ = W3 at hHeld al bX bY bZ ⊢
                rw [← hX] at bX ⊢
                clear al hX
                refine wpAnyH_ready (rs := [7]) (by kernel_rfl) (by simp) (AllReadyH.cons rfl (fun K hK2 => ?_) AllReadyH.nil)
                rw [if_pos (by rfl)]
                simp only [List.getElem_toArray, List.getElem_cons_succ, List.getElem_cons_zero]
                obtain ⟨V, hV⟩ : ∃ n, n = W3.heap.size := ⟨_, rfl⟩
                have bV := BK.new (w := w) (W := W3) #[.int .i64 0, .int .i64 0, .int .i64 0, .int .i64 0, .int .i64 0, .bool false, .bool false, .int .i64 0, .int .i64 0] 23 rfl hHeld.lt
                have al : Below W3.heap.size W3 (W3.alloc (.cells #[.int .i64 0, .int .i64 0, .int .i64 0, .int .i64 0, .int .i64 0, .bool false, .bool false, .int .i64 0, .int .i64 0] 23)) := (Below.refl _ _).alloc (Nat.le_refl _) _
                have nYV : Y < V := by rw [hV]; exact bY.hi
                replace bY := bY.keep al
                have nZV : Z < V := by rw [hV]; exact bZ.hi
                replace bZ := bZ.keep al
                have nXV : X < V := by rw [hV]; exact bX.hi
                replace bX := bX.keep al
                go_simp
                refine hK2.out _ _ (hHeld.keep al) (fun hHeld2 => ?_)
                clear hK2 K hHeld
                have hHeld := hHeld2
                clear hHeld2
                try simp only [Act.put, List.getElem_toArray, List.getElem_cons_succ, List.getElem_cons_zero, List.setIfInBounds_toArray, List.set_cons_zero, List.set_cons_succ]
                generalize World.alloc _ _ = W4 at hHeld al bV bY bZ bX ⊢
                rw [← hV] at bV ⊢
                clear al hV
                refine wpAnyH_ready (rs := [8]) (by kernel_rfl) (by simp) (AllReadyH.cons rfl (fun K hK2 => ?_) AllReadyH.nil)
                rw [if_pos (by rfl)]
                simp only [List.getElem_toArray, List.getElem_cons_succ, List.getElem_cons_zero]
                refine wp_store_mid 23 _ _ rfl X 0 CS.toArray rfl rfl (fun j hj => bX.t j (by rw [List.size_toArray, hCn.out] at hj; exact hj)) (by rw [List.size_toArray]; exact hsC.out) h1c.out ?_
                change K _ (World.setCells _ X 0 CS)
                refine hK2.out _ _ (hHeld.far bX.lo 0 CS) (fun hHeld2 => ?_)
                clear hK2 K hHeld
                have hHeld := hHeld2
                clear hHeld2
                try simp only [Act.put, List.getElem_toArray, List.getElem_cons_succ, List.getElem_cons_zero, List.setIfInBounds_toArray, List.set_cons_zero, List.set_cons_succ]
                replace bX := bX.fill hCn.out
                replace bY := bY.far (Nat.ne_of_lt nYX) 0 CS
                replace bZ := bZ.far (Nat.ne_of_lt nZX) 0 CS
                replace bV := bV.far ((Nat.ne_of_lt nXV).symm) 0 CS
                refine wpAnyH_ready (rs := [9]) (by kernel_rfl) (by simp) (AllReadyH.cons rfl (fun K hK2 => ?_) AllReadyH.nil)
                rw [if_pos (by rfl)]
                simp only [List.getElem_toArray, List.getElem_cons_succ, List.getElem_cons_zero]
                refine wp_store_mid 23 _ _ rfl Y 0 CS.toArray rfl rfl (fun j hj => bY.t j (by rw [List.size_toArray, hCn.out] at hj; exact hj)) (by rw [List.size_toArray]; exact hsC.out) h1c.out ?_
                change K _ (World.setCells _ Y 0 CS)
                refine hK2.out _ _ (hHeld.far bY.lo 0 CS) (fun hHeld2 => ?_)
                clear hK2 K hHeld
                have hHeld := hHeld2
                clear hHeld2
                try simp only [Act.put, List.getElem_toArray, List.getElem_cons_succ, List.getElem_cons_zero, List.setIfInBounds_toArray, List.set_cons_zero, List.set_cons_succ]
                replace bX := bX.far ((Nat.ne_of_lt nYX).symm) 0 CS
                replace bY := bY.fill hCn.out
                replace bZ := bZ.far ((Nat.ne_of_lt nYZ).symm) 0 CS
                replace bV := bV.far ((Nat.ne_of_lt nYV).symm) 0 CS
                refine wpAnyH_ready (rs := [10]) (by kernel_rfl) (by simp) (AllReadyH.cons rfl (fun K hK2 => ?_) AllReadyH.nil)
                rw [if_pos (by rfl)]
                simp only [List.getElem_toArray, List.getElem_cons_succ, List.getElem_cons_zero]
                refine wp_store_mid 23 _ _ rfl Z 0 CS.toArray rfl rfl (fun j hj => bZ.t j (by rw [List.size_toArray, hCn.out] at hj; exact hj)) (by rw [List.size_toArray]; exact hsC.out) h1c.out ?_
                change K _ (World.setCells _ Z 0 CS)
                refine hK2.out _ _ (hHeld.far bZ.lo 0 CS) (fun hHeld2 => ?_)
                clear hK2 K hHeld
                have hHeld := hHeld2
                clear hHeld2
                try simp only [Act.put, List.getElem_toArray, List.getElem_cons_succ, List.getElem_cons_zero, List.setIfInBounds_toArray, List.set_cons_zero, List.set_cons_succ]
                replace bX := bX.far ((Nat.ne_of_lt nZX).symm) 0 CS
                replace bY := bY.far (Nat.ne_of_lt nYZ) 0 CS
                replace bZ := bZ.fill hCn.out
                replace bV := bV.far ((Nat.ne_of_lt nZV).symm) 0 CS
                refine wpAnyH_ready (rs := [11]) (by kernel_rfl) (by simp) (AllReadyH.cons rfl (fun K hK2 => ?_) AllReadyH.nil)
                rw [if_pos (by rfl)]
                simp only [List.getElem_toArray, List.getElem_cons_succ, List.getElem_cons_zero]
                refine wp_store_mid 23 _ _ rfl V 0 CS.toArray rfl rfl (fun j hj => bV.t j (by rw [List.size_toArray, hCn.out] at hj; exact hj)) (by rw [List.size_toArray]; exact hsC.out) h1c.out ?_
                change K _ (World.setCells _ V 0 CS)
                refine hK2.out _ _ (hHeld.far bV.lo 0 CS) (fun hHeld2 => ?_)
                clear hK2 K hHeld
                have hHeld := hHeld2
                clear hHeld2
                try simp only [Act.put, List.getElem_toArray, List.getElem_cons_succ, List.getElem_cons_zero, List.setIfInBounds_toArray, List.set_cons_zero, List.set_cons_succ]
                replace bX := bX.far (Nat.ne_of_lt nXV) 0 CS
                replace bY := bY.far (Nat.ne_of_lt nYV) 0 CS
                replace bZ := bZ.far (Nat.ne_of_lt nZV) 0 CS
                replace bV := bV.fill hCn.out
                refine wpAnyH_done (by kernel_rfl) ?_ _
                go_wp2_with fail
                go_meet
                exact ⟨X, Y, Z, V, rfl, rfl, rfl, rfl, ⟨bX, bY, bZ, bV, (Nat.ne_of_lt nYX).symm, (Nat.ne_of_lt nZX).symm, Nat.ne_of_lt nXV, Nat.ne_of_lt nYZ, Nat.ne_of_lt nYV, Nat.ne_of_lt nZV, hHeld⟩⟩
              refine AllReadyH.cons rfl (fun K hK2 => ?_) ?_
              · rw [if_pos (by rfl)]
                simp only [List.getElem_toArray, List.getElem_cons_succ, List.getElem_cons_zero]
                obtain ⟨V, hV⟩ : ∃ n, n = W2.heap.size := ⟨_, rfl⟩
                have bV := BK.new (w := w) (W := W2) #[.int .i64 0, .int .i64 0, .int .i64 0, .int .i64 0, .int .i64 0, .bool false, .bool false, .int .i64 0, .int .i64 0] 23 rfl hHeld.lt
                have al : Below W2.heap.size W2 (W2.alloc (.cells #[.int .i64 0, .int .i64 0, .int .i64 0, .int .i64 0, .int .i64 0, .bool false, .bool false, .int .i64 0, .int .i64 0] 23)) := (Below.refl _ _).alloc (Nat.le_refl _) _
                have nYV : Y < V := by rw [hV]; exact bY.hi
                replace bY := bY.keep al
                have nZV : Z < V := by rw [hV]; exact bZ.hi
                replace bZ := bZ.keep al
                go_simp
                refine hK2.out _ _ (hHeld.keep al) (fun hHeld2 => ?_)
                clear hK2 K hHeld
                have hHeld := hHeld2
                clear hHeld2
                try simp only [Act.put, List.getElem_toArray, List.getElem_cons_succ, List.getElem_cons_zero, List.setIfInBounds_toArray, List.set_cons_zero, List.set_cons_succ]
                generalize World.alloc _ _ = W3 at hHeld al bV bY bZ ⊢
                rw [← hV] at bV ⊢
                clear al hV
                refine wpAnyH_ready (rs := [4]) (by kernel_rfl) (by simp) (AllReadyH.cons rfl (fun K hK2 => ?_) AllReadyH.nil)
                rw [if_pos (by rfl)]
                simp only [List.getElem_toArray, List.getElem_cons_succ, List.getElem_cons_zero]
                obtain ⟨X, hX⟩ : ∃ n, n = W3.heap.size := ⟨_, rfl⟩
                have bX := BK.new (w := w) (W := W3) #[.int .i64 0, .int .i64 0, .int .i64 0, .int .i64 0, .int .i64 0, .bool false, .bool false, .int .i64 0, .int .i64 0] 23 rfl hHeld.lt
                have al : Below W3.heap.size W3 (W3.alloc (.cells #[.int .i64 0, .int .i64 0, .int .i64 0, .int .i64 0, .int .i64 0, .bool false, .bool false, .int .i64 0, .int .i64 0] 23)) := (Below.refl _ _).alloc (Nat.le_refl _) _
                have nYX : Y < X := by rw [hX]; exact bY.hi
                replace bY := bY.keep al
                have nZX : Z < X := by rw [hX]; exact bZ.hi
                replace bZ := bZ.keep al
                have nVX : V < X := by rw [hX]; exact bV.hi
                replace bV := bV.keep al
                go_simp
                refine hK2.out _ _ (hHeld.keep al) (fun hHeld2 => ?_)
                clear hK2 K hHeld
                have hHeld := hHeld2
                clear hHeld2
                try simp only [Act.put, List.getElem_toArray, List.getElem_cons_succ, List.getElem_cons_zero, List.setIfInBounds_toArray, List.set_cons_zero, List.set_cons_succ]
                generalize World.alloc _ _ = W4 at hHeld al bX bY bZ bV ⊢
                rw [← hX] at bX ⊢
                clear al hX
                refine wpAnyH_ready (rs := [8]) (by kernel_rfl) (by simp) (AllReadyH.cons rfl (fun K hK2 => ?_) AllReadyH.nil)
                rw [if_pos (by rfl)]
                simp only [List.getElem_toArray, List.getElem_cons_succ, List.getElem_cons_zero]
                refine wp_store_mid 23 _ _ rfl X 0 CS.toArray rfl rfl (fun j hj => bX.t j (by rw [List.size_toArray, hCn.out] at hj; exact hj)) (by rw [List.size_toArray]; exact hsC.out) h1c.out ?_
                change K _ (World.setCells _ X 0 CS)
                refine hK2.out _ _ (hHeld.far bX.lo 0 CS) (fun hHeld2 => ?_)
                clear hK2 K hHeld
                have hHeld := hHeld2
                clear hHeld2
                try simp only [Act.put, List.getElem_toArray, List.getElem_cons_succ, List.getElem_cons_zero, List.setIfInBounds_toArray, List.set_cons_zero, List.set_cons_succ]
                replace bX := bX.fill hCn.out
                replace bY := bY.far (Nat.ne_of_lt nYX) 0 CS
                replace bZ := bZ.far (Nat.ne_of_lt nZX) 0 CS
                replace bV := bV.far (Nat.ne_of_lt nVX) 0 CS
                refine wpAnyH_ready (rs := [9]) (by kernel_rfl) (by simp) (AllReadyH.cons rfl (fun K hK2 => ?_) AllReadyH.nil)
                rw [if_pos (by rfl)]
                simp only [List.getElem_toArray, List.getElem_cons_succ, List.getElem_cons_zero]
                refine wp_store_mid 23 _ _ rfl Y 0 CS.toArray rfl rfl (fun j hj => bY.t j (by rw [List.size_toArray, hCn.out] at hj; exact hj)) (by rw [List.size_toArray]; exact hsC.out) h1c.out ?_
                change K _ (World.setCells _ Y 0 CS)
                refine hK2.out _ _ (hHeld.far bY.lo 0 CS) (fun hHeld2 => ?_)
                clear hK2 K hHeld
                have hHeld := hHeld2
                clear hHeld2
                try simp only [Act.put, List.getElem_toArray, List.getElem_cons_succ, List.getElem_cons_zero, List.setIfInBounds_toArray, List.set_cons_zero, List.set_cons_succ]
                replace bX := bX.far ((Nat.ne_of_lt nYX).symm) 0 CS
                replace bY := bY.fill hCn.out
                replace bZ := bZ.far ((Nat.ne_of_lt nYZ).symm) 0 CS
                replace bV := bV.far ((Nat.ne_of_lt nYV).symm) 0 CS
                refine wpAnyH_ready (rs := [10]) (by kernel_rfl) (by simp) (AllReadyH.cons rfl (fun K hK2 => ?_) AllReadyH.nil)
                rw [if_pos (by rfl)]
                simp only [List.getElem_toArray, List.getElem_cons_succ, List.getElem_cons_zero]
                refine wp_store_mid 23 _ _ rfl Z 0 CS.toArray rfl rfl (fun j hj => bZ.t j (by rw [List.size_toArray, hCn.out] at hj; exact hj)) (by rw [List.size_toArray]; exact hsC.out) h1c.out ?_
                change K _ (World.setCells _ Z 0 CS)
                refine hK2.out _ _ (hHeld.far bZ.lo 0 CS) (fun hHeld2 => ?_)
                clear hK2 K hHeld
                have hHeld := hHeld2
                clear hHeld2
                try simp only [Act.put, List.getElem_toArray, List.getElem_cons_succ, List.getElem_cons_zero, List.setIfInBounds_toArray, List.set_cons_zero, List.set_cons_succ]
                replace bX := bX.far ((Nat.ne_of_lt nZX).symm) 0 CS
                replace bY := bY.far (Nat.ne_of_lt nYZ) 0 CS
                replace bZ := bZ.fill hCn.out
                replace bV := bV.far ((Nat.ne_of_lt nZV).symm) 0 CS
                refine wpAnyH_ready (rs := [11]) (by kernel_rfl) (by simp) (AllReadyH.cons rfl (fun K hK2 => ?_) AllReadyH.nil)
                rw [if_pos (by rfl)]
                simp only [List.getElem_toArray, List.getElem_cons_succ, List.getElem_cons_zero]
                refine wp_store_mid 23 _ _ rfl V 0 CS.toArray rfl rfl (fun j hj => bV.t j (by rw [List.size_toArray, hCn.out] at hj; exact hj)) (by rw [List.size_toArray]; exact hsC.out) h1c.out ?_
                change K _ (World.setCells _ V 0 CS)
                refine hK2.out _ _ (hHeld.far bV.lo 0 CS) (fun hHeld2 => ?_)
                clear hK2 K hHeld
                have hHeld := hHeld2
                clear hHeld2
                try simp only [Act.put, List.getElem_toArray, List.getElem_cons_succ, List.getElem_cons_zero, List.setIfInBounds_toArray, List.set_cons_zero, List.set_cons_succ]
                replace bX := bX.far ((Nat.ne_of_lt nVX).symm) 0 CS
                replace bY := bY.far (Nat.ne_of_lt nYV) 0 CS
                replace bZ := bZ.far (Nat.ne_of_lt nZV) 0 CS
                replace bV := bV.fill hCn.out
                refine wpAnyH_done (by kernel_rfl) ?_ _
                go_wp2_with fail
                go_meet
                exact ⟨X, Y, Z, V, rfl, rfl, rfl, rfl, ⟨bX, bY, bZ, bV, (Nat.ne_of_lt nYX).symm, (Nat.ne_of_lt nZX).symm, (Nat.ne_of_lt nVX).symm, Nat.ne_of_lt nYZ, Nat.ne_of_lt nYV, Nat.ne_of_lt nZV, hHeld⟩⟩
              exact AllReadyH.nil
          refine AllReadyH.cons rfl (fun K hK2 => ?_) ?_
          · as_aux_lemma =>
              rw [if_pos (by rfl)]
              simp only [List.getElem_toArray, List.getElem_cons_succ, List.getElem_cons_zero]
              obtain ⟨V, hV⟩ : ∃ n, n = W1.heap.size := ⟨_, rfl⟩
              have bV := BK.new (w := w) (W := W1) #[.int .i64 0, .int .i64 0, .int .i64 0, .int .i64 0, .int .i64 0, .bool false, .bool false, .int .i64 0, .int .i64 0] 23 rfl hHeld.lt
              have al : Below W1.heap.size W1 (W1.alloc (.cells #[.int .i64 0, .int .i64 0, .int .i64 0, .int .i64 0, .int .i64 0, .bool false, .bool false, .int .i64 0, .int .i64 0] 23)) := (Below.refl _ _).alloc (Nat.le_refl _) _
              have nYV : Y < V := by rw [hV]; exact bY.hi
              replace bY := bY.keep al
              go_simp
              refine hK2.out _ _ (hHeld.keep al) (fun hHeld2 => ?_)
              clear hK2 K hHeld
              have hHeld := hHeld2
              clear hHeld2
              try simp only [Act.put, List.getElem_toArray, List.getElem_cons_succ, List.getElem_cons_zero, List.setIfInBounds_toArray, List.set_cons_zero, List.set_cons_succ]
              generalize World.alloc _ _ = W2 at hHeld al bV bY ⊢
              rw [← hV] at bV ⊢
              clear al hV
              refine wpAnyH_ready (rs := [4, 6]) (by kernel_rfl) (by simp) ?_
              refine AllReadyH.cons rfl (fun K hK2 => ?_) ?_
              · rw [if_pos (by rfl)]
                simp only [List.getElem_toArray, List.getElem_cons_succ, List.getElem_cons_zero]
                obtain ⟨X, hX⟩ : ∃ n, n = W2.heap.size := ⟨_, rfl⟩
                have bX := BK.new (w := w) (W := W2) #[.int .i64 0, .int .i64 0, .int .i64 0, .int .i64 0, .int .i64 0, .bool false, .bool false, .int .i64 0, .int .i64 0] 23 rfl hHeld.lt
                have al : Below W2.heap.size W2 (W2.alloc (.cells #[.int .i64 0, .int .i64 0, .int .i64 0, .int .i64 0, .int .i64 0, .bool false, .bool false, .int .i64 0, .int .i64 0] 23)) := (Below.refl _ _).alloc (Nat.le_refl _) _
                have nYX : Y < X := by rw [hX]; exact bY.hi
                replace bY := bY.keep al
                have nVX : V < X := by rw [hX]; exact bV.hi
                replace bV := bV.keep al
                go_simp
                refine hK2.out _ _ (hHeld.keep al) (fun hHeld2 => ?_)
                clear hK2 K hHeld
                have hHeld := hHeld2
                clear hHeld2
                try simp only [Act.put, List.getElem_toArray, List.getElem_cons_succ, List.getElem_cons_zero, List.setIfInBounds_toArray, List.set_cons_zero, List.set_cons_succ]
                generalize World.alloc _ _ = W3 at hHeld al bX bY bV ⊢
                rw [← hX] at bX ⊢
                clear al hX
                refine wpAnyH_ready (rs := [6]) (by kernel_rfl) (by simp) (AllReadyH.cons rfl (fun K hK2 => ?_) AllReadyH.nil)
                rw [if_pos (by rfl)]
                simp only [List.getElem_toArray, List.getElem_cons_succ, List.getElem_cons_zero]
                obtain ⟨Z, hZ⟩ : ∃ n, n = W3.heap.size := ⟨_, rfl⟩
                have bZ := BK.new (w := w) (W := W3) #[.int .i64 0, .int .i64 0, .int .i64 0, .int .i64 0, .int .i64 0, .bool false, .bool false, .int .i64 0, .int .i64 0] 23 rfl hHeld.lt
                have al : Below W3.heap.size W3 (W3.alloc (.cells #[.int .i64 0, .int .i64 0, .int .i64 0, .int .i64 0, .int .i64 0, .bool false, .bool false, .int .i64 0, .int .i64 0] 23)) := (Below.refl _ _).alloc (Nat.le_refl _) _
                have nYZ : Y < Z := by rw [hZ]; exact bY.hi
                replace bY := bY.keep al
                have nVZ : V < Z := by rw [hZ]; exact bV.hi
                replace bV := bV.keep al
                have nXZ : X < Z := by rw [hZ]; exact bX.hi
                replace bX := bX.keep al
                go_simp
                refine hK2.out _ _ (hHeld.keep al) (fun hHeld2 => ?_)
                clear hK2 K hHeld
                have hHeld := hHeld2
                clear hHeld2
                try simp only [Act.put, List.getElem_toArray, List.getElem_cons_succ, List.getElem_cons_zero, List.setIfInBounds_toArray, List.set_cons_zero, List.set_cons_succ]
                generalize World.alloc _ _ = W4 at hHeld al bZ bY bV bX ⊢
                rw [← hZ] at bZ ⊢
                clear al hZ
                refine wpAnyH_ready (rs := [8]) (by kernel_rfl) (by simp) (AllReadyH.cons rfl (fun K hK2 => ?_) AllReadyH.nil)
                rw [if_pos (by rfl)]
                simp only [List.getElem_toArray, List.getElem_cons_succ, List.getElem_cons_zero]
                refine wp_store_mid 23 _ _ rfl X 0 CS.toArray rfl rfl (fun j hj => bX.t j (by rw [List.size_toArray, hCn.out] at hj; exact hj)) (by rw [List.size_toArray]; exact hsC.out) h1c.out ?_
                change K _ (World.setCells _ X 0 CS)
                refine hK2.out _ _ (hHeld.far bX.lo 0 CS) (fun hHeld2 => ?_)
                clear hK2 K hHeld
                have hHeld := hHeld2
                clear hHeld2
                try simp only [Act.put, List.getElem_toArray, List.getElem_cons_succ, List.getElem_cons_zero, List.setIfInBounds_toArray, List.set_cons_zero, List.set_cons_succ]
                replace bX := bX.fill hCn.out
                replace bY := bY.far (Nat.ne_of_lt nYX) 0 CS
                replace bZ := bZ.far ((Nat.ne_of_lt nXZ).symm) 0 CS
                replace bV := bV.far (Nat.ne_of_lt nVX) 0 CS
                refine wpAnyH_ready (rs := [9]) (by kernel_rfl) (by simp) (AllReadyH.cons rfl (fun K hK2 => ?_) AllReadyH.nil)
                rw [if_pos (by rfl)]
                simp only [List.getElem_toArray, List.getElem_cons_succ, List.getElem_cons_zero]
                refine wp_store_mid 23 _ _ rfl Y 0 CS.toArray rfl rfl (fun j hj => bY.t j (by rw [List.size_toArray, hCn.out] at hj; exact hj)) (by rw [List.size_toArray]; exact hsC.out) h1c.out ?_
                change K _ (World.setCells _ Y 0 CS)
                refine hK2.out _ _ (hHeld.far bY.lo 0 CS) (fun hHeld2 => ?_)
                clear hK2 K hHeld
                have hHeld := hHeld2
                clear hHeld2
                try simp only [Act.put, List.getElem_toArray, List.getElem_cons_succ, List.getElem_cons_zero, List.setIfInBounds_toArray, List.set_cons_zero, List.set_cons_succ]
                replace bX := bX.far ((Nat.ne_of_lt nYX).symm) 0 CS
                replace bY := bY.fill hCn.out
                replace bZ := bZ.far ((Nat.ne_of_lt nYZ).symm) 0 CS
                replace bV := bV.far ((Nat.ne_of_lt nYV).symm) 0 CS
                refine wpAnyH_ready (rs := [10]) (by kernel_rfl) (by simp) (AllReadyH.cons rfl (fun K hK2 => ?_) AllReadyH.nil)
                rw [if_pos (by rfl)]
                simp only [List.getElem_toArray, List.getElem_cons_succ, List.getElem_cons_zero]
                refine wp_store_mid 23 _ _ rfl Z 0 CS.toArray rfl rfl (fun j hj => bZ.t j (by rw [List.size_toArray, hCn.out] at hj; exact hj)) (by rw [List.size_toArray]; exact hsC.out) h1c.out ?_
                change K _ (World.setCells _ Z 0 CS)
                refine hK2.out _ _ (hHeld.far bZ.lo 0 CS) (fun hHeld2 => ?_)
                clear hK2 K hHeld
                have hHeld := hHeld2
                clear hHeld2
                try simp only [Act.put, List.getElem_toArray, List.getElem_cons_succ, List.getElem_cons_zero, List.setIfInBounds_toArray, List.set_cons_zero, List.set_cons_succ]
                replace bX := bX.far (Nat.ne_of_lt nXZ) 0 CS
                replace bY := bY.far (Nat.ne_of_lt nYZ) 0 CS
                replace bZ := bZ.fill hCn.out
                replace bV := bV.far (Nat.ne_of_lt nVZ) 0 CS
                refine wpAnyH_ready (rs := [11]) (by kernel_rfl) (by simp) (AllReadyH.cons rfl (fun K hK2 => ?_) AllReadyH.nil)
                rw [if_pos (by rfl)]
                simp only [List.getElem_toArray, List.getElem_cons_succ, List.getElem_cons_zero]
                refine wp_store_mid 23 _ _ rfl V 0 CS.toArray rfl rfl (fun j hj => bV.t j (by rw [List.size_toArray, hCn.out] at hj; exact hj)) (by rw [List.size_toArray]; exact hsC.out) h1c.out ?_
                change K _ (World.setCells _ V 0 CS)
                refine hK2.out _ _ (hHeld.far bV.lo 0 CS) (fun hHeld2 => ?_)
                clear hK2 K hHeld
                have hHeld := hHeld2
                clear hHeld2
                try simp only [Act.put, List.getElem_toArray, List.getElem_cons_succ, List.getElem_cons_zero, List.setIfInBounds_toArray, List.set_cons_zero, List.set_cons_succ]
                replace bX := bX.far ((Nat.ne_of_lt nVX).symm) 0 CS
                replace bY := bY.far (Nat.ne_of_lt nYV) 0 CS
                replace bZ := bZ.far ((Nat.ne_of_lt nVZ).symm) 0 CS
                replace bV := bV.fill hCn.out
                refine wpAnyH_done (by kernel_rfl) ?_ _
                go_wp2_with fail
                go_meet
                exact ⟨X, Y, Z, V, rfl, rfl, rfl, rfl, ⟨bX, bY, bZ, bV, (Nat.ne_of_lt nYX).symm, Nat.ne_of_lt nXZ, (Nat.ne_of_lt nVX).symm, Nat.ne_of_lt nYZ, Nat.ne_of_lt nYV, (Nat.ne_of_lt nVZ).symm, hHeld⟩⟩
              refine AllReadyH.cons rfl (fun K hK2 => ?_) ?_
              · rw [if_pos (by rfl)]
                simp only [List.getElem_toArray, List.getElem_cons_succ, List.getElem_cons_zero]
                obtain ⟨Z, hZ⟩ : ∃ n, n = W2.heap.size := ⟨_, rfl⟩
                have bZ := BK.new (w := w) (W := W2) #[.int .i64 0, .int .i64 0, .int .i64 0, .int .i64 0, .int .i64 0, .bool false, .bool false, .int .i64 0, .int .i64 0] 23 rfl hHeld.lt
                have al : Below W2.heap.size W2 (W2.alloc (.cells #[.int .i64 0, .int .i64 0, .int .i64 0, .int .i64 0, .int .i64 0, .bool false, .bool false, .int .i64 0, .int .i64 0] 23)) := (Below.refl _ _).alloc (Nat.le_refl _) _
                have nYZ : Y < Z := by rw [hZ]; exact bY.hi
                replace bY := bY.keep al
                have nVZ : V < Z := by rw [hZ]; exact bV.hi
                replace bV := bV.keep al
                go_simp
                refine hK2.out _ _ (hHeld.keep al) (fun hHeld2 => ?_)
                clear hK2 K hHeld
                have hHeld := hHeld2
                clear hHeld2
                try simp only [Act.put, List.getElem_toArray, List.getElem_cons_succ, List.getElem_cons_zero, List.setIfInBounds_toArray, List.set_cons_zero, List.set_cons_succ]
                generalize World.alloc _ _ = W3 at hHeld al bZ bY bV ⊢
                rw [← hZ] at bZ ⊢
                clear al hZ
                refine wpAnyH_ready (rs := [4]) (by kernel_rfl) (by simp) (AllReadyH.cons rfl (fun K hK2 => ?_) AllReadyH.nil)
                rw [if_pos (by rfl)]
                simp only [List.getElem_toArray, List.getElem_cons_succ, List.getElem_cons_zero]
                obtain ⟨X, hX⟩ : ∃ n, n = W3.heap.size := ⟨_, rfl⟩
                have bX := BK.new (w := w) (W := W3) #[.int .i64 0, .int .i64 0, .int .i64 0, .int .i64 0, .int .i64 0, .bool false, .bool false, .int .i64 0, .int .i64 0] 23 rfl hHeld.lt
                have al : Below W3.heap.size W3 (W3.alloc (.cells #[.int .i64 0, .int .i64 0, .int .i64 0, .int .i64 0, .int .i64 0, .bool false, .bool false, .int .i64 0, .int .i64 0] 23)) := (Below.refl _ _).alloc (Nat.le_refl _) _
                have nYX : Y < X := by rw [hX]; exact bY.hi
                replace bY := bY.keep al
                have nVX : V < X := by rw [hX]; exact bV.hi
                replace bV := bV.keep al
                have nZX : Z < X := by rw [hX]; exact bZ.hi
                replace bZ := bZ.keep al
                go_simp
                refine hK2.out _ _ (hHeld.keep al) (fun hHeld2 => ?_)
                clear hK2 K hHeld
                have hHeld := hHeld2
                clear hHeld2
                try simp only [Act.put, List.getElem_toArray, List.getElem_cons_succ, List.getElem_cons_zero, List.setIfInBounds_toArray, List.set_cons_zero, List.set_cons_succ]
                generalize World.alloc _ _ = W4 at hHeld al bX bY bV bZ ⊢
                rw [← hX] at bX ⊢
                clear al hX
                refine wpAnyH_ready (rs := [8]) (by kernel_rfl) (by simp) (AllReadyH.cons rfl (fun K hK2 => ?_) AllReadyH.nil)
                rw [if_pos (by rfl)]
                simp only [List.getElem_toArray, List.getElem_cons_succ, List.getElem_cons_zero]
                refine wp_store_mid 23 _ _ rfl X 0 CS.toArray rfl rfl (fun j hj => bX.t j (by rw [List.size_toArray, hCn.out] at hj; exact hj)) (by rw [List.size_toArray]; exact hsC.out) h1c.out ?_
                change K _ (World.setCells _ X 0 CS)
                refine hK2.out _ _ (hHeld.far bX.lo 0 CS) (fun hHeld2 => ?_)
                clear hK2 K hHeld
                have hHeld := hHeld2
                clear hHeld2
                try simp only [Act.put, List.getElem_toArray, List.getElem_cons_succ, List.getElem_cons_zero, List.setIfInBounds_toArray, List.set_cons_zero, List.set_cons_succ]
                replace bX := bX.fill hCn.out
                replace bY := bY.far (Nat.ne_of_lt nYX) 0 CS
                replace bZ := bZ.far (Nat.ne_of_lt nZX) 0 CS
                replace bV := bV.far (Nat.ne_of_lt nVX) 0 CS
                refine wpAnyH_ready (rs := [9]) (by kernel_rfl) (by simp) (AllReadyH.cons rfl (fun K hK2 => ?_) AllReadyH.nil)
                rw [if_pos (by rfl)]
                simp only [List.getElem_toArray, List.getElem_cons_succ, List.getElem_cons_zero]
                refine wp_store_mid 23 _ _ rfl Y 0 CS.toArray rfl rfl (fun j hj => bY.t j (by rw [List.size_toArray, hCn.out] at hj; exact hj)) (by rw [List.size_toArray]; exact hsC.out) h1c.out ?_
                change K _ (World.setCells _ Y 0 CS)
                refine hK2.out _ _ (hHeld.far bY.lo 0 CS) (fun hHeld2 => ?_)
                clear hK2 K hHeld
                have hHeld := hHeld2
                clear hHeld2
                try simp only [Act.put, List.getElem_toArray, List.getElem_cons_succ, List.getElem_cons_zero, List.setIfInBounds_toArray, List.set_cons_zero, List.set_cons_succ]
                replace bX := bX.far ((Nat.ne_of_lt nYX).symm) 0 CS
                replace bY := bY.fill hCn.out
                replace bZ := bZ.far ((Nat.ne_of_lt nYZ).symm) 0 CS
                replace bV := bV.far ((Nat.ne_of_lt nYV).symm) 0 CS
                refine wpAnyH_ready (rs := [10]) (by kernel_rfl) (by simp) (AllReadyH.cons rfl (fun K hK2 => ?_) AllReadyH.nil)
                rw [if_pos (by rfl)]
                simp only [List.getElem_toArray, List.getElem_cons_succ, List.getElem_cons_zero]
                refine wp_store_mid 23 _ _ rfl Z 0 CS.toArray rfl rfl (fun j hj => bZ.t j (by rw [List.size_toArray, hCn.out] at hj; exact hj)) (by rw [List.size_toArray]; exact hsC.out) h1c.out ?_
                change K _ (World.setCells _ Z 0 CS)
                refine hK2.out _ _ (hHeld.far bZ.lo 0 CS) (fun hHeld2 => ?_)
                clear hK2 K hHeld
                have hHeld := hHeld2
                clear hHeld2
                try simp only [Act.put, List.getElem_toArray, List.getElem_cons_succ, List.getElem_cons_zero, List.setIfInBounds_toArray, List.set_cons_zero, List.set_cons_succ]
                replace bX := bX.far ((Nat.ne_of_lt nZX).symm) 0 CS
                replace bY := bY.far (Nat.ne_of_lt nYZ) 0 CS
                replace bZ := bZ.fill hCn.out
                replace bV := bV.far (Nat.ne_of_lt nVZ) 0 CS
                refine wpAnyH_ready (rs := [11]) (by kernel_rfl) (by simp) (AllReadyH.cons rfl (fun K hK2 => ?_) AllReadyH.nil)
                rw [if_pos (by rfl)]
                simp only [List.getElem_toArray, List.getElem_cons_succ, List.getElem_cons_zero]
                refine wp_store_mid 23 _ _ rfl V 0 CS.toArray rfl rfl (fun j hj => bV.t j (by rw [List.size_toArray, hCn.out] at hj; exact hj)) (by rw [List.size_toArray]; exact hsC.out) h1c.out ?_
                change K _ (World.setCells _ V 0 CS)
                refine hK2.out _ _ (hHeld.far bV.lo 0 CS) (fun hHeld2 => ?_)
                clear hK2 K hHeld
                have hHeld := hHeld2
                clear hHeld2
                try simp only [Act.put, List.getElem_toArray, List.getElem_cons_succ, List.getElem_cons_zero, List.setIfInBounds_toArray, List.set_cons_zero, List.set_cons_succ]
                replace bX := bX.far ((Nat.ne_of_lt nVX).symm) 0 CS
                replace bY := bY.far (Nat.ne_of_lt nYV) 0 CS
                replace bZ := bZ.far ((Nat.ne_of_lt nVZ).symm) 0 CS
                replace bV := bV.fill hCn.out
                refine wpAnyH_done (by kernel_rfl) ?_ _
                go_wp2_with fail
                go_meet
                exact ⟨X, Y, Z, V, rfl, rfl, rfl, rfl, ⟨bX, bY, bZ, bV, (Nat.ne_of_lt nYX).symm, (Nat.ne_of_lt nZX).symm, (Nat.ne_of_lt nVX).symm, Nat.ne_of_lt nYZ, Nat.ne_of_lt nYV, (Nat.ne_of_lt nVZ).symm, hHeld⟩⟩
              exact AllReadyH.nil
          exact AllReadyH.nil
      refine AllReadyH.cons rfl (fun K hK2 => ?_) ?_
      · as_aux_lemma =>
          rw [if_pos (by rfl)]
          simp only [List.getElem_toArray, List.getElem_cons_succ, List.getElem_cons_zero]
          obtain ⟨Z, hZ⟩ : ∃ n, n = W0.heap.size := ⟨_, rfl⟩
          have bZ := BK.new (w := w) (W := W0) #[.int .i64 0, .int .i64 0, .int .i64 0, .int .i64 0, .int .i64 0, .bool false, .bool false, .int .i64 0, .int .i64 0] 23 rfl hHeld.lt
          have al : Below W0.heap.size W0 (W0.alloc (.cells #[.int .i64 0, .int .i64 0, .int .i64 0, .int .i64 0, .int .i64 0, .bool false, .bool false, .int .i64 0, .int .i64 0] 23)) := (Below.refl _ _).alloc (Nat.le_refl _) _
          go_simp
          refine hK2.out _ _ (hHeld.keep al) (fun hHeld2 => ?_)
          clear hK2 K hHeld
          have hHeld := hHeld2
          clear hHeld2
          try simp only [Act.put, List.getElem_toArray, List.getElem_cons_succ, List.getElem_cons_zero, List.setIfInBounds_toArray, List.set_cons_zero, List.set_cons_succ]
          generalize World.alloc _ _ = W1 at hHeld al bZ  ⊢
          rw [← hZ] at bZ ⊢
          clear al hZ
          refine wpAnyH_ready (rs := [4, 5, 7]) (by kernel_rfl) (by simp) ?_
          refine AllReadyH.cons rfl (fun K hK2 => ?_) ?_
          · as_aux_lemma =>
              rw [if_pos (by rfl)]
              simp only [List.getElem_toArray, List.getElem_cons_succ, List.getElem_cons_zero]
              obtain ⟨X, hX⟩ : ∃ n, n = W1.heap.size := ⟨_, rfl⟩
              have bX := BK.new (w := w) (W := W1) #[.int .i64 0, .int .i64 0, .int .i64 0, .int .i64 0, .int .i64 0, .bool false, .bool false, .int .i64 0, .int .i64 0] 23 rfl hHeld.lt
              have al : Below W1.heap.size W1 (W1.alloc (.cells #[.int .i64 0, .int .i64 0, .int .i64 0, .int .i64 0, .int .i64 0, .bool false, .bool false, .int .i64 0, .int .i64 0] 23)) := (Below.refl _ _).alloc (Nat.le_refl _) _
              have nZX : Z < X := by rw [hX]; exact bZ.hi
              replace bZ := bZ.keep al
              go_simp
              refine hK2.out _ _ (hHeld.keep al) (fun hHeld2 => ?_)
              clear hK2 K hHeld
              have hHeld := hHeld2
              clear hHeld2
              try simp only [Act.put, List.getElem_toArray, List.getElem_cons_succ, List.getElem_cons_zero, List.setIfInBounds_toArray, List.set_cons_zero, List.set_cons_succ]
              generalize World.alloc _ _ = W2 at hHeld al bX bZ ⊢
              rw [← hX] at bX ⊢
              clear al hX
              refine wpAnyH_ready (rs := [5, 7]) (by kernel_rfl) (by simp) ?_
              refine AllReadyH.cons rfl (fun K hK2 => ?_) ?_
              · rw [if_pos (by rfl)]
                simp only [List.getElem_toArray, List.getElem_cons_succ, List.getElem_cons_zero]
                obtain ⟨Y, hY⟩ : ∃ n, n = W2.heap.size := ⟨_, rfl⟩
                have bY := BK.new (w := w) (W := W2) #[.int .i64 0, .int .i64 0, .int .i64 0, .int .i64 0, .int .i64 0, .bool false, .bool false, .int .i64 0, .int .i64 0] 23 rfl hHeld.lt
                have al : Below W2.heap.size W2 (W2.alloc (.cells #[.int .i64 0, .int .i64 0, .int .i64 0, .int .i64 0, .int .i64 0, .bool false, .bool false, .int .i64 0, .int .i64 0] 23)) := (Below.refl _ _).alloc (Nat.le_refl _) _
                have nZY : Z < Y := by rw [hY]; exact bZ.hi
                replace bZ := bZ.keep al
                have nXY : X < Y := by rw [hY]; exact bX.hi
                replace bX := bX.keep al
                go_simp
                refine hK2.out _ _ (hHeld.keep al) (fun hHeld2 => ?_)
                clear hK2 K hHeld
                have hHeld := hHeld2
                clear hHeld2
                try simp only [Act.put, List.getElem_toArray, List.getElem_cons_succ, List.getElem_cons_zero, List.setIfInBounds_toArray, List.set_cons_zero, List.set_cons_succ]
                generalize World.alloc _ _ = W3 at hHeld al bY bZ bX ⊢
                rw [← hY] at bY ⊢
                clear al hY
                refine wpAnyH_ready (rs := [7]) (by kernel_rfl) (by simp) (AllReadyH.cons rfl (fun K hK2 => ?_) AllReadyH.nil)
                rw [if_pos (by rfl)]
                simp only [List.getElem_toArray, List.getElem_cons_succ, List.getElem_cons_zero]
                obtain ⟨V, hV⟩ : ∃ n, n = W3.heap.size := ⟨_, rfl⟩
                have bV := BK.new (w := w) (W := W3) #[.int .i64 0, .int .i64 0, .int .i64 0, .int .i64 0, .int .i64 0, .bool false, .bool false, .int .i64 0, .int .i64 0] 23 rfl hHeld.lt
                have al : Below W3.heap.size W3 (W3.alloc (.cells #[.int .i64 0, .int .i64 0, .int .i64 0, .int .i64 0, .int .i64 0, .bool false, .bool false, .int .i64 0, .int .i64 0] 23)) := (Below.refl _ _).alloc (Nat.le_refl _) _
                have nZV : Z < V := by rw [hV]; exact bZ.hi
                replace bZ := bZ.keep al
                have nXV : X < V := by rw [hV]; exact bX.hi
                replace bX := bX.keep al
                have nYV : Y < V := by rw [hV]; exact bY.hi
                replace bY := bY.keep al
                go_simp
                refine hK2.out _ _ (hHeld.keep al) (fun hHeld2 => ?_)
                clear hK2 K hHeld
                have hHeld := hHeld2
                clear hHeld2
                try simp only [Act.put, List.getElem_toArray, List.getElem_cons_succ, List.getElem_cons_zero, List.setIfInBounds_toArray, List.set_cons_zero, List.set_cons_succ]
                generalize World.alloc _ _ = W4 at hHeld al bV bZ bX bY ⊢
                rw [← hV] at bV ⊢
                clear al hV
                refine wpAnyH_ready (rs := [8]) (by kernel_rfl) (by simp) (AllReadyH.cons rfl (fun K hK2 => ?_) AllReadyH.nil)
                rw [if_pos (by rfl)]
                simp only [List.getElem_toArray, List.getElem_cons_succ, List.getElem_cons_zero]
                refine wp_store_mid 23 _ _ rfl X 0 CS.toArray rfl rfl (fun j hj => bX.t j (by rw [List.size_toArray, hCn.out] at hj; exact hj)) (by rw [List.size_toArray]; exact hsC.out) h1c.out ?_
                change K _ (World.setCells _ X 0 CS)
                refine hK2.out _ _ (hHeld.far bX.lo 0 CS) (fun hHeld2 => ?_)
                clear hK2 K hHeld
                have hHeld := hHeld2
                clear hHeld2
                try simp only [Act.put, List.getElem_toArray, List.getElem_cons_succ, List.getElem_cons_zero, List.setIfInBounds_toArray, List.set_cons_zero, List.set_cons_succ]
                replace bX := bX.fill hCn.out
                replace bY := bY.far ((Nat.ne_of_lt nXY).symm) 0 CS
                replace bZ := bZ.far (Nat.ne_of_lt nZX) 0 CS
                replace bV := bV.far ((Nat.ne_of_lt nXV).symm) 0 CS
                refine wpAnyH_ready (rs := [9]) (by kernel_rfl) (by simp) (AllReadyH.cons rfl (fun K hK2 => ?_) AllReadyH.nil)
                rw [if_pos (by rfl)]
                simp only [List.getElem_toArray, List.getElem_cons_succ, List.getElem_cons_zero]
                refine wp_store_mid 23 _ _ rfl Y 0 CS.toArray rfl rfl (fun j hj => bY.t j (by rw [List.size_toArray, hCn.out] at hj; exact hj)) (by rw [List.size_toArray]; exact hsC.out) h1c.out ?_
                change K _ (World.setCells _ Y 0 CS)
                refine hK2.out _ _ (hHeld.far bY.lo 0 CS) (fun hHeld2 => ?_)
                clear hK2 K hHeld
                have hHeld := hHeld2
                clear hHeld2
                try simp only [Act.put, List.getElem_toArray, List.getElem_cons_succ, List.getElem_cons_zero, List.setIfInBounds_toArray, List.set_cons_zero, List.set_cons_succ]
                replace bX := bX.far (Nat.ne_of_lt nXY) 0 CS
                replace bY := bY.fill hCn.out
                replace bZ := bZ.far (Nat.ne_of_lt nZY) 0 CS
                replace bV := bV.far ((Nat.ne_of_lt nYV).symm) 0 CS
                refine wpAnyH_ready (rs := [10]) (by kernel_rfl) (by simp) (AllReadyH.cons rfl (fun K hK2 => ?_) AllReadyH.nil)
                rw [if_pos (by rfl)]
                simp only [List.getElem_toArray, List.getElem_cons_succ, List.getElem_cons_zero]
                refine wp_store_mid 23 _ _ rfl Z 0 CS.toArray rfl rfl (fun j hj => bZ.t j (by rw [List.size_toArray, hCn.out] at hj; exact hj)) (by rw [List.size_toArray]; exact hsC.out) h1c.out ?_
                change K _ (World.setCells _ Z 0 CS)
                refine hK2.out _ _ (hHeld.far bZ.lo 0 CS) (fun hHeld2 => ?_)
                clear hK2 K hHeld
                have hHeld := hHeld2
                clear hHeld2
                try simp only [Act.put, List.getElem_toArray, List.getElem_cons_succ, List.getElem_cons_zero, List.setIfInBounds_toArray, List.set_cons_zero, List.set_cons_succ]
                replace bX := bX.far ((Nat.ne_of_lt nZX).symm) 0 CS
                replace bY := bY.far ((Nat.ne_of_lt nZY).symm) 0 CS
                replace bZ := bZ.fill hCn.out
                replace bV := bV.far ((Nat.ne_of_lt nZV).symm) 0 CS
                refine wpAnyH_ready (rs := [11]) (by kernel_rfl) (by simp) (AllReadyH.cons rfl (fun K hK2 => ?_) AllReadyH.nil)
                rw [if_pos (by rfl)]
                simp only [List.getElem_toArray, List.getElem_cons_succ, List.getElem_cons_zero]
                refine wp_store_mid 23 _ _ rfl V 0 CS.toArray rfl rfl (fun j hj => bV.t j (by rw [List.size_toArray, hCn.out] at hj; exact hj)) (by rw [List.size_toArray]; exact hsC.out) h1c.out ?_
                change K _ (World.setCells _ V 0 CS)
                refine hK2.out _ _ (hHeld.far bV.lo 0 CS) (fun hHeld2 => ?_)
                clear hK2 K hHeld
                have hHeld := hHeld2
                clear hHeld2
                try simp only [Act.put, List.getElem_toArray, List.getElem_cons_succ, List.getElem_cons_zero, List.setIfInBounds_toArray, List.set_cons_zero, List.set_cons_succ]
                replace bX := bX.far (Nat.ne_of_lt nXV) 0 CS
                replace bY := bY.far (Nat.ne_of_lt nYV) 0 CS
                replace bZ := bZ.far (Nat.ne_of_lt nZV) 0 CS
                replace bV := bV.fill hCn.out
                refine wpAnyH_done (by kernel_rfl) ?_ _
                go_wp2_with fail
                go_meet
                exact ⟨X, Y, Z, V, rfl, rfl, rfl, rfl, ⟨bX, bY, bZ, bV, Nat.ne_of_lt nXY, (Nat.ne_of_lt nZX).symm, Nat.ne_of_lt nXV, (Nat.ne_of_lt nZY).symm, Nat.ne_of_lt nYV, Nat.ne_of_lt nZV, hHeld⟩⟩
              refine AllReadyH.cons rfl (fun K hK2 => ?_) ?_
              · rw [if_pos (by rfl)]
                simp only [List.getElem_toArray, List.getElem_cons_succ, List.getElem_cons_zero]
                obtain ⟨V, hV⟩ : ∃ n, n = W2.heap.size := ⟨_, rfl⟩
                have bV := BK.new (w := w) (W := W2) #[.int .i64 0, .int .i64 0, .int .i64 0, .int .i64 0, .int .i64 0, .bool false, .bool false, .int .i64 0, .int .i64 0] 23 rfl hHeld.lt
                have al : Below W2.heap.size W2 (W2.alloc (.cells #[.int .i64 0, .int .i64 0, .int .i64 0, .int .i64 0, .int .i64 0, .bool false, .bool false, .int .i64 0, .int .i64 0] 23)) := (Below.refl _ _).alloc (Nat.le_refl _) _
                have nZV : Z < V := by rw [hV]; exact bZ.hi
                replace bZ := bZ.keep al
                have nXV : X < V := by rw [hV]; exact bX.hi
                replace bX := bX.keep al
                go_simp
                refine hK2.out _ _ (hHeld.keep al) (fun hHeld2 => ?_)
                clear hK2 K hHeld
                have hHeld := hHeld2
                clear hHeld2
                try simp only [Act.put, List.getElem_toArray, List.getElem_cons_succ, List.getElem_cons_zero, List.setIfInBounds_toArray, List.set_cons_zero, List.set_cons_succ]
                generalize World.alloc _ _ = W3 at hHeld al bV bZ bX ⊢
                rw [← hV] at bV ⊢
                clear al hV
                refine wpAnyH_ready (rs := [5]) (by kernel_rfl) (by simp) (AllReadyH.cons rfl (fun K hK2 => ?_) AllReadyH.nil)
                rw [if_pos (by rfl)]
                simp only [List.getElem_toArray, List.getElem_cons_succ, List.getElem_cons_zero]
                obtain ⟨Y, hY⟩ : ∃ n, n = W3.heap.size := ⟨_, rfl⟩
                have bY := BK.new (w := w) (W := W3) #[.int .i64 0, .int .i64 0, .int .i64 0, .int .i64 0, .int .i64 0, .bool false, .bool false, .int .i64 0, .int .i64 0] 23 rfl hHeld.lt
                have al : Below W3.heap.size W3 (W3.alloc (.cells #[.int .i64 0, .int .i64 0, .int .i64 0, .int .i64 0, .int .i64 0, .bool false, .bool false, .int .i64 0, .int .i64 0] 23)) := (Below.refl _ _).alloc (Nat.le_refl _) _
                have nZY : Z < Y := by rw [hY]; exact bZ.hi
                replace bZ := bZ.keep al
                have nXY : X < Y := by rw [hY]; exact bX.hi
                replace bX := bX.keep al
                have nVY : V < Y := by rw [hY]; exact bV.hi
                replace bV := bV.keep al
                go_simp
                refine hK2.out _ _ (hHeld.keep al) (fun hHeld2 => ?_)
                clear hK2 K hHeld
                have hHeld := hHeld2
                clear hHeld2
                try simp only [Act.put, List.getElem_toArray, List.getElem_cons_succ, List.getElem_cons_zero, List.setIfInBounds_toArray, List.set_cons_zero, List.set_cons_succ]
                generalize World.alloc _ _ = W4 at hHeld al bY bZ bX bV ⊢
                rw [← hY] at bY ⊢
                clear al hY
                refine wpAnyH_ready (rs := [8]) (by kernel_rfl) (by simp) (AllReadyH.cons rfl (fun K hK2 => ?_) AllReadyH.nil)
                rw [if_pos (by rfl)]
                simp only [List.getElem_toArray, List.getElem_cons_succ, List.getElem_cons_zero]
                refine wp_store_mid 23 _ _ rfl X 0 CS.toArray rfl rfl (fun j hj => bX.t j (by rw [List.size_toArray, hCn.out] at hj; exact hj)) (by rw [List.size_toArray]; exact hsC.out) h1c.out ?_
                change K _ (World.setCells _ X 0 CS)
                refine hK2.out _ _ (hHeld.far bX.lo 0 CS) (fun hHeld2 => ?_)
                clear hK2 K hHeld
                have hHeld := hHeld2
                clear hHeld2
                try simp only [Act.put, List.getElem_toArray, List.getElem_cons_succ, List.getElem_cons_zero, List.setIfInBounds_toArray, List.set_cons_zero, List.set_cons_succ]
                replace bX := bX.fill hCn.out
                replace bY := bY.far ((Nat.ne_of_lt nXY).symm) 0 CS
                replace bZ := bZ.far (Nat.ne_of_lt nZX) 0 CS
                replace bV := bV.far ((Nat.ne_of_lt nXV).symm) 0 CS
                refine wpAnyH_ready (rs := [9]) (by kernel_rfl) (by simp) (AllReadyH.cons rfl (fun K hK2 => ?_) AllReadyH.nil)
                rw [if_pos (by rfl)]
                simp only [List.getElem_toArray, List.getElem_cons_succ, List.getElem_cons_zero]
                refine wp_store_mid 23 _ _ rfl Y 0 CS.toArray rfl rfl (fun j hj => bY.t j (by rw [List.size_toArray, hCn.out] at hj; exact hj)) (by rw [List.size_toArray]; exact hsC.out) h1c.out ?_
                change K _ (World.setCells _ Y 0 CS)
                refine hK2.out _ _ (hHeld.far bY.lo 0 CS) (fun hHeld2 => ?_)
                clear hK2 K hHeld
                have hHeld := hHeld2
                clear hHeld2
                try simp only [Act.put, List.getElem_toArray, List.getElem_cons_succ, List.getElem_cons_zero, List.setIfInBounds_toArray, List.set_cons_zero, List.set_cons_succ]
                replace bX := bX.far (Nat.ne_of_lt nXY) 0 CS
                replace bY := bY.fill hCn.out
                replace bZ := bZ.far (Nat.ne_of_lt nZY) 0 CS
                replace bV := bV.far (Nat.ne_of_lt nVY) 0 CS
                refine wpAnyH_ready (rs := [10]) (by kernel_rfl) (by simp) (AllReadyH.cons rfl (fun K hK2 => ?_) AllReadyH.nil)
                rw [if_pos (by rfl)]
                simp only [List.getElem_toArray, List.getElem_cons_succ, List.getElem_cons_zero]
                refine wp_store_mid 23 _ _ rfl Z 0 CS.toArray rfl rfl (fun j hj => bZ.t j (by rw [List.size_toArray, hCn.out] at hj; exact hj)) (by rw [List.size_toArray]; exact hsC.out) h1c.out ?_
                change K _ (World.setCells _ Z 0 CS)
                refine hK2.out _ _ (hHeld.far bZ.lo 0 CS) (fun hHeld2 => ?_)
                clear hK2 K hHeld
                have hHeld := hHeld2
                clear hHeld2
                try simp only [Act.put, List.getElem_toArray, List.getElem_cons_succ, List.getElem_cons_zero, List.setIfInBounds_toArray, List.set_cons_zero, List.set_cons_succ]
                replace bX := bX.far ((Nat.ne_of_lt nZX).symm) 0 CS
                replace bY := bY.far ((Nat.ne_of_lt nZY).symm) 0 CS
                replace bZ := bZ.fill hCn.out
                replace bV := bV.far ((Nat.ne_of_lt nZV).symm) 0 CS
                refine wpAnyH_ready (rs := [11]) (by kernel_rfl) (by simp) (AllReadyH.cons rfl (fun K hK2 => ?_) AllReadyH.nil)
                rw [if_pos (by rfl)]
                simp only [List.getElem_toArray, List.getElem_cons_succ, List.getElem_cons_zero]
                refine wp_store_mid 23 _ _ rfl V 0 CS.toArray rfl rfl (fun j hj => bV.t j (by rw [List.size_toArray, hCn.out] at hj; exact hj)) (by rw [List.size_toArray]; exact hsC.out) h1c.out ?_
                change K _ (World.setCells _ V 0 CS)
                refine hK2.out _ _ (hHeld.far bV.lo 0 CS) (fun hHeld2 => ?_)
                clear hK2 K hHeld
                have hHeld := hHeld2
                clear hHeld2
                try simp only [Act.put, List.getElem_toArray, List.getElem_cons_succ, List.getElem_cons_zero, List.setIfInBounds_toArray, List.set_cons_zero, List.set_cons_succ]
                replace bX := bX.far (Nat.ne_of_lt nXV) 0 CS
                replace bY := bY.far ((Nat.ne_of_lt nVY).symm) 0 CS
                replace bZ := bZ.far (Nat.ne_of_lt nZV) 0 CS
                replace bV := bV.fill hCn.out
                refine wpAnyH_done (by kernel_rfl) ?_ _
                go_wp2_with fail
                go_meet
                exact ⟨X, Y, Z, V, rfl, rfl, rfl, rfl, ⟨bX, bY, bZ, bV, Nat.ne_of_lt nXY, (Nat.ne_of_lt nZX).symm, Nat.ne_of_lt nXV, (Nat.ne_of_lt nZY).symm, (Nat.ne_of_lt nVY).symm, Nat.ne_of_lt nZV, hHeld⟩⟩
              exact AllReadyH.nil
          refine AllReadyH.cons rfl (fun K hK2 => ?_) ?_
          · as_aux_lemma =>
              rw [if_pos (by rfl)]
              simp only [List.getElem_toArray, List.getElem_cons_succ, List.getElem_cons_zero]
              obtain ⟨Y, hY⟩ : ∃ n, n = W1.heap.size := ⟨_, rfl⟩
              have bY := BK.new (w := w) (W := W1) #[.int .i64 0, .int .i64 0, .int .i64 0, .int .i64 0, .int .i64 0, .bool false, .bool false, .int .i64 0, .int .i64 0] 23 rfl hHeld.lt
              have al : Below W1.heap.size W1 (W1.alloc (.cells #[.int .i64 0, .int .i64 0, .int .i64 0, .int .i64 0, .int .i64 0, .bool false, .bool false, .int .i64 0, .int .i64 0] 23)) := (Below.refl _ _).alloc (Nat.le_refl _) _
              have nZY : Z < Y := by rw [hY]; exact bZ.hi
              replace bZ := bZ.keep al
              go_simp
              refine hK2.out _ _ (hHeld.keep al) (fun hHeld2 => ?_)
              clear hK2 K hHeld
              have hHeld := hHeld2
              clear hHeld2
              try simp only [Act.put, List.getElem_toArray, List.getElem_cons_succ, List.getElem_cons_zero, List.setIfInBounds_toArray, List.set_cons_zero, List.set_cons_succ]
              generalize World.alloc _ _ = W2 at hHeld al bY bZ ⊢
              rw [← hY] at bY ⊢
              clear al hY
              refine wpAnyH_ready (rs := [4, 7]) (by kernel_rfl) (by simp) ?_
              refine AllReadyH.cons rfl (fun K hK2 => ?_) ?_
              · rw [if_pos (by rfl)]
                simp only [List.getElem_toArray, List.getElem_cons_succ, List.getElem_cons_zero]
                obtain ⟨X, hX⟩ : ∃ n, n = W2.heap.size := ⟨_, rfl⟩
                have bX := BK.new (w := w) (W := W2) #[.int .i64 0, .int .i64 0, .int .i64 0, .int .i64 0, .int .i64 0, .bool false, .bool false, .int .i64 0, .int .i64 0] 23 rfl hHeld.lt
                have al : Below W2.heap.size W2 (W2.alloc (.cells #[.int .i64 0, .int .i64 0, .int .i64 0, .int .i64 0, .int .i64 0, .bool false, .bool false, .int .i64 0, .int .i64 0] 23)) := (Below.refl _ _).alloc (Nat.le_refl _) _
                have nZX : Z < X := by rw [hX]; exact bZ.hi
                replace bZ := bZ.keep al
                have nYX : Y < X := by rw [hX]; exact bY.hi
                replace bY := bY.keep al
                go_simp
                refine hK2.out _ _ (hHeld.keep al) (fun hHeld2 => ?_)
                clear hK2 K hHeld
                have hHeld := hHeld2
                clear hHeld2
                try simp only [Act.put, List.getElem_toArray, List.getElem_cons_succ, List.getElem_cons_zero, List.setIfInBounds_toArray, List.set_cons_zero, List.set_cons_succ]
                generalize World.alloc _ _ = W3 at hHeld al bX bZ bY ⊢
                rw [← hX] at bX ⊢
                clear al hX
                refine wpAnyH_ready (rs := [7]) (by kernel_rfl) (by simp) (AllReadyH.cons rfl (fun K hK2 => ?_) AllReadyH.nil)
                rw [if_pos (by rfl)]
                simp only [List.getElem_toArray, List.getElem_cons_succ, List.getElem_cons_zero]
                obtain ⟨V, hV⟩ : ∃ n, n = W3.heap.size := ⟨_, rfl⟩
                have bV := BK.new (w := w) (W := W3) #[.int .i64 0, .int .i64 0, .int .i64 0, .int .i64 0, .int .i64 0, .bool false, .bool false, .int .i64 0, .int .i64 0] 23 rfl hHeld.lt
                have al : Below W3.heap.size W3 (W3.alloc (.cells #[.int .i64 0, .int .i64 0, .int .i64 0, .int .i64 0, .int .i64 0, .bool false, .bool false, .int .i64 0, .int .i64 0] 23)) := (Below.refl _ _).alloc (Nat.le_refl _) _
                have nZV : Z < V := by rw [hV]; exact bZ.hi
                replace bZ := bZ.keep al
                have nYV : Y < V := by rw [hV]; exact bY.hi
                replace bY := bY.keep al
                have nXV : X < V := by rw [hV]; exact bX.hi
                replace bX := bX.keep al
                go_simp
                refine hK2.out _ _ (hHeld.keep al) (fun hHeld2 => ?_)
                clear hK2 K hHeld
                have hHeld := hHeld2
                clear hHeld2
                try simp only [Act.put, List.getElem_toArray, List.getElem_cons_succ, List.getElem_cons_zero, List.setIfInBounds_toArray, List.set_cons_zero, List.set_cons_succ]
                generalize World.alloc _ _ = W4 at hHeld al bV bZ bY bX ⊢
                rw [← hV] at bV ⊢
                clear al hV
                refine wpAnyH_ready (rs := [8]) (by kernel_rfl) (by simp) (AllReadyH.cons rfl (fun K hK2 => ?_) AllReadyH.nil)
                rw [if_pos (by rfl)]
                simp only [List.getElem_toArray, List.getElem_cons_succ, List.getElem_cons_zero]
                refine wp_store_mid 23 _ _ rfl X 0 CS.toArray rfl rfl (fun j hj => bX.t j (by rw [List.size_toArray, hCn.out] at hj; exact hj)) (by rw [List.size_toArray]; exact hsC.out) h1c.out ?_
                change K _ (World.setCells _ X 0 CS)
                refine hK2.out _ _ (hHeld.far bX.lo 0 CS) (fun hHeld2 => ?_)
                clear hK2 K hHeld
                have hHeld := hHeld2
                clear hHeld2
                try simp only [Act.put, List.getElem_toArray, List.getElem_cons_succ, List.getElem_cons_zero, List.setIfInBounds_toArray, List.set_cons_zero, List.set_cons_succ]
                replace bX := bX.fill hCn.out
                replace bY := bY.far (Nat.ne_of_lt nYX) 0 CS
                replace bZ := bZ.far (Nat.ne_of_lt nZX) 0 CS
                replace bV := bV.far ((Nat.ne_of_lt nXV).symm) 0 CS
                refine wpAnyH_ready (rs := [9]) (by kernel_rfl) (by simp) (AllReadyH.cons rfl (fun K hK2 => ?_) AllReadyH.nil)
                rw [if_pos (by rfl)]
                simp only [List.getElem_toArray, List.getElem_cons_succ, List.getElem_cons_zero]
                refine wp_store_mid 23 _ _ rfl Y 0 CS.toArray rfl rfl (fun j hj => bY.t j (by rw [List.size_toArray, hCn.out] at hj; exact hj)) (by rw [List.size_toArray]; exact hsC.out) h1c.out ?_
                change K _ (World.setCells _ Y 0 CS)
                refine hK2.out _ _ (hHeld.far bY.lo 0 CS) (fun hHeld2 => ?_)
                clear hK2 K hHeld
                have hHeld := hHeld2
                clear hHeld2
                try simp only [Act.put, List.getElem_toArray, List.getElem_cons_succ, List.getElem_cons_zero, List.setIfInBounds_toArray, List.set_cons_zero, List.set_cons_succ]
                replace bX := bX.far ((Nat.ne_of_lt nYX).symm) 0 CS
                replace bY := bY.fill hCn.out
                replace bZ := bZ.far (Nat.ne_of_lt nZY) 0 CS
                replace bV := bV.far ((Nat.ne_of_lt nYV).symm) 0 CS
                refine wpAnyH_ready (rs := [10]) (by kernel_rfl) (by simp) (AllReadyH.cons rfl (fun K hK2 => ?_) AllReadyH.nil)
                rw [if_pos (by rfl)]
                simp only [List.getElem_toArray, List.getElem_cons_succ, List.getElem_cons_zero]
                refine wp_store_mid 23 _ _ rfl Z 0 CS.toArray rfl rfl (fun j hj => bZ.t j (by rw [List.size_toArray, hCn.out] at hj; exact hj)) (by rw [List.size_toArray]; exact hsC.out) h1c.out ?_
                change K _ (World.setCells _ Z 0 CS)
                refine hK2.out _ _ (hHeld.far bZ.lo 0 CS) (fun hHeld2 => ?_)
                clear hK2 K hHeld
                have hHeld := hHeld2
                clear hHeld2
                try simp only [Act.put, List.getElem_toArray, List.getElem_cons_succ, List.getElem_cons_zero, List.setIfInBounds_toArray, List.set_cons_zero, List.set_cons_succ]
                replace bX := bX.far ((Nat.ne_of_lt nZX).symm) 0 CS
                replace bY := bY.far ((Nat.ne_of_lt nZY).symm) 0 CS
                replace bZ := bZ.fill hCn.out
                replace bV := bV.far ((Nat.ne_of_lt nZV).symm) 0 CS
                refine wpAnyH_ready (rs := [11]) (by kernel_rfl) (by simp) (AllReadyH.cons rfl (fun K hK2 => ?_) AllReadyH.nil)
                rw [if_pos (by rfl)]
                simp only [List.getElem_toArray, List.getElem_cons_succ, List.getElem_cons_zero]
                refine wp_store_mid 23 _ _ rfl V 0 CS.toArray rfl rfl (fun j hj => bV.t j (by rw [List.size_toArray, hCn.out] at hj; exact hj)) (by rw [List.size_toArray]; exact hsC.out) h1c.out ?_
                change K _ (World.setCells _ V 0 CS)
                refine hK2.out _ _ (hHeld.far bV.lo 0 CS) (fun hHeld2 => ?_)
                clear hK2 K hHeld
                have hHeld := hHeld2
                clear hHeld2
                try simp only [Act.put, List.getElem_toArray, List.getElem_cons_succ, List.getElem_cons_zero, List.setIfInBounds_toArray, List.set_cons_zero, List.set_cons_succ]
                replace bX := bX.far (Nat.ne_of_lt nXV) 0 CS
                replace bY := bY.far (Nat.ne_of_lt nYV) 0 CS
                replace bZ := bZ.far (Nat.ne_of_lt nZV) 0 CS
                replace bV := bV.fill hCn.out
                refine wpAnyH_done (by kernel_rfl) ?_ _
                go_wp2_with fail
                go_meet
                exact ⟨X, Y, Z, V, rfl, rfl, rfl, rfl, ⟨bX, bY, bZ, bV, (Nat.ne_of_lt nYX).symm, (Nat.ne_of_lt nZX).symm, Nat.ne_of_lt nXV, (Nat.ne_of_lt nZY).symm, Nat.ne_of_lt nYV, Nat.ne_of_lt nZV, hHeld⟩⟩
              refine AllReadyH.cons rfl (fun K hK2 => ?_) ?_
              · rw [if_pos (by rfl)]
                simp only [List.getElem_toArray, List.getElem_cons_succ, List.getElem_cons_zero]
                obtain ⟨V, hV⟩ : ∃ n, n = W2.heap.size := ⟨_, rfl⟩
                have bV := BK.new (w := w) (W := W2) #[.int .i64 0, .int .i64 0, .int .i64 0, .int .i64 0, .int .i64 0, .bool false, .bool false, .int .i64 0, .int .i64 0] 23 rfl hHeld.lt
                have al : Below W2.heap.size W2 (W2.alloc (.cells #[.int .i64 0, .int .i64 0, .int .i64 0, .int .i64 0, .int .i64 0, .bool false, .bool false, .int .i64 0, .int .i64 0] 23)) := (Below.refl _ _).alloc (Nat.le_refl _) _
                have nZV : Z < V := by rw [hV]; exact bZ.hi
                replace bZ := bZ.keep al
                have nYV : Y < V := by rw [hV]; exact bY.hi
                replace bY := bY.keep al
                go_simp
                refine hK2.out _ _ (hHeld.keep al) (fun hHeld2 => ?_)
                clear hK2 K hHeld
                have hHeld := hHeld2
                clear hHeld2
                try simp only [Act.put, List.getElem_toArray, List.getElem_cons_succ, List.getElem_cons_zero, List.setIfInBounds_toArray, List.set_cons_zero, List.set_cons_succ]
                generalize World.alloc _ _ = W3 at hHeld al bV bZ bY ⊢
                rw [← hV] at bV ⊢
                clear al hV
                refine wpAnyH_ready (rs := [4]) (by kernel_rfl) (by simp) (AllReadyH.cons rfl (fun K hK2 => ?_) AllReadyH.nil)
                rw [if_pos (by rfl)]
                simp only [List.getElem_toArray, List.getElem_cons_succ, List.getElem_cons_zero]
                obtain ⟨X, hX⟩ : ∃ n, n = W3.heap.size := ⟨_, rfl⟩
                have bX := BK.new (w := w) (W := W3) #[.int .i64 0, .int .i64 0, .int .i64 0, .int .i64 0, .int .i64 0, .bool false, .bool false, .int .i64 0, .int .i64 0] 23 rfl hHeld.lt
                have al : Below W3.heap.size W3 (W3.alloc (.cells #[.int .i64 0, .int .i64 0, .int .i64 0, .int .i64 0, .int .i64 0, .bool false, .bool false, .int .i64 0, .int .i64 0] 23)) := (Below.refl _ _).alloc (Nat.le_refl _) _
                have nZX : Z < X := by rw [hX]; exact bZ.hi
                replace bZ := bZ.keep al
                have nYX : Y < X := by rw [hX]; exact bY.hi
                replace bY := bY.keep al
                have nVX : V < X := by rw [hX]; exact bV.hi
                replace bV := bV.keep al
                go_simp
                refine hK2.out _ _ (hHeld.keep al) (fun hHeld2 => ?_)
                clear hK2 K hHeld
                have hHeld := hHeld2
                clear hHeld2
                try simp only [Act.put, List.getElem_toArray, List.getElem_cons_succ, List.getElem_cons_zero, List.setIfInBounds_toArray, List.set_cons_zero, List.set_cons_succ]
                generalize World.alloc _ _ = W4 at hHeld al bX bZ bY bV ⊢
                rw [← hX] at bX ⊢
                clear al hX
                refine wpAnyH_ready (rs := [8]) (by kernel_rfl) (by simp) (AllReadyH.cons rfl (fun K hK2 => ?_) AllReadyH.nil)
                rw [if_pos (by rfl)]
                simp only [List.getElem_toArray, List.getElem_cons_succ, List.getElem_cons_zero]
                refine wp_store_mid 23 _ _ rfl X 0 CS.toArray rfl rfl (fun j hj => bX.t j (by rw [List.size_toArray, hCn.out] at hj; exact hj)) (by rw [List.size_toArray]; exact hsC.out) h1c.out ?_
                change K _ (World.setCells _ X 0 CS)
                refine hK2.out _ _ (hHeld.far bX.lo 0 CS) (fun hHeld2 => ?_)
                clear hK2 K hHeld
                have hHeld := hHeld2
                clear hHeld2
                try simp only [Act.put, List.getElem_toArray, List.getElem_cons_succ, List.getElem_cons_zero, List.setIfInBounds_toArray, List.set_cons_zero, List.set_cons_succ]
                replace bX := bX.fill hCn.out
                replace bY := bY.far (Nat.ne_of_lt nYX) 0 CS
                replace bZ := bZ.far (Nat.ne_of_lt nZX) 0 CS
                replace bV := bV.far (Nat.ne_of_lt nVX) 0 CS
                refine wpAnyH_ready (rs := [9]) (by kernel_rfl) (by simp) (AllReadyH.cons rfl (fun K hK2 => ?_) AllReadyH.nil)
                rw [if_pos (by rfl)]
                simp only [List.getElem_toArray, List.getElem_cons_succ, List.getElem_cons_zero]
                refine wp_store_mid 23 _ _ rfl Y 0 CS.toArray rfl rfl (fun j hj => bY.t j (by rw [List.size_toArray, hCn.out] at hj; exact hj)) (by rw [List.size_toArray]; exact hsC.out) h1c.out ?_
                change K _ (World.setCells _ Y 0 CS)
                refine hK2.out _ _ (hHeld.far bY.lo 0 CS) (fun hHeld2 => ?_)
                clear hK2 K hHeld
                have hHeld := hHeld2
                clear hHeld2
                try simp only [Act.put, List.getElem_toArray, List.getElem_cons_succ, List.getElem_cons_zero, List.setIfInBounds_toArray, List.set_cons_zero, List.set_cons_succ]
                replace bX := bX.far ((Nat.ne_of_lt nYX).symm) 0 CS
                replace bY := bY.fill hCn.out
                replace bZ := bZ.far (Nat.ne_of_lt nZY) 0 CS
                replace bV := bV.far ((Nat.ne_of_lt nYV).symm) 0 CS
                refine wpAnyH_ready (rs := [10]) (by kernel_rfl) (by simp) (AllReadyH.cons rfl (fun K hK2 => ?_) AllReadyH.nil)
                rw [if_pos (by rfl)]
                simp only [List.getElem_toArray, List.getElem_cons_succ, List.getElem_cons_zero]
                refine wp_store_mid 23 _ _ rfl Z 0 CS.toArray rfl rfl (fun j hj => bZ.t j (by rw [List.size_toArray, hCn.out] at hj; exact hj)) (by rw [List.size_toArray]; exact hsC.out) h1c.out ?_
                change K _ (World.setCells _ Z 0 CS)
                refine hK2.out _ _ (hHeld.far bZ.lo 0 CS) (fun hHeld2 => ?_)
                clear hK2 K hHeld
                have hHeld := hHeld2
                clear hHeld2
                try simp only [Act.put, List.getElem_toArray, List.getElem_cons_succ, List.getElem_cons_zero, List.setIfInBounds_toArray, List.set_cons_zero, List.set_cons_succ]
                replace bX := bX.far ((Nat.ne_of_lt nZX).symm) 0 CS
                replace bY := bY.far ((Nat.ne_of_lt nZY).symm) 0 CS
                replace bZ := bZ.fill hCn.out
                replace bV := bV.far ((Nat.ne_of_lt nZV).symm) 0 CS
                refine wpAnyH_ready (rs := [11]) (by kernel_rfl) (by simp) (AllReadyH.cons rfl (fun K hK2 => ?_) AllReadyH.nil)
                rw [if_pos (by rfl)]
                simp only [List.getElem_toArray, List.getElem_cons_succ, List.getElem_cons_zero]
                refine wp_store_mid 23 _ _ rfl V 0 CS.toArray rfl rfl (fun j hj => bV.t j (by rw [List.size_toArray, hCn.out] at hj; exact hj)) (by rw [List.size_toArray]; exact hsC.out) h1c.out ?_
                change K _ (World.setCells _ V 0 CS)
                refine hK2.out _ _ (hHeld.far bV.lo 0 CS) (fun hHeld2 => ?_)
                clear hK2 K hHeld
                have hHeld := hHeld2
                clear hHeld2
                try simp only [Act.put, List.getElem_toArray, List.getElem_cons_succ, List.getElem_cons_zero, List.setIfInBounds_toArray, List.set_cons_zero, List.set_cons_succ]
                replace bX := bX.far ((Nat.ne_of_lt nVX).symm) 0 CS
                replace bY := bY.far (Nat.ne_of_lt nYV) 0 CS
                replace bZ := bZ.far (Nat.ne_of_lt nZV) 0 CS
                replace bV := bV.fill hCn.out
                refine wpAnyH_done (by kernel_rfl) ?_ _
                go_wp2_with fail
                go_meet
                exact ⟨X, Y, Z, V, rfl, rfl, rfl, rfl, ⟨bX, bY, bZ, bV, (Nat.ne_of_lt nYX).symm, (Nat.ne_of_lt nZX).symm, (Nat.ne_of_lt nVX).symm, (Nat.ne_of_lt nZY).symm, Nat.ne_of_lt nYV, Nat.ne_of_lt nZV, hHeld⟩⟩
              exact AllReadyH.nil
          refine AllReadyH.cons rfl (fun K hK2 => ?_) ?_
          · as_aux_lemma =>
              rw [if_pos (by rfl)]
              simp only [List.getElem_toArray, List.getElem_cons_succ, List.getElem_cons_zero]
              obtain ⟨V, hV⟩ : ∃ n, n = W1.heap.size := ⟨_, rfl⟩
              have bV := BK.new (w := w) (W := W1) #[.int .i64 0, .int .i64 0, .int .i64 0, .int .i64 0, .int .i64 0, .bool false, .bool false, .int .i64 0, .int .i64 0] 23 rfl hHeld.lt
              have al : Below W1.heap.size W1 (W1.alloc (.cells #[.int .i64 0, .int .i64 0, .int .i64 0, .int .i64 0, .int .i64 0, .bool false, .bool false, .int .i64 0, .int .i64 0] 23)) := (Below.refl _ _).alloc (Nat.le_refl _) _
              have nZV : Z < V := by rw [hV]; exact bZ.hi
              replace bZ := bZ.keep al
              go_simp
              refine hK2.out _ _ (hHeld.keep al) (fun hHeld2 => ?_)
              clear hK2 K hHeld
              have hHeld := hHeld2
              clear hHeld2
              try simp only [Act.put, List.getElem_toArray, List.getElem_cons_succ, List.getElem_cons_zero, List.setIfInBounds_toArray, List.set_cons_zero, List.set_cons_succ]
              generalize World.alloc _ _ = W2 at hHeld al bV bZ ⊢
              rw [← hV] at bV ⊢
              clear al hV
              refine wpAnyH_ready (rs := [4, 5]) (by kernel_rfl) (by simp) ?_
              refine AllReadyH.cons rfl (fun K hK2 => ?_) ?_
              · rw [if_pos (by rfl)]
                simp only [List.getElem_toArray, List.getElem_cons_succ, List.getElem_cons_zero]
                obtain ⟨X, hX⟩ : ∃ n, n = W2.heap.size := ⟨_, rfl⟩
                have bX := BK.new (w := w) (W := W2) #[.int .i64 0, .int .i64 0, .int .i64 0, .int .i64 0, .int .i64 0, .bool false, .bool false, .int .i64 0, .int .i64 0] 23 rfl hHeld.lt
                have al : Below W2.heap.size W2 (W2.alloc (.cells #[.int .i64 0, .int .i64 0, .int .i64 0, .int .i64 0, .int .i64 0, .bool false, .bool false, .int .i64 0, .int .i64 0] 23)) := (Below.refl _ _).alloc (Nat.le_refl _) _
                have nZX : Z < X := by rw [hX]; exact bZ.hi
                replace bZ := bZ.keep al
                have nVX : V < X := by rw [hX]; exact bV.hi
                replace bV := bV.keep al
                go_simp
                refine hK2.out _ _ (hHeld.keep al) (fun hHeld2 => ?_)
                clear hK2 K hHeld
                have hHeld := hHeld2
                clear hHeld2
                try simp only [Act.put, List.getElem_toArray, List.getElem_cons_succ, List.getElem_cons_zero, List.setIfInBounds_toArray, List.set_cons_zero, List.set_cons_succ]
                generalize World.alloc _ _ = W3 at hHeld al bX bZ bV ⊢
                rw [← hX] at bX ⊢
                clear al hX
                refine wpAnyH_ready (rs := [5]) (by kernel_rfl) (by simp) (AllReadyH.cons rfl (fun K hK2 => ?_) AllReadyH.nil)
                rw [if_pos (by rfl)]
                simp only [List.getElem_toArray, List.getElem_cons_succ, List.getElem_cons_zero]
                obtain ⟨Y, hY⟩ : ∃ n, n = W3.heap.size := ⟨_, rfl⟩
                have bY := BK.new (w := w) (W := W3) #[.int .i64 0, .int .i64 0, .int .i64 0, .int .i64 0, .int .i64 0, .bool false, .bool false, .int .i64 0, .int .i64 0] 23 rfl hHeld.lt
                have al : Below W3.heap.size W3 (W3.alloc (.cells #[.int .i64 0, .int .i64 0, .int .i64 0, .int .i64 0, .int .i64 0, .bool false, .bool false, .int .i64 0, .int .i64 0] 23)) := (Below.refl _ _).alloc (Nat.le_refl _) _
                have nZY : Z < Y := by rw [hY]; exact bZ.hi
                replace bZ := bZ.keep al
                have nVY : V < Y := by rw [hY]; exact bV.hi
                replace bV := bV.keep al
                have nXY : X < Y := by rw [hY]; exact bX.hi
                replace bX := bX.keep al
                go_simp
                refine hK2.out _ _ (hHeld.keep al) (fun hHeld2 => ?_)
                clear hK2 K hHeld
                have hHeld := hHeld2
                clear hHeld2
                try simp only [Act.put, List.getElem_toArray, List.getElem_cons_succ, List.getElem_cons_zero, List.setIfInBounds_toArray, List.set_cons_zero, List.set_cons_succ]
                generalize World.alloc _ _ = W4 at hHeld al bY bZ bV bX ⊢
                rw [← hY] at bY ⊢
                clear al hY
                refine wpAnyH_ready (rs := [8]) (by kernel_rfl) (by simp) (AllReadyH.cons rfl (fun K hK2 => ?_) AllReadyH.nil)
                rw [if_pos (by rfl)]
                simp only [List.getElem_toArray, List.getElem_cons_succ, List.getElem_cons_zero]
                refine wp_store_mid 23 _ _ rfl X 0 CS.toArray rfl rfl (fun j hj => bX.t j (by rw [List.size_toArray, hCn.out] at hj; exact hj)) (by rw [List.size_toArray]; exact hsC.out) h1c.out ?_
                change K _ (World.setCells _ X 0 CS)
                refine hK2.out _ _ (hHeld.far bX.lo 0 CS) (fun hHeld2 => ?_)
                clear hK2 K hHeld
                have hHeld := hHeld2
                clear hHeld2
                try simp only [Act.put, List.getElem_toArray, List.getElem_cons_succ, List.getElem_cons_zero, List.setIfInBounds_toArray, List.set_cons_zero, List.set_cons_succ]
                replace bX := bX.fill hCn.out
                replace bY := bY.far ((Nat.ne_of_lt nXY).symm) 0 CS
                replace bZ := bZ.far (Nat.ne_of_lt nZX) 0 CS
                replace bV := bV.far (Nat.ne_of_lt nVX) 0 CS
                refine wpAnyH_ready (rs := [9]) (by kernel_rfl) (by simp) (AllReadyH.cons rfl (fun K hK2 => ?_) AllReadyH.nil)
                rw [if_pos (by rfl)]
                simp only [List.getElem_toArray, List.getElem_cons_succ, List.getElem_cons_zero]
                refine wp_store_mid 23 _ _ rfl Y 0 CS.toArray rfl rfl (fun j hj => bY.t j (by rw [List.size_toArray, hCn.out] at hj; exact hj)) (by rw [List.size_toArray]; exact hsC.out) h1c.out ?_
                change K _ (World.setCells _ Y 0 CS)
                refine hK2.out _ _ (hHeld.far bY.lo 0 CS) (fun hHeld2 => ?_)
                clear hK2 K hHeld
                have hHeld := hHeld2
                clear hHeld2
                try simp only [Act.put, List.getElem_toArray, List.getElem_cons_succ, List.getElem_cons_zero, List.setIfInBounds_toArray, List.set_cons_zero, List.set_cons_succ]
                replace bX := bX.far (Nat.ne_of_lt nXY) 0 CS
                replace bY := bY.fill hCn.out
                replace bZ := bZ.far (Nat.ne_of_lt nZY) 0 CS
                replace bV := bV.far (Nat.ne_of_lt nVY) 0 CS
                refine wpAnyH_ready (rs := [10]) (by kernel_rfl) (by simp) (AllReadyH.cons rfl (fun K hK2 => ?_) AllReadyH.nil)
                rw [if_pos (by rfl)]
                simp only [List.getElem_toArray, List.getElem_cons_succ, List.getElem_cons_zero]
                refine wp_store_mid 23 _ _ rfl Z 0 CS.toArray rfl rfl (fun j hj => bZ.t j (by rw [List.size_toArray, hCn.out] at hj; exact hj)) (by rw [List.size_toArray]; exact hsC.out) h1c.out ?_
                change K _ (World.setCells _ Z 0 CS)
                refine hK2.out _ _ (hHeld.far bZ.lo 0 CS) (fun hHeld2 => ?_)
                clear hK2 K hHeld
                have hHeld := hHeld2
                clear hHeld2
                try simp only [Act.put, List.getElem_toArray, List.getElem_cons_succ, List.getElem_cons_zero, List.setIfInBounds_toArray, List.set_cons_zero, List.set_cons_succ]
                replace bX := bX.far ((Nat.ne_of_lt nZX).symm) 0 CS
                replace bY := bY.far ((Nat.ne_of_lt nZY).symm) 0 CS
                replace bZ := bZ.fill hCn.out
                replace bV := bV.far ((Nat.ne_of_lt nZV).symm) 0 CS
                refine wpAnyH_ready (rs := [11]) (by kernel_rfl) (by simp) (AllReadyH.cons rfl (fun K hK2 => ?_) AllReadyH.nil)
                rw [if_pos (by rfl)]
                simp only [List.getElem_toArray, List.getElem_cons_succ, List.getElem_cons_zero]
                refine wp_store_mid 23 _ _ rfl V 0 CS.toArray rfl rfl (fun j hj => bV.t j (by rw [List.size_toArray, hCn.out] at hj; exact hj)) (by rw [List.size_toArray]; exact hsC.out) h1c.out ?_
                change K _ (World.setCells _ V 0 CS)
                refine hK2.out _ _ (hHeld.far bV.lo 0 CS) (fun hHeld2 => ?_)
                clear hK2 K hHeld
                have hHeld := hHeld2
                clear hHeld2
                try simp only [Act.put, List.getElem_toArray, List.getElem_cons_succ, List.getElem_cons_zero, List.setIfInBounds_toArray, List.set_cons_zero, List.set_cons_succ]
                replace bX := bX.far ((Nat.ne_of_lt nVX).symm) 0 CS
                replace bY := bY.far ((Nat.ne_of_lt nVY).symm) 0 CS
                replace bZ := bZ.far (Nat.ne_of_lt nZV) 0 CS
                replace bV := bV.fill hCn.out
                refine wpAnyH_done (by kernel_rfl) ?_ _
                go_wp2_with fail
                go_meet
                exact ⟨X, Y, Z, V, rfl, rfl, rfl, rfl, ⟨bX, bY, bZ, bV, Nat.ne_of_lt nXY, (Nat.ne_of_lt nZX).symm, (Nat.ne_of_lt nVX).symm, (Nat.ne_of_lt nZY).symm, (Nat.ne_of_lt nVY).symm, Nat.ne_of_lt nZV, hHeld⟩⟩
              refine AllReadyH.cons rfl (fun K hK2 => ?_) ?_
              · rw [if_pos (by rfl)]
                simp only [List.getElem_toArray, List.getElem_cons_succ, List.getElem_cons_zero]
                obtain ⟨Y, hY⟩ : ∃ n, n = W2.heap.size := ⟨_, rfl⟩
                have bY := BK.new (w := w) (W := W2) #[.int .i64 0, .int .i64 0, .int .i64 0, .int .i64 0, .int .i64 0, .bool false, .bool false, .int .i64 0, .int .i64 0] 23 rfl hHeld.lt
                have al : Below W2.heap.size W2 (W2.alloc (.cells #[.int .i64 0, .int .i64 0, .int .i64 0, .int .i64 0, .int .i64 0, .bool false, .bool false, .int .i64 0, .int .i64 0] 23)) := (Below.refl _ _).alloc (Nat.le_refl _) _
                have nZY : Z < Y := by rw [hY]; exact bZ.hi
                replace bZ := bZ.keep al
                have nVY : V < Y := by rw [hY]; exact bV.hi
                replace bV := bV.keep al
                go_simp
                refine hK2.out _ _ (hHeld.keep al) (fun hHeld2 => ?_)
                clear hK2 K hHeld
                have hHeld := hHeld2
                clear hHeld2
                try simp only [Act.put, List.getElem_toArray, List.getElem_cons_succ, List.getElem_cons_zero, List.setIfInBounds_toArray, List.set_cons_zero, List.set_cons_succ]
                generalize World.alloc _ _ = W3 at hHeld al bY bZ bV ⊢
                rw [← hY] at bY ⊢
                clear al hY
                refine wpAnyH_ready (rs := [4]) (by kernel_rfl) (by simp) (AllReadyH.cons rfl (fun K hK2 => ?_) AllReadyH.nil)
                rw [if_pos (by rfl)]
                simp only [List.getElem_toArray, List.getElem_cons_succ, List.getElem_cons_zero]
                obtain ⟨X, hX⟩ : ∃ n, n = W3.heap.size := ⟨_, rfl⟩
                have bX := BK.new (w := w) (W := W3) #[.int .i64 0, .int .i64 0, .int .i64 0, .int .i64 0, .int .i64 0, .bool false, .bool false, .int .i64 0, .int .i64 0] 23 rfl hHeld.lt
                have al : Below W3.heap.size W3 (W3.alloc (.cells #[.int .i64 0, .int .i64 0, .int .i64 0, .int .i64 0, .int .i64 0, .bool false, .bool false, .int .i64 0, .int .i64 0] 23)) := (Below.refl _ _).alloc (Nat.le_refl _) _
                have nZX : Z < X := by rw [hX]; exact bZ.hi
                replace bZ := bZ.keep al
                have nVX : V < X := by rw [hX]; exact bV.hi
                replace bV := bV.keep al
                have nYX : Y < X := by rw [hX]; exact bY.hi
                replace bY := bY.keep al
                go_simp
                refine hK2.out _ _ (hHeld.keep al) (fun hHeld2 => ?_)
                clear hK2 K hHeld
                have hHeld := hHeld2
                clear hHeld2
                try simp only [Act.put, List.getElem_toArray, List.getElem_cons_succ, List.getElem_cons_zero, List.setIfInBounds_toArray, List.set_cons_zero, List.set_cons_succ]
                generalize World.alloc _ _ = W4 at hHeld al bX bZ bV bY ⊢
                rw [← hX] at bX ⊢
                clear al hX
                refine wpAnyH_ready (rs := [8]) (by kernel_rfl) (by simp) (AllReadyH.cons rfl (fun K hK2 => ?_) AllReadyH.nil)
                rw [if_pos (by rfl)]
                simp only [List.getElem_toArray, List.getElem_cons_succ, List.getElem_cons_zero]
                refine wp_store_mid 23 _ _ rfl X 0 CS.toArray rfl rfl (fun j hj => bX.t j (by rw [List.size_toArray, hCn.out] at hj; exact hj)) (by rw [List.size_toArray]; exact hsC.out) h1c.out ?_
                change K _ (World.setCells _ X 0 CS)
                refine hK2.out _ _ (hHeld.far bX.lo 0 CS) (fun hHeld2 => ?_)
                clear hK2 K hHeld
                have hHeld := hHeld2
                clear hHeld2
                try simp only [Act.put, List.getElem_toArray, List.getElem_cons_succ, List.getElem_cons_zero, List.setIfInBounds_toArray, List.set_cons_zero, List.set_cons_succ]
                replace bX := bX.fill hCn.out
                replace bY := bY.far (Nat.ne_of_lt nYX) 0 CS
                replace bZ := bZ.far (Nat.ne_of_lt nZX) 0 CS
                replace bV := bV.far (Nat.ne_of_lt nVX) 0 CS
                refine wpAnyH_ready (rs := [9]) (by kernel_rfl) (by simp) (AllReadyH.cons rfl (fun K hK2 => ?_) AllReadyH.nil)
                rw [if_pos (by rfl)]
                simp only [List.getElem_toArray, List.getElem_cons_succ, List.getElem_cons_zero]
                refine wp_store_mid 23 _ _ rfl Y 0 CS.toArray rfl rfl (fun j hj => bY.t j (by rw [List.size_toArray, hCn.out] at hj; exact hj)) (by rw [List.size_toArray]; exact hsC.out) h1c.out ?_
                change K _ (World.setCells _ Y 0 CS)
                refine hK2.out _ _ (hHeld.far bY.lo 0 CS) (fun hHeld2 => ?_)
                clear hK2 K hHeld
                have hHeld := hHeld2
                clear hHeld2
                try simp only [Act.put, List.getElem_toArray, List.getElem_cons_succ, List.getElem_cons_zero, List.setIfInBounds_toArray, List.set_cons_zero, List.set_cons_succ]
                replace bX := bX.far ((Nat.ne_of_lt nYX).symm) 0 CS
                replace bY := bY.fill hCn.out
                replace bZ := bZ.far (Nat.ne_of_lt nZY) 0 CS
                replace bV := bV.far (Nat.ne_of_lt nVY) 0 CS
                refine wpAnyH_ready (rs := [10]) (by kernel_rfl) (by simp) (AllReadyH.cons rfl (fun K hK2 => ?_) AllReadyH.nil)
                rw [if_pos (by rfl)]
                simp only [List.getElem_toArray, List.getElem_cons_succ, List.getElem_cons_zero]
                refine wp_store_mid 23 _ _ rfl Z 0 CS.toArray rfl rfl (fun j hj => bZ.t j (by rw [List.size_toArray, hCn.out] at hj; exact hj)) (by rw [List.size_toArray]; exact hsC.out) h1c.out ?_
                change K _ (World.setCells _ Z 0 CS)
                refine hK2.out _ _ (hHeld.far bZ.lo 0 CS) (fun hHeld2 => ?_)
                clear hK2 K hHeld
                have hHeld := hHeld2
                clear hHeld2
                try simp only [Act.put, List.getElem_toArray, List.getElem_cons_succ, List.getElem_cons_zero, List.setIfInBounds_toArray, List.set_cons_zero, List.set_cons_succ]
                replace bX := bX.far ((Nat.ne_of_lt nZX).symm) 0 CS
                replace bY := bY.far ((Nat.ne_of_lt nZY).symm) 0 CS
                replace bZ := bZ.fill hCn.out
                replace bV := bV.far ((Nat.ne_of_lt nZV).symm) 0 CS
                refine wpAnyH_ready (rs := [11]) (by kernel_rfl) (by simp) (AllReadyH.cons rfl (fun K hK2 => ?_) AllReadyH.nil)
                rw [if_pos (by rfl)]
                simp only [List.getElem_toArray, List.getElem_cons_succ, List.getElem_cons_zero]
                refine wp_store_mid 23 _ _ rfl V 0 CS.toArray rfl rfl (fun j hj => bV.t j (by rw [List.size_toArray, hCn.out] at hj; exact hj)) (by rw [List.size_toArray]; exact hsC.out) h1c.out ?_
                change K _ (World.setCells _ V 0 CS)
                refine hK2.out _ _ (hHeld.far bV.lo 0 CS) (fun hHeld2 => ?_)
                clear hK2 K hHeld
                have hHeld := hHeld2
                clear hHeld2
                try simp only [Act.put, List.getElem_toArray, List.getElem_cons_succ, List.getElem_cons_zero, List.setIfInBounds_toArray, List.set_cons_zero, List.set_cons_succ]
                replace bX := bX.far ((Nat.ne_of_lt nVX).symm) 0 CS
                replace bY := bY.far ((Nat.ne_of_lt nVY).symm) 0 CS
                replace bZ := bZ.far (Nat.ne_of_lt nZV) 0 CS
                replace bV := bV.fill hCn.out
                refine wpAnyH_done (by kernel_rfl) ?_ _
                go_wp2_with fail
                go_meet
                exact ⟨X, Y, Z, V, rfl, rfl, rfl, rfl, ⟨bX, bY, bZ, bV, (Nat.ne_of_lt nYX).symm, (Nat.ne_of_lt nZX).symm, (Nat.ne_of_lt nVX).symm, (Nat.ne_of_lt nZY).symm, (Nat.ne_of_lt nVY).symm, Nat.ne_of_lt nZV, hHeld⟩⟩
              exact AllReadyH.nil
          exact AllReadyH.nil
      refine AllReadyH.cons rfl (fun K hK2 => ?_) ?_
      · as_aux_lemma =>
          rw [if_pos (by rfl)]
          simp only [List.getElem_toArray, List.getElem_cons_succ, List.getElem_cons_zero]
          obtain ⟨V, hV⟩ : ∃ n, n = W0.heap.size := ⟨_, rfl⟩
          have bV := BK.new (w := w) (W := W0) #[.int .i64 0, .int .i64 0, .int .i64 0, .int .i64 0, .int .i64 0, .bool false, .bool false, .int .i64 0, .int .i64 0] 23 rfl hHeld.lt
          have al : Below W0.heap.size W0 (W0.alloc (.cells #[.int .i64 0, .int .i64 0, .int .i64 0, .int .i64 0, .int .i64 0, .bool false, .bool false, .int .i64 0, .int .i64 0] 23)) := (Below.refl _ _).alloc (Nat.le_refl _) _
          go_simp
          refine hK2.out _ _ (hHeld.keep al) (fun hHeld2 => ?_)
          clear hK2 K hHeld
          have hHeld := hHeld2
          clear hHeld2
          try simp only [Act.put, List.getElem_toArray, List.getElem_cons_succ, List.getElem_cons_zero, List.setIfInBounds_toArray, List.set_cons_zero, List.set_cons_succ]
          generalize World.alloc _ _ = W1 at hHeld al bV  ⊢
          rw [← hV] at bV ⊢
          clear al hV
          refine wpAnyH_ready (rs := [4, 5, 6]) (by kernel_rfl) (by simp) ?_
          refine AllReadyH.cons rfl (fun K hK2 => ?_) ?_
          · as_aux_lemma =>
              rw [if_pos (by rfl)]
              simp only [List.getElem_toArray, List.getElem_cons_succ, List.getElem_cons_zero]
              obtain ⟨X, hX⟩ : ∃ n, n = W1.heap.size := ⟨_, rfl⟩
              have bX := BK.new (w := w) (W := W1) #[.int .i64 0, .int .i64 0, .int .i64 0, .int .i64 0, .int .i64 0, .bool false, .bool false, .int .i64 0, .int .i64 0] 23 rfl hHeld.lt
              have al : Below W1.heap.size W1 (W1.alloc (.cells #[.int .i64 0, .int .i64 0, .int .i64 0, .int .i64 0, .int .i64 0, .bool false, .bool false, .int .i64 0, .int .i64 0] 23)) := (Below.refl _ _).alloc (Nat.le_refl _) _
              have nVX : V < X := by rw [hX]; exact bV.hi
              replace bV := bV.keep al
              go_simp
              refine hK2.out _ _ (hHeld.keep al) (fun hHeld2 => ?_)
              clear hK2 K hHeld
              have hHeld := hHeld2
              clear hHeld2
              try simp only [Act.put, List.getElem_toArray, List.getElem_cons_succ, List.getElem_cons_zero, List.setIfInBounds_toArray, List.set_cons_zero, List.set_cons_succ]
              generalize World.alloc _ _ = W2 at hHeld al bX bV ⊢
              rw [← hX] at bX ⊢
              clear al hX
              refine wpAnyH_ready (rs := [5, 6]) (by kernel_rfl) (by simp) ?_
              refine AllReadyH.cons rfl (fun K hK2 => ?_) ?_
              · rw [if_pos (by rfl)]
                simp only [List.getElem_toArray, List.getElem_cons_succ, List.getElem_cons_zero]
                obtain ⟨Y, hY⟩ : ∃ n, n = W2.heap.size := ⟨_, rfl⟩
                have bY := BK.new (w := w) (W := W2) #[.int .i64 0, .int .i64 0, .int .i64 0, .int .i64 0, .int .i64 0, .bool false, .bool false, .int .i64 0, .int .i64 0] 23 rfl hHeld.lt
                have al : Below W2.heap.size W2 (W2.alloc (.cells #[.int .i64 0, .int .i64 0, .int .i64 0, .int .i64 0, .int .i64 0, .bool false, .bool false, .int .i64 0, .int .i64 0] 23)) := (Below.refl _ _).alloc (Nat.le_refl _) _
                have nVY : V < Y := by rw [hY]; exact bV.hi
                replace bV := bV.keep al
                have nXY : X < Y := by rw [hY]; exact bX.hi
                replace bX := bX.keep al
                go_simp
                refine hK2.out _ _ (hHeld.keep al) (fun hHeld2 => ?_)
                clear hK2 K hHeld
                have hHeld := hHeld2
                clear hHeld2
                try simp only [Act.put, List.getElem_toArray, List.getElem_cons_succ, List.getElem_cons_zero, List.setIfInBounds_toArray, List.set_cons_zero, List.set_cons_succ]
                generalize World.alloc _ _ = W3 at hHeld al bY bV bX ⊢
                rw [← hY] at bY ⊢
                clear al hY
                refine wpAnyH_ready (rs := [6]) (by kernel_rfl) (by simp) (AllReadyH.cons rfl (fun K hK2 => ?_) AllReadyH.nil)
                rw [if_pos (by rfl)]
                simp only [List.getElem_toArray, List.getElem_cons_succ, List.getElem_cons_zero]
                obtain ⟨Z, hZ⟩ : ∃ n, n = W3.heap.size := ⟨_, rfl⟩
                have bZ := BK.new (w := w) (W := W3) #[.int .i64 0, .int .i64 0, .int .i64 0, .int .i64 0, .int .i64 0, .bool false, .bool false, .int .i64 0, .int .i64 0] 23 rfl hHeld.lt
                have al : Below W3.heap.size W3 (W3.alloc (.cells #[.int .i64 0, .int .i64 0, .int .i64 0, .int .i64 0, .int .i64 0, .bool false, .bool false, .int .i64 0, .int .i64 0] 23)) := (Below.refl _ _).alloc (Nat.le_refl _) _
                have nVZ : V < Z := by rw [hZ]; exact bV.hi
                replace bV := bV.keep al
                have nXZ : X < Z := by rw [hZ]; exact bX.hi
                replace bX := bX.keep al
                have nYZ : Y < Z := by rw [hZ]; exact bY.hi
                replace bY := bY.keep al
                go_simp
                refine hK2.out _ _ (hHeld.keep al) (fun hHeld2 => ?_)
                clear hK2 K hHeld
                have hHeld := hHeld2
                clear hHeld2
                try simp only [Act.put, List.getElem_toArray, List.getElem_cons_succ, List.getElem_cons_zero, List.setIfInBounds_toArray, List.set_cons_zero, List.set_cons_succ]
                generalize World.alloc _ _ = W4 at hHeld al bZ bV bX bY ⊢
                rw [← hZ] at bZ ⊢
                clear al hZ
                refine wpAnyH_ready (rs := [8]) (by kernel_rfl) (by simp) (AllReadyH.cons rfl (fun K hK2 => ?_) AllReadyH.nil)
                rw [if_pos (by rfl)]
                simp only [List.getElem_toArray, List.getElem_cons_succ, List.getElem_cons_zero]
                refine wp_store_mid 23 _ _ rfl X 0 CS.toArray rfl rfl (fun j hj => bX.t j (by rw [List.size_toArray, hCn.out] at hj; exact hj)) (by rw [List.size_toArray]; exact hsC.out) h1c.out ?_
                change K _ (World.setCells _ X 0 CS)
                refine hK2.out _ _ (hHeld.far bX.lo 0 CS) (fun hHeld2 => ?_)
                clear hK2 K hHeld
                have hHeld := hHeld2
                clear hHeld2
                try simp only [Act.put, List.getElem_toArray, List.getElem_cons_succ, List.getElem_cons_zero, List.setIfInBounds_toArray, List.set_cons_zero, List.set_cons_succ]
                replace bX := bX.fill hCn.out
                replace bY := bY.far ((Nat.ne_of_lt nXY).symm) 0 CS
                replace bZ := bZ.far ((Nat.ne_of_lt nXZ).symm) 0 CS
                replace bV := bV.far (Nat.ne_of_lt nVX) 0 CS
                refine wpAnyH_ready (rs := [9]) (by kernel_rfl) (by simp) (AllReadyH.cons rfl (fun K hK2 => ?_) AllReadyH.nil)
                rw [if_pos (by rfl)]
                simp only [List.getElem_toArray, List.getElem_cons_succ, List.getElem_cons_zero]
                refine wp_store_mid 23 _ _ rfl Y 0 CS.toArray rfl rfl (fun j hj => bY.t j (by rw [List.size_toArray, hCn.out] at hj; exact hj)) (by rw [List.size_toArray]; exact hsC.out) h1c.out ?_
                change K _ (World.setCells _ Y 0 CS)
                refine hK2.out _ _ (hHeld.far bY.lo 0 CS) (fun hHeld2 => ?_)
                clear hK2 K hHeld
                have hHeld := hHeld2
                clear hHeld2
                try simp only [Act.put, List.getElem_toArray, List.getElem_cons_succ, List.getElem_cons_zero, List.setIfInBounds_toArray, List.set_cons_zero, List.set_cons_succ]
                replace bX := bX.far (Nat.ne_of_lt nXY) 0 CS
                replace bY := bY.fill hCn.out
                replace bZ := bZ.far ((Nat.ne_of_lt nYZ).symm) 0 CS
                replace bV := bV.far (Nat.ne_of_lt nVY) 0 CS
                refine wpAnyH_ready (rs := [10]) (by kernel_rfl) (by simp) (AllReadyH.cons rfl (fun K hK2 => ?_) AllReadyH.nil)
                rw [if_pos (by rfl)]
                simp only [List.getElem_toArray, List.getElem_cons_succ, List.getElem_cons_zero]
                refine wp_store_mid 23 _ _ rfl Z 0 CS.toArray rfl rfl (fun j hj => bZ.t j (by rw [List.size_toArray, hCn.out] at hj; exact hj)) (by rw [List.size_toArray]; exact hsC.out) h1c.out ?_
                change K _ (World.setCells _ Z 0 CS)
                refine hK2.out _ _ (hHeld.far bZ.lo 0 CS) (fun hHeld2 => ?_)
                clear hK2 K hHeld
                have hHeld := hHeld2
                clear hHeld2
                try simp only [Act.put, List.getElem_toArray, List.getElem_cons_succ, List.getElem_cons_zero, List.setIfInBounds_toArray, List.set_cons_zero, List.set_cons_succ]
                replace bX := bX.far (Nat.ne_of_lt nXZ) 0 CS
                replace bY := bY.far (Nat.ne_of_lt nYZ) 0 CS
                replace bZ := bZ.fill hCn.out
                replace bV := bV.far (Nat.ne_of_lt nVZ) 0 CS
                refine wpAnyH_ready (rs := [11]) (by kernel_rfl) (by simp) (AllReadyH.cons rfl (fun K hK2 => ?_) AllReadyH.nil)
                rw [if_pos (by rfl)]
                simp only [List.getElem_toArray, List.getElem_cons_succ, List.getElem_cons_zero]
                refine wp_store_mid 23 _ _ rfl V 0 CS.toArray rfl rfl (fun j hj => bV.t j (by rw [List.size_toArray, hCn.out] at hj; exact hj)) (by rw [List.size_toArray]; exact hsC.out) h1c.out ?_
                change K _ (World.setCells _ V 0 CS)
                refine hK2.out _ _ (hHeld.far bV.lo 0 CS) (fun hHeld2 => ?_)
                clear hK2 K hHeld
                have hHeld := hHeld2
                clear hHeld2
                try simp only [Act.put, List.getElem_toArray, List.getElem_cons_succ, List.getElem_cons_zero, List.setIfInBounds_toArray, List.set_cons_zero, List.set_cons_succ]
                replace bX := bX.far ((Nat.ne_of_lt nVX).symm) 0 CS
                replace bY := bY.far ((Nat.ne_of_lt nVY).symm) 0 CS
                replace bZ := bZ.far ((Nat.ne_of_lt nVZ).symm) 0 CS
                replace bV := bV.fill hCn.out
                refine wpAnyH_done (by kernel_rfl) ?_ _
                go_wp2_with fail
                go_meet
                exact ⟨X, Y, Z, V, rfl, rfl, rfl, rfl, ⟨bX, bY, bZ, bV, Nat.ne_of_lt nXY, Nat.ne_of_lt nXZ, (Nat.ne_of_lt nVX).symm, Nat.ne_of_lt nYZ, (Nat.ne_of_lt nVY).symm, (Nat.ne_of_lt nVZ).symm, hHeld⟩⟩
              refine AllReadyH.cons rfl (fun K hK2 => ?_) ?_
              · rw [if_pos (by rfl)]
                simp only [List.getElem_toArray, List.getElem_cons_succ, List.getElem_cons_zero]
                obtain ⟨Z, hZ⟩ : ∃ n, n = W2.heap.size := ⟨_, rfl⟩
                have bZ := BK.new (w := w) (W := W2) #[.int .i64 0, .int .i64 0, .int .i64 0, .int .i64 0, .int .i64 0, .bool false, .bool false, .int .i64 0, .int .i64 0] 23 rfl hHeld.lt
                have al : Below W2.heap.size W2 (W2.alloc (.cells #[.int .i64 0, .int .i64 0, .int .i64 0, .int .i64 0, .int .i64 0, .bool false, .bool false, .int .i64 0, .int .i64 0] 23)) := (Below.refl _ _).alloc (Nat.le_refl _) _
                have nVZ : V < Z := by rw [hZ]; exact bV.hi
                replace bV := bV.keep al
                have nXZ : X < Z := by rw [hZ]; exact bX.hi
                replace bX := bX.keep al
                go_simp
                refine hK2.out _ _ (hHeld.keep al) (fun hHeld2 => ?_)
                clear hK2 K hHeld
                have hHeld := hHeld2
                clear hHeld2
                try simp only [Act.put, List.getElem_toArray, List.getElem_cons_succ, List.getElem_cons_zero, List.setIfInBounds_toArray, List.set_cons_zero, List.set_cons_succ]
                generalize World.alloc _ _ = W3 at hHeld al bZ bV bX ⊢
                rw [← hZ] at bZ ⊢
                clear al hZ
                refine wpAnyH_ready (rs := [5]) (by kernel_rfl) (by simp) (AllReadyH.cons rfl (fun K hK2 => ?_) AllReadyH.nil)
                rw [if_pos (by rfl)]
                simp only [List.getElem_toArray, List.getElem_cons_succ, List.getElem_cons_zero]
                obtain ⟨Y, hY⟩ : ∃ n, n = W3.heap.size := ⟨_, rfl⟩
                have bY := BK.new (w := w) (W := W3) #[.int .i64 0, .int .i64 0, .int .i64 0, .int .i64 0, .int .i64 0, .bool false, .bool false, .int .i64 0, .int .i64 0] 23 rfl hHeld.lt
                have al : Below W3.heap.size W3 (W3.alloc (.cells #[.int .i64 0, .int .i64 0, .int .i64 0, .int .i64 0, .int .i64 0, .bool false, .bool false, .int .i64 0, .int .i64 0] 23)) := (Below.refl _ _).alloc (Nat.le_refl _) _
                have nVY : V < Y := by rw [hY]; exact bV.hi
                replace bV := bV.keep al
                have nXY : X < Y := by rw [hY]; exact bX.hi
                replace bX := bX.keep al
                have nZY : Z < Y := by rw [hY]; exact bZ.hi
                replace bZ := bZ.keep al
                go_simp
                refine hK2.out _ _ (hHeld.keep al) (fun hHeld2 => ?_)
                clear hK2 K hHeld
                have hHeld := hHeld2
                clear hHeld2
                try simp only [Act.put, List.getElem_toArray, List.getElem_cons_succ, List.getElem_cons_zero, List.setIfInBounds_toArray, List.set_cons_zero, List.set_cons_succ]
                generalize World.alloc _ _ = W4 at hHeld al bY bV bX bZ ⊢
                rw [← hY] at bY ⊢
                clear al hY
                refine wpAnyH_ready (rs := [8]) (by kernel_rfl) (by simp) (AllReadyH.cons rfl (fun K hK2 => ?_) AllReadyH.nil)
                rw [if_pos (by rfl)]
                simp only [List.getElem_toArray, List.getElem_cons_succ, List.getElem_cons_zero]
                refine wp_store_mid 23 _ _ rfl X 0 CS.toArray rfl rfl (fun j hj => bX.t j (by rw [List.size_toArray, hCn.out] at hj; exact hj)) (by rw [List.size_toArray]; exact hsC.out) h1c.out ?_
                change K _ (World.setCells _ X 0 CS)
                refine hK2.out _ _ (hHeld.far bX.lo 0 CS) (fun hHeld2 => ?_)
                clear hK2 K hHeld
                have hHeld := hHeld2
                clear hHeld2
                try simp only [Act.put, List.getElem_toArray, List.getElem_cons_succ, List.getElem_cons_zero, List.setIfInBounds_toArray, List.set_cons_zero, List.set_cons_succ]
                replace bX := bX.fill hCn.out
                replace bY := bY.far ((Nat.ne_of_lt nXY).symm) 0 CS
                replace bZ := bZ.far ((Nat.ne_of_lt nXZ).symm) 0 CS
                replace bV := bV.far (Nat.ne_of_lt nVX) 0 CS
                refine wpAnyH_ready (rs := [9]) (by kernel_rfl) (by simp) (AllReadyH.cons rfl (fun K hK2 => ?_) AllReadyH.nil)
                rw [if_pos (by rfl)]
                simp only [List.getElem_toArray, List.getElem_cons_succ, List.getElem_cons_zero]
                refine wp_store_mid 23 _ _ rfl Y 0 CS.toArray rfl rfl (fun j hj => bY.t j (by rw [List.size_toArray, hCn.out] at hj; exact hj)) (by rw [List.size_toArray]; exact hsC.out) h1c.out ?_
                change K _ (World.setCells _ Y 0 CS)
                refine hK2.out _ _ (hHeld.far bY.lo 0 CS) (fun hHeld2 => ?_)
                clear hK2 K hHeld
                have hHeld := hHeld2
                clear hHeld2
                try simp only [Act.put, List.getElem_toArray, List.getElem_cons_succ, List.getElem_cons_zero, List.setIfInBounds_toArray, List.set_cons_zero, List.set_cons_succ]
                replace bX := bX.far (Nat.ne_of_lt nXY) 0 CS
                replace bY := bY.fill hCn.out
                replace bZ := bZ.far (Nat.ne_of_lt nZY) 0 CS
                replace bV := bV.far (Nat.ne_of_lt nVY) 0 CS
                refine wpAnyH_ready (rs := [10]) (by kernel_rfl) (by simp) (AllReadyH.cons rfl (fun K hK2 => ?_) AllReadyH.nil)
                rw [if_pos (by rfl)]
                simp only [List.getElem_toArray, List.getElem_cons_succ, List.getElem_cons_zero]
                refine wp_store_mid 23 _ _ rfl Z 0 CS.toArray rfl rfl (fun j hj => bZ.t j (by rw [List.size_toArray, hCn.out] at hj; exact hj)) (by rw [List.size_toArray]; exact hsC.out) h1c.out ?_
                change K _ (World.setCells _ Z 0 CS)
                refine hK2.out _ _ (hHeld.far bZ.lo 0 CS) (fun hHeld2 => ?_)
                clear hK2 K hHeld
                have hHeld := hHeld2
                clear hHeld2
                try simp only [Act.put, List.getElem_toArray, List.getElem_cons_succ, List.getElem_cons_zero, List.setIfInBounds_toArray, List.set_cons_zero, List.set_cons_succ]
                replace bX := bX.far (Nat.ne_of_lt nXZ) 0 CS
                replace bY := bY.far ((Nat.ne_of_lt nZY).symm) 0 CS
                replace bZ := bZ.fill hCn.out
                replace bV := bV.far (Nat.ne_of_lt nVZ) 0 CS
                refine wpAnyH_ready (rs := [11]) (by kernel_rfl) (by simp) (AllReadyH.cons rfl (fun K hK2 => ?_) AllReadyH.nil)
                rw [if_pos (by rfl)]
                simp only [List.getElem_toArray, List.getElem_cons_succ, List.getElem_cons_zero]
                refine wp_store_mid 23 _ _ rfl V 0 CS.toArray rfl rfl (fun j hj => bV.t j (by rw [List.size_toArray, hCn.out] at hj; exact hj)) (by rw [List.size_toArray]; exact hsC.out) h1c.out ?_
                change K _ (World.setCells _ V 0 CS)
                refine hK2.out _ _ (hHeld.far bV.lo 0 CS) (fun hHeld2 => ?_)
                clear hK2 K hHeld
                have hHeld := hHeld2
                clear hHeld2
                try simp only [Act.put, List.getElem_toArray, List.getElem_cons_succ, List.getElem_cons_zero, List.setIfInBounds_toArray, List.set_cons_zero, List.set_cons_succ]
                replace bX := bX.far ((Nat.ne_of_lt nVX).symm) 0 CS
                replace bY := bY.far ((Nat.ne_of_lt nVY).symm) 0 CS
                replace bZ := bZ.far ((Nat.ne_of_lt nVZ).symm) 0 CS
                replace bV := bV.fill hCn.out
                refine wpAnyH_done (by kernel_rfl) ?_ _
                go_wp2_with fail
                go_meet
                exact ⟨X, Y, Z, V, rfl, rfl, rfl, rfl, ⟨bX, bY, bZ, bV, Nat.ne_of_lt nXY, Nat.ne_of_lt nXZ, (Nat.ne_of_lt nVX).symm, (Nat.ne_of_lt nZY).symm, (Nat.ne_of_lt nVY).symm, (Nat.ne_of_lt nVZ).symm, hHeld⟩⟩
              exact AllReadyH.nil
          refine AllReadyH.cons rfl (fun K hK2 => ?_) ?_
          · as_aux_lemma =>
              rw [if_pos (by rfl)]
              simp only [List.getElem_toArray, List.getElem_cons_succ, List.getElem_cons_zero]
              obtain ⟨Y, hY⟩ : ∃ n, n = W1.heap.size := ⟨_, rfl⟩
              have bY := BK.new (w := w) (W := W1) #[.int .i64 0, .int .i64 0, .int .i64 0, .int .i64 0, .int .i64 0, .bool false, .bool false, .int .i64 0, .int .i64 0] 23 rfl hHeld.lt
              have al : Below W1.heap.size W1 (W1.alloc (.cells #[.int .i64 0, .int .i64 0, .int .i64 0, .int .i64 0, .int .i64 0, .bool false, .bool false, .int .i64 0, .int .i64 0] 23)) := (Below.refl _ _).alloc (Nat.le_refl _) _
              have nVY : V < Y := by rw [hY]; exact bV.hi
              replace bV := bV.keep al
              go_simp
              refine hK2.out _ _ (hHeld.keep al) (fun hHeld2 => ?_)
              clear hK2 K hHeld
              have hHeld := hHeld2
              clear hHeld2
              try simp only [Act.put, List.getElem_toArray, List.getElem_cons_succ, List.getElem_cons_zero, List.setIfInBounds_toArray, List.set_cons_zero, List.set_cons_succ]
              generalize World.alloc _ _ = W2 at hHeld al bY bV ⊢
              rw [← hY] at bY ⊢
              clear al hY
              refine wpAnyH_ready (rs := [4, 6]) (by kernel_rfl) (by simp) ?_
              refine AllReadyH.cons rfl (fun K hK2 => ?_) ?_
              · rw [if_pos (by rfl)]
                simp only [List.getElem_toArray, List.getElem_cons_succ, List.getElem_cons_zero]
                obtain ⟨X, hX⟩ : ∃ n, n = W2.heap.size := ⟨_, rfl⟩
                have bX := BK.new (w := w) (W := W2) #[.int .i64 0, .int .i64 0, .int .i64 0, .int .i64 0, .int .i64 0, .bool false, .bool false, .int .i64 0, .int .i64 0] 23 rfl hHeld.lt
                have al : Below W2.heap.size W2 (W2.alloc (.cells #[.int .i64 0, .int .i64 0, .int .i64 0, .int .i64 0, .int .i64 0, .bool false, .bool false, .int .i64 0, .int .i64 0] 23)) := (Below.refl _ _).alloc (Nat.le_refl _) _
                have nVX : V < X := by rw [hX]; exact bV.hi
                replace bV := bV.keep al
                have nYX : Y < X := by rw [hX]; exact bY.hi
                replace bY := bY.keep al
                go_simp
                refine hK2.out _ _ (hHeld.keep al) (fun hHeld2 => ?_)
                clear hK2 K hHeld
                have hHeld := hHeld2
                clear hHeld2
                try simp only [Act.put, List.getElem_toArray, List.getElem_cons_succ, List.getElem_cons_zero, List.setIfInBounds_toArray, List.set_cons_zero, List.set_cons_succ]
                generalize World.alloc _ _ = W3 at hHeld al bX bV bY ⊢
                rw [← hX] at bX ⊢
                clear al hX
                refine wpAnyH_ready (rs := [6]) (by kernel_rfl) (by simp) (AllReadyH.cons rfl (fun K hK2 => ?_) AllReadyH.nil)
                rw [if_pos (by rfl)]
                simp only [List.getElem_toArray, List.getElem_cons_succ, List.getElem_cons_zero]
                obtain ⟨Z, hZ⟩ : ∃ n, n = W3.heap.size := ⟨_, rfl⟩
                have bZ := BK.new (w := w) (W := W3) #[.int .i64 0, .int .i64 0, .int .i64 0, .int .i64 0, .int .i64 0, .bool false, .bool false, .int .i64 0, .int .i64 0] 23 rfl hHeld.lt
                have al : Below W3.heap.size W3 (W3.alloc (.cells #[.int .i64 0, .int .i64 0, .int .i64 0, .int .i64 0, .int .i64 0, .bool false, .bool false, .int .i64 0, .int .i64 0] 23)) := (Below.refl _ _).alloc (Nat.le_refl _) _
                have nVZ : V < Z := by rw [hZ]; exact bV.hi
                replace bV := bV.keep al
                have nYZ : Y < Z := by rw [hZ]; exact bY.hi
                replace bY := bY.keep al
                have nXZ : X < Z := by rw [hZ]; exact bX.hi
                replace bX := bX.keep al
                go_simp
                refine hK2.out _ _ (hHeld.keep al) (fun hHeld2 => ?_)
                clear hK2 K hHeld
                have hHeld := hHeld2
                clear hHeld2
                try simp only [Act.put, List.getElem_toArray, List.getElem_cons_succ, List.getElem_cons_zero, List.setIfInBounds_toArray, List.set_cons_zero, List.set_cons_succ]
                generalize World.alloc _ _ = W4 at hHeld al bZ bV bY bX ⊢
                rw [← hZ] at bZ ⊢
                clear al hZ
                refine wpAnyH_ready (rs := [8]) (by kernel_rfl) (by simp) (AllReadyH.cons rfl (fun K hK2 => ?_) AllReadyH.nil)
                rw [if_pos (by rfl)]
                simp only [List.getElem_toArray, List.getElem_cons_succ, List.getElem_cons_zero]
                refine wp_store_mid 23 _ _ rfl X 0 CS.toArray rfl rfl (fun j hj => bX.t j (by rw [List.size_toArray, hCn.out] at hj; exact hj)) (by rw [List.size_toArray]; exact hsC.out) h1c.out ?_
                change K _ (World.setCells _ X 0 CS)
                refine hK2.out _ _ (hHeld.far bX.lo 0 CS) (fun hHeld2 => ?_)
                clear hK2 K hHeld
                have hHeld := hHeld2
                clear hHeld2
                try simp only [Act.put, List.getElem_toArray, List.getElem_cons_succ, List.getElem_cons_zero, List.setIfInBounds_toArray, List.set_cons_zero, List.set_cons_succ]
                replace bX := bX.fill hCn.out
                replace bY := bY.far (Nat.ne_of_lt nYX) 0 CS
                replace bZ := bZ.far ((Nat.ne_of_lt nXZ).symm) 0 CS
                replace bV := bV.far (Nat.ne_of_lt nVX) 0 CS
                refine wpAnyH_ready (rs := [9]) (by kernel_rfl) (by simp) (AllReadyH.cons rfl (fun K hK2 => ?_) AllReadyH.nil)
                rw [if_pos (by rfl)]
                simp only [List.getElem_toArray, List.getElem_cons_succ, List.getElem_cons_zero]
                refine wp_store_mid 23 _ _ rfl Y 0 CS.toArray rfl rfl (fun j hj => bY.t j (by rw [List.size_toArray, hCn.out] at hj; exact hj)) (by rw [List.size_toArray]; exact hsC.out) h1c.out ?_
                change K _ (World.setCells _ Y 0 CS)
                refine hK2.out _ _ (hHeld.far bY.lo 0 CS) (fun hHeld2 => ?_)
                clear hK2 K hHeld
                have hHeld := hHeld2
                clear hHeld2
                try simp only [Act.put, List.getElem_toArray, List.getElem_cons_succ, List.getElem_cons_zero, List.setIfInBounds_toArray, List.set_cons_zero, List.set_cons_succ]
                replace bX := bX.far ((Nat.ne_of_lt nYX).symm) 0 CS
                replace bY := bY.fill hCn.out
                replace bZ := bZ.far ((Nat.ne_of_lt nYZ).symm) 0 CS
                replace bV := bV.far (Nat.ne_of_lt nVY) 0 CS
                refine wpAnyH_ready (rs := [10]) (by kernel_rfl) (by simp) (AllReadyH.cons rfl (fun K hK2 => ?_) AllReadyH.nil)
                rw [if_pos (by rfl)]
                simp only [List.getElem_toArray, List.getElem_cons_succ, List.getElem_cons_zero]
                refine wp_store_mid 23 _ _ rfl Z 0 CS.toArray rfl rfl (fun j hj => bZ.t j (by rw [List.size_toArray, hCn.out] at hj; exact hj)) (by rw [List.size_toArray]; exact hsC.out) h1c.out ?_
                change K _ (World.setCells _ Z 0 CS)
                refine hK2.out _ _ (hHeld.far bZ.lo 0 CS) (fun hHeld2 => ?_)
                clear hK2 K hHeld
                have hHeld := hHeld2
                clear hHeld2
                try simp only [Act.put, List.getElem_toArray, List.getElem_cons_succ, List.getElem_cons_zero, List.setIfInBounds_toArray, List.set_cons_zero, List.set_cons_succ]
                replace bX := bX.far (Nat.ne_of_lt nXZ) 0 CS
                replace bY := bY.far (Nat.ne_of_lt nYZ) 0 CS
                replace bZ := bZ.fill hCn.out
                replace bV := bV.far (Nat.ne_of_lt nVZ) 0 CS
                refine wpAnyH_ready (rs := [11]) (by kernel_rfl) (by simp) (AllReadyH.cons rfl (fun K hK2 => ?_) AllReadyH.nil)
                rw [if_pos (by rfl)]
                simp only [List.getElem_toArray, List.getElem_cons_succ, List.getElem_cons_zero]
                refine wp_store_mid 23 _ _ rfl V 0 CS.toArray rfl rfl (fun j hj => bV.t j (by rw [List.size_toArray, hCn.out] at hj; exact hj)) (by rw [List.size_toArray]; exact hsC.out) h1c.out ?_
                change K _ (World.setCells _ V 0 CS)
                refine hK2.out _ _ (hHeld.far bV.lo 0 CS) (fun hHeld2 => ?_)
                clear hK2 K hHeld
                have hHeld := hHeld2
                clear hHeld2
                try simp only [Act.put, List.getElem_toArray, List.getElem_cons_succ, List.getElem_cons_zero, List.setIfInBounds_toArray, List.set_cons_zero, List.set_cons_succ]
                replace bX := bX.far ((Nat.ne_of_lt nVX).symm) 0 CS
                replace bY := bY.far ((Nat.ne_of_lt nVY).symm) 0 CS
                replace bZ := bZ.far ((Nat.ne_of_lt nVZ).symm) 0 CS
                replace bV := bV.fill hCn.out
                refine wpAnyH_done (by kernel_rfl) ?_ _
                go_wp2_with fail
                go_meet
                exact ⟨X, Y, Z, V, rfl, rfl, rfl, rfl, ⟨bX, bY, bZ, bV, (Nat.ne_of_lt nYX).symm, Nat.ne_of_lt nXZ, (Nat.ne_of_lt nVX).symm, Nat.ne_of_lt nYZ, (Nat.ne_of_lt nVY).symm, (Nat.ne_of_lt nVZ).symm, hHeld⟩⟩
              refine AllReadyH.cons rfl (fun K hK2 => ?_) ?_
              · rw [if_pos (by rfl)]
                simp only [List.getElem_toArray, List.getElem_cons_succ, List.getElem_cons_zero]
                obtain ⟨Z, hZ⟩ : ∃ n, n = W2.heap.size := ⟨_, rfl⟩
                have bZ := BK.new (w := w) (W := W2) #[.int .i64 0, .int .i64 0, .int .i64 0, .int .i64 0, .int .i64 0, .bool false, .bool false, .int .i64 0, .int .i64 0] 23 rfl hHeld.lt
                have al : Below W2.heap.size W2 (W2.alloc (.cells #[.int .i64 0, .int .i64 0, .int .i64 0, .int .i64 0, .int .i64 0, .bool false, .bool false, .int .i64 0, .int .i64 0] 23)) := (Below.refl _ _).alloc (Nat.le_refl _) _
                have nVZ : V < Z := by rw [hZ]; exact bV.hi
                replace bV := bV.keep al
                have nYZ : Y < Z := by rw [hZ]; exact bY.hi
                replace bY := bY.keep al
                go_simp
                refine hK2.out _ _ (hHeld.keep al) (fun hHeld2 => ?_)
                clear hK2 K hHeld
                have hHeld := hHeld2
                clear hHeld2
                try simp only [Act.put, List.getElem_toArray, List.getElem_cons_succ, List.getElem_cons_zero, List.setIfInBounds_toArray, List.set_cons_zero, List.set_cons_succ]
                generalize World.alloc _ _ = W3 at hHeld al bZ bV bY ⊢
                rw [← hZ] at bZ ⊢
                clear al hZ
                refine wpAnyH_ready (rs := [4]) (by kernel_rfl) (by simp) (AllReadyH.cons rfl (fun K hK2 => ?_) AllReadyH.nil)
                rw [if_pos (by rfl)]
                simp only [List.getElem_toArray, List.getElem_cons_succ, List.getElem_cons_zero]
                obtain ⟨X, hX⟩ : ∃ n, n = W3.heap.size := ⟨_, rfl⟩
                have bX := BK.new (w := w) (W := W3) #[.int .i64 0, .int .i64 0, .int .i64 0, .int .i64 0, .int .i64 0, .bool false, .bool false, .int .i64 0, .int .i64 0] 23 rfl hHeld.lt
                have al : Below W3.heap.size W3 (W3.alloc (.cells #[.int .i64 0, .int .i64 0, .int .i64 0, .int .i64 0, .int .i64 0, .bool false, .bool false, .int .i64 0, .int .i64 0] 23)) := (Below.refl _ _).alloc (Nat.le_refl _) _
                have nVX : V < X := by rw [hX]; exact bV.hi
                replace bV := bV.keep al
                have nYX : Y < X := by rw [hX]; exact bY.hi
                replace bY := bY.keep al
                have nZX : Z < X := by rw [hX]; exact bZ.hi
                replace bZ := bZ.keep al
                go_simp
                refine hK2.out _ _ (hHeld.keep al) (fun hHeld2 => ?_)
                clear hK2 K hHeld
                have hHeld := hHeld2
                clear hHeld2
                try simp only [Act.put, List.getElem_toArray, List.getElem_cons_succ, List.getElem_cons_zero, List.setIfInBounds_toArray, List.set_cons_zero, List.set_cons_succ]
                generalize World.alloc _ _ = W4 at hHeld al bX bV bY bZ ⊢
                rw [← hX] at bX ⊢
                clear al hX
                refine wpAnyH_ready (rs := [8]) (by kernel_rfl) (by simp) (AllReadyH.cons rfl (fun K hK2 => ?_) AllReadyH.nil)
                rw [if_pos (by rfl)]
                simp only [List.getElem_toArray, List.getElem_cons_succ, List.getElem_cons_zero]
                refine wp_store_mid 23 _ _ rfl X 0 CS.toArray rfl rfl (fun j hj => bX.t j (by rw [List.size_toArray, hCn.out] at hj; exact hj)) (by rw [List.size_toArray]; exact hsC.out) h1c.out ?_
                change K _ (World.setCells _ X 0 CS)
                refine hK2.out _ _ (hHeld.far bX.lo 0 CS) (fun hHeld2 => ?_)
                clear hK2 K hHeld
                have hHeld := hHeld2
                clear hHeld2
                try simp only [Act.put, List.getElem_toArray, List.getElem_cons_succ, List.getElem_cons_zero, List.setIfInBounds_toArray, List.set_cons_zero, List.set_cons_succ]
                replace bX := bX.fill hCn.out
                replace bY := bY.far (Nat.ne_of_lt nYX) 0 CS
                replace bZ := bZ.far (Nat.ne_of_lt nZX) 0 CS
                replace bV := bV.far (Nat.ne_of_lt nVX) 0 CS
                refine wpAnyH_ready (rs := [9]) (by kernel_rfl) (by simp) (AllReadyH.cons rfl (fun K hK2 => ?_) AllReadyH.nil)
                rw [if_pos (by rfl)]
                simp only [List.getElem_toArray, List.getElem_cons_succ, List.getElem_cons_zero]
                refine wp_store_mid 23 _ _ rfl Y 0 CS.toArray rfl rfl (fun j hj => bY.t j (by rw [List.size_toArray, hCn.out] at hj; exact hj)) (by rw [List.size_toArray]; exact hsC.out) h1c.out ?_
                change K _ (World.setCells _ Y 0 CS)
                refine hK2.out _ _ (hHeld.far bY.lo 0 CS) (fun hHeld2 => ?_)
                clear hK2 K hHeld
                have hHeld := hHeld2
                clear hHeld2
                try simp only [Act.put, List.getElem_toArray, List.getElem_cons_succ, List.getElem_cons_zero, List.setIfInBounds_toArray, List.set_cons_zero, List.set_cons_succ]
                replace bX := bX.far ((Nat.ne_of_lt nYX).symm) 0 CS
                replace bY := bY.fill hCn.out
                replace bZ := bZ.far ((Nat.ne_of_lt nYZ).symm) 0 CS
                replace bV := bV.far (Nat.ne_of_lt nVY) 0 CS
                refine wpAnyH_ready (rs := [10]) (by kernel_rfl) (by simp) (AllReadyH.cons rfl (fun K hK2 => ?_) AllReadyH.nil)
                rw [if_pos (by rfl)]
                simp only [List.getElem_toArray, List.getElem_cons_succ, List.getElem_cons_zero]
                refine wp_store_mid 23 _ _ rfl Z 0 CS.toArray rfl rfl (fun j hj => bZ.t j (by rw [List.size_toArray, hCn.out] at hj; exact hj)) (by rw [List.size_toArray]; exact hsC.out) h1c.out ?_
                change K _ (World.setCells _ Z 0 CS)
                refine hK2.out _ _ (hHeld.far bZ.lo 0 CS) (fun hHeld2 => ?_)
                clear hK2 K hHeld
                have hHeld := hHeld2
                clear hHeld2
                try simp only [Act.put, List.getElem_toArray, List.getElem_cons_succ, List.getElem_cons_zero, List.setIfInBounds_toArray, List.set_cons_zero, List.set_cons_succ]
                replace bX := bX.far ((Nat.ne_of_lt nZX).symm) 0 CS
                replace bY := bY.far (Nat.ne_of_lt nYZ) 0 CS
                replace bZ := bZ.fill hCn.out
                replace bV := bV.far (Nat.ne_of_lt nVZ) 0 CS
                refine wpAnyH_ready (rs := [11]) (by kernel_rfl) (by simp) (AllReadyH.cons rfl (fun K hK2 => ?_) AllReadyH.nil)
                rw [if_pos (by rfl)]
                simp only [List.getElem_toArray, List.getElem_cons_succ, List.getElem_cons_zero]
                refine wp_store_mid 23 _ _ rfl V 0 CS.toArray rfl rfl (fun j hj => bV.t j (by rw [List.size_toArray, hCn.out] at hj; exact hj)) (by rw [List.size_toArray]; exact hsC.out) h1c.out ?_
                change K _ (World.setCells _ V 0 CS)
                refine hK2.out _ _ (hHeld.far bV.lo 0 CS) (fun hHeld2 => ?_)
                clear hK2 K hHeld
                have hHeld := hHeld2
                clear hHeld2
                try simp only [Act.put, List.getElem_toArray, List.getElem_cons_succ, List.getElem_cons_zero, List.setIfInBounds_toArray, List.set_cons_zero, List.set_cons_succ]
                replace bX := bX.far ((Nat.ne_of_lt nVX).symm) 0 CS
                replace bY := bY.far ((Nat.ne_of_lt nVY).symm) 0 CS
                replace bZ := bZ.far ((Nat.ne_of_lt nVZ).symm) 0 CS
                replace bV := bV.fill hCn.out
                refine wpAnyH_done (by kernel_rfl) ?_ _
                go_wp2_with fail
                go_meet
                exact ⟨X, Y, Z, V, rfl, rfl, rfl, rfl, ⟨bX, bY, bZ, bV, (Nat.ne_of_lt nYX).symm, (Nat.ne_of_lt nZX).symm, (Nat.ne_of_lt nVX).symm, Nat.ne_of_lt nYZ, (Nat.ne_of_lt nVY).symm, (Nat.ne_of_lt nVZ).symm, hHeld⟩⟩
              exact AllReadyH.nil
          refine AllReadyH.cons rfl (fun K hK2 => ?_) ?_
          · as_aux_lemma =>
              rw [if_pos (by rfl)]
              simp only [List.getElem_toArray, List.getElem_cons_succ, List.getElem_cons_zero]
              obtain ⟨Z, hZ⟩ : ∃ n, n = W1.heap.size := ⟨_, rfl⟩
              have bZ := BK.new (w := w) (W := W1) #[.int .i64 0, .int .i64 0, .int .i64 0, .int .i64 0, .int .i64 0, .bool false, .bool false, .int .i64 0, .int .i64 0] 23 rfl hHeld.lt
              have al : Below W1.heap.size W1 (W1.alloc (.cells #[.int .i64 0, .int .i64 0, .int .i64 0, .int .i64 0, .int .i64 0, .bool false, .bool false, .int .i64 0, .int .i64 0] 23)) := (Below.refl _ _).alloc (Nat.le_refl _) _
              have nVZ : V < Z := by rw [hZ]; exact bV.hi
              replace bV := bV.keep al
              go_simp
              refine hK2.out _ _ (hHeld.keep al) (fun hHeld2 => ?_)
              clear hK2 K hHeld
              have hHeld := hHeld2
              clear hHeld2
              try simp only [Act.put, List.getElem_toArray, List.getElem_cons_succ, List.getElem_cons_zero, List.setIfInBounds_toArray, List.set_cons_zero, List.set_cons_succ]
              generalize World.alloc _ _ = W2 at hHeld al bZ bV ⊢
              rw [← hZ] at bZ ⊢
              clear al hZ
              refine wpAnyH_ready (rs := [4, 5]) (by kernel_rfl) (by simp) ?_
              refine AllReadyH.cons rfl (fun K hK2 => ?_) ?_
              · rw [if_pos (by rfl)]
                simp only [List.getElem_toArray, List.getElem_cons_succ, List.getElem_cons_zero]
                obtain ⟨X, hX⟩ : ∃ n, n = W2.heap.size := ⟨_, rfl⟩
                have bX := BK.new (w := w) (W := W2) #[.int .i64 0, .int .i64 0, .int .i64 0, .int .i64 0, .int .i64 0, .bool false, .bool false, .int .i64 0, .int .i64 0] 23 rfl hHeld.lt
                have al : Below W2.heap.size W2 (W2.alloc (.cells #[.int .i64 0, .int .i64 0, .int .i64 0, .int .i64 0, .int .i64 0, .bool false, .bool false, .int .i64 0, .int .i64 0] 23)) := (Below.refl _ _).alloc (Nat.le_refl _) _
                have nVX : V < X := by rw [hX]; exact bV.hi
                replace bV := bV.keep al
                have nZX : Z < X := by rw [hX]; exact bZ.hi
                replace bZ := bZ.keep al
                go_simp
                refine hK2.out _ _ (hHeld.keep al) (fun hHeld2 => ?_)
                clear hK2 K hHeld
                have hHeld := hHeld2
                clear hHeld2
                try simp only [Act.put, List.getElem_toArray, List.getElem_cons_succ, List.getElem_cons_zero, List.setIfInBounds_toArray, List.set_cons_zero, List.set_cons_succ]
                generalize World.alloc _ _ = W3 at hHeld al bX bV bZ ⊢
                rw [← hX] at bX ⊢
                clear al hX
                refine wpAnyH_ready (rs := [5]) (by kernel_rfl) (by simp) (AllReadyH.cons rfl (fun K hK2 => ?_) AllReadyH.nil)
                rw [if_pos (by rfl)]
                simp only [List.getElem_toArray, List.getElem_cons_succ, List.getElem_cons_zero]
                obtain ⟨Y, hY⟩ : ∃ n, n = W3.heap.size := ⟨_, rfl⟩
                have bY := BK.new (w := w) (W := W3) #[.int .i64 0, .int .i64 0, .int .i64 0, .int .i64 0, .int .i64 0, .bool false, .bool false, .int .i64 0, .int .i64 0] 23 rfl hHeld.lt
                have al : Below W3.heap.size W3 (W3.alloc (.cells #[.int .i64 0, .int .i64 0, .int .i64 0, .int .i64 0, .int .i64 0, .bool false, .bool false, .int .i64 0, .int .i64 0] 23)) := (Below.refl _ _).alloc (Nat.le_refl _) _
                have nVY : V < Y := by rw [hY]; exact bV.hi
                replace bV := bV.keep al
                have nZY : Z < Y := by rw [hY]; exact bZ.hi
                replace bZ := bZ.keep al
                have nXY : X < Y := by rw [hY]; exact bX.hi
                replace bX := bX.keep al
                go_simp
                refine hK2.out _ _ (hHeld.keep al) (fun hHeld2 => ?_)
                clear hK2 K hHeld
                have hHeld := hHeld2
                clear hHeld2
                try simp only [Act.put, List.getElem_toArray, List.getElem_cons_succ, List.getElem_cons_zero, List.setIfInBounds_toArray, List.set_cons_zero, List.set_cons_succ]
                generalize World.alloc _ _ = W4 at hHeld al bY bV bZ bX ⊢
                rw [← hY] at bY ⊢
                clear al hY
                refine wpAnyH_ready (rs := [8]) (by kernel_rfl) (by simp) (AllReadyH.cons rfl (fun K hK2 => ?_) AllReadyH.nil)
                rw [if_pos (by rfl)]
                simp only [List.getElem_toArray, List.getElem_cons_succ, List.getElem_cons_zero]
                refine wp_store_mid 23 _ _ rfl X 0 CS.toArray rfl rfl (fun j hj => bX.t j (by rw [List.size_toArray, hCn.out] at hj; exact hj)) (by rw [List.size_toArray]; exact hsC.out) h1c.out ?_
                change K _ (World.setCells _ X 0 CS)
                refine hK2.out _ _ (hHeld.far bX.lo 0 CS) (fun hHeld2 => ?_)
                clear hK2 K hHeld
                have hHeld := hHeld2
                clear hHeld2
                try simp only [Act.put, List.getElem_toArray, List.getElem_cons_succ, List.getElem_cons_zero, List.setIfInBounds_toArray, List.set_cons_zero, List.set_cons_succ]
                replace bX := bX.fill hCn.out
                replace bY := bY.far ((Nat.ne_of_lt nXY).symm) 0 CS
                replace bZ := bZ.far (Nat.ne_of_lt nZX) 0 CS
                replace bV := bV.far (Nat.ne_of_lt nVX) 0 CS
                refine wpAnyH_ready (rs := [9]) (by kernel_rfl) (by simp) (AllReadyH.cons rfl (fun K hK2 => ?_) AllReadyH.nil)
                rw [if_pos (by rfl)]
                simp only [List.getElem_toArray, List.getElem_cons_succ, List.getElem_cons_zero]
                refine wp_store_mid 23 _ _ rfl Y 0 CS.toArray rfl rfl (fun j hj => bY.t j (by rw [List.size_toArray, hCn.out] at hj; exact hj)) (by rw [List.size_toArray]; exact hsC.out) h1c.out ?_
                change K _ (World.setCells _ Y 0 CS)
                refine hK2.out _ _ (hHeld.far bY.lo 0 CS) (fun hHeld2 => ?_)
                clear hK2 K hHeld
                have hHeld := hHeld2
                clear hHeld2
                try simp only [Act.put, List.getElem_toArray, List.getElem_cons_succ, List.getElem_cons_zero, List.setIfInBounds_toArray, List.set_cons_zero, List.set_cons_succ]
                replace bX := bX.far (Nat.ne_of_lt nXY) 0 CS
                replace bY := bY.fill hCn.out
                replace bZ := bZ.far (Nat.ne_of_lt nZY) 0 CS
                replace bV := bV.far (Nat.ne_of_lt nVY) 0 CS
                refine wpAnyH_ready (rs := [10]) (by kernel_rfl) (by simp) (AllReadyH.cons rfl (fun K hK2 => ?_) AllReadyH.nil)
                rw [if_pos (by rfl)]
                simp only [List.getElem_toArray, List.getElem_cons_succ, List.getElem_cons_zero]
                refine wp_store_mid 23 _ _ rfl Z 0 CS.toArray rfl rfl (fun j hj => bZ.t j (by rw [List.size_toArray, hCn.out] at hj; exact hj)) (by rw [List.size_toArray]; exact hsC.out) h1c.out ?_
                change K _ (World.setCells _ Z 0 CS)
                refine hK2.out _ _ (hHeld.far bZ.lo 0 CS) (fun hHeld2 => ?_)
                clear hK2 K hHeld
                have hHeld := hHeld2
                clear hHeld2
                try simp only [Act.put, List.getElem_toArray, List.getElem_cons_succ, List.getElem_cons_zero, List.setIfInBounds_toArray, List.set_cons_zero, List.set_cons_succ]
                replace bX := bX.far ((Nat.ne_of_lt nZX).symm) 0 CS
                replace bY := bY.far ((Nat.ne_of_lt nZY).symm) 0 CS
                replace bZ := bZ.fill hCn.out
                replace bV := bV.far (Nat.ne_of_lt nVZ) 0 CS
                refine wpAnyH_ready (rs := [11]) (by kernel_rfl) (by simp) (AllReadyH.cons rfl (fun K hK2 => ?_) AllReadyH.nil)
                rw [if_pos (by rfl)]
                simp only [List.getElem_toArray, List.getElem_cons_succ, List.getElem_cons_zero]
                refine wp_store_mid 23 _ _ rfl V 0 CS.toArray rfl rfl (fun j hj => bV.t j (by rw [List.size_toArray, hCn.out] at hj; exact hj)) (by rw [List.size_toArray]; exact hsC.out) h1c.out ?_
                change K _ (World.setCells _ V 0 CS)
                refine hK2.out _ _ (hHeld.far bV.lo 0 CS) (fun hHeld2 => ?_)
                clear hK2 K hHeld
                have hHeld := hHeld2
                clear hHeld2
                try simp only [Act.put, List.getElem_toArray, List.getElem_cons_succ, List.getElem_cons_zero, List.setIfInBounds_toArray, List.set_cons_zero, List.set_cons_succ]
                replace bX := bX.far ((Nat.ne_of_lt nVX).symm) 0 CS
                replace bY := bY.far ((Nat.ne_of_lt nVY).symm) 0 CS
                replace bZ := bZ.far ((Nat.ne_of_lt nVZ).symm) 0 CS
                replace bV := bV.fill hCn.out
                refine wpAnyH_done (by kernel_rfl) ?_ _
                go_wp2_with fail
                go_meet
                exact ⟨X, Y, Z, V, rfl, rfl, rfl, rfl, ⟨bX, bY, bZ, bV, Nat.ne_of_lt nXY, (Nat.ne_of_lt nZX).symm, (Nat.ne_of_lt nVX).symm, (Nat.ne_of_lt nZY).symm, (Nat.ne_of_lt nVY).symm, (Nat.ne_of_lt nVZ).symm, hHeld⟩⟩
              refine AllReadyH.cons rfl (fun K hK2 => ?_) ?_
              · rw [if_pos (by rfl)]
                simp only [List.getElem_toArray, List.getElem_cons_succ, List.getElem_cons_zero]
                obtain ⟨Y, hY⟩ : ∃ n, n = W2.heap.size := ⟨_, rfl⟩
                have bY := BK.new (w := w) (W := W2) #[.int .i64 0, .int .i64 0, .int .i64 0, .int .i64 0, .int .i64 0, .bool false, .bool false, .int .i64 0, .int .i64 0] 23 rfl hHeld.lt
                have al : Below W2.heap.size W2 (W2.alloc (.cells #[.int .i64 0, .int .i64 0, .int .i64 0, .int .i64 0, .int .i64 0, .bool false, .bool false, .int .i64 0, .int .i64 0] 23)) := (Below.refl _ _).alloc (Nat.le_refl _) _
                have nVY : V < Y := by rw [hY]; exact bV.hi
                replace bV := bV.keep al
                have nZY : Z < Y := by rw [hY]; exact bZ.hi
                replace bZ := bZ.keep al
                go_simp
                refine hK2.out _ _ (hHeld.keep al) (fun hHeld2 => ?_)
                clear hK2 K hHeld
                have hHeld := hHeld2
                clear hHeld2
                try simp only [Act.put, List.getElem_toArray, List.getElem_cons_succ, List.getElem_cons_zero, List.setIfInBounds_toArray, List.set_cons_zero, List.set_cons_succ]
                generalize World.alloc _ _ = W3 at hHeld al bY bV bZ ⊢
                rw [← hY] at bY ⊢
                clear al hY
                refine wpAnyH_ready (rs := [4]) (by kernel_rfl) (by simp) (AllReadyH.cons rfl (fun K hK2 => ?_) AllReadyH.nil)
                rw [if_pos (by rfl)]
                simp only [List.getElem_toArray, List.getElem_cons_succ, List.getElem_cons_zero]
                obtain ⟨X, hX⟩ : ∃ n, n = W3.heap.size := ⟨_, rfl⟩
                have bX := BK.new (w := w) (W := W3) #[.int .i64 0, .int .i64 0, .int .i64 0, .int .i64 0, .int .i64 0, .bool false, .bool false, .int .i64 0, .int .i64 0] 23 rfl hHeld.lt
                have al : Below W3.heap.size W3 (W3.alloc (.cells #[.int .i64 0, .int .i64 0, .int .i64 0, .int .i64 0, .int .i64 0, .bool false, .bool false, .int .i64 0, .int .i64 0] 23)) := (Below.refl _ _).alloc (Nat.le_refl _) _
                have nVX : V < X := by rw [hX]; exact bV.hi
                replace bV := bV.keep al
                have nZX : Z < X := by rw [hX]; exact bZ.hi
                replace bZ := bZ.keep al
                have nYX : Y < X := by rw [hX]; exact bY.hi
                replace bY := bY.keep al
                go_simp
                refine hK2.out _ _ (hHeld.keep al) (fun hHeld2 => ?_)
                clear hK2 K hHeld
                have hHeld := hHeld2
                clear hHeld2
                try simp only [Act.put, List.getElem_toArray, List.getElem_cons_succ, List.getElem_cons_zero, List.setIfInBounds_toArray, List.set_cons_zero, List.set_cons_succ]
                generalize World.alloc _ _ = W4 at hHeld al bX bV bZ bY ⊢
                rw [← hX] at bX ⊢
                clear al hX
                refine wpAnyH_ready (rs := [8]) (by kernel_rfl) (by simp) (AllReadyH.cons rfl (fun K hK2 => ?_) AllReadyH.nil)
                rw [if_pos (by rfl)]
                simp only [List.getElem_toArray, List.getElem_cons_succ, List.getElem_cons_zero]
                refine wp_store_mid 23 _ _ rfl X 0 CS.toArray rfl rfl (fun j hj => bX.t j (by rw [List.size_toArray, hCn.out] at hj; exact hj)) (by rw [List.size_toArray]; exact hsC.out) h1c.out ?_
                change K _ (World.setCells _ X 0 CS)
                refine hK2.out _ _ (hHeld.far bX.lo 0 CS) (fun hHeld2 => ?_)
                clear hK2 K hHeld
                have hHeld := hHeld2
                clear hHeld2
                try simp only [Act.put, List.getElem_toArray, List.getElem_cons_succ, List.getElem_cons_zero, List.setIfInBounds_toArray, List.set_cons_zero, List.set_cons_succ]
                replace bX := bX.fill hCn.out
                replace bY := bY.far (Nat.ne_of_lt nYX) 0 CS
                replace bZ := bZ.far (Nat.ne_of_lt nZX) 0 CS
                replace bV := bV.far (Nat.ne_of_lt nVX) 0 CS
                refine wpAnyH_ready (rs := [9]) (by kernel_rfl) (by simp) (AllReadyH.cons rfl (fun K hK2 => ?_) AllReadyH.nil)
                rw [if_pos (by rfl)]
                simp only [List.getElem_toArray, List.getElem_cons_succ, List.getElem_cons_zero]
                refine wp_store_mid 23 _ _ rfl Y 0 CS.toArray rfl rfl (fun j hj => bY.t j (by rw [List.size_toArray, hCn.out] at hj; exact hj)) (by rw [List.size_toArray]; exact hsC.out) h1c.out ?_
                change K _ (World.setCells _ Y 0 CS)
                refine hK2.out _ _ (hHeld.far bY.lo 0 CS) (fun hHeld2 => ?_)
                clear hK2 K hHeld
                have hHeld := hHeld2
                clear hHeld2
                try simp only [Act.put, List.getElem_toArray, List.getElem_cons_succ, List.getElem_cons_zero, List.setIfInBounds_toArray, List.set_cons_zero, List.set_cons_succ]
                replace bX := bX.far ((Nat.ne_of_lt nYX).symm) 0 CS
                replace bY := bY.fill hCn.out
                replace bZ := bZ.far (Nat.ne_of_lt nZY) 0 CS
                replace bV := bV.far (Nat.ne_of_lt nVY) 0 CS
                refine wpAnyH_ready (rs := [10]) (by kernel_rfl) (by simp) (AllReadyH.cons rfl (fun K hK2 => ?_) AllReadyH.nil)
                rw [if_pos (by rfl)]
                simp only [List.getElem_toArray, List.getElem_cons_succ, List.getElem_cons_zero]
                refine wp_store_mid 23 _ _ rfl Z 0 CS.toArray rfl rfl (fun j hj => bZ.t j (by rw [List.size_toArray, hCn.out] at hj; exact hj)) (by rw [List.size_toArray]; exact hsC.out) h1c.out ?_
                change K _ (World.setCells _ Z 0 CS)
                refine hK2.out _ _ (hHeld.far bZ.lo 0 CS) (fun hHeld2 => ?_)
                clear hK2 K hHeld
                have hHeld := hHeld2
                clear hHeld2
                try simp only [Act.put, List.getElem_toArray, List.getElem_cons_succ, List.getElem_cons_zero, List.setIfInBounds_toArray, List.set_cons_zero, List.set_cons_succ]
                replace bX := bX.far ((Nat.ne_of_lt nZX).symm) 0 CS
                replace bY := bY.far ((Nat.ne_of_lt nZY).symm) 0 CS
                replace bZ := bZ.fill hCn.out
                replace bV := bV.far (Nat.ne_of_lt nVZ) 0 CS
                refine wpAnyH_ready (rs := [11]) (by kernel_rfl) (by simp) (AllReadyH.cons rfl (fun K hK2 => ?_) AllReadyH.nil)
                rw [if_pos (by rfl)]
                simp only [List.getElem_toArray, List.getElem_cons_succ, List.getElem_cons_zero]
                refine wp_store_mid 23 _ _ rfl V 0 CS.toArray rfl rfl (fun j hj => bV.t j (by rw [List.size_toArray, hCn.out] at hj; exact hj)) (by rw [List.size_toArray]; exact hsC.out) h1c.out ?_
                change K _ (World.setCells _ V 0 CS)
                refine hK2.out _ _ (hHeld.far bV.lo 0 CS) (fun hHeld2 => ?_)
                clear hK2 K hHeld
                have hHeld := hHeld2
                clear hHeld2
                try simp only [Act.put, List.getElem_toArray, List.getElem_cons_succ, List.getElem_cons_zero, List.setIfInBounds_toArray, List.set_cons_zero, List.set_cons_succ]
                replace bX := bX.far ((Nat.ne_of_lt nVX).symm) 0 CS
                replace bY := bY.far ((Nat.ne_of_lt nVY).symm) 0 CS
                replace bZ := bZ.far ((Nat.ne_of_lt nVZ).symm) 0 CS
                replace bV := bV.fill hCn.out
                refine wpAnyH_done (by kernel_rfl) ?_ _
                go_wp2_with fail
                go_meet
                exact ⟨X, Y, Z, V, rfl, rfl, rfl, rfl, ⟨bX, bY, bZ, bV, (Nat.ne_of_lt nYX).symm, (Nat.ne_of_lt nZX).symm, (Nat.ne_of_lt nVX).symm, (Nat.ne_of_lt nZY).symm, (Nat.ne_of_lt nVY).symm, (Nat.ne_of_lt nVZ).symm, hHeld⟩⟩
              exact AllReadyH.nil
          exact AllReadyH.nil
      exact AllReadyH.nil
  case rest =>
    obtain ⟨X, Y, Z, V, rfl, rfl, rfl, rfl, h4⟩ := hcut
    clear hB
    have cX := h4.bX.cell 1 _ k1.out
    have cY := h4.bY.cell 2 _ k2.out
    have cZ := h4.bZ.cell 3 _ k3.out
    have cV := h4.bV.cell 7 _ k7.out
    have fX := h4.bX.thaw 1 (by decide)
    have fY := h4.bY.thaw 2 (by decide)
    have fZ := h4.bZ.thaw 3 (by decide)
    have fV := h4.bV.thaw 7 (by decide)
    have xy := h4.xy
    have xz := h4.xz
    have xv := h4.xv
    have yz := h4.yz
    have yv := h4.yv
    have zv := h4.zv
    go_upto_region 8 with (go_at_call 20; refine (hPk.out _).mono ?_; rintro e w' ⟨rfl, rfl⟩)
    replace h4 := h4.set 1 2 3 7 (.int .i64 (32 + p)) (.int .i64 (-1 - p)) (.int .i64 32) (.int .i64 16)
    rw [eA.out, eB.out, eC.out, eD.out] at h4
    clear cX cY cZ cV fX fY fZ fV xy xz xv yz yv zv hPk
    generalize World.setCell _ ⟨V, 7, none⟩ _ = w3 at h4 ⊢
    have t4 := ht.later h4.box.bl (Nat.le_refl _)
    go_upto_region 10 with (first | (refine wpList_load_midG 23 _ rfl (by rfl) X 0 rfl LA _ h4.bX.r hu rfl zA.out ?_) | (refine wpList_load_midG 23 _ rfl (by rfl) Y 0 rfl LB _ h4.bY.r hu rfl zB.out ?_) | (refine wpList_load_midG 23 _ rfl (by rfl) Z 0 rfl LC _ h4.bZ.r hu rfl zC.out ?_) | (refine wpList_load_midG 23 _ rfl (by rfl) V 0 rfl LD _ h4.bV.r hu rfl zD.out ?_) | (go_at_call 11; (with_reducible refine (hKA.out _ t4).mono ?_); rintro e w9 ⟨rfl, hb9⟩; replace h4 := h4.keep hb9; replace t4 := t4.later hb9 (Nat.le_refl _); clear hb9) | (go_at_call 11; (with_reducible refine (hKB.out _ t4).mono ?_); rintro e w9 ⟨rfl, hb9⟩; replace h4 := h4.keep hb9; replace t4 := t4.later hb9 (Nat.le_refl _); clear hb9) | (go_at_call 11; (with_reducible refine (hKC.out _ t4).mono ?_); rintro e w9 ⟨rfl, hb9⟩; replace h4 := h4.keep hb9; replace t4 := t4.later hb9 (Nat.le_refl _); clear hb9) | (go_at_call 11; (with_reducible refine (hKD.out _ t4).mono ?_); rintro e w9 ⟨rfl, hb9⟩; replace h4 := h4.keep hb9; replace t4 := t4.later hb9 (Nat.le_refl _); clear hb9))
    have hB := h4.box
    clear h4 hKA hKB hKC hKD zA zB zC zD
    have bE := BK.new (w := w) (W := w9) #[.int .i64 0, .int .i64 0, .int .i64 0, .int .i64 0, .int .i64 0, .bool false, .bool false, .int .i64 0, .int .i64 0] 23 rfl hB.lt
    have hB1 := hB.keep ((Below.refl _ w9).alloc (Nat.le_refl _) (.cells #[.int .i64 0, .int .i64 0, .int .i64 0, .int .i64 0, .int .i64 0, .bool false, .bool false, .int .i64 0, .int .i64 0] 23))
    have b1 := bE.fill hCn.out
    have hB2 := hB1.far bE.lo 0 CS
    go_upto_region 11 with (first | (refine wpList_load_mid rfl 23 _ rfl w.heap.size 0 rfl CS _ hB.c hu rfl hsC.out ?_) | (refine wpList_store_mid rfl 23 _ _ rfl w9.heap.size 0 CS.toArray rfl rfl (fun j hj => bE.t j (by rw [List.size_toArray, hCn.out] at hj; exact hj)) (by rw [List.size_toArray]; exact hsC.out) h1c.out ?_; change wpList _ _ _ _ _ (World.setCells _ w9.heap.size 0 CS); generalize World.setCells _ w9.heap.size 0 CS = w10 at b1 hB2 ⊢))
    clear bE hB1 hB t4
    generalize w9.heap.size = E at b1 ⊢
    have c5 := b1.cell 5 _ k5.out
    have f5 := b1.thaw 5 (by decide)
    go_upto_region 12 with fail
    have b2 := b1.set 5 (.bool !fa)
    rw [eE.out] at b2
    have hB3 := hB2.far b1.lo 5 [.bool !fa]
    change XB w CS (w10.setCell ⟨E, 5, none⟩ (.bool !fa)) at hB3
    clear c5 f5 b1 hB2
    generalize w10.setCell ⟨E, 5, none⟩ (.bool !fa) = w11 at b2 hB3 ⊢
    have c0 := hB3.at 0 _ k0.out
    go_upto_region 13 with (go_at_call 14; refine (hF.out _ (ht.later hB3.bl (Nat.le_refl _))).mono ?_; rintro e w12 ⟨rfl, hb12⟩)
    have b3 := b2.keep hb12
    have hB4 := hB3.keep hb12
    clear b2 hB3 hb12 c0 hF
    go_cut [76] (fun s wx => s = .bool false ∧ XB w CS wx)
    case first =>
      rcases (show f = 11 ∨ f = 12 ∨ (f ≠ 11 ∧ f ≠ 12) by omega) with hf | hf | hf
      · rw [if_pos (.inl hf)] at hKE
        have g1 : (f == 11) = true := by rw [hf]; rfl
        clear hf
        go_wp2_with (first | (refine wpList_load_midG 23 _ rfl (by rfl) E 0 rfl LE _ b3.r hu rfl zE.out ?_) | (go_at_call 11; (with_reducible refine (hKE.out _ (ht.later hB4.bl (Nat.le_refl _))).mono ?_); rintro e w13 ⟨rfl, hb13⟩))
        go_meet
        exact ⟨rfl, hB4.keep hb13⟩
      · rw [if_pos (.inr hf)] at hKE
        have g1 : (f == 11) = false := by rw [hf]; rfl
        have g2 : (f == 12) = true := by rw [hf]; rfl
        clear hf
        go_wp2_with (first | (refine wpList_load_midG 23 _ rfl (by rfl) E 0 rfl LE _ b3.r hu rfl zE.out ?_) | (go_at_call 11; (with_reducible refine (hKE.out _ (ht.later hB4.bl (Nat.le_refl _))).mono ?_); rintro e w13 ⟨rfl, hb13⟩))
        go_meet
        exact ⟨rfl, hB4.keep hb13⟩
      · rw [if_neg (by omega)] at hKE
        have g1 : (f == 11) = false := by rw [beq_eq_false_iff_ne]; exact hf.1
        have g2 : (f == 12) = false := by rw [beq_eq_false_iff_ne]; exact hf.2
        clear hf
        go_wp2_with (first | (refine wpList_load_midG 23 _ rfl (by rfl) E 0 rfl LE _ b3.r hu rfl zE.out ?_) | (go_at_call 11; (with_reducible refine (hKE.out _ (ht.later hB4.bl (Nat.le_refl _))).mono ?_); rintro e w13 ⟨rfl, hb13⟩))
        go_meet
        exact ⟨rfl, hB4.keep hb13⟩
    case rest =>
      obtain ⟨rfl, hB5⟩ := hcut
      clear b3 hB4 hKE zE
      rcases hrf.out with hr | ⟨x, hr, x1, x31, hx⟩ | ⟨x, y, hr, x1, xy, y31, hx, hy⟩
      · as_aux_lemma =>
          rw [hr] at hR
          clear hr hrf
          go_upto_region 16 with (first | (refine wpList_load_mid rfl 23 _ rfl w.heap.size 0 rfl CS _ hB5.c hu rfl hsC.out ?_) | (go_at_call 37; refine (hR.out _ (ht.later hB5.bl (Nat.le_refl _))).mono ?_; rintro e w13 ⟨v, rfl, hv, hb13⟩; obtain ⟨A, c, hve, v1, v2, v3⟩ := hv.form; obtain rfl : v = .slice A 0 c := hve; have hB6 := hB5.keep hb13))
          have v4 : 0 ≤ c := v1
          clear v1 hv hR
          unfold maxLen at v2
          go_wp2_with fail
          go_loopw [12] (fun i wr => (i = .int .i64 0) ∧ Below w13.heap.size w13 wr) (fun i _ => 0 - (intOf i).toNat)
          case atStart => exact ⟨rfl, Below.refl _ _⟩
          case round =>
            obtain ⟨hi, hbr⟩ := hrel
            have hBr := hB6.keep hbr
            have c0 := hBr.at 0 _ k0.out
            have c2 := hBr.at 2 _ k2.out
            have c3 := hBr.at 3 _ k3.out
            rcases hi with rfl
            go_upto_region 21 with fail
            refine wp_region_held_drew (S := fun W => XB w CS W) (by kernel_rfl) (hBr.keep (Below.refl _ _).drew) (fun hHeld => ?_)
            refine wpAnyH_take (i := 0) rfl (by kernel_rfl) (by kernel_rfl) (by kernel_rfl) (fun _ _ _ h => h) (yieldsIf_load_mid (by rfl) 23 _ rfl w.heap.size 0 rfl CS _ (fun W hS => hS.c) hu rfl hsC.out) hHeld ?_
            try simp only [Act.put, List.getElem_toArray, List.getElem_cons_zero, List.setIfInBounds_toArray, List.set_cons_zero, List.set_cons_succ]
            refine wpAnyH_take (i := 2) (v := .pointer (some ⟨w.heap.size, 1, none⟩)) rfl (by kernel_rfl) (by kernel_rfl) (by kernel_rfl) (fun _ _ _ h => h) (Or.inl ⟨by rfl, fun W _ => by kernel_rfl⟩) hHeld ?_
            try simp only [Act.put, List.getElem_toArray, List.getElem_cons_succ, List.getElem_cons_zero, List.setIfInBounds_toArray, List.set_cons_zero, List.set_cons_succ]
            refine wpAnyH_take (i := 3) (v := .int .i64 fd) rfl (by kernel_rfl) (by kernel_rfl) (by kernel_rfl) (fun _ _ _ h => h) (Or.inl ⟨by rfl, fun W hS => by (have k : W.cell? ⟨w.heap.size, 1, none⟩ = some (.int .i64 fd) := hS.at 1 _ k1.out); go_simp⟩) hHeld ?_
            try simp only [Act.put, List.getElem_toArray, List.getElem_cons_succ, List.getElem_cons_zero, List.setIfInBounds_toArray, List.set_cons_zero, List.set_cons_succ]
            refine wpAnyH_ready (rs := [1]) (by kernel_rfl) (by simp) (AllReadyH.cons rfl (fun K hK2 => ?_) AllReadyH.nil)
            rw [if_pos (by rfl)]
            simp only [List.getElem_toArray, List.getElem_cons_succ, List.getElem_cons_zero]
            go_wp2_with (go_at_call 36; refine (hW.out _ (ht.later hHeld.bl (Nat.le_refl _))).mono ?_; rintro e w14 ⟨rfl, hb14⟩)
            refine hK2.out _ _ (hHeld.keep hb14) (fun hHeld2 => ?_)
            clear hK2 K hHeld
            have hHeld := hHeld2
            clear hHeld2
            try simp only [Act.put, List.getElem_toArray, List.getElem_cons_succ, List.getElem_cons_zero, List.setIfInBounds_toArray, List.set_cons_zero, List.set_cons_succ]
            refine wpAnyH_take (i := 4) (v := .bool true) rfl (by kernel_rfl) (by kernel_rfl) (by kernel_rfl) (fun _ _ _ h => h) (Or.inl ⟨by rfl, fun W _ => by go_simp⟩) hHeld ?_
            try simp only [Act.put, List.getElem_toArray, List.getElem_cons_succ, List.getElem_cons_zero, List.setIfInBounds_toArray, List.set_cons_zero, List.set_cons_succ]
            refine wpAnyH_take (i := 5) (v := .bool true) rfl (by kernel_rfl) (by kernel_rfl) (by kernel_rfl) (fun _ _ _ h => h) (Or.inl ⟨by rfl, fun W _ => by kernel_rfl⟩) hHeld ?_
            try simp only [Act.put, List.getElem_toArray, List.getElem_cons_succ, List.getElem_cons_zero, List.setIfInBounds_toArray, List.set_cons_zero, List.set_cons_succ]
            refine wpAnyH_take (i := 6) (v := .slice A 0 c) rfl (by kernel_rfl) (by kernel_rfl) (by kernel_rfl) (fun _ _ _ h => h) (Or.inl ⟨by rfl, fun W _ => by kernel_rfl⟩) hHeld ?_
            try simp only [Act.put, List.getElem_toArray, List.getElem_cons_succ, List.getElem_cons_zero, List.setIfInBounds_toArray, List.set_cons_zero, List.set_cons_succ]
            refine wpAnyH_take (i := 7) (v := .int .i64 0) rfl (by kernel_rfl) (by kernel_rfl) (by kernel_rfl) (fun _ _ _ h => h) (Or.inl ⟨by rfl, fun W _ => by go_simp⟩) hHeld ?_
            try simp only [Act.put, List.getElem_toArray, List.getElem_cons_succ, List.getElem_cons_zero, List.setIfInBounds_toArray, List.set_cons_zero, List.set_cons_succ]
            refine wpAnyH_take (i := 8) (v := .bool true) rfl (by kernel_rfl) (by kernel_rfl) (by kernel_rfl) (fun _ _ _ h => h) (Or.inl ⟨by rfl, fun W _ => by go_simp⟩) hHeld ?_
            try simp only [Act.put, List.getElem_toArray, List.getElem_cons_succ, List.getElem_cons_zero, List.setIfInBounds_toArray, List.set_cons_zero, List.set_cons_succ]
            refine wpAnyH_take (i := 9) (v := .bool true) rfl (by kernel_rfl) (by kernel_rfl) (by kernel_rfl) (fun _ _ _ h => h) (Or.inl ⟨by rfl, fun W _ => by go_simp⟩) hHeld ?_
            try simp only [Act.put, List.getElem_toArray, List.getElem_cons_succ, List.getElem_cons_zero, List.setIfInBounds_toArray, List.set_cons_zero, List.set_cons_succ]
            refine wpAnyH_take (i := 10) (v := .bool true) rfl (by kernel_rfl) (by kernel_rfl) (by kernel_rfl) (fun _ _ _ h => h) (Or.inl ⟨by rfl, fun W _ => by kernel_rfl⟩) hHeld ?_
            try simp only [Act.put, List.getElem_toArray, List.getElem_cons_succ, List.getElem_cons_zero, List.setIfInBounds_toArray, List.set_cons_zero, List.set_cons_succ]
            refine wpAnyH_done (by kernel_rfl) ?_ _
            go_wp2_with fail
            go_ret
            exact ⟨rfl, hHeld.bl⟩
      · as_aux_lemma =>
          rw [hr] at hR
          clear hr hrf
          go_upto_region 16 with (first | (refine wpList_load_mid rfl 23 _ rfl w.heap.size 0 rfl CS _ hB5.c hu rfl hsC.out ?_) | (go_at_call 37; refine (hR.out _ (ht.later hB5.bl (Nat.le_refl _))).mono ?_; rintro e w13 ⟨v, rfl, hv, hb13⟩; obtain ⟨A, c, hve, v1, v2, v3⟩ := hv.form; obtain rfl : v = .slice A 1 c := hve; have hB6 := hB5.keep hb13))
          obtain ⟨b, o, rfl, hb, hcl⟩ := v3.resolve_left (by simp)
          have l0 := Lib.hid (hcl 0 x rfl)
          clear hcl
          have v4 : 1 ≤ c := v1
          clear v1 hv hR
          unfold maxLen at v2
          go_wp2_with fail
          go_loopw [12] (fun i wr => (i = .int .i64 0 ∨ i = .int .i64 1) ∧ Below w13.heap.size w13 wr) (fun i _ => 1 - (intOf i).toNat)
          case atStart => exact ⟨.inl rfl, Below.refl _ _⟩
          case round =>
            obtain ⟨hi, hbr⟩ := hrel
            have hBr := hB6.keep hbr
            have c0 := hBr.at 0 _ k0.out
            have c2 := hBr.at 2 _ k2.out
            have c3 := hBr.at 3 _ k3.out
            have m0 : wr.cell? ⟨b, o + 0, none⟩ = some (.int .i64 x) := (hbr.cell (p := ⟨b, o + 0, none⟩) hb).trans l0.out
            rw [Nat.add_zero] at m0
            rcases hi with rfl | rfl
            · go_upto_region 19 with fail
              have d1 : decide (x < 1) = false := by simp; omega
              have d2 : decide (31 < x) = false := by simp; omega
              by_cases h64 : op = 64
              · have e1 : (op != 64) = false := by rw [h64]; rfl
                clear h64
                go_quiet (fail)
                go_wp2_with fail
                go_roundw
                case rel => exact ⟨.inr (rfl), hbr.trans ⟨rfl, rfl, rfl, Nat.le_refl _, fun _ _ => rfl⟩⟩
                case measure => simp [intOf]
              · have e1 : (op != 64) = true := by simpa using h64
                by_cases hx1 : x = f1
                · have e2 : (x != f1) = false := by rw [hx1]; simp
                  clear hx1 h64
                  go_quiet (fail)
                  go_wp2_with fail
                  go_roundw
                  case rel => exact ⟨.inr (rfl), hbr.trans ⟨rfl, rfl, rfl, Nat.le_refl _, fun _ _ => rfl⟩⟩
                  case measure => simp [intOf]
                · have e2 : (x != f1) = true := by simpa using hx1
                  have e3 : (x != f2) = false := by rw [(show x = f2 from (hx.resolve_left h64).resolve_left hx1)]; simp
                  clear hx1 h64
                  go_quiet (fail)
                  go_wp2_with fail
                  go_roundw
                  case rel => exact ⟨.inr (rfl), hbr.trans ⟨rfl, rfl, rfl, Nat.le_refl _, fun _ _ => rfl⟩⟩
                  case measure => simp [intOf]
            · go_upto_region 21 with fail
              refine wp_region_held_drew (S := fun W => XB w CS W) (by kernel_rfl) (hBr.keep (Below.refl _ _).drew) (fun hHeld => ?_)
              refine wpAnyH_take (i := 0) rfl (by kernel_rfl) (by kernel_rfl) (by kernel_rfl) (fun _ _ _ h => h) (yieldsIf_load_mid (by rfl) 23 _ rfl w.heap.size 0 rfl CS _ (fun W hS => hS.c) hu rfl hsC.out) hHeld ?_
              try simp only [Act.put, List.getElem_toArray, List.getElem_cons_zero, List.setIfInBounds_toArray, List.set_cons_zero, List.set_cons_succ]
              refine wpAnyH_take (i := 2) (v := .pointer (some ⟨w.heap.size, 1, none⟩)) rfl (by kernel_rfl) (by kernel_rfl) (by kernel_rfl) (fun _ _ _ h => h) (Or.inl ⟨by rfl, fun W _ => by kernel_rfl⟩) hHeld ?_
              try simp only [Act.put, List.getElem_toArray, List.getElem_cons_succ, List.getElem_cons_zero, List.setIfInBounds_toArray, List.set_cons_zero, List.set_cons_succ]
              refine wpAnyH_take (i := 3) (v := .int .i64 fd) rfl (by kernel_rfl) (by kernel_rfl) (by kernel_rfl) (fun _ _ _ h => h) (Or.inl ⟨by rfl, fun W hS => by (have k : W.cell? ⟨w.heap.size, 1, none⟩ = some (.int .i64 fd) := hS.at 1 _ k1.out); go_simp⟩) hHeld ?_
              try simp only [Act.put, List.getElem_toArray, List.getElem_cons_succ, List.getElem_cons_zero, List.setIfInBounds_toArray, List.set_cons_zero, List.set_cons_succ]
              refine wpAnyH_ready (rs := [1]) (by kernel_rfl) (by simp) (AllReadyH.cons rfl (fun K hK2 => ?_) AllReadyH.nil)
              rw [if_pos (by rfl)]
              simp only [List.getElem_toArray, List.getElem_cons_succ, List.getElem_cons_zero]
              go_wp2_with (go_at_call 36; refine (hW.out _ (ht.later hHeld.bl (Nat.le_refl _))).mono ?_; rintro e w14 ⟨rfl, hb14⟩)
              refine hK2.out _ _ (hHeld.keep hb14) (fun hHeld2 => ?_)
              clear hK2 K hHeld
              have hHeld := hHeld2
              clear hHeld2
              try simp only [Act.put, List.getElem_toArray, List.getElem_cons_succ, List.getElem_cons_zero, List.setIfInBounds_toArray, List.set_cons_zero, List.set_cons_succ]
              refine wpAnyH_take (i := 4) (v := .bool true) rfl (by kernel_rfl) (by kernel_rfl) (by kernel_rfl) (fun _ _ _ h => h) (Or.inl ⟨by rfl, fun W _ => by go_simp⟩) hHeld ?_
              try simp only [Act.put, List.getElem_toArray, List.getElem_cons_succ, List.getElem_cons_zero, List.setIfInBounds_toArray, List.set_cons_zero, List.set_cons_succ]
              refine wpAnyH_take (i := 5) (v := .bool true) rfl (by kernel_rfl) (by kernel_rfl) (by kernel_rfl) (fun _ _ _ h => h) (Or.inl ⟨by rfl, fun W _ => by kernel_rfl⟩) hHeld ?_
              try simp only [Act.put, List.getElem_toArray, List.getElem_cons_succ, List.getElem_cons_zero, List.setIfInBounds_toArray, List.set_cons_zero, List.set_cons_succ]
              refine wpAnyH_take (i := 6) (v := .slice (some ⟨b, o, none⟩) 1 c) rfl (by kernel_rfl) (by kernel_rfl) (by kernel_rfl) (fun _ _ _ h => h) (Or.inl ⟨by rfl, fun W _ => by kernel_rfl⟩) hHeld ?_
              try simp only [Act.put, List.getElem_toArray, List.getElem_cons_succ, List.getElem_cons_zero, List.setIfInBounds_toArray, List.set_cons_zero, List.set_cons_succ]
              refine wpAnyH_take (i := 7) (v := .int .i64 1) rfl (by kernel_rfl) (by kernel_rfl) (by kernel_rfl) (fun _ _ _ h => h) (Or.inl ⟨by rfl, fun W _ => by go_simp⟩) hHeld ?_
              try simp only [Act.put, List.getElem_toArray, List.getElem_cons_succ, List.getElem_cons_zero, List.setIfInBounds_toArray, List.set_cons_zero, List.set_cons_succ]
              refine wpAnyH_take (i := 8) (v := .bool true) rfl (by kernel_rfl) (by kernel_rfl) (by kernel_rfl) (fun _ _ _ h => h) (Or.inl ⟨by rfl, fun W _ => by go_simp⟩) hHeld ?_
              try simp only [Act.put, List.getElem_toArray, List.getElem_cons_succ, List.getElem_cons_zero, List.setIfInBounds_toArray, List.set_cons_zero, List.set_cons_succ]
              refine wpAnyH_take (i := 9) (v := .bool true) rfl (by kernel_rfl) (by kernel_rfl) (by kernel_rfl) (fun _ _ _ h => h) (Or.inl ⟨by rfl, fun W _ => by go_simp⟩) hHeld ?_
              try simp only [Act.put, List.getElem_toArray, List.getElem_cons_succ, List.getElem_cons_zero, List.setIfInBounds_toArray, List.set_cons_zero, List.set_cons_succ]
              refine wpAnyH_take (i := 10) (v := .bool true) rfl (by kernel_rfl) (by kernel_rfl) (by kernel_rfl) (fun _ _ _ h => h) (Or.inl ⟨by rfl, fun W _ => by kernel_rfl⟩) hHeld ?_
              try simp only [Act.put, List.getElem_toArray, List.getElem_cons_succ, List.getElem_cons_zero, List.setIfInBounds_toArray, List.set_cons_zero, List.set_cons_succ]
              refine wpAnyH_done (by kernel_rfl) ?_ _
              go_wp2_with fail
              go_ret
              exact ⟨rfl, hHeld.bl⟩
      · as_aux_lemma =>
          rw [hr] at hR
          clear hr hrf
          go_upto_region 16 with (first | (refine wpList_load_mid rfl 23 _ rfl w.heap.size 0 rfl CS _ hB5.c hu rfl hsC.out ?_) | (go_at_call 37; refine (hR.out _ (ht.later hB5.bl (Nat.le_refl _))).mono ?_; rintro e w13 ⟨v, rfl, hv, hb13⟩; obtain ⟨A, c, hve, v1, v2, v3⟩ := hv.form; obtain rfl : v = .slice A 2 c := hve; have hB6 := hB5.keep hb13))
          obtain ⟨b, o, rfl, hb, hcl⟩ := v3.resolve_left (by simp)
          have l0 := Lib.hid (hcl 0 x rfl)
          have l1 := Lib.hid (hcl 1 y rfl)
          clear hcl
          have v4 : 2 ≤ c := v1
          clear v1 hv hR
          unfold maxLen at v2
          go_wp2_with fail
          go_loopw [12] (fun i wr => (i = .int .i64 0 ∨ i = .int .i64 1 ∨ i = .int .i64 2) ∧ Below w13.heap.size w13 wr) (fun i _ => 2 - (intOf i).toNat)
          case atStart => exact ⟨.inl rfl, Below.refl _ _⟩
          case round =>
            obtain ⟨hi, hbr⟩ := hrel
            have hBr := hB6.keep hbr
            have c0 := hBr.at 0 _ k0.out
            have c2 := hBr.at 2 _ k2.out
            have c3 := hBr.at 3 _ k3.out
            have m0 : wr.cell? ⟨b, o + 0, none⟩ = some (.int .i64 x) := (hbr.cell (p := ⟨b, o + 0, none⟩) hb).trans l0.out
            have m1 : wr.cell? ⟨b, o + 1, none⟩ = some (.int .i64 y) := (hbr.cell (p := ⟨b, o + 1, none⟩) hb).trans l1.out
            rw [Nat.add_zero] at m0
            rcases hi with rfl | rfl | rfl
            · go_upto_region 19 with fail
              have d1 : decide (x < 1) = false := by simp; omega
              have d2 : decide (31 < x) = false := by simp; omega
              by_cases h64 : op = 64
              · have e1 : (op != 64) = false := by rw [h64]; rfl
                clear h64
                go_quiet (fail)
                go_wp2_with fail
                go_roundw
                case rel => exact ⟨.inr (.inl rfl), hbr.trans ⟨rfl, rfl, rfl, Nat.le_refl _, fun _ _ => rfl⟩⟩
                case measure => simp [intOf]
              · have e1 : (op != 64) = true := by simpa using h64
                by_cases hx1 : x = f1
                · have e2 : (x != f1) = false := by rw [hx1]; simp
                  clear hx1 h64
                  go_quiet (fail)
                  go_wp2_with fail
                  go_roundw
                  case rel => exact ⟨.inr (.inl rfl), hbr.trans ⟨rfl, rfl, rfl, Nat.le_refl _, fun _ _ => rfl⟩⟩
                  case measure => simp [intOf]
                · have e2 : (x != f1) = true := by simpa using hx1
                  have e3 : (x != f2) = false := by rw [(show x = f2 from (hx.resolve_left h64).resolve_left hx1)]; simp
                  clear hx1 h64
                  go_quiet (fail)
                  go_wp2_with fail
                  go_roundw
                  case rel => exact ⟨.inr (.inl rfl), hbr.trans ⟨rfl, rfl, rfl, Nat.le_refl _, fun _ _ => rfl⟩⟩
                  case measure => simp [intOf]
            · go_upto_region 19 with fail
              have d1 : decide (y < 1) = false := by simp; omega
              have d2 : decide (31 < y) = false := by simp; omega
              have d3 : decide (y ≤ x) = false := by simp; omega
              by_cases h64 : op = 64
              · have e1 : (op != 64) = false := by rw [h64]; rfl
                clear h64
                go_quiet (fail)
                go_wp2_with fail
                go_roundw
                case rel => exact ⟨.inr (.inr (rfl)), hbr.trans ⟨rfl, rfl, rfl, Nat.le_refl _, fun _ _ => rfl⟩⟩
                case measure => simp [intOf]
              · have e1 : (op != 64) = true := by simpa using h64
                by_cases hx1 : y = f1
                · have e2 : (y != f1) = false := by rw [hx1]; simp
                  clear hx1 h64
                  go_quiet (fail)
                  go_wp2_with fail
                  go_roundw
                  case rel => exact ⟨.inr (.inr (rfl)), hbr.trans ⟨rfl, rfl, rfl, Nat.le_refl _, fun _ _ => rfl⟩⟩
                  case measure => simp [intOf]
                · have e2 : (y != f1) = true := by simpa using hx1
                  have e3 : (y != f2) = false := by rw [(show y = f2 from (hy.resolve_left h64).resolve_left hx1)]; simp
                  clear hx1 h64
                  go_quiet (fail)
                  go_wp2_with fail
                  go_roundw
                  case rel => exact ⟨.inr (.inr (rfl)), hbr.trans ⟨rfl, rfl, rfl, Nat.le_refl _, fun _ _ => rfl⟩⟩
                  case measure => simp [intOf]
            · go_upto_region 21 with fail
              refine wp_region_held_drew (S := fun W => XB w CS W) (by kernel_rfl) (hBr.keep (Below.refl _ _).drew) (fun hHeld => ?_)
              refine wpAnyH_take (i := 0) rfl (by kernel_rfl) (by kernel_rfl) (by kernel_rfl) (fun _ _ _ h => h) (yieldsIf_load_mid (by rfl) 23 _ rfl w.heap.size 0 rfl CS _ (fun W hS => hS.c) hu rfl hsC.out) hHeld ?_
              try simp only [Act.put, List.getElem_toArray, List.getElem_cons_zero, List.setIfInBounds_toArray, List.set_cons_zero, List.set_cons_succ]
              refine wpAnyH_take (i := 2) (v := .pointer (some ⟨w.heap.size, 1, none⟩)) rfl (by kernel_rfl) (by kernel_rfl) (by kernel_rfl) (fun _ _ _ h => h) (Or.inl ⟨by rfl, fun W _ => by kernel_rfl⟩) hHeld ?_
              try simp only [Act.put, List.getElem_toArray, List.getElem_cons_succ, List.getElem_cons_zero, List.setIfInBounds_toArray, List.set_cons_zero, List.set_cons_succ]
              refine wpAnyH_take (i := 3) (v := .int .i64 fd) rfl (by kernel_rfl) (by kernel_rfl) (by kernel_rfl) (fun _ _ _ h => h) (Or.inl ⟨by rfl, fun W hS => by (have k : W.cell? ⟨w.heap.size, 1, none⟩ = some (.int .i64 fd) := hS.at 1 _ k1.out); go_simp⟩) hHeld ?_
              try simp only [Act.put, List.getElem_toArray, List.getElem_cons_succ, List.getElem_cons_zero, List.setIfInBounds_toArray, List.set_cons_zero, List.set_cons_succ]
              refine wpAnyH_ready (rs := [1]) (by kernel_rfl) (by simp) (AllReadyH.cons rfl (fun K hK2 => ?_) AllReadyH.nil)
              rw [if_pos (by rfl)]
              simp only [List.getElem_toArray, List.getElem_cons_succ, List.getElem_cons_zero]
              go_wp2_with (go_at_call 36; refine (hW.out _ (ht.later hHeld.bl (Nat.le_refl _))).mono ?_; rintro e w14 ⟨rfl, hb14⟩)
              refine hK2.out _ _ (hHeld.keep hb14) (fun hHeld2 => ?_)
              clear hK2 K hHeld
              have hHeld := hHeld2
              clear hHeld2
              try simp only [Act.put, List.getElem_toArray, List.getElem_cons_succ, List.getElem_cons_zero, List.setIfInBounds_toArray, List.set_cons_zero, List.set_cons_succ]
              refine wpAnyH_take (i := 4) (v := .bool true) rfl (by kernel_rfl) (by kernel_rfl) (by kernel_rfl) (fun _ _ _ h => h) (Or.inl ⟨by rfl, fun W _ => by go_simp⟩) hHeld ?_
              try simp only [Act.put, List.getElem_toArray, List.getElem_cons_succ, List.getElem_cons_zero, List.setIfInBounds_toArray, List.set_cons_zero, List.set_cons_succ]
              refine wpAnyH_take (i := 5) (v := .bool true) rfl (by kernel_rfl) (by kernel_rfl) (by kernel_rfl) (fun _ _ _ h => h) (Or.inl ⟨by rfl, fun W _ => by kernel_rfl⟩) hHeld ?_
              try simp only [Act.put, List.getElem_toArray, List.getElem_cons_succ, List.getElem_cons_zero, List.setIfInBounds_toArray, List.set_cons_zero, List.set_cons_succ]
              refine wpAnyH_take (i := 6) (v := .slice (some ⟨b, o, none⟩) 2 c) rfl (by kernel_rfl) (by kernel_rfl) (by kernel_rfl) (fun _ _ _ h => h) (Or.inl ⟨by rfl, fun W _ => by kernel_rfl⟩) hHeld ?_
              try simp only [Act.put, List.getElem_toArray, List.getElem_cons_succ, List.getElem_cons_zero, List.setIfInBounds_toArray, List.set_cons_zero, List.set_cons_succ]
              refine wpAnyH_take (i := 7) (v := .int .i64 2) rfl (by kernel_rfl) (by kernel_rfl) (by kernel_rfl) (fun _ _ _ h => h) (Or.inl ⟨by rfl, fun W _ => by go_simp⟩) hHeld ?_
              try simp only [Act.put, List.getElem_toArray, List.getElem_cons_succ, List.getElem_cons_zero, List.setIfInBounds_toArray, List.set_cons_zero, List.set_cons_succ]
              refine wpAnyH_take (i := 8) (v := .bool true) rfl (by kernel_rfl) (by kernel_rfl) (by kernel_rfl) (fun _ _ _ h => h) (Or.inl ⟨by rfl, fun W _ => by go_simp⟩) hHeld ?_
              try simp only [Act.put, List.getElem_toArray, List.getElem_cons_succ, List.getElem_cons_zero, List.setIfInBounds_toArray, List.set_cons_zero, List.set_cons_succ]
              refine wpAnyH_take (i := 9) (v := .bool true) rfl (by kernel_rfl) (by kernel_rfl) (by kernel_rfl) (fun _ _ _ h => h) (Or.inl ⟨by rfl, fun W _ => by go_simp⟩) hHeld ?_
              try simp only [Act.put, List.getElem_toArray, List.getElem_cons_succ, List.getElem_cons_zero, List.setIfInBounds_toArray, List.set_cons_zero, List.set_cons_succ]
              refine wpAnyH_take (i := 10) (v := .bool true) rfl (by kernel_rfl) (by kernel_rfl) (by kernel_rfl) (fun _ _ _ h => h) (Or.inl ⟨by rfl, fun W _ => by kernel_rfl⟩) hHeld ?_
              try simp only [Act.put, List.getElem_toArray, List.getElem_cons_succ, List.getElem_cons_zero, List.setIfInBounds_toArray, List.set_cons_zero, List.set_cons_succ]
              refine wpAnyH_done (by kernel_rfl) ?_ _
              go_wp2_with fail
              go_ret
              exact ⟨rfl, hHeld.bl⟩
/-- InsnFields, whatever the instruction and the number. -/
theorem Fields_any (i : InsnV) (r0 : Int) (hop : i.op ≤ 9223372036854775807) (him : -9223372036854775808 ≤ i.imm ∧ i.imm ≤ 9223372036854775807) (w : World) (ht : Tabs w) (hp : P10 w) :
    Calls Tryd.prog 9 #[.agg i.cells, .int .i64 r0] w fun e w' => e = .returned (.bool true) ∧ Below w.heap.size w w' := by
  by_cases hc : checkE i = 0
  · exact Fields_ok i r0 hop him hc w ht hp
  · exact Fields_no i r0 hop him hc w ht hp
end Go.Proofs.YtgkgljlejnihdaaDoor
