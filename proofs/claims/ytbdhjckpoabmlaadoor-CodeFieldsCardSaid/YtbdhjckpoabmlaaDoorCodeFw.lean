/- The walk of the law CodeFields. Conditions: the library's table of ASCII spaces and the fields' places lie as their initialisers lay them. -/
import Derived.Test.YtbdhjckpoabmlaaDoorCodeL
import Derived.Test.YtbdhjckpoabmlaaDoorCodePn
import Derived.Test.YtbdhjckpoabmlaaDoorPick
import Derived.Deep.DeepCutAuto
import Derived.Deep.RegionHeld
set_option linter.unusedSimpArgs false
set_option linter.unusedVariables false
namespace Go.Proofs.YtbdhjckpoabmlaaDoor
open Go.RowKit
/-- Three copies of an instruction beside it. -/
structure Three (w : World) (CS LX LY LZ : List Value) (X Y Z : Nat) (W : World) : Prop where
  rI : W.rangeAt w.heap.size 0 CS
  rX : W.rangeAt X 0 LX
  rY : W.rangeAt Y 0 LY
  rZ : W.rangeAt Z 0 LZ
  tX : W.there X 0 9
  tY : W.there Y 0 9
  tZ : W.there Z 0 9
  lX : w.heap.size < X
  lY : w.heap.size < Y
  lZ : w.heap.size < Z
  nXY : X ≠ Y
  nXZ : X ≠ Z
  nYZ : Y ≠ Z
  bl : Below w.heap.size w W
  hX : X < W.heap.size
  hY : Y < W.heap.size
  hZ : Z < W.heap.size
theorem Three.keep {w W W' : World} {CS LX LY LZ : List Value} {X Y Z : Nat} (h : Three w CS LX LY LZ X Y Z W) (hb : Below W.heap.size W W') : Three w CS LX LY LZ X Y Z W' :=
  ⟨range_on h.rI (Nat.lt_trans h.lX h.hX) hb, range_on h.rX h.hX hb, range_on h.rY h.hY hb, range_on h.rZ h.hZ hb, there_on h.tX h.hX hb, there_on h.tY h.hY hb, there_on h.tZ h.hZ hb, h.lX, h.lY, h.lZ, h.nXY, h.nXZ, h.nYZ, h.bl.trans (hb.mono h.bl.size), Nat.lt_of_lt_of_le h.hX hb.size, Nat.lt_of_lt_of_le h.hY hb.size, Nat.lt_of_lt_of_le h.hZ hb.size⟩
theorem there_far {w w' : World} {b n B : Nat} (h : w.there b 0 n) (hlt : b < w.heap.size) (hne : b ≠ B) (hg : w.grownBy w' (some B)) : w'.there b 0 n := fun j hj => by
  rw [far_cell hg ⟨b, 0 + j, none⟩ hlt (fun e => hne (Option.some.inj e)), far_frozen hg ⟨b, 0 + j, none⟩ hlt (fun e => hne (Option.some.inj e))]; exact h j hj
theorem there_set {w : World} {b n : Nat} (h : w.there b 0 n) (o : Nat) (v : Value) : (w.setCell ⟨b, o, none⟩ v).there b 0 n := World.there_setCells h b o [v]
theorem Three.set {w W : World} {CS LX LY LZ : List Value} {X Y Z : Nat} (h : Three w CS LX LY LZ X Y Z W) (a b c : Nat) (u : Value) :
    Three w CS (LX.set a u) (LY.set b u) (LZ.set c u) X Y Z (((W.setCell ⟨X, a, none⟩ u).setCell ⟨Y, b, none⟩ u).setCell ⟨Z, c, none⟩ u) := by
  have g1 := grown_set W X a u
  have g2 := grown_set (W.setCell ⟨X, a, none⟩ u) Y b u
  have g3 := grown_set ((W.setCell ⟨X, a, none⟩ u).setCell ⟨Y, b, none⟩ u) Z c u
  have s1 : (W.setCell ⟨X, a, none⟩ u).heap.size = W.heap.size := by simp
  have s2 : ((W.setCell ⟨X, a, none⟩ u).setCell ⟨Y, b, none⟩ u).heap.size = W.heap.size := by simp
  have s3 : (((W.setCell ⟨X, a, none⟩ u).setCell ⟨Y, b, none⟩ u).setCell ⟨Z, c, none⟩ u).heap.size = W.heap.size := by simp
  have hI := Nat.lt_trans h.lX h.hX
  have hX := h.hX; have hY := h.hY; have hZ := h.hZ
  have nX := Nat.ne_of_lt h.lX; have nY := Nat.ne_of_lt h.lY; have nZ := Nat.ne_of_lt h.lZ
  refine ⟨range_apart (range_apart (range_apart h.rI hI nX g1) (by omega) nY g2) (by omega) nZ g3,
    range_apart (range_apart (range_set h.rX a u) (by omega) h.nXY g2) (by omega) h.nXZ g3,
    range_apart (range_set (range_apart h.rY hY (Ne.symm h.nXY) g1) b u) (by omega) h.nYZ g3,
    range_set (range_apart (range_apart h.rZ hZ (Ne.symm h.nXZ) g1) (by omega) (Ne.symm h.nYZ) g2) c u,
    there_far (there_far (there_set h.tX a u) (by omega) h.nXY g2) (by omega) h.nXZ g3,
    there_far (there_set (there_far h.tY hY (Ne.symm h.nXY) g1) b u) (by omega) h.nYZ g3,
    there_set (there_far (there_far h.tZ hZ (Ne.symm h.nXZ) g1) (by omega) (Ne.symm h.nYZ) g2) c u,
    h.lX, h.lY, h.lZ, h.nXY, h.nXZ, h.nYZ, ((h.bl.setCell (p := ⟨X, a, none⟩) (Nat.le_of_lt h.lX) u).setCell (p := ⟨Y, b, none⟩) (Nat.le_of_lt h.lY) u).setCell (p := ⟨Z, c, none⟩) (Nat.le_of_lt h.lZ) u, by omega, by omega, by omega⟩
theorem size_cells (w : World) (b : Nat) (cs : List Value) : w.heap.size ≤ (World.setCells w b 0 cs).heap.size := (below_cells (Nat.zero_le _) cs 0 _ (Below.refl 0 _)).size
theorem three_of {w W : World} {CS : List Value} {X Y Z : Nat} (hl : CS.length = 9) (rI : W.rangeAt w.heap.size 0 CS) (tX : W.there X 0 9) (tY : W.there Y 0 9) (tZ : W.there Z 0 9) (lX : w.heap.size < X) (lY : w.heap.size < Y) (lZ : w.heap.size < Z)
    (nXY : X ≠ Y) (nXZ : X ≠ Z) (nYZ : Y ≠ Z) (bl : Below w.heap.size w W) (hX : X < W.heap.size) (hY : Y < W.heap.size) (hZ : Z < W.heap.size) :
    Three w CS CS CS CS X Y Z (World.setCells (World.setCells (World.setCells W X 0 CS) Y 0 CS) Z 0 CS) := by
  have s1 := size_cells W X CS
  have s2 := size_cells (World.setCells W X 0 CS) Y CS
  have s3 := size_cells (World.setCells (World.setCells W X 0 CS) Y 0 CS) Z CS
  have tX1 := World.there_setCells tX X 0 CS
  have tY1 := World.there_setCells tY X 0 CS
  have tZ1 := World.there_setCells tZ X 0 CS
  have tX2 := World.there_setCells tX1 Y 0 CS
  have tY2 := World.there_setCells tY1 Y 0 CS
  have tZ2 := World.there_setCells tZ1 Y 0 CS
  refine ⟨World.rangeAt_setCells_apart (World.rangeAt_setCells_apart (World.rangeAt_setCells_apart rI X 0 CS (.inl (Nat.ne_of_lt lX))) Y 0 CS (.inl (Nat.ne_of_lt lY))) Z 0 CS (.inl (Nat.ne_of_lt lZ)),
    World.rangeAt_setCells_apart (World.rangeAt_setCells_apart (World.rangeAt_setCells_same W X 0 CS (by rw [hl]; exact tX)) Y 0 CS (.inl nXY)) Z 0 CS (.inl nXZ),
    World.rangeAt_setCells_apart (World.rangeAt_setCells_same _ Y 0 CS (by rw [hl]; exact tY1)) Z 0 CS (.inl nYZ),
    World.rangeAt_setCells_same _ Z 0 CS (by rw [hl]; exact tZ2),
    World.there_setCells tX2 Z 0 CS, World.there_setCells tY2 Z 0 CS, World.there_setCells tZ2 Z 0 CS, lX, lY, lZ, nXY, nXZ, nYZ,
    below_cells (Nat.le_of_lt lZ) CS 0 _ (below_cells (Nat.le_of_lt lY) CS 0 _ (below_cells (Nat.le_of_lt lX) CS 0 _ bl)), by omega, by omega, by omega⟩
/-- The frame of the region in which the copies are made. -/
def CpS (w : World) (CS : List Value) (W : World) : Prop := W.rangeAt w.heap.size 0 CS ∧ Below w.heap.size w W ∧ w.heap.size < W.heap.size
theorem CpS.below {w W W' : World} {CS : List Value} (h : CpS w CS W) (hb : Below W.heap.size W W') : CpS w CS W' := ⟨range_on h.1 h.2.2 hb, h.2.1.trans (hb.mono h.2.1.size), Nat.lt_of_lt_of_le h.2.2 hb.size⟩
theorem CpS.cells {w W : World} {CS : List Value} (h : CpS w CS W) {X : Nat} (lX : w.heap.size < X) : CpS w CS (World.setCells W X 0 CS) :=
  ⟨World.rangeAt_setCells_apart h.1 X 0 CS (.inl (Nat.ne_of_lt lX)), below_cells (Nat.le_of_lt lX) CS 0 _ h.2.1, Nat.lt_of_lt_of_le h.2.2 (size_cells W X CS)⟩
theorem bv32_31 : bv32 31 = 31#32 := rfl
attribute [local go_sem] bits_u32_and bits_u32_xor bits_u32_andNot bv32_un32
section
attribute [local irreducible] un32 bv32 wordV checkE
set_option maxRecDepth 100000 in
set_option maxHeartbeats 32000000 in
theorem CodeFields_any (i : InsnV) (r0 : Int) (w : World) (hlo : -9223372036854775808 ≤ i.op) (hop : i.op ≤ 9223372036854775807) (ht : Tabs w) (hfl : Flds w) :
    Calls Tryd.prog 3 #[.agg i.cells, .int .i64 r0] w fun e w' => e = .returned (.bool true) ∧ Below w.heap.size w w' := by
  have hu := Tryd.underlying23
  obtain ⟨r, hr⟩ : ∃ r, Pick r0 32 = r := ⟨_, rfl⟩
  have hrb : 0 ≤ r ∧ r < 32 := by rw [← hr]; exact Pick_lt r0 32 (by decide)
  have hrw : IntKind.u32.wrap r = r := by simp [IntKind.wrap, IntKind.bits, IntKind.signed]; omega
  have hPk : Hid (∀ W, Calls Tryd.prog 8 #[.int .i64 r0, .int .i64 32] W fun e w' => e = .returned (.int .i64 r) ∧ W = w') := Lib.hid fun W => by rw [← hr]; exact Pick_any r0 32 (by decide) W
  clear hr
  have hC := checkE_02 i
  have hF := checkE_02 { i with rd := r }
  have hG := checkE_02 { i with rs1 := r }
  have hH := checkE_02 { i with rs2 := r }
  have hK := checkE_02 { i with aq := !i.aq }
  have hWI := Lib.hid (word_list i hlo hop)
  have hWX := Lib.hid (word_list { i with rd := r } hlo hop)
  have hWY := Lib.hid (word_list { i with rs1 := r } hlo hop)
  have hWZ := Lib.hid (word_list { i with rs2 := r } hlo hop)
  have hWU := Lib.hid (word_list { i with aq := !i.aq } hlo hop)
  have hfX := Lib.hid (fields_rd i r)
  have hfY := Lib.hid (fields_rs1 i r)
  have hfZ := Lib.hid (fields_rs2 i r)
  have hnX := Lib.hid (inside_rd i r)
  have hnY := Lib.hid (inside_rs1 i r)
  have hlw := Lib.hid (low_three i)
  have hfb := Lib.hid (flag_bit i)
  have hI1 := Lib.hid (show i.cells.toList[1]? = some (.int .i64 i.rd) from rfl)
  have hI2 := Lib.hid (show i.cells.toList[2]? = some (.int .i64 i.rs1) from rfl)
  have hI3 := Lib.hid (show i.cells.toList[3]? = some (.int .i64 i.rs2) from rfl)
  have hI5 := Lib.hid (show i.cells.toList[5]? = some (.bool i.aq) from rfl)
  have hsX := Lib.hid (show i.cells.toList.set 1 (.int .i64 r) = ({ i with rd := r } : InsnV).cells.toList from rfl)
  have hsY := Lib.hid (show i.cells.toList.set 2 (.int .i64 r) = ({ i with rs1 := r } : InsnV).cells.toList from rfl)
  have hsZ := Lib.hid (show i.cells.toList.set 3 (.int .i64 r) = ({ i with rs2 := r } : InsnV).cells.toList from rfl)
  have hsU := Lib.hid (show i.cells.toList.set 5 (.bool (!i.aq)) = ({ i with aq := !i.aq } : InsnV).cells.toList from rfl)
  have hzX := Lib.hid (size_insn { i with rd := r })
  have hzY := Lib.hid (size_insn { i with rs1 := r })
  have hzZ := Lib.hid (size_insn { i with rs2 := r })
  have hzU := Lib.hid (size_insn { i with aq := !i.aq })
  have hsC := Lib.hid (size_insn i)
  have hCn := Lib.hid i.list_len
  have h1c := Lib.hid i.list_one
  obtain ⟨hbB, hrB, hlB⟩ := boxed w i 23
  replace hF := Lib.hid hF
  replace hG := Lib.hid hG
  replace hH := Lib.hid hH
  replace hK := Lib.hid hK
  go_enter Tryd.func3, Tryd.ntmps3
  go_upto_region 3 with (go_at_call 6; refine (Lives3_any _ (ht.later hbB (Nat.le_refl _)) (hfl.later hbB)).mono ?_; rintro e w1 ⟨rfl, hb1⟩)
  have hr1 := range_on hrB hlB hb1
  have hb01 := hbB.trans (hb1.mono hbB.size)
  have hl1 : w.heap.size < w1.heap.size := Nat.lt_of_lt_of_le hlB hb1.size
  clear hb1 hrB hbB hlB
  generalize checkE i = c at *
  generalize checkE { i with rd := r } = cx at *
  generalize checkE { i with rs1 := r } = cy at *
  generalize checkE { i with rs2 := r } = cz at *
  generalize checkE { i with aq := !i.aq } = cu at *
  generalize wordV i = a at *
  generalize wordV { i with rd := r } = bx at *
  generalize wordV { i with rs1 := r } = bY at *
  generalize wordV { i with rs2 := r } = bz at *
  generalize wordV { i with aq := !i.aq } = bu at *
  generalize i.cells.toList = CS at *
  generalize ({ i with rd := r } : InsnV).cells.toList = LX at *
  generalize ({ i with rs1 := r } : InsnV).cells.toList = LY at *
  generalize ({ i with rs2 := r } : InsnV).cells.toList = LZ at *
  generalize ({ i with aq := !i.aq } : InsnV).cells.toList = LU at *
  generalize i.rd = fd at *
  generalize i.rs1 = f1 at *
  generalize i.rs2 = f2 at *
  generalize i.aq = fa at *
  go_upto_region 4 with (first | (refine wpList_load_mid rfl 23 _ rfl w.heap.size 0 rfl CS _ hr1 hu rfl hsC.out ?_) | (go_at_call 7; refine (hWI.out _ (ht.later hb01 (Nat.le_refl _)) (hfl.later hb01)).mono ?_; rintro e w2 ⟨rfl, hb2⟩))
  have hb02 := hb01.trans (hb2.mono hb01.size)
  have hr2 := range_on hr1 hl1 hb2
  have hl2 := Nat.lt_of_lt_of_le hl1 hb2.size
  clear hb2 hr1 hb01 hl1 hWI
  rcases hC with rfl | rfl
  · have hS1 : CpS w CS w2 := ⟨hr2, hb02, hl2⟩
    clear hr2 hb02 hl2
    go_upto_region 7 with (go_at_call 8; refine (hPk.out _).mono ?_; rintro e w' ⟨rfl, rfl⟩)
    clear hPk
    go_cut [7, 8, 9] (fun s7 s8 s9 wx => ∃ X Y Z, s7 = .pointer (some ⟨X, 0, none⟩) ∧ s8 = .pointer (some ⟨Y, 0, none⟩) ∧ s9 = .pointer (some ⟨Z, 0, none⟩) ∧ Three w CS CS CS CS X Y Z wx)
    case first =>
      refine wp_region_held_drew (S := fun W => CpS w CS W) (by kernel_rfl) (CpS.below hS1 (Below.refl _ _).drew) (fun hHeld => ?_)
      refine wpAnyH_take (i := 0) rfl (by kernel_rfl) (by kernel_rfl) (by kernel_rfl) (fun _ _ _ h => h) (yieldsIf_load_mid (by rfl) _ _ rfl w.heap.size 0 rfl CS _ (fun W hS => hS.1) hu rfl hsC.out) hHeld ?_
      try simp only [Act.put, List.getElem_toArray, List.getElem_cons_zero, List.setIfInBounds_toArray, List.set_cons_zero, List.set_cons_succ]
      generalize World.drew _ = W0 at hHeld ⊢
      refine wpAnyH_take (i := 1) rfl (by kernel_rfl) (by kernel_rfl) (by kernel_rfl) (fun _ _ _ h => h) (yieldsIf_load_mid (by rfl) _ _ rfl w.heap.size 0 rfl CS _ (fun W hS => hS.1) hu rfl hsC.out) hHeld ?_
      try simp only [Act.put, List.getElem_toArray, List.getElem_cons_succ, List.getElem_cons_zero, List.setIfInBounds_toArray, List.set_cons_zero, List.set_cons_succ]
      refine wpAnyH_take (i := 2) rfl (by kernel_rfl) (by kernel_rfl) (by kernel_rfl) (fun _ _ _ h => h) (yieldsIf_load_mid (by rfl) _ _ rfl w.heap.size 0 rfl CS _ (fun W hS => hS.1) hu rfl hsC.out) hHeld ?_
      try simp only [Act.put, List.getElem_toArray, List.getElem_cons_succ, List.getElem_cons_zero, List.setIfInBounds_toArray, List.set_cons_zero, List.set_cons_succ]
      refine wpAnyH_ready (rs := [3, 4, 5]) (by kernel_rfl) (by simp) ?_
      refine AllReadyH.cons rfl (fun K hK2 => ?_) ?_
      · rw [if_pos (by rfl)]
        simp only [List.getElem_toArray, List.getElem_cons_succ, List.getElem_cons_zero]
        obtain ⟨X, hX⟩ : ∃ n, n = W0.heap.size := ⟨_, rfl⟩
        have tX := cells_fresh W0 #[.int .i64 0, .int .i64 0, .int .i64 0, .int .i64 0, .int .i64 0, .bool false, .bool false, .int .i64 0, .int .i64 0] 23 9 (by decide)
        have lX : W0.heap.size < (W0.alloc (.cells #[.int .i64 0, .int .i64 0, .int .i64 0, .int .i64 0, .int .i64 0, .bool false, .bool false, .int .i64 0, .int .i64 0] 23)).heap.size := by simp
        have gX := hHeld.2.2
        have al : Below W0.heap.size W0 (W0.alloc (.cells #[.int .i64 0, .int .i64 0, .int .i64 0, .int .i64 0, .int .i64 0, .bool false, .bool false, .int .i64 0, .int .i64 0] 23)) := (Below.refl _ _).alloc (Nat.le_refl _) _
        go_simp
        refine hK2.out _ _ (hHeld.below al) (fun hHeld2 => ?_)
        clear hK2 K hHeld
        have hHeld := hHeld2
        clear hHeld2
        try simp only [Act.put, List.getElem_toArray, List.getElem_cons_succ, List.getElem_cons_zero, List.setIfInBounds_toArray, List.set_cons_zero, List.set_cons_succ]
        generalize World.alloc _ _ = W1 at hHeld al tX lX ⊢
        rw [← hX] at tX lX gX ⊢
        clear al hX
        refine wpAnyH_ready (rs := [4, 5]) (by kernel_rfl) (by simp) ?_
        refine AllReadyH.cons rfl (fun K hK2 => ?_) ?_
        · rw [if_pos (by rfl)]
          simp only [List.getElem_toArray, List.getElem_cons_succ, List.getElem_cons_zero]
          obtain ⟨Y, hY⟩ : ∃ n, n = W1.heap.size := ⟨_, rfl⟩
          have tY := cells_fresh W1 #[.int .i64 0, .int .i64 0, .int .i64 0, .int .i64 0, .int .i64 0, .bool false, .bool false, .int .i64 0, .int .i64 0] 23 9 (by decide)
          have lY : W1.heap.size < (W1.alloc (.cells #[.int .i64 0, .int .i64 0, .int .i64 0, .int .i64 0, .int .i64 0, .bool false, .bool false, .int .i64 0, .int .i64 0] 23)).heap.size := by simp
          have gY := hHeld.2.2
          have al : Below W1.heap.size W1 (W1.alloc (.cells #[.int .i64 0, .int .i64 0, .int .i64 0, .int .i64 0, .int .i64 0, .bool false, .bool false, .int .i64 0, .int .i64 0] 23)) := (Below.refl _ _).alloc (Nat.le_refl _) _
          have nXY : X < Y := by rw [hY]; exact lX
          replace tX := there_on tX lX al
          replace lX := Nat.lt_of_lt_of_le lX al.size
          go_simp
          refine hK2.out _ _ (hHeld.below al) (fun hHeld2 => ?_)
          clear hK2 K hHeld
          have hHeld := hHeld2
          clear hHeld2
          try simp only [Act.put, List.getElem_toArray, List.getElem_cons_succ, List.getElem_cons_zero, List.setIfInBounds_toArray, List.set_cons_zero, List.set_cons_succ]
          generalize World.alloc _ _ = W2 at hHeld al tY lY tX lX ⊢
          rw [← hY] at tY lY gY ⊢
          clear al hY
          refine wpAnyH_ready (rs := [5]) (by kernel_rfl) (by simp) (AllReadyH.cons rfl (fun K hK2 => ?_) AllReadyH.nil)
          rw [if_pos (by rfl)]
          simp only [List.getElem_toArray, List.getElem_cons_succ, List.getElem_cons_zero]
          obtain ⟨Z, hZ⟩ : ∃ n, n = W2.heap.size := ⟨_, rfl⟩
          have tZ := cells_fresh W2 #[.int .i64 0, .int .i64 0, .int .i64 0, .int .i64 0, .int .i64 0, .bool false, .bool false, .int .i64 0, .int .i64 0] 23 9 (by decide)
          have lZ : W2.heap.size < (W2.alloc (.cells #[.int .i64 0, .int .i64 0, .int .i64 0, .int .i64 0, .int .i64 0, .bool false, .bool false, .int .i64 0, .int .i64 0] 23)).heap.size := by simp
          have gZ := hHeld.2.2
          have al : Below W2.heap.size W2 (W2.alloc (.cells #[.int .i64 0, .int .i64 0, .int .i64 0, .int .i64 0, .int .i64 0, .bool false, .bool false, .int .i64 0, .int .i64 0] 23)) := (Below.refl _ _).alloc (Nat.le_refl _) _
          have nXZ : X < Z := by rw [hZ]; exact lX
          replace tX := there_on tX lX al
          replace lX := Nat.lt_of_lt_of_le lX al.size
          have nYZ : Y < Z := by rw [hZ]; exact lY
          replace tY := there_on tY lY al
          replace lY := Nat.lt_of_lt_of_le lY al.size
          go_simp
          refine hK2.out _ _ (hHeld.below al) (fun hHeld2 => ?_)
          clear hK2 K hHeld
          have hHeld := hHeld2
          clear hHeld2
          try simp only [Act.put, List.getElem_toArray, List.getElem_cons_succ, List.getElem_cons_zero, List.setIfInBounds_toArray, List.set_cons_zero, List.set_cons_succ]
          generalize World.alloc _ _ = W3 at hHeld al tZ lZ tX lX tY lY ⊢
          rw [← hZ] at tZ lZ gZ ⊢
          clear al hZ
          have hI := hHeld
          refine wpAnyH_ready (rs := [6]) (by kernel_rfl) (by simp) (AllReadyH.cons rfl (fun K hK2 => ?_) AllReadyH.nil)
          rw [if_pos (by rfl)]
          simp only [List.getElem_toArray, List.getElem_cons_succ, List.getElem_cons_zero]
          refine wp_store_mid 23 _ _ rfl X 0 CS.toArray rfl rfl (fun j hj => tX j (by rw [List.size_toArray, hCn.out] at hj; exact hj)) (by rw [List.size_toArray]; exact hsC.out) h1c.out ?_
          change K _ (World.setCells _ X 0 CS)
          refine hK2.out _ _ (hHeld.cells gX) (fun hHeld2 => ?_)
          clear hK2 K hHeld
          have hHeld := hHeld2
          clear hHeld2
          try simp only [Act.put, List.getElem_toArray, List.getElem_cons_succ, List.getElem_cons_zero, List.setIfInBounds_toArray, List.set_cons_zero, List.set_cons_succ]
          have tY0 := tY
          have tZ0 := tZ
          replace tY := World.there_setCells tY X 0 CS
          replace tZ := World.there_setCells tZ X 0 CS
          refine wpAnyH_ready (rs := [7]) (by kernel_rfl) (by simp) (AllReadyH.cons rfl (fun K hK2 => ?_) AllReadyH.nil)
          rw [if_pos (by rfl)]
          simp only [List.getElem_toArray, List.getElem_cons_succ, List.getElem_cons_zero]
          refine wp_store_mid 23 _ _ rfl Y 0 CS.toArray rfl rfl (fun j hj => tY j (by rw [List.size_toArray, hCn.out] at hj; exact hj)) (by rw [List.size_toArray]; exact hsC.out) h1c.out ?_
          change K _ (World.setCells _ Y 0 CS)
          refine hK2.out _ _ (hHeld.cells gY) (fun hHeld2 => ?_)
          clear hK2 K hHeld
          have hHeld := hHeld2
          clear hHeld2
          try simp only [Act.put, List.getElem_toArray, List.getElem_cons_succ, List.getElem_cons_zero, List.setIfInBounds_toArray, List.set_cons_zero, List.set_cons_succ]
          replace tZ := World.there_setCells tZ Y 0 CS
          refine wpAnyH_ready (rs := [8]) (by kernel_rfl) (by simp) (AllReadyH.cons rfl (fun K hK2 => ?_) AllReadyH.nil)
          rw [if_pos (by rfl)]
          simp only [List.getElem_toArray, List.getElem_cons_succ, List.getElem_cons_zero]
          refine wp_store_mid 23 _ _ rfl Z 0 CS.toArray rfl rfl (fun j hj => tZ j (by rw [List.size_toArray, hCn.out] at hj; exact hj)) (by rw [List.size_toArray]; exact hsC.out) h1c.out ?_
          change K _ (World.setCells _ Z 0 CS)
          refine hK2.out _ _ (hHeld.cells gZ) (fun hHeld2 => ?_)
          clear hK2 K hHeld
          have hHeld := hHeld2
          clear hHeld2
          try simp only [Act.put, List.getElem_toArray, List.getElem_cons_succ, List.getElem_cons_zero, List.setIfInBounds_toArray, List.set_cons_zero, List.set_cons_succ]
          refine wpAnyH_done (by kernel_rfl) ?_ _
          go_wp2_with fail
          go_meet
          exact ⟨X, Y, Z, rfl, rfl, rfl, three_of hCn.out hI.1 tX tY0 tZ0 gX gY gZ (Nat.ne_of_lt nXY) (Nat.ne_of_lt nXZ) (Nat.ne_of_lt nYZ) hI.2.1 lX lY lZ⟩
        refine AllReadyH.cons rfl (fun K hK2 => ?_) ?_
        · rw [if_pos (by rfl)]
          simp only [List.getElem_toArray, List.getElem_cons_succ, List.getElem_cons_zero]
          obtain ⟨Z, hZ⟩ : ∃ n, n = W1.heap.size := ⟨_, rfl⟩
          have tZ := cells_fresh W1 #[.int .i64 0, .int .i64 0, .int .i64 0, .int .i64 0, .int .i64 0, .bool false, .bool false, .int .i64 0, .int .i64 0] 23 9 (by decide)
          have lZ : W1.heap.size < (W1.alloc (.cells #[.int .i64 0, .int .i64 0, .int .i64 0, .int .i64 0, .int .i64 0, .bool false, .bool false, .int .i64 0, .int .i64 0] 23)).heap.size := by simp
          have gZ := hHeld.2.2
          have al : Below W1.heap.size W1 (W1.alloc (.cells #[.int .i64 0, .int .i64 0, .int .i64 0, .int .i64 0, .int .i64 0, .bool false, .bool false, .int .i64 0, .int .i64 0] 23)) := (Below.refl _ _).alloc (Nat.le_refl _) _
          have nXZ : X < Z := by rw [hZ]; exact lX
          replace tX := there_on tX lX al
          replace lX := Nat.lt_of_lt_of_le lX al.size
          go_simp
          refine hK2.out _ _ (hHeld.below al) (fun hHeld2 => ?_)
          clear hK2 K hHeld
          have hHeld := hHeld2
          clear hHeld2
          try simp only [Act.put, List.getElem_toArray, List.getElem_cons_succ, List.getElem_cons_zero, List.setIfInBounds_toArray, List.set_cons_zero, List.set_cons_succ]
          generalize World.alloc _ _ = W2 at hHeld al tZ lZ tX lX ⊢
          rw [← hZ] at tZ lZ gZ ⊢
          clear al hZ
          refine wpAnyH_ready (rs := [4]) (by kernel_rfl) (by simp) (AllReadyH.cons rfl (fun K hK2 => ?_) AllReadyH.nil)
          rw [if_pos (by rfl)]
          simp only [List.getElem_toArray, List.getElem_cons_succ, List.getElem_cons_zero]
          obtain ⟨Y, hY⟩ : ∃ n, n = W2.heap.size := ⟨_, rfl⟩
          have tY := cells_fresh W2 #[.int .i64 0, .int .i64 0, .int .i64 0, .int .i64 0, .int .i64 0, .bool false, .bool false, .int .i64 0, .int .i64 0] 23 9 (by decide)
          have lY : W2.heap.size < (W2.alloc (.cells #[.int .i64 0, .int .i64 0, .int .i64 0, .int .i64 0, .int .i64 0, .bool false, .bool false, .int .i64 0, .int .i64 0] 23)).heap.size := by simp
          have gY := hHeld.2.2
          have al : Below W2.heap.size W2 (W2.alloc (.cells #[.int .i64 0, .int .i64 0, .int .i64 0, .int .i64 0, .int .i64 0, .bool false, .bool false, .int .i64 0, .int .i64 0] 23)) := (Below.refl _ _).alloc (Nat.le_refl _) _
          have nXY : X < Y := by rw [hY]; exact lX
          replace tX := there_on tX lX al
          replace lX := Nat.lt_of_lt_of_le lX al.size
          have nZY : Z < Y := by rw [hY]; exact lZ
          replace tZ := there_on tZ lZ al
          replace lZ := Nat.lt_of_lt_of_le lZ al.size
          go_simp
          refine hK2.out _ _ (hHeld.below al) (fun hHeld2 => ?_)
          clear hK2 K hHeld
          have hHeld := hHeld2
          clear hHeld2
          try simp only [Act.put, List.getElem_toArray, List.getElem_cons_succ, List.getElem_cons_zero, List.setIfInBounds_toArray, List.set_cons_zero, List.set_cons_succ]
          generalize World.alloc _ _ = W3 at hHeld al tY lY tX lX tZ lZ ⊢
          rw [← hY] at tY lY gY ⊢
          clear al hY
          have hI := hHeld
          refine wpAnyH_ready (rs := [6]) (by kernel_rfl) (by simp) (AllReadyH.cons rfl (fun K hK2 => ?_) AllReadyH.nil)
          rw [if_pos (by rfl)]
          simp only [List.getElem_toArray, List.getElem_cons_succ, List.getElem_cons_zero]
          refine wp_store_mid 23 _ _ rfl X 0 CS.toArray rfl rfl (fun j hj => tX j (by rw [List.size_toArray, hCn.out] at hj; exact hj)) (by rw [List.size_toArray]; exact hsC.out) h1c.out ?_
          change K _ (World.setCells _ X 0 CS)
          refine hK2.out _ _ (hHeld.cells gX) (fun hHeld2 => ?_)
          clear hK2 K hHeld
          have hHeld := hHeld2
          clear hHeld2
          try simp only [Act.put, List.getElem_toArray, List.getElem_cons_succ, List.getElem_cons_zero, List.setIfInBounds_toArray, List.set_cons_zero, List.set_cons_succ]
          have tY0 := tY
          have tZ0 := tZ
          replace tY := World.there_setCells tY X 0 CS
          replace tZ := World.there_setCells tZ X 0 CS
          refine wpAnyH_ready (rs := [7]) (by kernel_rfl) (by simp) (AllReadyH.cons rfl (fun K hK2 => ?_) AllReadyH.nil)
          rw [if_pos (by rfl)]
          simp only [List.getElem_toArray, List.getElem_cons_succ, List.getElem_cons_zero]
          refine wp_store_mid 23 _ _ rfl Y 0 CS.toArray rfl rfl (fun j hj => tY j (by rw [List.size_toArray, hCn.out] at hj; exact hj)) (by rw [List.size_toArray]; exact hsC.out) h1c.out ?_
          change K _ (World.setCells _ Y 0 CS)
          refine hK2.out _ _ (hHeld.cells gY) (fun hHeld2 => ?_)
          clear hK2 K hHeld
          have hHeld := hHeld2
          clear hHeld2
          try simp only [Act.put, List.getElem_toArray, List.getElem_cons_succ, List.getElem_cons_zero, List.setIfInBounds_toArray, List.set_cons_zero, List.set_cons_succ]
          replace tZ := World.there_setCells tZ Y 0 CS
          refine wpAnyH_ready (rs := [8]) (by kernel_rfl) (by simp) (AllReadyH.cons rfl (fun K hK2 => ?_) AllReadyH.nil)
          rw [if_pos (by rfl)]
          simp only [List.getElem_toArray, List.getElem_cons_succ, List.getElem_cons_zero]
          refine wp_store_mid 23 _ _ rfl Z 0 CS.toArray rfl rfl (fun j hj => tZ j (by rw [List.size_toArray, hCn.out] at hj; exact hj)) (by rw [List.size_toArray]; exact hsC.out) h1c.out ?_
          change K _ (World.setCells _ Z 0 CS)
          refine hK2.out _ _ (hHeld.cells gZ) (fun hHeld2 => ?_)
          clear hK2 K hHeld
          have hHeld := hHeld2
          clear hHeld2
          try simp only [Act.put, List.getElem_toArray, List.getElem_cons_succ, List.getElem_cons_zero, List.setIfInBounds_toArray, List.set_cons_zero, List.set_cons_succ]
          refine wpAnyH_done (by kernel_rfl) ?_ _
          go_wp2_with fail
          go_meet
          exact ⟨X, Y, Z, rfl, rfl, rfl, three_of hCn.out hI.1 tX tY0 tZ0 gX gY gZ (Nat.ne_of_lt nXY) (Nat.ne_of_lt nXZ) ((Nat.ne_of_lt nZY).symm) hI.2.1 lX lY lZ⟩
        exact AllReadyH.nil
      refine AllReadyH.cons rfl (fun K hK2 => ?_) ?_
      · rw [if_pos (by rfl)]
        simp only [List.getElem_toArray, List.getElem_cons_succ, List.getElem_cons_zero]
        obtain ⟨Y, hY⟩ : ∃ n, n = W0.heap.size := ⟨_, rfl⟩
        have tY := cells_fresh W0 #[.int .i64 0, .int .i64 0, .int .i64 0, .int .i64 0, .int .i64 0, .bool false, .bool false, .int .i64 0, .int .i64 0] 23 9 (by decide)
        have lY : W0.heap.size < (W0.alloc (.cells #[.int .i64 0, .int .i64 0, .int .i64 0, .int .i64 0, .int .i64 0, .bool false, .bool false, .int .i64 0, .int .i64 0] 23)).heap.size := by simp
        have gY := hHeld.2.2
        have al : Below W0.heap.size W0 (W0.alloc (.cells #[.int .i64 0, .int .i64 0, .int .i64 0, .int .i64 0, .int .i64 0, .bool false, .bool false, .int .i64 0, .int .i64 0] 23)) := (Below.refl _ _).alloc (Nat.le_refl _) _
        go_simp
        refine hK2.out _ _ (hHeld.below al) (fun hHeld2 => ?_)
        clear hK2 K hHeld
        have hHeld := hHeld2
        clear hHeld2
        try simp only [Act.put, List.getElem_toArray, List.getElem_cons_succ, List.getElem_cons_zero, List.setIfInBounds_toArray, List.set_cons_zero, List.set_cons_succ]
        generalize World.alloc _ _ = W1 at hHeld al tY lY ⊢
        rw [← hY] at tY lY gY ⊢
        clear al hY
        refine wpAnyH_ready (rs := [3, 5]) (by kernel_rfl) (by simp) ?_
        refine AllReadyH.cons rfl (fun K hK2 => ?_) ?_
        · rw [if_pos (by rfl)]
          simp only [List.getElem_toArray, List.getElem_cons_succ, List.getElem_cons_zero]
          obtain ⟨X, hX⟩ : ∃ n, n = W1.heap.size := ⟨_, rfl⟩
          have tX := cells_fresh W1 #[.int .i64 0, .int .i64 0, .int .i64 0, .int .i64 0, .int .i64 0, .bool false, .bool false, .int .i64 0, .int .i64 0] 23 9 (by decide)
          have lX : W1.heap.size < (W1.alloc (.cells #[.int .i64 0, .int .i64 0, .int .i64 0, .int .i64 0, .int .i64 0, .bool false, .bool false, .int .i64 0, .int .i64 0] 23)).heap.size := by simp
          have gX := hHeld.2.2
          have al : Below W1.heap.size W1 (W1.alloc (.cells #[.int .i64 0, .int .i64 0, .int .i64 0, .int .i64 0, .int .i64 0, .bool false, .bool false, .int .i64 0, .int .i64 0] 23)) := (Below.refl _ _).alloc (Nat.le_refl _) _
          have nYX : Y < X := by rw [hX]; exact lY
          replace tY := there_on tY lY al
          replace lY := Nat.lt_of_lt_of_le lY al.size
          go_simp
          refine hK2.out _ _ (hHeld.below al) (fun hHeld2 => ?_)
          clear hK2 K hHeld
          have hHeld := hHeld2
          clear hHeld2
          try simp only [Act.put, List.getElem_toArray, List.getElem_cons_succ, List.getElem_cons_zero, List.setIfInBounds_toArray, List.set_cons_zero, List.set_cons_succ]
          generalize World.alloc _ _ = W2 at hHeld al tX lX tY lY ⊢
          rw [← hX] at tX lX gX ⊢
          clear al hX
          refine wpAnyH_ready (rs := [5]) (by kernel_rfl) (by simp) (AllReadyH.cons rfl (fun K hK2 => ?_) AllReadyH.nil)
          rw [if_pos (by rfl)]
          simp only [List.getElem_toArray, List.getElem_cons_succ, List.getElem_cons_zero]
          obtain ⟨Z, hZ⟩ : ∃ n, n = W2.heap.size := ⟨_, rfl⟩
          have tZ := cells_fresh W2 #[.int .i64 0, .int .i64 0, .int .i64 0, .int .i64 0, .int .i64 0, .bool false, .bool false, .int .i64 0, .int .i64 0] 23 9 (by decide)
          have lZ : W2.heap.size < (W2.alloc (.cells #[.int .i64 0, .int .i64 0, .int .i64 0, .int .i64 0, .int .i64 0, .bool false, .bool false, .int .i64 0, .int .i64 0] 23)).heap.size := by simp
          have gZ := hHeld.2.2
          have al : Below W2.heap.size W2 (W2.alloc (.cells #[.int .i64 0, .int .i64 0, .int .i64 0, .int .i64 0, .int .i64 0, .bool false, .bool false, .int .i64 0, .int .i64 0] 23)) := (Below.refl _ _).alloc (Nat.le_refl _) _
          have nYZ : Y < Z := by rw [hZ]; exact lY
          replace tY := there_on tY lY al
          replace lY := Nat.lt_of_lt_of_le lY al.size
          have nXZ : X < Z := by rw [hZ]; exact lX
          replace tX := there_on tX lX al
          replace lX := Nat.lt_of_lt_of_le lX al.size
          go_simp
          refine hK2.out _ _ (hHeld.below al) (fun hHeld2 => ?_)
          clear hK2 K hHeld
          have hHeld := hHeld2
          clear hHeld2
          try simp only [Act.put, List.getElem_toArray, List.getElem_cons_succ, List.getElem_cons_zero, List.setIfInBounds_toArray, List.set_cons_zero, List.set_cons_succ]
          generalize World.alloc _ _ = W3 at hHeld al tZ lZ tY lY tX lX ⊢
          rw [← hZ] at tZ lZ gZ ⊢
          clear al hZ
          have hI := hHeld
          refine wpAnyH_ready (rs := [6]) (by kernel_rfl) (by simp) (AllReadyH.cons rfl (fun K hK2 => ?_) AllReadyH.nil)
          rw [if_pos (by rfl)]
          simp only [List.getElem_toArray, List.getElem_cons_succ, List.getElem_cons_zero]
          refine wp_store_mid 23 _ _ rfl X 0 CS.toArray rfl rfl (fun j hj => tX j (by rw [List.size_toArray, hCn.out] at hj; exact hj)) (by rw [List.size_toArray]; exact hsC.out) h1c.out ?_
          change K _ (World.setCells _ X 0 CS)
          refine hK2.out _ _ (hHeld.cells gX) (fun hHeld2 => ?_)
          clear hK2 K hHeld
          have hHeld := hHeld2
          clear hHeld2
          try simp only [Act.put, List.getElem_toArray, List.getElem_cons_succ, List.getElem_cons_zero, List.setIfInBounds_toArray, List.set_cons_zero, List.set_cons_succ]
          have tY0 := tY
          have tZ0 := tZ
          replace tY := World.there_setCells tY X 0 CS
          replace tZ := World.there_setCells tZ X 0 CS
          refine wpAnyH_ready (rs := [7]) (by kernel_rfl) (by simp) (AllReadyH.cons rfl (fun K hK2 => ?_) AllReadyH.nil)
          rw [if_pos (by rfl)]
          simp only [List.getElem_toArray, List.getElem_cons_succ, List.getElem_cons_zero]
          refine wp_store_mid 23 _ _ rfl Y 0 CS.toArray rfl rfl (fun j hj => tY j (by rw [List.size_toArray, hCn.out] at hj; exact hj)) (by rw [List.size_toArray]; exact hsC.out) h1c.out ?_
          change K _ (World.setCells _ Y 0 CS)
          refine hK2.out _ _ (hHeld.cells gY) (fun hHeld2 => ?_)
          clear hK2 K hHeld
          have hHeld := hHeld2
          clear hHeld2
          try simp only [Act.put, List.getElem_toArray, List.getElem_cons_succ, List.getElem_cons_zero, List.setIfInBounds_toArray, List.set_cons_zero, List.set_cons_succ]
          replace tZ := World.there_setCells tZ Y 0 CS
          refine wpAnyH_ready (rs := [8]) (by kernel_rfl) (by simp) (AllReadyH.cons rfl (fun K hK2 => ?_) AllReadyH.nil)
          rw [if_pos (by rfl)]
          simp only [List.getElem_toArray, List.getElem_cons_succ, List.getElem_cons_zero]
          refine wp_store_mid 23 _ _ rfl Z 0 CS.toArray rfl rfl (fun j hj => tZ j (by rw [List.size_toArray, hCn.out] at hj; exact hj)) (by rw [List.size_toArray]; exact hsC.out) h1c.out ?_
          change K _ (World.setCells _ Z 0 CS)
          refine hK2.out _ _ (hHeld.cells gZ) (fun hHeld2 => ?_)
          clear hK2 K hHeld
          have hHeld := hHeld2
          clear hHeld2
          try simp only [Act.put, List.getElem_toArray, List.getElem_cons_succ, List.getElem_cons_zero, List.setIfInBounds_toArray, List.set_cons_zero, List.set_cons_succ]
          refine wpAnyH_done (by kernel_rfl) ?_ _
          go_wp2_with fail
          go_meet
          exact ⟨X, Y, Z, rfl, rfl, rfl, three_of hCn.out hI.1 tX tY0 tZ0 gX gY gZ ((Nat.ne_of_lt nYX).symm) (Nat.ne_of_lt nXZ) (Nat.ne_of_lt nYZ) hI.2.1 lX lY lZ⟩
        refine AllReadyH.cons rfl (fun K hK2 => ?_) ?_
        · rw [if_pos (by rfl)]
          simp only [List.getElem_toArray, List.getElem_cons_succ, List.getElem_cons_zero]
          obtain ⟨Z, hZ⟩ : ∃ n, n = W1.heap.size := ⟨_, rfl⟩
          have tZ := cells_fresh W1 #[.int .i64 0, .int .i64 0, .int .i64 0, .int .i64 0, .int .i64 0, .bool false, .bool false, .int .i64 0, .int .i64 0] 23 9 (by decide)
          have lZ : W1.heap.size < (W1.alloc (.cells #[.int .i64 0, .int .i64 0, .int .i64 0, .int .i64 0, .int .i64 0, .bool false, .bool false, .int .i64 0, .int .i64 0] 23)).heap.size := by simp
          have gZ := hHeld.2.2
          have al : Below W1.heap.size W1 (W1.alloc (.cells #[.int .i64 0, .int .i64 0, .int .i64 0, .int .i64 0, .int .i64 0, .bool false, .bool false, .int .i64 0, .int .i64 0] 23)) := (Below.refl _ _).alloc (Nat.le_refl _) _
          have nYZ : Y < Z := by rw [hZ]; exact lY
          replace tY := there_on tY lY al
          replace lY := Nat.lt_of_lt_of_le lY al.size
          go_simp
          refine hK2.out _ _ (hHeld.below al) (fun hHeld2 => ?_)
          clear hK2 K hHeld
          have hHeld := hHeld2
          clear hHeld2
          try simp only [Act.put, List.getElem_toArray, List.getElem_cons_succ, List.getElem_cons_zero, List.setIfInBounds_toArray, List.set_cons_zero, List.set_cons_succ]
          generalize World.alloc _ _ = W2 at hHeld al tZ lZ tY lY ⊢
          rw [← hZ] at tZ lZ gZ ⊢
          clear al hZ
          refine wpAnyH_ready (rs := [3]) (by kernel_rfl) (by simp) (AllReadyH.cons rfl (fun K hK2 => ?_) AllReadyH.nil)
          rw [if_pos (by rfl)]
          simp only [List.getElem_toArray, List.getElem_cons_succ, List.getElem_cons_zero]
          obtain ⟨X, hX⟩ : ∃ n, n = W2.heap.size := ⟨_, rfl⟩
          have tX := cells_fresh W2 #[.int .i64 0, .int .i64 0, .int .i64 0, .int .i64 0, .int .i64 0, .bool false, .bool false, .int .i64 0, .int .i64 0] 23 9 (by decide)
          have lX : W2.heap.size < (W2.alloc (.cells #[.int .i64 0, .int .i64 0, .int .i64 0, .int .i64 0, .int .i64 0, .bool false, .bool false, .int .i64 0, .int .i64 0] 23)).heap.size := by simp
          have gX := hHeld.2.2
          have al : Below W2.heap.size W2 (W2.alloc (.cells #[.int .i64 0, .int .i64 0, .int .i64 0, .int .i64 0, .int .i64 0, .bool false, .bool false, .int .i64 0, .int .i64 0] 23)) := (Below.refl _ _).alloc (Nat.le_refl _) _
          have nYX : Y < X := by rw [hX]; exact lY
          replace tY := there_on tY lY al
          replace lY := Nat.lt_of_lt_of_le lY al.size
          have nZX : Z < X := by rw [hX]; exact lZ
          replace tZ := there_on tZ lZ al
          replace lZ := Nat.lt_of_lt_of_le lZ al.size
          go_simp
          refine hK2.out _ _ (hHeld.below al) (fun hHeld2 => ?_)
          clear hK2 K hHeld
          have hHeld := hHeld2
          clear hHeld2
          try simp only [Act.put, List.getElem_toArray, List.getElem_cons_succ, List.getElem_cons_zero, List.setIfInBounds_toArray, List.set_cons_zero, List.set_cons_succ]
          generalize World.alloc _ _ = W3 at hHeld al tX lX tY lY tZ lZ ⊢
          rw [← hX] at tX lX gX ⊢
          clear al hX
          have hI := hHeld
          refine wpAnyH_ready (rs := [6]) (by kernel_rfl) (by simp) (AllReadyH.cons rfl (fun K hK2 => ?_) AllReadyH.nil)
          rw [if_pos (by rfl)]
          simp only [List.getElem_toArray, List.getElem_cons_succ, List.getElem_cons_zero]
          refine wp_store_mid 23 _ _ rfl X 0 CS.toArray rfl rfl (fun j hj => tX j (by rw [List.size_toArray, hCn.out] at hj; exact hj)) (by rw [List.size_toArray]; exact hsC.out) h1c.out ?_
          change K _ (World.setCells _ X 0 CS)
          refine hK2.out _ _ (hHeld.cells gX) (fun hHeld2 => ?_)
          clear hK2 K hHeld
          have hHeld := hHeld2
          clear hHeld2
          try simp only [Act.put, List.getElem_toArray, List.getElem_cons_succ, List.getElem_cons_zero, List.setIfInBounds_toArray, List.set_cons_zero, List.set_cons_succ]
          have tY0 := tY
          have tZ0 := tZ
          replace tY := World.there_setCells tY X 0 CS
          replace tZ := World.there_setCells tZ X 0 CS
          refine wpAnyH_ready (rs := [7]) (by kernel_rfl) (by simp) (AllReadyH.cons rfl (fun K hK2 => ?_) AllReadyH.nil)
          rw [if_pos (by rfl)]
          simp only [List.getElem_toArray, List.getElem_cons_succ, List.getElem_cons_zero]
          refine wp_store_mid 23 _ _ rfl Y 0 CS.toArray rfl rfl (fun j hj => tY j (by rw [List.size_toArray, hCn.out] at hj; exact hj)) (by rw [List.size_toArray]; exact hsC.out) h1c.out ?_
          change K _ (World.setCells _ Y 0 CS)
          refine hK2.out _ _ (hHeld.cells gY) (fun hHeld2 => ?_)
          clear hK2 K hHeld
          have hHeld := hHeld2
          clear hHeld2
          try simp only [Act.put, List.getElem_toArray, List.getElem_cons_succ, List.getElem_cons_zero, List.setIfInBounds_toArray, List.set_cons_zero, List.set_cons_succ]
          replace tZ := World.there_setCells tZ Y 0 CS
          refine wpAnyH_ready (rs := [8]) (by kernel_rfl) (by simp) (AllReadyH.cons rfl (fun K hK2 => ?_) AllReadyH.nil)
          rw [if_pos (by rfl)]
          simp only [List.getElem_toArray, List.getElem_cons_succ, List.getElem_cons_zero]
          refine wp_store_mid 23 _ _ rfl Z 0 CS.toArray rfl rfl (fun j hj => tZ j (by rw [List.size_toArray, hCn.out] at hj; exact hj)) (by rw [List.size_toArray]; exact hsC.out) h1c.out ?_
          change K _ (World.setCells _ Z 0 CS)
          refine hK2.out _ _ (hHeld.cells gZ) (fun hHeld2 => ?_)
          clear hK2 K hHeld
          have hHeld := hHeld2
          clear hHeld2
          try simp only [Act.put, List.getElem_toArray, List.getElem_cons_succ, List.getElem_cons_zero, List.setIfInBounds_toArray, List.set_cons_zero, List.set_cons_succ]
          refine wpAnyH_done (by kernel_rfl) ?_ _
          go_wp2_with fail
          go_meet
          exact ⟨X, Y, Z, rfl, rfl, rfl, three_of hCn.out hI.1 tX tY0 tZ0 gX gY gZ ((Nat.ne_of_lt nYX).symm) ((Nat.ne_of_lt nZX).symm) (Nat.ne_of_lt nYZ) hI.2.1 lX lY lZ⟩
        exact AllReadyH.nil
      refine AllReadyH.cons rfl (fun K hK2 => ?_) ?_
      · rw [if_pos (by rfl)]
        simp only [List.getElem_toArray, List.getElem_cons_succ, List.getElem_cons_zero]
        obtain ⟨Z, hZ⟩ : ∃ n, n = W0.heap.size := ⟨_, rfl⟩
        have tZ := cells_fresh W0 #[.int .i64 0, .int .i64 0, .int .i64 0, .int .i64 0, .int .i64 0, .bool false, .bool false, .int .i64 0, .int .i64 0] 23 9 (by decide)
        have lZ : W0.heap.size < (W0.alloc (.cells #[.int .i64 0, .int .i64 0, .int .i64 0, .int .i64 0, .int .i64 0, .bool false, .bool false, .int .i64 0, .int .i64 0] 23)).heap.size := by simp
        have gZ := hHeld.2.2
        have al : Below W0.heap.size W0 (W0.alloc (.cells #[.int .i64 0, .int .i64 0, .int .i64 0, .int .i64 0, .int .i64 0, .bool false, .bool false, .int .i64 0, .int .i64 0] 23)) := (Below.refl _ _).alloc (Nat.le_refl _) _
        go_simp
        refine hK2.out _ _ (hHeld.below al) (fun hHeld2 => ?_)
        clear hK2 K hHeld
        have hHeld := hHeld2
        clear hHeld2
        try simp only [Act.put, List.getElem_toArray, List.getElem_cons_succ, List.getElem_cons_zero, List.setIfInBounds_toArray, List.set_cons_zero, List.set_cons_succ]
        generalize World.alloc _ _ = W1 at hHeld al tZ lZ ⊢
        rw [← hZ] at tZ lZ gZ ⊢
        clear al hZ
        refine wpAnyH_ready (rs := [3, 4]) (by kernel_rfl) (by simp) ?_
        refine AllReadyH.cons rfl (fun K hK2 => ?_) ?_
        · rw [if_pos (by rfl)]
          simp only [List.getElem_toArray, List.getElem_cons_succ, List.getElem_cons_zero]
          obtain ⟨X, hX⟩ : ∃ n, n = W1.heap.size := ⟨_, rfl⟩
          have tX := cells_fresh W1 #[.int .i64 0, .int .i64 0, .int .i64 0, .int .i64 0, .int .i64 0, .bool false, .bool false, .int .i64 0, .int .i64 0] 23 9 (by decide)
          have lX : W1.heap.size < (W1.alloc (.cells #[.int .i64 0, .int .i64 0, .int .i64 0, .int .i64 0, .int .i64 0, .bool false, .bool false, .int .i64 0, .int .i64 0] 23)).heap.size := by simp
          have gX := hHeld.2.2
          have al : Below W1.heap.size W1 (W1.alloc (.cells #[.int .i64 0, .int .i64 0, .int .i64 0, .int .i64 0, .int .i64 0, .bool false, .bool false, .int .i64 0, .int .i64 0] 23)) := (Below.refl _ _).alloc (Nat.le_refl _) _
          have nZX : Z < X := by rw [hX]; exact lZ
          replace tZ := there_on tZ lZ al
          replace lZ := Nat.lt_of_lt_of_le lZ al.size
          go_simp
          refine hK2.out _ _ (hHeld.below al) (fun hHeld2 => ?_)
          clear hK2 K hHeld
          have hHeld := hHeld2
          clear hHeld2
          try simp only [Act.put, List.getElem_toArray, List.getElem_cons_succ, List.getElem_cons_zero, List.setIfInBounds_toArray, List.set_cons_zero, List.set_cons_succ]
          generalize World.alloc _ _ = W2 at hHeld al tX lX tZ lZ ⊢
          rw [← hX] at tX lX gX ⊢
          clear al hX
          refine wpAnyH_ready (rs := [4]) (by kernel_rfl) (by simp) (AllReadyH.cons rfl (fun K hK2 => ?_) AllReadyH.nil)
          rw [if_pos (by rfl)]
          simp only [List.getElem_toArray, List.getElem_cons_succ, List.getElem_cons_zero]
          obtain ⟨Y, hY⟩ : ∃ n, n = W2.heap.size := ⟨_, rfl⟩
          have tY := cells_fresh W2 #[.int .i64 0, .int .i64 0, .int .i64 0, .int .i64 0, .int .i64 0, .bool false, .bool false, .int .i64 0, .int .i64 0] 23 9 (by decide)
          have lY : W2.heap.size < (W2.alloc (.cells #[.int .i64 0, .int .i64 0, .int .i64 0, .int .i64 0, .int .i64 0, .bool false, .bool false, .int .i64 0, .int .i64 0] 23)).heap.size := by simp
          have gY := hHeld.2.2
          have al : Below W2.heap.size W2 (W2.alloc (.cells #[.int .i64 0, .int .i64 0, .int .i64 0, .int .i64 0, .int .i64 0, .bool false, .bool false, .int .i64 0, .int .i64 0] 23)) := (Below.refl _ _).alloc (Nat.le_refl _) _
          have nZY : Z < Y := by rw [hY]; exact lZ
          replace tZ := there_on tZ lZ al
          replace lZ := Nat.lt_of_lt_of_le lZ al.size
          have nXY : X < Y := by rw [hY]; exact lX
          replace tX := there_on tX lX al
          replace lX := Nat.lt_of_lt_of_le lX al.size
          go_simp
          refine hK2.out _ _ (hHeld.below al) (fun hHeld2 => ?_)
          clear hK2 K hHeld
          have hHeld := hHeld2
          clear hHeld2
          try simp only [Act.put, List.getElem_toArray, List.getElem_cons_succ, List.getElem_cons_zero, List.setIfInBounds_toArray, List.set_cons_zero, List.set_cons_succ]
          generalize World.alloc _ _ = W3 at hHeld al tY lY tZ lZ tX lX ⊢
          rw [← hY] at tY lY gY ⊢
          clear al hY
          have hI := hHeld
          refine wpAnyH_ready (rs := [6]) (by kernel_rfl) (by simp) (AllReadyH.cons rfl (fun K hK2 => ?_) AllReadyH.nil)
          rw [if_pos (by rfl)]
          simp only [List.getElem_toArray, List.getElem_cons_succ, List.getElem_cons_zero]
          refine wp_store_mid 23 _ _ rfl X 0 CS.toArray rfl rfl (fun j hj => tX j (by rw [List.size_toArray, hCn.out] at hj; exact hj)) (by rw [List.size_toArray]; exact hsC.out) h1c.out ?_
          change K _ (World.setCells _ X 0 CS)
          refine hK2.out _ _ (hHeld.cells gX) (fun hHeld2 => ?_)
          clear hK2 K hHeld
          have hHeld := hHeld2
          clear hHeld2
          try simp only [Act.put, List.getElem_toArray, List.getElem_cons_succ, List.getElem_cons_zero, List.setIfInBounds_toArray, List.set_cons_zero, List.set_cons_succ]
          have tY0 := tY
          have tZ0 := tZ
          replace tY := World.there_setCells tY X 0 CS
          replace tZ := World.there_setCells tZ X 0 CS
          refine wpAnyH_ready (rs := [7]) (by kernel_rfl) (by simp) (AllReadyH.cons rfl (fun K hK2 => ?_) AllReadyH.nil)
          rw [if_pos (by rfl)]
          simp only [List.getElem_toArray, List.getElem_cons_succ, List.getElem_cons_zero]
          refine wp_store_mid 23 _ _ rfl Y 0 CS.toArray rfl rfl (fun j hj => tY j (by rw [List.size_toArray, hCn.out] at hj; exact hj)) (by rw [List.size_toArray]; exact hsC.out) h1c.out ?_
          change K _ (World.setCells _ Y 0 CS)
          refine hK2.out _ _ (hHeld.cells gY) (fun hHeld2 => ?_)
          clear hK2 K hHeld
          have hHeld := hHeld2
          clear hHeld2
          try simp only [Act.put, List.getElem_toArray, List.getElem_cons_succ, List.getElem_cons_zero, List.setIfInBounds_toArray, List.set_cons_zero, List.set_cons_succ]
          replace tZ := World.there_setCells tZ Y 0 CS
          refine wpAnyH_ready (rs := [8]) (by kernel_rfl) (by simp) (AllReadyH.cons rfl (fun K hK2 => ?_) AllReadyH.nil)
          rw [if_pos (by rfl)]
          simp only [List.getElem_toArray, List.getElem_cons_succ, List.getElem_cons_zero]
          refine wp_store_mid 23 _ _ rfl Z 0 CS.toArray rfl rfl (fun j hj => tZ j (by rw [List.size_toArray, hCn.out] at hj; exact hj)) (by rw [List.size_toArray]; exact hsC.out) h1c.out ?_
          change K _ (World.setCells _ Z 0 CS)
          refine hK2.out _ _ (hHeld.cells gZ) (fun hHeld2 => ?_)
          clear hK2 K hHeld
          have hHeld := hHeld2
          clear hHeld2
          try simp only [Act.put, List.getElem_toArray, List.getElem_cons_succ, List.getElem_cons_zero, List.setIfInBounds_toArray, List.set_cons_zero, List.set_cons_succ]
          refine wpAnyH_done (by kernel_rfl) ?_ _
          go_wp2_with fail
          go_meet
          exact ⟨X, Y, Z, rfl, rfl, rfl, three_of hCn.out hI.1 tX tY0 tZ0 gX gY gZ (Nat.ne_of_lt nXY) ((Nat.ne_of_lt nZX).symm) ((Nat.ne_of_lt nZY).symm) hI.2.1 lX lY lZ⟩
        refine AllReadyH.cons rfl (fun K hK2 => ?_) ?_
        · rw [if_pos (by rfl)]
          simp only [List.getElem_toArray, List.getElem_cons_succ, List.getElem_cons_zero]
          obtain ⟨Y, hY⟩ : ∃ n, n = W1.heap.size := ⟨_, rfl⟩
          have tY := cells_fresh W1 #[.int .i64 0, .int .i64 0, .int .i64 0, .int .i64 0, .int .i64 0, .bool false, .bool false, .int .i64 0, .int .i64 0] 23 9 (by decide)
          have lY : W1.heap.size < (W1.alloc (.cells #[.int .i64 0, .int .i64 0, .int .i64 0, .int .i64 0, .int .i64 0, .bool false, .bool false, .int .i64 0, .int .i64 0] 23)).heap.size := by simp
          have gY := hHeld.2.2
          have al : Below W1.heap.size W1 (W1.alloc (.cells #[.int .i64 0, .int .i64 0, .int .i64 0, .int .i64 0, .int .i64 0, .bool false, .bool false, .int .i64 0, .int .i64 0] 23)) := (Below.refl _ _).alloc (Nat.le_refl _) _
          have nZY : Z < Y := by rw [hY]; exact lZ
          replace tZ := there_on tZ lZ al
          replace lZ := Nat.lt_of_lt_of_le lZ al.size
          go_simp
          refine hK2.out _ _ (hHeld.below al) (fun hHeld2 => ?_)
          clear hK2 K hHeld
          have hHeld := hHeld2
          clear hHeld2
          try simp only [Act.put, List.getElem_toArray, List.getElem_cons_succ, List.getElem_cons_zero, List.setIfInBounds_toArray, List.set_cons_zero, List.set_cons_succ]
          generalize World.alloc _ _ = W2 at hHeld al tY lY tZ lZ ⊢
          rw [← hY] at tY lY gY ⊢
          clear al hY
          refine wpAnyH_ready (rs := [3]) (by kernel_rfl) (by simp) (AllReadyH.cons rfl (fun K hK2 => ?_) AllReadyH.nil)
          rw [if_pos (by rfl)]
          simp only [List.getElem_toArray, List.getElem_cons_succ, List.getElem_cons_zero]
          obtain ⟨X, hX⟩ : ∃ n, n = W2.heap.size := ⟨_, rfl⟩
          have tX := cells_fresh W2 #[.int .i64 0, .int .i64 0, .int .i64 0, .int .i64 0, .int .i64 0, .bool false, .bool false, .int .i64 0, .int .i64 0] 23 9 (by decide)
          have lX : W2.heap.size < (W2.alloc (.cells #[.int .i64 0, .int .i64 0, .int .i64 0, .int .i64 0, .int .i64 0, .bool false, .bool false, .int .i64 0, .int .i64 0] 23)).heap.size := by simp
          have gX := hHeld.2.2
          have al : Below W2.heap.size W2 (W2.alloc (.cells #[.int .i64 0, .int .i64 0, .int .i64 0, .int .i64 0, .int .i64 0, .bool false, .bool false, .int .i64 0, .int .i64 0] 23)) := (Below.refl _ _).alloc (Nat.le_refl _) _
          have nZX : Z < X := by rw [hX]; exact lZ
          replace tZ := there_on tZ lZ al
          replace lZ := Nat.lt_of_lt_of_le lZ al.size
          have nYX : Y < X := by rw [hX]; exact lY
          replace tY := there_on tY lY al
          replace lY := Nat.lt_of_lt_of_le lY al.size
          go_simp
          refine hK2.out _ _ (hHeld.below al) (fun hHeld2 => ?_)
          clear hK2 K hHeld
          have hHeld := hHeld2
          clear hHeld2
          try simp only [Act.put, List.getElem_toArray, List.getElem_cons_succ, List.getElem_cons_zero, List.setIfInBounds_toArray, List.set_cons_zero, List.set_cons_succ]
          generalize World.alloc _ _ = W3 at hHeld al tX lX tZ lZ tY lY ⊢
          rw [← hX] at tX lX gX ⊢
          clear al hX
          have hI := hHeld
          refine wpAnyH_ready (rs := [6]) (by kernel_rfl) (by simp) (AllReadyH.cons rfl (fun K hK2 => ?_) AllReadyH.nil)
          rw [if_pos (by rfl)]
          simp only [List.getElem_toArray, List.getElem_cons_succ, List.getElem_cons_zero]
          refine wp_store_mid 23 _ _ rfl X 0 CS.toArray rfl rfl (fun j hj => tX j (by rw [List.size_toArray, hCn.out] at hj; exact hj)) (by rw [List.size_toArray]; exact hsC.out) h1c.out ?_
          change K _ (World.setCells _ X 0 CS)
          refine hK2.out _ _ (hHeld.cells gX) (fun hHeld2 => ?_)
          clear hK2 K hHeld
          have hHeld := hHeld2
          clear hHeld2
          try simp only [Act.put, List.getElem_toArray, List.getElem_cons_succ, List.getElem_cons_zero, List.setIfInBounds_toArray, List.set_cons_zero, List.set_cons_succ]
          have tY0 := tY
          have tZ0 := tZ
          replace tY := World.there_setCells tY X 0 CS
          replace tZ := World.there_setCells tZ X 0 CS
          refine wpAnyH_ready (rs := [7]) (by kernel_rfl) (by simp) (AllReadyH.cons rfl (fun K hK2 => ?_) AllReadyH.nil)
          rw [if_pos (by rfl)]
          simp only [List.getElem_toArray, List.getElem_cons_succ, List.getElem_cons_zero]
          refine wp_store_mid 23 _ _ rfl Y 0 CS.toArray rfl rfl (fun j hj => tY j (by rw [List.size_toArray, hCn.out] at hj; exact hj)) (by rw [List.size_toArray]; exact hsC.out) h1c.out ?_
          change K _ (World.setCells _ Y 0 CS)
          refine hK2.out _ _ (hHeld.cells gY) (fun hHeld2 => ?_)
          clear hK2 K hHeld
          have hHeld := hHeld2
          clear hHeld2
          try simp only [Act.put, List.getElem_toArray, List.getElem_cons_succ, List.getElem_cons_zero, List.setIfInBounds_toArray, List.set_cons_zero, List.set_cons_succ]
          replace tZ := World.there_setCells tZ Y 0 CS
          refine wpAnyH_ready (rs := [8]) (by kernel_rfl) (by simp) (AllReadyH.cons rfl (fun K hK2 => ?_) AllReadyH.nil)
          rw [if_pos (by rfl)]
          simp only [List.getElem_toArray, List.getElem_cons_succ, List.getElem_cons_zero]
          refine wp_store_mid 23 _ _ rfl Z 0 CS.toArray rfl rfl (fun j hj => tZ j (by rw [List.size_toArray, hCn.out] at hj; exact hj)) (by rw [List.size_toArray]; exact hsC.out) h1c.out ?_
          change K _ (World.setCells _ Z 0 CS)
          refine hK2.out _ _ (hHeld.cells gZ) (fun hHeld2 => ?_)
          clear hK2 K hHeld
          have hHeld := hHeld2
          clear hHeld2
          try simp only [Act.put, List.getElem_toArray, List.getElem_cons_succ, List.getElem_cons_zero, List.setIfInBounds_toArray, List.set_cons_zero, List.set_cons_succ]
          refine wpAnyH_done (by kernel_rfl) ?_ _
          go_wp2_with fail
          go_meet
          exact ⟨X, Y, Z, rfl, rfl, rfl, three_of hCn.out hI.1 tX tY0 tZ0 gX gY gZ ((Nat.ne_of_lt nYX).symm) ((Nat.ne_of_lt nZX).symm) ((Nat.ne_of_lt nZY).symm) hI.2.1 lX lY lZ⟩
        exact AllReadyH.nil
      exact AllReadyH.nil
    case rest =>
      obtain ⟨X, Y, Z, rfl, rfl, rfl, h3⟩ := hcut
      clear hS1
      have cX := range_cell h3.rX 1 _ hI1.out
      have cY := range_cell h3.rY 2 _ hI2.out
      have cZ := range_cell h3.rZ 3 _ hI3.out
      have fX := there_thaw h3.tX 1 (by decide)
      have fY := there_thaw h3.tY 2 (by decide)
      have fZ := there_thaw h3.tZ 3 (by decide)
      go_upto_region 9 with fail
      replace h3 := h3.set 1 2 3 (.int .i64 r)
      rw [hsX.out, hsY.out, hsZ.out] at h3
      clear cX cY cZ fX fY fZ
      generalize World.setCell _ ⟨Z, 3, none⟩ _ = w3 at h3 ⊢
      have htb0 := ht.later h3.bl (Nat.le_refl _)
      have hfb0 := hfl.later h3.bl
      go_upto_region 10 with (first | (refine wpList_load_mid rfl 23 _ rfl X 0 rfl LX _ h3.rX hu rfl hzX.out ?_) | (go_at_call 7; refine (hWX.out _ htb0 hfb0).mono ?_; rintro e w4 ⟨rfl, hb4⟩))
      replace h3 := h3.keep hb4
      clear hb4 htb0 hfb0 hWX hzX
      have htb1 := ht.later h3.bl (Nat.le_refl _)
      have hfb1 := hfl.later h3.bl
      go_upto_region 11 with (first | (refine wpList_load_mid rfl 23 _ rfl Y 0 rfl LY _ h3.rY hu rfl hzY.out ?_) | (go_at_call 7; refine (hWY.out _ htb1 hfb1).mono ?_; rintro e w5 ⟨rfl, hb5⟩))
      replace h3 := h3.keep hb5
      clear hb5 htb1 hfb1 hWY hzY
      have htb2 := ht.later h3.bl (Nat.le_refl _)
      have hfb2 := hfl.later h3.bl
      go_upto_region 12 with (first | (refine wpList_load_mid rfl 23 _ rfl Z 0 rfl LZ _ h3.rZ hu rfl hzZ.out ?_) | (go_at_call 7; refine (hWZ.out _ htb2 hfb2).mono ?_; rintro e w6 ⟨rfl, hb6⟩))
      replace h3 := h3.keep hb6
      clear hb6 htb2 hfb2 hWZ hzZ
      have cI1 := range_cell h3.rI 1 _ hI1.out
      have cI2 := range_cell h3.rI 2 _ hI2.out
      have t3 : (un32 (a &&& bv32 3) != 3) = false := by rw [hlw.out (by simp)]; rfl
      go_cut [89] (fun s wx => s = .bool false ∧ w6 = wx)
      case first =>
        rcases hF.out with rfl | rfl
        · rcases hG.out with rfl | rfl
          · rcases hH.out with rfl | rfl
            · have tx : (un32 ((a ^^^ bx) &&& ~~~ bv32 3968) != 0) = false := by rw [hfX.out (by simp) (by simp)]; rfl
              have ty : (un32 ((a ^^^ bY) &&& ~~~ bv32 1015808) != 0) = false := by rw [hfY.out (by simp) (by simp)]; rfl
              have tz : (un32 ((a ^^^ bz) &&& ~~~ bv32 32505856) != 0) = false := by rw [hfZ.out (by simp) (by simp)]; rfl
              go_wp2_with fail
              go_meet
              exact ⟨rfl, rfl⟩
            · have tx : (un32 ((a ^^^ bx) &&& ~~~ bv32 3968) != 0) = false := by rw [hfX.out (by simp) (by simp)]; rfl
              have ty : (un32 ((a ^^^ bY) &&& ~~~ bv32 1015808) != 0) = false := by rw [hfY.out (by simp) (by simp)]; rfl
              go_wp2_with fail
              go_meet
              exact ⟨rfl, rfl⟩
          · rcases hH.out with rfl | rfl
            · have tx : (un32 ((a ^^^ bx) &&& ~~~ bv32 3968) != 0) = false := by rw [hfX.out (by simp) (by simp)]; rfl
              have tz : (un32 ((a ^^^ bz) &&& ~~~ bv32 32505856) != 0) = false := by rw [hfZ.out (by simp) (by simp)]; rfl
              go_wp2_with fail
              go_meet
              exact ⟨rfl, rfl⟩
            · have tx : (un32 ((a ^^^ bx) &&& ~~~ bv32 3968) != 0) = false := by rw [hfX.out (by simp) (by simp)]; rfl
              go_wp2_with fail
              go_meet
              exact ⟨rfl, rfl⟩
        · rcases hG.out with rfl | rfl
          · rcases hH.out with rfl | rfl
            · have ty : (un32 ((a ^^^ bY) &&& ~~~ bv32 1015808) != 0) = false := by rw [hfY.out (by simp) (by simp)]; rfl
              have tz : (un32 ((a ^^^ bz) &&& ~~~ bv32 32505856) != 0) = false := by rw [hfZ.out (by simp) (by simp)]; rfl
              go_wp2_with fail
              go_meet
              exact ⟨rfl, rfl⟩
            · have ty : (un32 ((a ^^^ bY) &&& ~~~ bv32 1015808) != 0) = false := by rw [hfY.out (by simp) (by simp)]; rfl
              go_wp2_with fail
              go_meet
              exact ⟨rfl, rfl⟩
          · rcases hH.out with rfl | rfl
            · have tz : (un32 ((a ^^^ bz) &&& ~~~ bv32 32505856) != 0) = false := by rw [hfZ.out (by simp) (by simp)]; rfl
              go_wp2_with fail
              go_meet
              exact ⟨rfl, rfl⟩
            · go_wp2_with fail
              go_meet
              exact ⟨rfl, rfl⟩
      case rest =>
        obtain ⟨rfl, rfl⟩ := hcut
        clear t3 hfX hfY hfZ hlw hH
        go_upto_region 14 with fail
        go_cut [123] (fun s wx => s = .bool false ∧ w6 = wx)
        case first =>
          rcases hF.out with rfl | rfl
          · by_cases ex : r = fd
            · rcases hG.out with rfl | rfl
              · by_cases ey : r = f1
                · have qx : (r != fd) = false := by rw [ex]; simp
                  clear ex
                  have qy : (r != f1) = false := by rw [ey]; simp
                  clear ey
                  go_wp2_with fail
                  go_meet
                  exact ⟨rfl, rfl⟩
                · have qx : (r != fd) = false := by rw [ex]; simp
                  clear ex
                  have qy : (r != f1) = true := by simpa using ey
                  have uy : (un32 (bY >>> 15 &&& bv32 31) != r) = false := by rw [bv32_31, hnY.out (by simp) (by simp) ey]; simp
                  have vy : (un32 (bv32 (un32 bY / 32768) &&& bv32 31) != r) = false := by rw [un32_15, bv32_un32]; exact uy
                  clear ey
                  go_wp2_with fail
                  go_meet
                  exact ⟨rfl, rfl⟩
              · have qx : (r != fd) = false := by rw [ex]; simp
                clear ex
                go_wp2_with fail
                go_meet
                exact ⟨rfl, rfl⟩
            · rcases hG.out with rfl | rfl
              · by_cases ey : r = f1
                · have qx : (r != fd) = true := by simpa using ex
                  have ux : (un32 (bx >>> 7 &&& bv32 31) != r) = false := by rw [bv32_31, hnX.out (by simp) (by simp) ex]; simp
                  have vx : (un32 (bv32 (un32 bx / 128) &&& bv32 31) != r) = false := by rw [un32_7, bv32_un32]; exact ux
                  clear ex
                  have qy : (r != f1) = false := by rw [ey]; simp
                  clear ey
                  go_wp2_with fail
                  go_meet
                  exact ⟨rfl, rfl⟩
                · have qx : (r != fd) = true := by simpa using ex
                  have ux : (un32 (bx >>> 7 &&& bv32 31) != r) = false := by rw [bv32_31, hnX.out (by simp) (by simp) ex]; simp
                  have vx : (un32 (bv32 (un32 bx / 128) &&& bv32 31) != r) = false := by rw [un32_7, bv32_un32]; exact ux
                  clear ex
                  have qy : (r != f1) = true := by simpa using ey
                  have uy : (un32 (bY >>> 15 &&& bv32 31) != r) = false := by rw [bv32_31, hnY.out (by simp) (by simp) ey]; simp
                  have vy : (un32 (bv32 (un32 bY / 32768) &&& bv32 31) != r) = false := by rw [un32_15, bv32_un32]; exact uy
                  clear ey
                  go_wp2_with fail
                  go_meet
                  exact ⟨rfl, rfl⟩
              · have qx : (r != fd) = true := by simpa using ex
                have ux : (un32 (bx >>> 7 &&& bv32 31) != r) = false := by rw [bv32_31, hnX.out (by simp) (by simp) ex]; simp
                have vx : (un32 (bv32 (un32 bx / 128) &&& bv32 31) != r) = false := by rw [un32_7, bv32_un32]; exact ux
                clear ex
                go_wp2_with fail
                go_meet
                exact ⟨rfl, rfl⟩
          · rcases hG.out with rfl | rfl
            · by_cases ey : r = f1
              · have qy : (r != f1) = false := by rw [ey]; simp
                clear ey
                go_wp2_with fail
                go_meet
                exact ⟨rfl, rfl⟩
              · have qy : (r != f1) = true := by simpa using ey
                have uy : (un32 (bY >>> 15 &&& bv32 31) != r) = false := by rw [bv32_31, hnY.out (by simp) (by simp) ey]; simp
                have vy : (un32 (bv32 (un32 bY / 32768) &&& bv32 31) != r) = false := by rw [un32_15, bv32_un32]; exact uy
                clear ey
                go_wp2_with fail
                go_meet
                exact ⟨rfl, rfl⟩
            · go_wp2_with fail
              go_meet
              exact ⟨rfl, rfl⟩
        case rest =>
          obtain ⟨rfl, rfl⟩ := hcut
          clear cI1 cI2 hnX hnY hF hG
          have hI := h3.rI
          have hbI := h3.bl
          have hlI := Nat.lt_trans h3.lX h3.hX
          clear h3
          go_upto_region 17 with (first | (refine wpList_load_mid rfl 23 _ rfl w.heap.size 0 rfl CS _ hI hu rfl hsC.out ?_) | (refine wpList_store_mid rfl 23 _ _ rfl w6.heap.size 0 CS.toArray rfl rfl (fun j hj => cells_fresh w6 _ _ 9 (by decide) j (by rw [List.size_toArray, hCn.out] at hj; exact hj)) (by rw [List.size_toArray]; exact hsC.out) h1c.out ?_))
          obtain ⟨hb7, hr7, hl7, ht7⟩ := copied (s := w6) (cs := CS) hCn.out #[.int .i64 0, .int .i64 0, .int .i64 0, .int .i64 0, .int .i64 0, .bool false, .bool false, .int .i64 0, .int .i64 0] rfl 23
          generalize World.setCells _ w6.heap.size 0 CS = w7 at hb7 hr7 hl7 ht7 ⊢
          have c5 := range_cell hr7 5 _ hI5.out
          have f5 := there_thaw ht7 5 (by decide)
          go_upto_region 18 with fail
          have hr8 := range_set hr7 5 (.bool (!fa))
          rw [hsU.out] at hr8
          have hb08 := (hbI.trans (hb7.mono hbI.size)).setCell (p := ⟨w6.heap.size, 5, none⟩) (Nat.le_of_lt hlI) (.bool (!fa))
          clear hb7 hr7 hl7 ht7 c5 f5
          generalize w7.setCell _ _ = w8 at *
          go_upto_region 19 with (first | (refine wpList_load_mid rfl 23 _ rfl w6.heap.size 0 rfl LU _ hr8 hu rfl hzU.out ?_) | (go_at_call 7; refine (hWU.out _ (ht.later hb08 (Nat.le_refl _)) (hfl.later hb08)).mono ?_; rintro e w9 ⟨rfl, hb9⟩))
          have hb09 := hb08.trans (hb9.mono hb08.size)
          rcases hK.out with rfl | rfl
          · have tu : (un32 (a ^^^ bu) == 67108864) = true := by rw [hfb.out (by simp) (by simp)]; rfl
            go_wp2_with fail
            go_ret
            exact ⟨rfl, hb09⟩
          · go_wp2_with fail
            go_ret
            exact ⟨rfl, hb09⟩
  · go_wp2_with fail
    go_ret
    exact ⟨rfl, hb02⟩
end
end Go.Proofs.YtbdhjckpoabmlaaDoor
