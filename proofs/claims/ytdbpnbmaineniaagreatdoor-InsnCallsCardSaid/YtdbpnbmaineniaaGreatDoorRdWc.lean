/- The walk of insn.Read: the instruction of whatever text that is not long. Conditions: the library's tables and its two errors lie as their initialisers lay them. -/
import Derived.Test.YtdbpnbmaineniaaGreatDoorTks
import Derived.Test.YtdbpnbmaineniaaGreatDoorRdWb
import Derived.Test.YtdbpnbmaineniaaGreatDoorNamed
import Derived.Test.YtdbpnbmaineniaaGreatDoorInsnT
import Derived.Test.YtdbpnbmaineniaaGreatDoorShelfR
import Derived.Deep.CutBlock
import Derived.Deep.DeepCutAuto
import Derived.Deep.LoopGhost
import Derived.OrdersHeld
set_option linter.unusedSimpArgs false
set_option linter.unusedVariables false
namespace Go.Proofs.YtdbpnbmaineniaaGreatDoor
open Go.RowKit
theorem regS_size (s : ByteArray) : (regS s).2.size ≤ s.size := by
  unfold regS
  exact Nat.le_trans (cutS_size _ _) (Nat.le_trans (cutS_size _ _) (Nat.le_trans (numS_bd _) (Nat.le_trans (cutS_size _ _) (cutS_size _ _))))
theorem immS_size (s : ByteArray) : (immS s).2.size ≤ s.size := by
  unfold immS
  exact Nat.le_trans (cutS_size _ _) (numS_bd _)
theorem setS_size (s : ByteArray) : (setS s).2.size ≤ s.size := by
  unfold setS
  exact Nat.le_trans (cutS_size _ _) (restS_size _ _)
theorem immS_bd (s : ByteArray) : -9223372036854775808 ≤ (immS s).1 ∧ (immS s).1 ≤ 9223372036854775807 := parseV_bd _
theorem fieldsS_op (f : Int) (i : InsnV) (p : ByteArray) : (fieldsS f i p).op = i.op := by
  unfold fieldsS
  repeat' split
  all_goals rfl
theorem fieldsS_imm (f : Int) (i : InsnV) (p : ByteArray) (h : -9223372036854775808 ≤ i.imm ∧ i.imm ≤ 9223372036854775807) : -9223372036854775808 ≤ (fieldsS f i p).imm ∧ (fieldsS f i p).imm ≤ 9223372036854775807 := by
  have g := immS_bd
  unfold fieldsS
  generalize immS = fi at g ⊢
  repeat' split
  all_goals first | exact h | exact g _
theorem stored3 (s : World) (cs : List Value) (hl : cs.length = 3) (Z : Array Value) (hZ : Z.size = 3) (t : TypeId) : Below s.heap.size s (World.setCells (s.alloc (.cells Z t)) s.heap.size 0 cs) ∧ (World.setCells (s.alloc (.cells Z t)) s.heap.size 0 cs).rangeAt s.heap.size 0 cs ∧ s.heap.size < (World.setCells (s.alloc (.cells Z t)) s.heap.size 0 cs).heap.size := by
  have hal : Below s.heap.size s (s.alloc (.cells Z t)) := (Below.refl _ _).alloc (Nat.le_refl _) _
  have hb1 : Below (s.heap.size + 1) (s.alloc (.cells Z t)) (s.alloc (.cells Z t)) := Below.refl _ _
  refine ⟨below_cellsX (Nat.le_refl s.heap.size) cs 0 _ hal, World.rangeAt_setCells_same _ s.heap.size 0 cs (by rw [hl]; exact cells_freshX s Z t 3 (by omega)), ?_⟩
  have h2 := below_cellsX (B := s.heap.size) (w := s.alloc (.cells Z t)) (Nat.le_refl s.heap.size) cs 0 _ (Below.refl _ _)
  exact Nat.lt_of_lt_of_le (show s.heap.size < (s.alloc (.cells Z t)).heap.size by simp) h2.size
theorem read_startX (w : World) (s : ByteArray) (t t2 : TypeId) (hev : EV w) : RC (w.heap.size + 1) s ((w.alloc (.cells #[.int .i64 0, .int .i64 0, .int .i64 0, .int .i64 0, .int .i64 0, .bool false, .bool false, .int .i64 0, .int .i64 0] t)).alloc (.cells #[.string s] t2)) ∧ ((w.alloc (.cells #[.int .i64 0, .int .i64 0, .int .i64 0, .int .i64 0, .int .i64 0, .bool false, .bool false, .int .i64 0, .int .i64 0] t)).alloc (.cells #[.string s] t2)).there w.heap.size 0 9 ∧ Below w.heap.size w ((w.alloc (.cells #[.int .i64 0, .int .i64 0, .int .i64 0, .int .i64 0, .int .i64 0, .bool false, .bool false, .int .i64 0, .int .i64 0] t)).alloc (.cells #[.string s] t2)) := by
  have n1 : (w.alloc (.cells #[.int .i64 0, .int .i64 0, .int .i64 0, .int .i64 0, .int .i64 0, .bool false, .bool false, .int .i64 0, .int .i64 0] t)).heap.size = w.heap.size + 1 := by simp
  have h1 : Below (w.alloc (.cells #[.int .i64 0, .int .i64 0, .int .i64 0, .int .i64 0, .int .i64 0, .bool false, .bool false, .int .i64 0, .int .i64 0] t)).heap.size (w.alloc (.cells #[.int .i64 0, .int .i64 0, .int .i64 0, .int .i64 0, .int .i64 0, .bool false, .bool false, .int .i64 0, .int .i64 0] t)) ((w.alloc (.cells #[.int .i64 0, .int .i64 0, .int .i64 0, .int .i64 0, .int .i64 0, .bool false, .bool false, .int .i64 0, .int .i64 0] t)).alloc (.cells #[.string s] t2)) := (Below.refl _ _).alloc (Nat.le_refl _) _
  have hb : Below w.heap.size w ((w.alloc (.cells #[.int .i64 0, .int .i64 0, .int .i64 0, .int .i64 0, .int .i64 0, .bool false, .bool false, .int .i64 0, .int .i64 0] t)).alloc (.cells #[.string s] t2)) := ((Below.refl _ _).alloc (Nat.le_refl _) _).alloc (by simp) _
  have m1 := hev.l1
  have m2 := hev.l2
  refine ⟨⟨?_, ?_, by simp, hev.keep hb, by omega, by omega⟩, fun j hj => ?_, hb⟩
  · rw [← n1, World.cell?_alloc_new]; rfl
  · rw [← n1]; exact fresh_thawX _ _ _ _
  · rw [h1.cell (p := ⟨w.heap.size, 0 + j, none⟩) (by rw [n1]; show w.heap.size < _; omega), h1.frozen (p := ⟨w.heap.size, 0 + j, none⟩) (by rw [n1]; show w.heap.size < _; omega)]
    exact cells_freshX w #[.int .i64 0, .int .i64 0, .int .i64 0, .int .i64 0, .int .i64 0, .bool false, .bool false, .int .i64 0, .int .i64 0] t 9 (by decide) j hj
theorem read_boxedX {w w1 : World} {q : ByteArray} (hE : RC (w.heap.size + 1) q w1) (hr : w1.there w.heap.size 0 9) (hb : Below w.heap.size w w1) (hev : EV w) (t : TypeId) : RG w (w.heap.size + 1) w1.heap.size q zeroI (w1.alloc (.cells #[.int .i64 0, .int .i64 0, .int .i64 0, .int .i64 0, .int .i64 0, .bool false, .bool false, .int .i64 0, .int .i64 0] t)) := by
  have h1 : Below w1.heap.size w1 (w1.alloc (.cells #[.int .i64 0, .int .i64 0, .int .i64 0, .int .i64 0, .int .i64 0, .bool false, .bool false, .int .i64 0, .int .i64 0] t)) := (Below.refl _ _).alloc (Nat.le_refl _) _
  have hlt := hE.lt
  refine ⟨hE.keep h1, fun j hj => ?_, fun j hj => fresh_thawX _ _ _ _, fun j hj => ?_, hb.trans (h1.mono hb.size), by omega, hlt, by simp, hev.l1, hev.l2⟩
  · rw [World.cell?_alloc_new]; rfl
  · rw [h1.cell (p := ⟨w.heap.size, 0 + j, none⟩) (by show w.heap.size < _; omega), h1.frozen (p := ⟨w.heap.size, 0 + j, none⟩) (by show w.heap.size < _; omega)]; exact hr j hj
section
attribute [local irreducible] textT checkE namedOf opOf
set_option maxRecDepth 100000 in
set_option maxHeartbeats 100000000 in
theorem IRead_any (s : ByteArray) (hs : s.size ≤ 1000) (w : World) (ht : Tabs w) (hp : P10 w) (hev : EV w) :
    Calls Tryz.prog 26 #[.string s] w fun e w' => e = .returned (.tuple #[.agg (readR s).1.cells, .int .i64 (readR s).2]) ∧ Below w.heap.size w w' := by
  have hu := Tryz.underlying23
  have hT : Hid (∀ W, Below w.heap.size w W → Tabs W ∧ P10 W) := Lib.hid fun W hW => ⟨ht.later hW (Nat.le_refl _), hp.later hW (Nat.le_refl _)⟩
  obtain ⟨hE0, hr0, hb0⟩ := read_startX w s 23 99 hev
  have hev' := Lib.hid hev
  have zh := headS_size [32] s
  have zr := restS_size [32] s
  have zc := cutS_size [32] (restS [32] s)
  obtain ⟨R, hRd⟩ : ∃ R, readR s = R := ⟨_, rfl⟩
  rw [hRd]
  have hH := Lib.hid (RHead_any (w.heap.size + 1) s { data := #[32] } _ hE0 (by omega))
  change Hid (Calls _ _ _ _ (Rds _ (.string (headS [32] s)) (restS [32] s) _)) at hH
  have hE : Hid (∀ W2, RC (w.heap.size + 1) (restS [32] s) W2 → Calls Tryz.prog 70 #[.pointer (some ⟨w.heap.size + 1, 0, none⟩), .string { data := #[32] }] W2 (Rds (w.heap.size + 1) (.bool (Lib.hasPrefix (restS [32] s).data.toList [32])) (cutS [32] (restS [32] s)) W2)) := Lib.hid fun W2 h2 => REat_any _ _ _ W2 h2
  have hrp : readP s = fieldsS (opOf (opS (headS [32] s)).op).form (opS (headS [32] s)) (cutS [32] (restS [32] s)) := rfl
  obtain ⟨I0, hI0⟩ : ∃ I, readP s = I := ⟨_, rfl⟩
  have hRe : Hid (R = if checkE I0 = 0 ∧ textT I0 = s.toList then (I0, 0) else (zeroI, 4)) := Lib.hid (by rw [← hRd, ← hI0]; rfl)
  rw [hI0] at hrp
  clear hRd hI0
  generalize headS [32] s = nm at hH hrp zh
  generalize restS [32] s = r1 at hH hE hrp zr zc
  generalize cutS [32] r1 = p0 at hE hrp zc
  generalize Lib.hasPrefix r1.data.toList [32] = pb at hE
  replace hrp := Lib.hid hrp
  have hns : nm.size ≤ 1000 := by omega
  have hz0 : p0.size ≤ 1000000 := by omega
  clear zh zr zc ht hp hev
  go_enter Tryz.func26, Tryz.ntmps26
  go_upto_region 3 with (go_at_call 69; (with_reducible refine hH.out.mono ?_); rintro e w1 ⟨rfl, hE1, hK1⟩)
  replace hE1 := Lib.hid hE1
  clear hH hE0
  go_upto_region 4 with (go_at_call 70; (with_reducible refine (hE.out _ hE1.out).mono ?_); rintro e w2 ⟨rfl, hE2, hK2⟩)
  have hK := hK1.trans hK2
  have hr2 : w2.there w.heap.size 0 9 := fun j hj => by rw [hK.cell (0 + j) (by simp; omega) (by omega), hK.frozen (0 + j) (by simp; omega) (by omega)]; exact hr0 j hj
  have hb2 := hb0.trans (hK.bl.mono (Nat.le_succ _))
  have hR := read_boxedX hE2 hr2 hb2 hev'.out 23
  clear hE1 hE2 hK1 hK2 hK hr0 hb0 hr2 hb2 hE hev'
  go_upto_region 5 with fail
  generalize World.alloc _ _ = w3 at hR ⊢
  generalize w2.heap.size = b at hR ⊢
  generalize w.heap.size + 1 = g at hR ⊢
  have hbD : Below w3.heap.size w3 (w3.alloc (.cells #[.string { data := #[46, 97, 113, 114, 108] }, .bool true, .bool true, .string { data := #[46, 97, 113] }, .bool true, .bool false, .string { data := #[46, 114, 108] }, .bool false, .bool true] 101)) := (Below.refl _ _).alloc (Nat.le_refl _) _
  have hR3 := hR.keep hbD
  have hD : (w3.alloc (.cells #[.string { data := #[46, 97, 113, 114, 108] }, .bool true, .bool true, .string { data := #[46, 97, 113] }, .bool true, .bool false, .string { data := #[46, 114, 108] }, .bool false, .bool true] 101)).rangeAt w3.heap.size 0 [.string { data := #[46, 97, 113, 114, 108] }, .bool true, .bool true, .string { data := #[46, 97, 113] }, .bool true, .bool false, .string { data := #[46, 114, 108] }, .bool false, .bool true] := fun j v hv => by rw [World.cell?_alloc_new, Nat.zero_add]; simpa using hv
  have hlD : w3.heap.size < (w3.alloc (.cells #[.string { data := #[46, 97, 113, 114, 108] }, .bool true, .bool true, .string { data := #[46, 97, 113] }, .bool true, .bool false, .string { data := #[46, 114, 108] }, .bool false, .bool true] 101)).heap.size := by simp
  have hbd : b < w3.heap.size := hR.lt
  clear hR hbD
  go_upto_block 0 with fail
  generalize World.alloc _ _ = w4 at hR3 hD hlD ⊢
  generalize w3.heap.size = D at hD hlD hbd ⊢
  obtain ⟨q, hq⟩ : ∃ q, sufS nm = q := ⟨_, rfl⟩
  obtain ⟨DV, hDV⟩ : ∃ l : List Value, [.string { data := #[46, 97, 113, 114, 108] }, .bool true, .bool true, .string { data := #[46, 97, 113] }, .bool true, .bool false, .string { data := #[46, 114, 108] }, .bool false, .bool true] = l := ⟨_, rfl⟩
  rw [hDV] at hD
  replace hDV := Lib.hid hDV
  have hw0 : Hid (RG w g b p0 zeroI w4 ∧ w4.rangeAt D 0 DV ∧ D < w4.heap.size) := Lib.hid ⟨hR3, hD, hlD⟩
  have hu3 := Tryz.underlying101
  replace hq := Lib.hid hq
  clear hR3 hD hlD
  go_cut [5] (fun s5 wx => s5 = .string q.1 ∧ RG w g b p0 ⟨0, 0, 0, 0, 0, q.2.1, q.2.2, 0, 0⟩ wx)
  case first =>
    go_wp2_with fail
    go_loopg [5, 25] 3 (fun n x5 i wx => ∃ k : Nat, k ≤ 3 ∧ n = 3 - k ∧ x5 = .string nm ∧ i = .int .i64 k ∧ Hid (RG w g b p0 zeroI wx ∧ wx.rangeAt D 0 DV ∧ D < wx.heap.size) ∧ Hid ((0 < k → Lib.hasSuffix nm.data.toList [46, 97, 113, 114, 108] = false) ∧ (1 < k → Lib.hasSuffix nm.data.toList [46, 97, 113] = false) ∧ (2 < k → Lib.hasSuffix nm.data.toList [46, 114, 108] = false)))
    case atStart => exact ⟨0, Nat.zero_le _, rfl, rfl, rfl, hw0, Lib.hid ⟨fun h => absurd h (by decide), fun h => absurd h (by decide), fun h => absurd h (by decide)⟩⟩
    case round =>
      clear hw0
      obtain ⟨k, hk, rfl, rfl, rfl, hw, hno⟩ := hrel
      have hCS : Hid (∀ (p : ByteArray) W, Calls Tryz.prog 71 #[.string nm, .string p] W fun e w' => e = .returned (.tuple #[.string ⟨(Lib.trimSuffix nm.data.toList p.data.toList).toArray⟩, .bool (Lib.hasSuffix nm.data.toList p.data.toList)]) ∧ w' = W) := Lib.hid fun p W => Tryz.strings_CutSuffix nm p W (by omega)
      rcases (show k = 0 ∨ k = 1 ∨ k = 2 ∨ k = 3 by omega) with rfl | rfl | rfl | rfl
      · obtain ⟨hR, hD, hlD⟩ := hw.out
        clear hw
        obtain ⟨C3, hC3⟩ : ∃ l : List Value, [.string { data := #[46, 97, 113, 114, 108] }, .bool true, .bool true] = l := ⟨_, rfl⟩
        have hD3 : wr.rangeAt D 0 C3 := fun j v hv => by
          rw [← hC3] at hv
          have := hD (0 + j) v (by rw [← hDV.out]; rcases j with _ | _ | _ | j <;> first | exact hv | (simp at hv))
          rwa [Nat.zero_add] at this
        have n3 : Hid (C3.length = 3) := Lib.hid (by rw [← hC3]; rfl)
        have o3 : Hid (C3.toArray.all (·.oneCell') = true) := Lib.hid (by rw [← hC3]; kernel_rfl)
        have s3 : Hid ((Tryz.prog.info? 101).map (·.size) = some C3.length) := Lib.hid (by rw [n3.out]; kernel_rfl)
        replace hC3 := Lib.hid hC3
        obtain ⟨B, hB⟩ : ∃ B, Lib.hasSuffix nm.data.toList [46, 97, 113, 114, 108] = B := ⟨_, rfl⟩
        obtain ⟨X9, hX9⟩ : ∃ X9 : ByteArray, ⟨(Lib.trimSuffix nm.data.toList [46, 97, 113, 114, 108]).toArray⟩ = X9 := ⟨_, rfl⟩
        have hC : Hid (∀ W, Calls Tryz.prog 71 #[.string nm, .string { data := #[46, 97, 113, 114, 108] }] W fun e w' => e = .returned (.tuple #[.string X9, .bool B]) ∧ w' = W) := Lib.hid fun W => by rw [← hB, ← hX9]; exact hCS.out { data := #[46, 97, 113, 114, 108] } W
        replace hB := Lib.hid hB
        replace hX9 := Lib.hid hX9
        clear hCS
        go_upto_region 8 with (first | (refine wpList_load_mid rfl 101 _ rfl D 0 rfl C3 _ hD3 hu3 rfl s3.out ?_) | (refine wpList_store_mid rfl 101 _ _ rfl wr.heap.size 0 C3.toArray rfl rfl (fun j hj => cells_freshX wr #[.string { data := #[] }, .bool false, .bool false] 101 3 (by decide) j (by rw [List.size_toArray, n3.out] at hj; exact hj)) (by rw [List.size_toArray]; exact s3.out) o3.out ?_))
        obtain ⟨hc1, hr1, hl1⟩ := stored3 wr C3 n3.out #[.string { data := #[] }, .bool false, .bool false] rfl 101
        have hRx := hR.keep hc1
        have hDx : (World.setCells (wr.alloc (.cells #[.string { data := #[] }, .bool false, .bool false] 101)) wr.heap.size 0 C3).rangeAt D 0 DV := fun j v hv => by rw [hc1.cell (p := ⟨D, 0 + j, none⟩) hlD]; exact hD j v hv
        have hlx := Nat.lt_of_lt_of_le hlD hc1.size
        have hbX : b < wr.heap.size := hR.lt
        skip
        generalize World.setCells _ wr.heap.size 0 C3 = v4 at hr1 hl1 hRx hDx hlx ⊢
        generalize wr.heap.size = X at hr1 hl1 hbX ⊢
        clear hR hD hD3 hlD hc1
        have x0 : v4.cell? ⟨X, 0, none⟩ = some (.string { data := #[46, 97, 113, 114, 108] }) := hr1 0 _ (by rw [← hC3.out]; rfl)
        have x1 : v4.cell? ⟨X, 1, none⟩ = some (.bool true) := hr1 1 _ (by rw [← hC3.out]; rfl)
        have x2 : v4.cell? ⟨X, 2, none⟩ = some (.bool true) := hr1 2 _ (by rw [← hC3.out]; rfl)
        cases B
        · have hno2 := Lib.hid (⟨fun _ => hB.out, fun h => absurd h (by decide), fun h => absurd h (by decide)⟩ : (0 < 1 → Lib.hasSuffix nm.data.toList [46, 97, 113, 114, 108] = false) ∧ (1 < 1 → Lib.hasSuffix nm.data.toList [46, 97, 113] = false) ∧ (2 < 1 → Lib.hasSuffix nm.data.toList [46, 114, 108] = false))
          have hwx := Lib.hid (And.intro hRx (And.intro hDx hlx))
          clear x1 x2 hr1 hl1 hbX hRx hDx hlx hB hX9 hno
          go_wp2_with (go_at_call 71; (with_reducible refine (hC.out _).mono ?_); rintro e w5 ⟨rfl, he5⟩; obtain rfl := he5.symm; clear he5)
          go_roundg (3 - 1)
          case measure => omega
          case rel => exact ⟨1, by decide, rfl, rfl, by go_num, hwx, hno2⟩
        · have hsq : Hid (q = (X9, true, true)) := Lib.hid (by rw [← hq.out]; unfold sufS; rw [if_pos hB.out, hX9.out])
          clear hDx hlx hno hB hX9 hr1
          go_upto_region 10 with (go_at_call 71; (with_reducible refine (hC.out _).mono ?_); rintro e w5 ⟨rfl, he5⟩; obtain rfl := he5.symm; clear he5)
          clear hC x0
          refine wp_region_held_drew (S := fun W => (∃ i, RG w g b p0 i W) ∧ W.cell? ⟨X, 1, none⟩ = some (.bool true) ∧ W.cell? ⟨X, 2, none⟩ = some (.bool true) ∧ X < W.heap.size) (by kernel_rfl) ⟨⟨_, hRx.keep (Below.refl _ _).drew⟩, x1, x2, hl1⟩ (fun hHeld => ?_)
          have hR6 := hRx.keep (Below.refl _ _).drew
          have y1 : v4.drew.cell? ⟨X, 1, none⟩ = some (.bool true) := x1
          have y2 : v4.drew.cell? ⟨X, 2, none⟩ = some (.bool true) := x2
          have yl : X < v4.drew.heap.size := hl1
          generalize v4.drew = v6 at hHeld hR6 y1 y2 yl ⊢
          clear x1 x2 hl1 hRx
          refine tkS 0 (.string X9) hHeld ?_
          try simp only [Act.put, List.getElem_toArray, List.getElem_cons_zero, List.setIfInBounds_toArray, List.set_cons_zero, List.set_cons_succ]
          refine tkS 1 (.pointer (some ⟨X, 1, none⟩)) hHeld ?_
          try simp only [Act.put, List.getElem_toArray, List.getElem_cons_succ, List.getElem_cons_zero, List.setIfInBounds_toArray, List.set_cons_zero, List.set_cons_succ]
          refine wpAnyH_take (i := 2) (v := .bool true) rfl (by kernel_rfl) (by kernel_rfl) (by kernel_rfl) (fun _ _ _ h => h) (Or.inl ⟨by rfl, fun W hS => by (have k : W.cell? ⟨X, 1, none⟩ = some (.bool true) := hS.2.1); go_simp⟩) hHeld ?_
          try simp only [Act.put, List.getElem_toArray, List.getElem_cons_succ, List.getElem_cons_zero, List.setIfInBounds_toArray, List.set_cons_zero, List.set_cons_succ]
          refine tkS 3 (.pointer (some ⟨X, 2, none⟩)) hHeld ?_
          try simp only [Act.put, List.getElem_toArray, List.getElem_cons_succ, List.getElem_cons_zero, List.setIfInBounds_toArray, List.set_cons_zero, List.set_cons_succ]
          refine wpAnyH_take (i := 4) (v := .bool true) rfl (by kernel_rfl) (by kernel_rfl) (by kernel_rfl) (fun _ _ _ h => h) (Or.inl ⟨by rfl, fun W hS => by (have k : W.cell? ⟨X, 2, none⟩ = some (.bool true) := hS.2.2.1); go_simp⟩) hHeld ?_
          try simp only [Act.put, List.getElem_toArray, List.getElem_cons_succ, List.getElem_cons_zero, List.setIfInBounds_toArray, List.set_cons_zero, List.set_cons_succ]
          refine tkS 5 (.string X9) hHeld ?_
          try simp only [Act.put, List.getElem_toArray, List.getElem_cons_succ, List.getElem_cons_zero, List.setIfInBounds_toArray, List.set_cons_zero, List.set_cons_succ]
          refine tkS 6 (.pointer (some ⟨b, 5, none⟩)) hHeld ?_
          try simp only [Act.put, List.getElem_toArray, List.getElem_cons_succ, List.getElem_cons_zero, List.setIfInBounds_toArray, List.set_cons_zero, List.set_cons_succ]
          have c5 := hR6.at_aq
          have f5 := hR6.f 5 (by decide)
          refine wpAnyH_ready (rs := [7]) (by kernel_rfl) (by simp) (AllReadyH.cons rfl (fun K hK2 => ?_) AllReadyH.nil)
          rw [if_pos (by rfl)]
          simp only [List.getElem_toArray, List.getElem_cons_succ, List.getElem_cons_zero]
          go_wp2_with fail
          have hR7 := hR6.set_aq true
          have z1 : (v6.setCell ⟨b, 5, none⟩ (.bool true)).cell? ⟨X, 1, none⟩ = some (.bool true) := by rw [(KE.setCell (KE.refl b v6) 5 (.bool true)).cell 1 yl (by omega)]; exact y1
          have z2 : (v6.setCell ⟨b, 5, none⟩ (.bool true)).cell? ⟨X, 2, none⟩ = some (.bool true) := by rw [(KE.setCell (KE.refl b v6) 5 (.bool true)).cell 2 yl (by omega)]; exact y2
          have zl := Nat.lt_of_lt_of_le yl (KE.setCell (KE.refl b v6) 5 (.bool true)).bl.size
          refine hK2.out _ _ (⟨⟨_, hR7⟩, z1, z2, zl⟩) (fun hHeld2 => ?_)
          clear hK2 K hHeld
          have hHeld := hHeld2
          clear hHeld2
          try simp only [Act.put, List.getElem_toArray, List.getElem_cons_succ, List.getElem_cons_zero, List.setIfInBounds_toArray, List.set_cons_zero, List.set_cons_succ]
          generalize v6.setCell ⟨b, 5, none⟩ (.bool true) = v7 at hHeld hR7 z1 z2 zl ⊢
          clear c5 f5 hR6 y1 y2 yl
          refine tkS 8 (.pointer (some ⟨b, 6, none⟩)) hHeld ?_
          try simp only [Act.put, List.getElem_toArray, List.getElem_cons_succ, List.getElem_cons_zero, List.setIfInBounds_toArray, List.set_cons_zero, List.set_cons_succ]
          have c6 := hR7.at_rl
          have f6 := hR7.f 6 (by decide)
          refine wpAnyH_ready (rs := [9]) (by kernel_rfl) (by simp) (AllReadyH.cons rfl (fun K hK2 => ?_) AllReadyH.nil)
          rw [if_pos (by rfl)]
          simp only [List.getElem_toArray, List.getElem_cons_succ, List.getElem_cons_zero]
          go_wp2_with fail
          have hR8 := hR7.set_rl true
          have u1 : (v7.setCell ⟨b, 6, none⟩ (.bool true)).cell? ⟨X, 1, none⟩ = some (.bool true) := by rw [(KE.setCell (KE.refl b v7) 6 (.bool true)).cell 1 zl (by omega)]; exact z1
          have u2 : (v7.setCell ⟨b, 6, none⟩ (.bool true)).cell? ⟨X, 2, none⟩ = some (.bool true) := by rw [(KE.setCell (KE.refl b v7) 6 (.bool true)).cell 2 zl (by omega)]; exact z2
          have ul := Nat.lt_of_lt_of_le zl (KE.setCell (KE.refl b v7) 6 (.bool true)).bl.size
          refine hK2.out _ _ (⟨⟨_, hR8⟩, u1, u2, ul⟩) (fun hHeld2 => ?_)
          clear hK2 K hHeld
          have hHeld := hHeld2
          clear hHeld2
          try simp only [Act.put, List.getElem_toArray, List.getElem_cons_succ, List.getElem_cons_zero, List.setIfInBounds_toArray, List.set_cons_zero, List.set_cons_succ]
          refine wpAnyH_done (by kernel_rfl) ?_ _
          go_wp2_with fail
          go_meet
          exact ⟨by rw [hsq.out], by rw [hsq.out]; exact hR8⟩
      · obtain ⟨hR, hD, hlD⟩ := hw.out
        clear hw
        obtain ⟨C3, hC3⟩ : ∃ l : List Value, [.string { data := #[46, 97, 113] }, .bool true, .bool false] = l := ⟨_, rfl⟩
        have hD3 : wr.rangeAt D 3 C3 := fun j v hv => by
          rw [← hC3] at hv
          have := hD (3 + j) v (by rw [← hDV.out]; rcases j with _ | _ | _ | j <;> first | exact hv | (simp at hv))
          rwa [Nat.zero_add] at this
        have n3 : Hid (C3.length = 3) := Lib.hid (by rw [← hC3]; rfl)
        have o3 : Hid (C3.toArray.all (·.oneCell') = true) := Lib.hid (by rw [← hC3]; kernel_rfl)
        have s3 : Hid ((Tryz.prog.info? 101).map (·.size) = some C3.length) := Lib.hid (by rw [n3.out]; kernel_rfl)
        replace hC3 := Lib.hid hC3
        obtain ⟨B, hB⟩ : ∃ B, Lib.hasSuffix nm.data.toList [46, 97, 113] = B := ⟨_, rfl⟩
        obtain ⟨X9, hX9⟩ : ∃ X9 : ByteArray, ⟨(Lib.trimSuffix nm.data.toList [46, 97, 113]).toArray⟩ = X9 := ⟨_, rfl⟩
        have hC : Hid (∀ W, Calls Tryz.prog 71 #[.string nm, .string { data := #[46, 97, 113] }] W fun e w' => e = .returned (.tuple #[.string X9, .bool B]) ∧ w' = W) := Lib.hid fun W => by rw [← hB, ← hX9]; exact hCS.out { data := #[46, 97, 113] } W
        replace hB := Lib.hid hB
        replace hX9 := Lib.hid hX9
        clear hCS
        go_upto_region 8 with (first | (refine wpList_load_mid rfl 101 _ rfl D 3 rfl C3 _ hD3 hu3 rfl s3.out ?_) | (refine wpList_store_mid rfl 101 _ _ rfl wr.heap.size 0 C3.toArray rfl rfl (fun j hj => cells_freshX wr #[.string { data := #[] }, .bool false, .bool false] 101 3 (by decide) j (by rw [List.size_toArray, n3.out] at hj; exact hj)) (by rw [List.size_toArray]; exact s3.out) o3.out ?_))
        obtain ⟨hc1, hr1, hl1⟩ := stored3 wr C3 n3.out #[.string { data := #[] }, .bool false, .bool false] rfl 101
        have hRx := hR.keep hc1
        have hDx : (World.setCells (wr.alloc (.cells #[.string { data := #[] }, .bool false, .bool false] 101)) wr.heap.size 0 C3).rangeAt D 0 DV := fun j v hv => by rw [hc1.cell (p := ⟨D, 0 + j, none⟩) hlD]; exact hD j v hv
        have hlx := Nat.lt_of_lt_of_le hlD hc1.size
        have hbX : b < wr.heap.size := hR.lt
        skip
        generalize World.setCells _ wr.heap.size 0 C3 = v4 at hr1 hl1 hRx hDx hlx ⊢
        generalize wr.heap.size = X at hr1 hl1 hbX ⊢
        clear hR hD hD3 hlD hc1
        have x0 : v4.cell? ⟨X, 0, none⟩ = some (.string { data := #[46, 97, 113] }) := hr1 0 _ (by rw [← hC3.out]; rfl)
        have x1 : v4.cell? ⟨X, 1, none⟩ = some (.bool true) := hr1 1 _ (by rw [← hC3.out]; rfl)
        have x2 : v4.cell? ⟨X, 2, none⟩ = some (.bool false) := hr1 2 _ (by rw [← hC3.out]; rfl)
        cases B
        · have hno2 := Lib.hid (⟨fun _ => hno.out.1 (by decide), fun _ => hB.out, fun h => absurd h (by decide)⟩ : (0 < 2 → Lib.hasSuffix nm.data.toList [46, 97, 113, 114, 108] = false) ∧ (1 < 2 → Lib.hasSuffix nm.data.toList [46, 97, 113] = false) ∧ (2 < 2 → Lib.hasSuffix nm.data.toList [46, 114, 108] = false))
          have hwx := Lib.hid (And.intro hRx (And.intro hDx hlx))
          clear x1 x2 hr1 hl1 hbX hRx hDx hlx hB hX9 hno
          go_wp2_with (go_at_call 71; (with_reducible refine (hC.out _).mono ?_); rintro e w5 ⟨rfl, he5⟩; obtain rfl := he5.symm; clear he5)
          go_roundg (3 - 2)
          case measure => omega
          case rel => exact ⟨2, by decide, rfl, rfl, by go_num, hwx, hno2⟩
        · have hsq : Hid (q = (X9, true, false)) := Lib.hid (by rw [← hq.out]; unfold sufS; rw [if_neg (by rw [hno.out.1 (by decide)]; decide), if_pos hB.out, hX9.out])
          clear hDx hlx hno hB hX9 hr1
          go_upto_region 10 with (go_at_call 71; (with_reducible refine (hC.out _).mono ?_); rintro e w5 ⟨rfl, he5⟩; obtain rfl := he5.symm; clear he5)
          clear hC x0
          refine wp_region_held_drew (S := fun W => (∃ i, RG w g b p0 i W) ∧ W.cell? ⟨X, 1, none⟩ = some (.bool true) ∧ W.cell? ⟨X, 2, none⟩ = some (.bool false) ∧ X < W.heap.size) (by kernel_rfl) ⟨⟨_, hRx.keep (Below.refl _ _).drew⟩, x1, x2, hl1⟩ (fun hHeld => ?_)
          have hR6 := hRx.keep (Below.refl _ _).drew
          have y1 : v4.drew.cell? ⟨X, 1, none⟩ = some (.bool true) := x1
          have y2 : v4.drew.cell? ⟨X, 2, none⟩ = some (.bool false) := x2
          have yl : X < v4.drew.heap.size := hl1
          generalize v4.drew = v6 at hHeld hR6 y1 y2 yl ⊢
          clear x1 x2 hl1 hRx
          refine tkS 0 (.string X9) hHeld ?_
          try simp only [Act.put, List.getElem_toArray, List.getElem_cons_zero, List.setIfInBounds_toArray, List.set_cons_zero, List.set_cons_succ]
          refine tkS 1 (.pointer (some ⟨X, 1, none⟩)) hHeld ?_
          try simp only [Act.put, List.getElem_toArray, List.getElem_cons_succ, List.getElem_cons_zero, List.setIfInBounds_toArray, List.set_cons_zero, List.set_cons_succ]
          refine wpAnyH_take (i := 2) (v := .bool true) rfl (by kernel_rfl) (by kernel_rfl) (by kernel_rfl) (fun _ _ _ h => h) (Or.inl ⟨by rfl, fun W hS => by (have k : W.cell? ⟨X, 1, none⟩ = some (.bool true) := hS.2.1); go_simp⟩) hHeld ?_
          try simp only [Act.put, List.getElem_toArray, List.getElem_cons_succ, List.getElem_cons_zero, List.setIfInBounds_toArray, List.set_cons_zero, List.set_cons_succ]
          refine tkS 3 (.pointer (some ⟨X, 2, none⟩)) hHeld ?_
          try simp only [Act.put, List.getElem_toArray, List.getElem_cons_succ, List.getElem_cons_zero, List.setIfInBounds_toArray, List.set_cons_zero, List.set_cons_succ]
          refine wpAnyH_take (i := 4) (v := .bool false) rfl (by kernel_rfl) (by kernel_rfl) (by kernel_rfl) (fun _ _ _ h => h) (Or.inl ⟨by rfl, fun W hS => by (have k : W.cell? ⟨X, 2, none⟩ = some (.bool false) := hS.2.2.1); go_simp⟩) hHeld ?_
          try simp only [Act.put, List.getElem_toArray, List.getElem_cons_succ, List.getElem_cons_zero, List.setIfInBounds_toArray, List.set_cons_zero, List.set_cons_succ]
          refine tkS 5 (.string X9) hHeld ?_
          try simp only [Act.put, List.getElem_toArray, List.getElem_cons_succ, List.getElem_cons_zero, List.setIfInBounds_toArray, List.set_cons_zero, List.set_cons_succ]
          refine tkS 6 (.pointer (some ⟨b, 5, none⟩)) hHeld ?_
          try simp only [Act.put, List.getElem_toArray, List.getElem_cons_succ, List.getElem_cons_zero, List.setIfInBounds_toArray, List.set_cons_zero, List.set_cons_succ]
          have c5 := hR6.at_aq
          have f5 := hR6.f 5 (by decide)
          refine wpAnyH_ready (rs := [7]) (by kernel_rfl) (by simp) (AllReadyH.cons rfl (fun K hK2 => ?_) AllReadyH.nil)
          rw [if_pos (by rfl)]
          simp only [List.getElem_toArray, List.getElem_cons_succ, List.getElem_cons_zero]
          go_wp2_with fail
          have hR7 := hR6.set_aq true
          have z1 : (v6.setCell ⟨b, 5, none⟩ (.bool true)).cell? ⟨X, 1, none⟩ = some (.bool true) := by rw [(KE.setCell (KE.refl b v6) 5 (.bool true)).cell 1 yl (by omega)]; exact y1
          have z2 : (v6.setCell ⟨b, 5, none⟩ (.bool true)).cell? ⟨X, 2, none⟩ = some (.bool false) := by rw [(KE.setCell (KE.refl b v6) 5 (.bool true)).cell 2 yl (by omega)]; exact y2
          have zl := Nat.lt_of_lt_of_le yl (KE.setCell (KE.refl b v6) 5 (.bool true)).bl.size
          refine hK2.out _ _ (⟨⟨_, hR7⟩, z1, z2, zl⟩) (fun hHeld2 => ?_)
          clear hK2 K hHeld
          have hHeld := hHeld2
          clear hHeld2
          try simp only [Act.put, List.getElem_toArray, List.getElem_cons_succ, List.getElem_cons_zero, List.setIfInBounds_toArray, List.set_cons_zero, List.set_cons_succ]
          generalize v6.setCell ⟨b, 5, none⟩ (.bool true) = v7 at hHeld hR7 z1 z2 zl ⊢
          clear c5 f5 hR6 y1 y2 yl
          refine tkS 8 (.pointer (some ⟨b, 6, none⟩)) hHeld ?_
          try simp only [Act.put, List.getElem_toArray, List.getElem_cons_succ, List.getElem_cons_zero, List.setIfInBounds_toArray, List.set_cons_zero, List.set_cons_succ]
          have c6 := hR7.at_rl
          have f6 := hR7.f 6 (by decide)
          refine wpAnyH_ready (rs := [9]) (by kernel_rfl) (by simp) (AllReadyH.cons rfl (fun K hK2 => ?_) AllReadyH.nil)
          rw [if_pos (by rfl)]
          simp only [List.getElem_toArray, List.getElem_cons_succ, List.getElem_cons_zero]
          go_wp2_with fail
          have hR8 := hR7.set_rl false
          have u1 : (v7.setCell ⟨b, 6, none⟩ (.bool false)).cell? ⟨X, 1, none⟩ = some (.bool true) := by rw [(KE.setCell (KE.refl b v7) 6 (.bool false)).cell 1 zl (by omega)]; exact z1
          have u2 : (v7.setCell ⟨b, 6, none⟩ (.bool false)).cell? ⟨X, 2, none⟩ = some (.bool false) := by rw [(KE.setCell (KE.refl b v7) 6 (.bool false)).cell 2 zl (by omega)]; exact z2
          have ul := Nat.lt_of_lt_of_le zl (KE.setCell (KE.refl b v7) 6 (.bool false)).bl.size
          refine hK2.out _ _ (⟨⟨_, hR8⟩, u1, u2, ul⟩) (fun hHeld2 => ?_)
          clear hK2 K hHeld
          have hHeld := hHeld2
          clear hHeld2
          try simp only [Act.put, List.getElem_toArray, List.getElem_cons_succ, List.getElem_cons_zero, List.setIfInBounds_toArray, List.set_cons_zero, List.set_cons_succ]
          refine wpAnyH_done (by kernel_rfl) ?_ _
          go_wp2_with fail
          go_meet
          exact ⟨by rw [hsq.out], by rw [hsq.out]; exact hR8⟩
      · obtain ⟨hR, hD, hlD⟩ := hw.out
        clear hw
        obtain ⟨C3, hC3⟩ : ∃ l : List Value, [.string { data := #[46, 114, 108] }, .bool false, .bool true] = l := ⟨_, rfl⟩
        have hD3 : wr.rangeAt D 6 C3 := fun j v hv => by
          rw [← hC3] at hv
          have := hD (6 + j) v (by rw [← hDV.out]; rcases j with _ | _ | _ | j <;> first | exact hv | (simp at hv))
          rwa [Nat.zero_add] at this
        have n3 : Hid (C3.length = 3) := Lib.hid (by rw [← hC3]; rfl)
        have o3 : Hid (C3.toArray.all (·.oneCell') = true) := Lib.hid (by rw [← hC3]; kernel_rfl)
        have s3 : Hid ((Tryz.prog.info? 101).map (·.size) = some C3.length) := Lib.hid (by rw [n3.out]; kernel_rfl)
        replace hC3 := Lib.hid hC3
        obtain ⟨B, hB⟩ : ∃ B, Lib.hasSuffix nm.data.toList [46, 114, 108] = B := ⟨_, rfl⟩
        obtain ⟨X9, hX9⟩ : ∃ X9 : ByteArray, ⟨(Lib.trimSuffix nm.data.toList [46, 114, 108]).toArray⟩ = X9 := ⟨_, rfl⟩
        have hC : Hid (∀ W, Calls Tryz.prog 71 #[.string nm, .string { data := #[46, 114, 108] }] W fun e w' => e = .returned (.tuple #[.string X9, .bool B]) ∧ w' = W) := Lib.hid fun W => by rw [← hB, ← hX9]; exact hCS.out { data := #[46, 114, 108] } W
        replace hB := Lib.hid hB
        replace hX9 := Lib.hid hX9
        clear hCS
        go_upto_region 8 with (first | (refine wpList_load_mid rfl 101 _ rfl D 6 rfl C3 _ hD3 hu3 rfl s3.out ?_) | (refine wpList_store_mid rfl 101 _ _ rfl wr.heap.size 0 C3.toArray rfl rfl (fun j hj => cells_freshX wr #[.string { data := #[] }, .bool false, .bool false] 101 3 (by decide) j (by rw [List.size_toArray, n3.out] at hj; exact hj)) (by rw [List.size_toArray]; exact s3.out) o3.out ?_))
        obtain ⟨hc1, hr1, hl1⟩ := stored3 wr C3 n3.out #[.string { data := #[] }, .bool false, .bool false] rfl 101
        have hRx := hR.keep hc1
        have hDx : (World.setCells (wr.alloc (.cells #[.string { data := #[] }, .bool false, .bool false] 101)) wr.heap.size 0 C3).rangeAt D 0 DV := fun j v hv => by rw [hc1.cell (p := ⟨D, 0 + j, none⟩) hlD]; exact hD j v hv
        have hlx := Nat.lt_of_lt_of_le hlD hc1.size
        have hbX : b < wr.heap.size := hR.lt
        skip
        generalize World.setCells _ wr.heap.size 0 C3 = v4 at hr1 hl1 hRx hDx hlx ⊢
        generalize wr.heap.size = X at hr1 hl1 hbX ⊢
        clear hR hD hD3 hlD hc1
        have x0 : v4.cell? ⟨X, 0, none⟩ = some (.string { data := #[46, 114, 108] }) := hr1 0 _ (by rw [← hC3.out]; rfl)
        have x1 : v4.cell? ⟨X, 1, none⟩ = some (.bool false) := hr1 1 _ (by rw [← hC3.out]; rfl)
        have x2 : v4.cell? ⟨X, 2, none⟩ = some (.bool true) := hr1 2 _ (by rw [← hC3.out]; rfl)
        cases B
        · have hno2 := Lib.hid (⟨fun _ => hno.out.1 (by decide), fun _ => hno.out.2.1 (by decide), fun _ => hB.out⟩ : (0 < 3 → Lib.hasSuffix nm.data.toList [46, 97, 113, 114, 108] = false) ∧ (1 < 3 → Lib.hasSuffix nm.data.toList [46, 97, 113] = false) ∧ (2 < 3 → Lib.hasSuffix nm.data.toList [46, 114, 108] = false))
          have hwx := Lib.hid (And.intro hRx (And.intro hDx hlx))
          clear x1 x2 hr1 hl1 hbX hRx hDx hlx hB hX9 hno
          go_wp2_with (go_at_call 71; (with_reducible refine (hC.out _).mono ?_); rintro e w5 ⟨rfl, he5⟩; obtain rfl := he5.symm; clear he5)
          go_roundg (3 - 3)
          case measure => omega
          case rel => exact ⟨3, by decide, rfl, rfl, by go_num, hwx, hno2⟩
        · have hsq : Hid (q = (X9, false, true)) := Lib.hid (by rw [← hq.out]; unfold sufS; rw [if_neg (by rw [hno.out.1 (by decide)]; decide), if_neg (by rw [hno.out.2.1 (by decide)]; decide), if_pos hB.out, hX9.out])
          clear hDx hlx hno hB hX9 hr1
          go_upto_region 10 with (go_at_call 71; (with_reducible refine (hC.out _).mono ?_); rintro e w5 ⟨rfl, he5⟩; obtain rfl := he5.symm; clear he5)
          clear hC x0
          refine wp_region_held_drew (S := fun W => (∃ i, RG w g b p0 i W) ∧ W.cell? ⟨X, 1, none⟩ = some (.bool false) ∧ W.cell? ⟨X, 2, none⟩ = some (.bool true) ∧ X < W.heap.size) (by kernel_rfl) ⟨⟨_, hRx.keep (Below.refl _ _).drew⟩, x1, x2, hl1⟩ (fun hHeld => ?_)
          have hR6 := hRx.keep (Below.refl _ _).drew
          have y1 : v4.drew.cell? ⟨X, 1, none⟩ = some (.bool false) := x1
          have y2 : v4.drew.cell? ⟨X, 2, none⟩ = some (.bool true) := x2
          have yl : X < v4.drew.heap.size := hl1
          generalize v4.drew = v6 at hHeld hR6 y1 y2 yl ⊢
          clear x1 x2 hl1 hRx
          refine tkS 0 (.string X9) hHeld ?_
          try simp only [Act.put, List.getElem_toArray, List.getElem_cons_zero, List.setIfInBounds_toArray, List.set_cons_zero, List.set_cons_succ]
          refine tkS 1 (.pointer (some ⟨X, 1, none⟩)) hHeld ?_
          try simp only [Act.put, List.getElem_toArray, List.getElem_cons_succ, List.getElem_cons_zero, List.setIfInBounds_toArray, List.set_cons_zero, List.set_cons_succ]
          refine wpAnyH_take (i := 2) (v := .bool false) rfl (by kernel_rfl) (by kernel_rfl) (by kernel_rfl) (fun _ _ _ h => h) (Or.inl ⟨by rfl, fun W hS => by (have k : W.cell? ⟨X, 1, none⟩ = some (.bool false) := hS.2.1); go_simp⟩) hHeld ?_
          try simp only [Act.put, List.getElem_toArray, List.getElem_cons_succ, List.getElem_cons_zero, List.setIfInBounds_toArray, List.set_cons_zero, List.set_cons_succ]
          refine tkS 3 (.pointer (some ⟨X, 2, none⟩)) hHeld ?_
          try simp only [Act.put, List.getElem_toArray, List.getElem_cons_succ, List.getElem_cons_zero, List.setIfInBounds_toArray, List.set_cons_zero, List.set_cons_succ]
          refine wpAnyH_take (i := 4) (v := .bool true) rfl (by kernel_rfl) (by kernel_rfl) (by kernel_rfl) (fun _ _ _ h => h) (Or.inl ⟨by rfl, fun W hS => by (have k : W.cell? ⟨X, 2, none⟩ = some (.bool true) := hS.2.2.1); go_simp⟩) hHeld ?_
          try simp only [Act.put, List.getElem_toArray, List.getElem_cons_succ, List.getElem_cons_zero, List.setIfInBounds_toArray, List.set_cons_zero, List.set_cons_succ]
          refine tkS 5 (.string X9) hHeld ?_
          try simp only [Act.put, List.getElem_toArray, List.getElem_cons_succ, List.getElem_cons_zero, List.setIfInBounds_toArray, List.set_cons_zero, List.set_cons_succ]
          refine tkS 6 (.pointer (some ⟨b, 5, none⟩)) hHeld ?_
          try simp only [Act.put, List.getElem_toArray, List.getElem_cons_succ, List.getElem_cons_zero, List.setIfInBounds_toArray, List.set_cons_zero, List.set_cons_succ]
          have c5 := hR6.at_aq
          have f5 := hR6.f 5 (by decide)
          refine wpAnyH_ready (rs := [7]) (by kernel_rfl) (by simp) (AllReadyH.cons rfl (fun K hK2 => ?_) AllReadyH.nil)
          rw [if_pos (by rfl)]
          simp only [List.getElem_toArray, List.getElem_cons_succ, List.getElem_cons_zero]
          go_wp2_with fail
          have hR7 := hR6.set_aq false
          have z1 : (v6.setCell ⟨b, 5, none⟩ (.bool false)).cell? ⟨X, 1, none⟩ = some (.bool false) := by rw [(KE.setCell (KE.refl b v6) 5 (.bool false)).cell 1 yl (by omega)]; exact y1
          have z2 : (v6.setCell ⟨b, 5, none⟩ (.bool false)).cell? ⟨X, 2, none⟩ = some (.bool true) := by rw [(KE.setCell (KE.refl b v6) 5 (.bool false)).cell 2 yl (by omega)]; exact y2
          have zl := Nat.lt_of_lt_of_le yl (KE.setCell (KE.refl b v6) 5 (.bool false)).bl.size
          refine hK2.out _ _ (⟨⟨_, hR7⟩, z1, z2, zl⟩) (fun hHeld2 => ?_)
          clear hK2 K hHeld
          have hHeld := hHeld2
          clear hHeld2
          try simp only [Act.put, List.getElem_toArray, List.getElem_cons_succ, List.getElem_cons_zero, List.setIfInBounds_toArray, List.set_cons_zero, List.set_cons_succ]
          generalize v6.setCell ⟨b, 5, none⟩ (.bool false) = v7 at hHeld hR7 z1 z2 zl ⊢
          clear c5 f5 hR6 y1 y2 yl
          refine tkS 8 (.pointer (some ⟨b, 6, none⟩)) hHeld ?_
          try simp only [Act.put, List.getElem_toArray, List.getElem_cons_succ, List.getElem_cons_zero, List.setIfInBounds_toArray, List.set_cons_zero, List.set_cons_succ]
          have c6 := hR7.at_rl
          have f6 := hR7.f 6 (by decide)
          refine wpAnyH_ready (rs := [9]) (by kernel_rfl) (by simp) (AllReadyH.cons rfl (fun K hK2 => ?_) AllReadyH.nil)
          rw [if_pos (by rfl)]
          simp only [List.getElem_toArray, List.getElem_cons_succ, List.getElem_cons_zero]
          go_wp2_with fail
          have hR8 := hR7.set_rl true
          have u1 : (v7.setCell ⟨b, 6, none⟩ (.bool true)).cell? ⟨X, 1, none⟩ = some (.bool false) := by rw [(KE.setCell (KE.refl b v7) 6 (.bool true)).cell 1 zl (by omega)]; exact z1
          have u2 : (v7.setCell ⟨b, 6, none⟩ (.bool true)).cell? ⟨X, 2, none⟩ = some (.bool true) := by rw [(KE.setCell (KE.refl b v7) 6 (.bool true)).cell 2 zl (by omega)]; exact z2
          have ul := Nat.lt_of_lt_of_le zl (KE.setCell (KE.refl b v7) 6 (.bool true)).bl.size
          refine hK2.out _ _ (⟨⟨_, hR8⟩, u1, u2, ul⟩) (fun hHeld2 => ?_)
          clear hK2 K hHeld
          have hHeld := hHeld2
          clear hHeld2
          try simp only [Act.put, List.getElem_toArray, List.getElem_cons_succ, List.getElem_cons_zero, List.setIfInBounds_toArray, List.set_cons_zero, List.set_cons_succ]
          refine wpAnyH_done (by kernel_rfl) ?_ _
          go_wp2_with fail
          go_meet
          exact ⟨by rw [hsq.out], by rw [hsq.out]; exact hR8⟩
      · have hsq : Hid (q = (nm, false, false)) := Lib.hid (by rw [← hq.out]; unfold sufS; rw [if_neg (by rw [hno.out.1 (by decide)]; decide), if_neg (by rw [hno.out.2.1 (by decide)]; decide), if_neg (by rw [hno.out.2.2 (by decide)]; decide)])
        clear hCS hno
        go_wp2_with fail
        go_meet
        exact ⟨by rw [hsq.out], by rw [hsq.out]; exact hw.out.1⟩
  case rest =>
    obtain ⟨rfl, hR⟩ := hcut
    clear hw0
    have hop : opS nm = ⟨namedOf q.1.toList, 0, 0, 0, 0, q.2.1, q.2.2, 0, 0⟩ := by rw [← hq.out]; rfl
    have hI := hrp.out
    rw [hop] at hI
    have hbd2 : 0 ≤ namedOf q.1.toList ∧ namedOf q.1.toList ≤ 87 := by
      rcases named_spec q.1.toList with h | ⟨h1, h2, -⟩
      · rw [h]; decide
      · omega
    obtain ⟨qs, aq, rl⟩ := q
    simp only at hI hbd2 hR ⊢
    have hNm : Hid (∀ W, Tabs W → Calls Tryz.prog 31 #[.string qs] W fun e w' => e = .returned (.int .i64 (namedOf qs.toList)) ∧ Below W.heap.size W w') := Lib.hid fun W hW => Named_any qs W hW
    generalize namedOf qs.toList = op at hI hbd2 hNm
    clear hop hrp hq hns
    have hFm : Hid (∀ W, Tabs W → Calls Tryz.prog 33 #[.int .i64 op] W fun e w' => e = .returned (.int .i64 (opOf op).form) ∧ Below W.heap.size W w') := Lib.hid fun W hW => Form_any op (by omega) W hW
    have hfr : 0 ≤ (opOf op).form ∧ (opOf op).form ≤ 12 := by obtain ⟨h0, h1, -⟩ := info_op op; exact ⟨h0, h1⟩
    generalize (opOf op).form = f at hI hFm hfr
    have hIop : Hid (I0.op = op) := Lib.hid (by rw [hI]; exact fieldsS_op _ _ _)
    have hIim : Hid (-9223372036854775808 ≤ I0.imm ∧ I0.imm ≤ 9223372036854775807) := Lib.hid (by rw [hI]; exact fieldsS_imm _ _ _ ⟨(by decide : (-9223372036854775808 : Int) ≤ 0), (by decide : (0 : Int) ≤ 9223372036854775807)⟩)
    replace hI := Lib.hid hI
    have c0 : wc.cell? ⟨b, 0, none⟩ = some (.int .i64 0) := hR.at_op
    have f0 := hR.f 0 (by decide)
    have hT0 := hT.out _ hR.bl
    go_upto_region 13 with (go_at_call 31; (with_reducible refine (hNm.out _ hT0.1).mono ?_); rintro e w5 ⟨rfl, hb5⟩; replace hR := hR.keep hb5; clear hb5 c0 f0; have c0 : w5.cell? ⟨b, 0, none⟩ = some (.int .i64 0) := hR.at_op; have f0 := hR.f 0 (by decide))
    replace hR := hR.set_op op
    clear c0 f0 hT0 hNm
    generalize World.setCell w5 _ _ = w6 at hR ⊢
    have hR0 : RG w g b p0 ⟨op, 0, 0, 0, 0, aq, rl, 0, 0⟩ w6 := hR
    clear hR
    have c0 : w6.cell? ⟨b, 0, none⟩ = some (.int .i64 op) := hR0.at_op
    have hT1 := hT.out _ hR0.bl
    go_upto_block 2 with (go_at_call 33; (with_reducible refine (hFm.out _ hT1.1).mono ?_); rintro e w7 ⟨rfl, hb7⟩; replace hR0 := hR0.keep hb7; clear hb7 c0)
    clear hT1 hFm
    go_cut [51] (fun _ wx => ∃ p, RG w g b p I0 wx)
    case first =>
      have hkk : f = 1 ∨ f = 2 ∨ (f = 3 ∧ op = 4) ∨ (f = 3 ∧ op ≠ 4) ∨ f = 4 ∨ f = 5 ∨ f = 6 ∨ (f = 7 ∧ op = 4) ∨ (f = 7 ∧ op ≠ 4) ∨ f = 8 ∨ f = 9 ∨ f = 11 ∨ f = 12 ∨ (f = 0 ∨ f = 10) := by
        by_cases e4 : op = 4
        · simp only [e4, ne_eq, not_true_eq_false, and_true, and_false]; omega
        · simp only [e4, ne_eq, not_false_eq_true, and_true, and_false]; omega
      clear hfr hT hIop hIim
      have c0 : w7.cell? ⟨b, 0, none⟩ = some (.int .i64 op) := hR0.at_op
      rcases hkk with rfl | rfl | ⟨rfl, hj⟩ | ⟨rfl, hj⟩ | rfl | rfl | rfl | ⟨rfl, hj⟩ | ⟨rfl, hj⟩ | rfl | rfl | rfl | rfl | hkk
      · as_aux_lemma =>
        obtain ⟨n1, t1, e1⟩ : ∃ n t, regS p0 = (n, t) := ⟨_, _, rfl⟩
        have hz1 : t1.size ≤ 1000000 := by have := regS_size p0; rw [e1] at this; exact Nat.le_trans this hz0
        have hC1 : Hid (∀ W, RC g p0 W → Calls Tryz.prog 72 #[.pointer (some ⟨g, 0, none⟩)] W (Rds g (.int .i64 n1) t1 W)) := Lib.hid fun W hW => by have := RReg_any g p0 W hW hz0; rw [e1] at this; exact this
        replace e1 := Lib.hid e1
        obtain ⟨n2, t2, e2⟩ : ∃ n t, immS t1 = (n, t) := ⟨_, _, rfl⟩
        have hz2 : t2.size ≤ 1000000 := by have := immS_size t1; rw [e2] at this; exact Nat.le_trans this hz1
        have hC2 : Hid (∀ W, RC g t1 W → Calls Tryz.prog 73 #[.pointer (some ⟨g, 0, none⟩)] W (Rds g (.int .i64 n2) t2 W)) := Lib.hid fun W hW => by have := RImm_any g t1 W hW hz1; rw [e2] at this; exact this
        replace e2 := Lib.hid e2
        clear hz1 hz2
        clear c0
        go_wp2_with (first | (go_at_call 72; (with_reducible refine (hC1.out _ hR0.e).mono ?_); rintro e v1 ⟨rfl, hE, hK⟩; replace hR0 := hR0.eats hE hK; clear hE hK hC1) | (go_at_call 73; (with_reducible refine (hC2.out _ hR0.e).mono ?_); rintro e v2 ⟨rfl, hE, hK⟩; replace hR0 := hR0.eats hE hK; clear hE hK hC2; have d1 : v2.cell? ⟨b, 1, none⟩ = some (.int .i64 0) := hR0.at_rd; have f1 := hR0.f 1 (by decide); have d4 : v2.cell? ⟨b, 4, none⟩ = some (.int .i64 0) := hR0.at_imm; have f4 := hR0.f 4 (by decide)))
        go_meet
        refine ⟨t2, ?_⟩
        rw [hI.out]
        unfold fieldsS
        rw [if_pos (by decide)]
        simp only [e1.out, e2.out]
        exact (hR0.set_rd n1).set_imm n2
      · as_aux_lemma =>
        obtain ⟨n1, t1, e1⟩ : ∃ n t, regS p0 = (n, t) := ⟨_, _, rfl⟩
        have hz1 : t1.size ≤ 1000000 := by have := regS_size p0; rw [e1] at this; exact Nat.le_trans this hz0
        have hC1 : Hid (∀ W, RC g p0 W → Calls Tryz.prog 72 #[.pointer (some ⟨g, 0, none⟩)] W (Rds g (.int .i64 n1) t1 W)) := Lib.hid fun W hW => by have := RReg_any g p0 W hW hz0; rw [e1] at this; exact this
        replace e1 := Lib.hid e1
        obtain ⟨n2, t2, e2⟩ : ∃ n t, immS t1 = (n, t) := ⟨_, _, rfl⟩
        have hz2 : t2.size ≤ 1000000 := by have := immS_size t1; rw [e2] at this; exact Nat.le_trans this hz1
        have hC2 : Hid (∀ W, RC g t1 W → Calls Tryz.prog 73 #[.pointer (some ⟨g, 0, none⟩)] W (Rds g (.int .i64 n2) t2 W)) := Lib.hid fun W hW => by have := RImm_any g t1 W hW hz1; rw [e2] at this; exact this
        replace e2 := Lib.hid e2
        clear hz1 hz2
        clear c0
        go_wp2_with (first | (go_at_call 72; (with_reducible refine (hC1.out _ hR0.e).mono ?_); rintro e v1 ⟨rfl, hE, hK⟩; replace hR0 := hR0.eats hE hK; clear hE hK hC1) | (go_at_call 73; (with_reducible refine (hC2.out _ hR0.e).mono ?_); rintro e v2 ⟨rfl, hE, hK⟩; replace hR0 := hR0.eats hE hK; clear hE hK hC2; have d1 : v2.cell? ⟨b, 1, none⟩ = some (.int .i64 0) := hR0.at_rd; have f1 := hR0.f 1 (by decide); have d4 : v2.cell? ⟨b, 4, none⟩ = some (.int .i64 0) := hR0.at_imm; have f4 := hR0.f 4 (by decide)))
        go_meet
        refine ⟨t2, ?_⟩
        rw [hI.out]
        unfold fieldsS
        rw [if_pos (by decide)]
        simp only [e1.out, e2.out]
        exact (hR0.set_rd n1).set_imm n2
      · as_aux_lemma =>
        have tj : (op == 4) = true := by simpa using hj
        replace hj := Lib.hid hj
        obtain ⟨n1, t1, e1⟩ : ∃ n t, regS p0 = (n, t) := ⟨_, _, rfl⟩
        have hz1 : t1.size ≤ 1000000 := by have := regS_size p0; rw [e1] at this; exact Nat.le_trans this hz0
        have hC1 : Hid (∀ W, RC g p0 W → Calls Tryz.prog 72 #[.pointer (some ⟨g, 0, none⟩)] W (Rds g (.int .i64 n1) t1 W)) := Lib.hid fun W hW => by have := RReg_any g p0 W hW hz0; rw [e1] at this; exact this
        replace e1 := Lib.hid e1
        obtain ⟨n2, t2, e2⟩ : ∃ n t, immS t1 = (n, t) := ⟨_, _, rfl⟩
        have hz2 : t2.size ≤ 1000000 := by have := immS_size t1; rw [e2] at this; exact Nat.le_trans this hz1
        have hC2 : Hid (∀ W, RC g t1 W → Calls Tryz.prog 73 #[.pointer (some ⟨g, 0, none⟩)] W (Rds g (.int .i64 n2) t2 W)) := Lib.hid fun W hW => by have := RImm_any g t1 W hW hz1; rw [e2] at this; exact this
        replace e2 := Lib.hid e2
        obtain ⟨n3, t3, e3⟩ : ∃ n t, regS t2 = (n, t) := ⟨_, _, rfl⟩
        have hz3 : t3.size ≤ 1000000 := by have := regS_size t2; rw [e3] at this; exact Nat.le_trans this hz2
        have hC3 : Hid (∀ W, RC g t2 W → Calls Tryz.prog 72 #[.pointer (some ⟨g, 0, none⟩)] W (Rds g (.int .i64 n3) t3 W)) := Lib.hid fun W hW => by have := RReg_any g t2 W hW hz2; rw [e3] at this; exact this
        replace e3 := Lib.hid e3
        clear hz1 hz2 hz3
        clear c0
        go_upto_region 20 with (go_at_call 72; (with_reducible refine (hC1.out _ hR0.e).mono ?_); rintro e v1 ⟨rfl, hE, hK⟩; replace hR0 := hR0.eats hE hK; clear hE hK hC1; have d1 : v1.cell? ⟨b, 1, none⟩ = some (.int .i64 0) := hR0.at_rd; have f1 := hR0.f 1 (by decide))
        replace hR0 := hR0.set_rd n1
        clear d1 f1
        generalize World.setCell v1 _ _ = u1 at hR0 ⊢
        have c0 : u1.cell? ⟨b, 0, none⟩ = some (.int .i64 op) := hR0.at_op
        go_wp2_with (first | (go_at_call 73; (with_reducible refine (hC2.out _ hR0.e).mono ?_); rintro e v2 ⟨rfl, hE, hK⟩; replace hR0 := hR0.eats hE hK; clear hE hK hC2) | (go_at_call 72; (with_reducible refine (hC3.out _ hR0.e).mono ?_); rintro e v3 ⟨rfl, hE, hK⟩; replace hR0 := hR0.eats hE hK; clear hE hK hC3; have d4 : v3.cell? ⟨b, 4, none⟩ = some (.int .i64 0) := hR0.at_imm; have f4 := hR0.f 4 (by decide); have d2 : v3.cell? ⟨b, 2, none⟩ = some (.int .i64 0) := hR0.at_rs1; have f2 := hR0.f 2 (by decide)))
        go_meet
        refine ⟨t3, ?_⟩
        rw [hI.out]
        unfold fieldsS
        rw [if_neg (by decide), if_pos (by decide), if_pos hj.out]
        simp only [e1.out, e2.out, e3.out]
        exact (hR0.set_imm n2).set_rs1 n3
      · as_aux_lemma =>
        have tj : (op == 4) = false := by simpa using hj
        replace hj := Lib.hid hj
        obtain ⟨n1, t1, e1⟩ : ∃ n t, regS p0 = (n, t) := ⟨_, _, rfl⟩
        have hz1 : t1.size ≤ 1000000 := by have := regS_size p0; rw [e1] at this; exact Nat.le_trans this hz0
        have hC1 : Hid (∀ W, RC g p0 W → Calls Tryz.prog 72 #[.pointer (some ⟨g, 0, none⟩)] W (Rds g (.int .i64 n1) t1 W)) := Lib.hid fun W hW => by have := RReg_any g p0 W hW hz0; rw [e1] at this; exact this
        replace e1 := Lib.hid e1
        obtain ⟨n2, t2, e2⟩ : ∃ n t, regS t1 = (n, t) := ⟨_, _, rfl⟩
        have hz2 : t2.size ≤ 1000000 := by have := regS_size t1; rw [e2] at this; exact Nat.le_trans this hz1
        have hC2 : Hid (∀ W, RC g t1 W → Calls Tryz.prog 72 #[.pointer (some ⟨g, 0, none⟩)] W (Rds g (.int .i64 n2) t2 W)) := Lib.hid fun W hW => by have := RReg_any g t1 W hW hz1; rw [e2] at this; exact this
        replace e2 := Lib.hid e2
        obtain ⟨n3, t3, e3⟩ : ∃ n t, immS t2 = (n, t) := ⟨_, _, rfl⟩
        have hz3 : t3.size ≤ 1000000 := by have := immS_size t2; rw [e3] at this; exact Nat.le_trans this hz2
        have hC3 : Hid (∀ W, RC g t2 W → Calls Tryz.prog 73 #[.pointer (some ⟨g, 0, none⟩)] W (Rds g (.int .i64 n3) t3 W)) := Lib.hid fun W hW => by have := RImm_any g t2 W hW hz2; rw [e3] at this; exact this
        replace e3 := Lib.hid e3
        clear hz1 hz2 hz3
        clear c0
        go_upto_region 20 with (go_at_call 72; (with_reducible refine (hC1.out _ hR0.e).mono ?_); rintro e v1 ⟨rfl, hE, hK⟩; replace hR0 := hR0.eats hE hK; clear hE hK hC1; have d1 : v1.cell? ⟨b, 1, none⟩ = some (.int .i64 0) := hR0.at_rd; have f1 := hR0.f 1 (by decide))
        replace hR0 := hR0.set_rd n1
        clear d1 f1
        generalize World.setCell v1 _ _ = u1 at hR0 ⊢
        have c0 : u1.cell? ⟨b, 0, none⟩ = some (.int .i64 op) := hR0.at_op
        go_wp2_with (first | (go_at_call 72; (with_reducible refine (hC2.out _ hR0.e).mono ?_); rintro e v2 ⟨rfl, hE, hK⟩; replace hR0 := hR0.eats hE hK; clear hE hK hC2) | (go_at_call 73; (with_reducible refine (hC3.out _ hR0.e).mono ?_); rintro e v3 ⟨rfl, hE, hK⟩; replace hR0 := hR0.eats hE hK; clear hE hK hC3; have d2 : v3.cell? ⟨b, 2, none⟩ = some (.int .i64 0) := hR0.at_rs1; have f2 := hR0.f 2 (by decide); have d4 : v3.cell? ⟨b, 4, none⟩ = some (.int .i64 0) := hR0.at_imm; have f4 := hR0.f 4 (by decide)))
        go_meet
        refine ⟨t3, ?_⟩
        rw [hI.out]
        unfold fieldsS
        rw [if_neg (by decide), if_pos (by decide), if_neg hj.out]
        simp only [e1.out, e2.out, e3.out]
        exact (hR0.set_rs1 n2).set_imm n3
      · as_aux_lemma =>
        obtain ⟨n1, t1, e1⟩ : ∃ n t, regS p0 = (n, t) := ⟨_, _, rfl⟩
        have hz1 : t1.size ≤ 1000000 := by have := regS_size p0; rw [e1] at this; exact Nat.le_trans this hz0
        have hC1 : Hid (∀ W, RC g p0 W → Calls Tryz.prog 72 #[.pointer (some ⟨g, 0, none⟩)] W (Rds g (.int .i64 n1) t1 W)) := Lib.hid fun W hW => by have := RReg_any g p0 W hW hz0; rw [e1] at this; exact this
        replace e1 := Lib.hid e1
        obtain ⟨n2, t2, e2⟩ : ∃ n t, immS t1 = (n, t) := ⟨_, _, rfl⟩
        have hz2 : t2.size ≤ 1000000 := by have := immS_size t1; rw [e2] at this; exact Nat.le_trans this hz1
        have hC2 : Hid (∀ W, RC g t1 W → Calls Tryz.prog 73 #[.pointer (some ⟨g, 0, none⟩)] W (Rds g (.int .i64 n2) t2 W)) := Lib.hid fun W hW => by have := RImm_any g t1 W hW hz1; rw [e2] at this; exact this
        replace e2 := Lib.hid e2
        obtain ⟨n3, t3, e3⟩ : ∃ n t, regS t2 = (n, t) := ⟨_, _, rfl⟩
        have hz3 : t3.size ≤ 1000000 := by have := regS_size t2; rw [e3] at this; exact Nat.le_trans this hz2
        have hC3 : Hid (∀ W, RC g t2 W → Calls Tryz.prog 72 #[.pointer (some ⟨g, 0, none⟩)] W (Rds g (.int .i64 n3) t3 W)) := Lib.hid fun W hW => by have := RReg_any g t2 W hW hz2; rw [e3] at this; exact this
        replace e3 := Lib.hid e3
        clear hz1 hz2 hz3
        clear c0
        go_wp2_with (first | (go_at_call 72; (with_reducible refine (hC1.out _ hR0.e).mono ?_); rintro e v1 ⟨rfl, hE, hK⟩; replace hR0 := hR0.eats hE hK; clear hE hK hC1) | (go_at_call 73; (with_reducible refine (hC2.out _ hR0.e).mono ?_); rintro e v2 ⟨rfl, hE, hK⟩; replace hR0 := hR0.eats hE hK; clear hE hK hC2) | (go_at_call 72; (with_reducible refine (hC3.out _ hR0.e).mono ?_); rintro e v3 ⟨rfl, hE, hK⟩; replace hR0 := hR0.eats hE hK; clear hE hK hC3; have d1 : v3.cell? ⟨b, 1, none⟩ = some (.int .i64 0) := hR0.at_rd; have f1 := hR0.f 1 (by decide); have d4 : v3.cell? ⟨b, 4, none⟩ = some (.int .i64 0) := hR0.at_imm; have f4 := hR0.f 4 (by decide); have d2 : v3.cell? ⟨b, 2, none⟩ = some (.int .i64 0) := hR0.at_rs1; have f2 := hR0.f 2 (by decide)))
        go_meet
        refine ⟨t3, ?_⟩
        rw [hI.out]
        unfold fieldsS
        rw [if_neg (by decide), if_neg (by decide), if_pos (by decide)]
        simp only [e1.out, e2.out, e3.out]
        exact ((hR0.set_rd n1).set_imm n2).set_rs1 n3
      · as_aux_lemma =>
        obtain ⟨n1, t1, e1⟩ : ∃ n t, regS p0 = (n, t) := ⟨_, _, rfl⟩
        have hz1 : t1.size ≤ 1000000 := by have := regS_size p0; rw [e1] at this; exact Nat.le_trans this hz0
        have hC1 : Hid (∀ W, RC g p0 W → Calls Tryz.prog 72 #[.pointer (some ⟨g, 0, none⟩)] W (Rds g (.int .i64 n1) t1 W)) := Lib.hid fun W hW => by have := RReg_any g p0 W hW hz0; rw [e1] at this; exact this
        replace e1 := Lib.hid e1
        obtain ⟨n2, t2, e2⟩ : ∃ n t, immS t1 = (n, t) := ⟨_, _, rfl⟩
        have hz2 : t2.size ≤ 1000000 := by have := immS_size t1; rw [e2] at this; exact Nat.le_trans this hz1
        have hC2 : Hid (∀ W, RC g t1 W → Calls Tryz.prog 73 #[.pointer (some ⟨g, 0, none⟩)] W (Rds g (.int .i64 n2) t2 W)) := Lib.hid fun W hW => by have := RImm_any g t1 W hW hz1; rw [e2] at this; exact this
        replace e2 := Lib.hid e2
        obtain ⟨n3, t3, e3⟩ : ∃ n t, regS t2 = (n, t) := ⟨_, _, rfl⟩
        have hz3 : t3.size ≤ 1000000 := by have := regS_size t2; rw [e3] at this; exact Nat.le_trans this hz2
        have hC3 : Hid (∀ W, RC g t2 W → Calls Tryz.prog 72 #[.pointer (some ⟨g, 0, none⟩)] W (Rds g (.int .i64 n3) t3 W)) := Lib.hid fun W hW => by have := RReg_any g t2 W hW hz2; rw [e3] at this; exact this
        replace e3 := Lib.hid e3
        clear hz1 hz2 hz3
        clear c0
        go_wp2_with (first | (go_at_call 72; (with_reducible refine (hC1.out _ hR0.e).mono ?_); rintro e v1 ⟨rfl, hE, hK⟩; replace hR0 := hR0.eats hE hK; clear hE hK hC1) | (go_at_call 73; (with_reducible refine (hC2.out _ hR0.e).mono ?_); rintro e v2 ⟨rfl, hE, hK⟩; replace hR0 := hR0.eats hE hK; clear hE hK hC2) | (go_at_call 72; (with_reducible refine (hC3.out _ hR0.e).mono ?_); rintro e v3 ⟨rfl, hE, hK⟩; replace hR0 := hR0.eats hE hK; clear hE hK hC3; have d3 : v3.cell? ⟨b, 3, none⟩ = some (.int .i64 0) := hR0.at_rs2; have f3 := hR0.f 3 (by decide); have d4 : v3.cell? ⟨b, 4, none⟩ = some (.int .i64 0) := hR0.at_imm; have f4 := hR0.f 4 (by decide); have d2 : v3.cell? ⟨b, 2, none⟩ = some (.int .i64 0) := hR0.at_rs1; have f2 := hR0.f 2 (by decide)))
        go_meet
        refine ⟨t3, ?_⟩
        rw [hI.out]
        unfold fieldsS
        rw [if_neg (by decide), if_neg (by decide), if_neg (by decide), if_pos (by decide)]
        simp only [e1.out, e2.out, e3.out]
        exact ((hR0.set_rs2 n1).set_imm n2).set_rs1 n3
      · as_aux_lemma =>
        obtain ⟨n1, t1, e1⟩ : ∃ n t, regS p0 = (n, t) := ⟨_, _, rfl⟩
        have hz1 : t1.size ≤ 1000000 := by have := regS_size p0; rw [e1] at this; exact Nat.le_trans this hz0
        have hC1 : Hid (∀ W, RC g p0 W → Calls Tryz.prog 72 #[.pointer (some ⟨g, 0, none⟩)] W (Rds g (.int .i64 n1) t1 W)) := Lib.hid fun W hW => by have := RReg_any g p0 W hW hz0; rw [e1] at this; exact this
        replace e1 := Lib.hid e1
        obtain ⟨n2, t2, e2⟩ : ∃ n t, regS t1 = (n, t) := ⟨_, _, rfl⟩
        have hz2 : t2.size ≤ 1000000 := by have := regS_size t1; rw [e2] at this; exact Nat.le_trans this hz1
        have hC2 : Hid (∀ W, RC g t1 W → Calls Tryz.prog 72 #[.pointer (some ⟨g, 0, none⟩)] W (Rds g (.int .i64 n2) t2 W)) := Lib.hid fun W hW => by have := RReg_any g t1 W hW hz1; rw [e2] at this; exact this
        replace e2 := Lib.hid e2
        obtain ⟨n3, t3, e3⟩ : ∃ n t, immS t2 = (n, t) := ⟨_, _, rfl⟩
        have hz3 : t3.size ≤ 1000000 := by have := immS_size t2; rw [e3] at this; exact Nat.le_trans this hz2
        have hC3 : Hid (∀ W, RC g t2 W → Calls Tryz.prog 73 #[.pointer (some ⟨g, 0, none⟩)] W (Rds g (.int .i64 n3) t3 W)) := Lib.hid fun W hW => by have := RImm_any g t2 W hW hz2; rw [e3] at this; exact this
        replace e3 := Lib.hid e3
        clear hz1 hz2 hz3
        clear c0
        go_wp2_with (first | (go_at_call 72; (with_reducible refine (hC1.out _ hR0.e).mono ?_); rintro e v1 ⟨rfl, hE, hK⟩; replace hR0 := hR0.eats hE hK; clear hE hK hC1) | (go_at_call 72; (with_reducible refine (hC2.out _ hR0.e).mono ?_); rintro e v2 ⟨rfl, hE, hK⟩; replace hR0 := hR0.eats hE hK; clear hE hK hC2) | (go_at_call 73; (with_reducible refine (hC3.out _ hR0.e).mono ?_); rintro e v3 ⟨rfl, hE, hK⟩; replace hR0 := hR0.eats hE hK; clear hE hK hC3; have d2 : v3.cell? ⟨b, 2, none⟩ = some (.int .i64 0) := hR0.at_rs1; have f2 := hR0.f 2 (by decide); have d3 : v3.cell? ⟨b, 3, none⟩ = some (.int .i64 0) := hR0.at_rs2; have f3 := hR0.f 3 (by decide); have d4 : v3.cell? ⟨b, 4, none⟩ = some (.int .i64 0) := hR0.at_imm; have f4 := hR0.f 4 (by decide)))
        go_meet
        refine ⟨t3, ?_⟩
        rw [hI.out]
        unfold fieldsS
        rw [if_neg (by decide), if_neg (by decide), if_neg (by decide), if_neg (by decide), if_pos (by decide)]
        simp only [e1.out, e2.out, e3.out]
        exact ((hR0.set_rs1 n1).set_rs2 n2).set_imm n3
      · as_aux_lemma =>
        have tj : (op == 4) = true := by simpa using hj
        replace hj := Lib.hid hj
        obtain ⟨n1, t1, e1⟩ : ∃ n t, regS p0 = (n, t) := ⟨_, _, rfl⟩
        have hz1 : t1.size ≤ 1000000 := by have := regS_size p0; rw [e1] at this; exact Nat.le_trans this hz0
        have hC1 : Hid (∀ W, RC g p0 W → Calls Tryz.prog 72 #[.pointer (some ⟨g, 0, none⟩)] W (Rds g (.int .i64 n1) t1 W)) := Lib.hid fun W hW => by have := RReg_any g p0 W hW hz0; rw [e1] at this; exact this
        replace e1 := Lib.hid e1
        obtain ⟨n2, t2, e2⟩ : ∃ n t, immS t1 = (n, t) := ⟨_, _, rfl⟩
        have hz2 : t2.size ≤ 1000000 := by have := immS_size t1; rw [e2] at this; exact Nat.le_trans this hz1
        have hC2 : Hid (∀ W, RC g t1 W → Calls Tryz.prog 73 #[.pointer (some ⟨g, 0, none⟩)] W (Rds g (.int .i64 n2) t2 W)) := Lib.hid fun W hW => by have := RImm_any g t1 W hW hz1; rw [e2] at this; exact this
        replace e2 := Lib.hid e2
        obtain ⟨n3, t3, e3⟩ : ∃ n t, regS t2 = (n, t) := ⟨_, _, rfl⟩
        have hz3 : t3.size ≤ 1000000 := by have := regS_size t2; rw [e3] at this; exact Nat.le_trans this hz2
        have hC3 : Hid (∀ W, RC g t2 W → Calls Tryz.prog 72 #[.pointer (some ⟨g, 0, none⟩)] W (Rds g (.int .i64 n3) t3 W)) := Lib.hid fun W hW => by have := RReg_any g t2 W hW hz2; rw [e3] at this; exact this
        replace e3 := Lib.hid e3
        clear hz1 hz2 hz3
        clear c0
        go_upto_region 20 with (go_at_call 72; (with_reducible refine (hC1.out _ hR0.e).mono ?_); rintro e v1 ⟨rfl, hE, hK⟩; replace hR0 := hR0.eats hE hK; clear hE hK hC1; have d1 : v1.cell? ⟨b, 1, none⟩ = some (.int .i64 0) := hR0.at_rd; have f1 := hR0.f 1 (by decide))
        replace hR0 := hR0.set_rd n1
        clear d1 f1
        generalize World.setCell v1 _ _ = u1 at hR0 ⊢
        have c0 : u1.cell? ⟨b, 0, none⟩ = some (.int .i64 op) := hR0.at_op
        go_wp2_with (first | (go_at_call 73; (with_reducible refine (hC2.out _ hR0.e).mono ?_); rintro e v2 ⟨rfl, hE, hK⟩; replace hR0 := hR0.eats hE hK; clear hE hK hC2) | (go_at_call 72; (with_reducible refine (hC3.out _ hR0.e).mono ?_); rintro e v3 ⟨rfl, hE, hK⟩; replace hR0 := hR0.eats hE hK; clear hE hK hC3; have d4 : v3.cell? ⟨b, 4, none⟩ = some (.int .i64 0) := hR0.at_imm; have f4 := hR0.f 4 (by decide); have d2 : v3.cell? ⟨b, 2, none⟩ = some (.int .i64 0) := hR0.at_rs1; have f2 := hR0.f 2 (by decide)))
        go_meet
        refine ⟨t3, ?_⟩
        rw [hI.out]
        unfold fieldsS
        rw [if_neg (by decide), if_pos (by decide), if_pos hj.out]
        simp only [e1.out, e2.out, e3.out]
        exact (hR0.set_imm n2).set_rs1 n3
      · as_aux_lemma =>
        have tj : (op == 4) = false := by simpa using hj
        replace hj := Lib.hid hj
        obtain ⟨n1, t1, e1⟩ : ∃ n t, regS p0 = (n, t) := ⟨_, _, rfl⟩
        have hz1 : t1.size ≤ 1000000 := by have := regS_size p0; rw [e1] at this; exact Nat.le_trans this hz0
        have hC1 : Hid (∀ W, RC g p0 W → Calls Tryz.prog 72 #[.pointer (some ⟨g, 0, none⟩)] W (Rds g (.int .i64 n1) t1 W)) := Lib.hid fun W hW => by have := RReg_any g p0 W hW hz0; rw [e1] at this; exact this
        replace e1 := Lib.hid e1
        obtain ⟨n2, t2, e2⟩ : ∃ n t, regS t1 = (n, t) := ⟨_, _, rfl⟩
        have hz2 : t2.size ≤ 1000000 := by have := regS_size t1; rw [e2] at this; exact Nat.le_trans this hz1
        have hC2 : Hid (∀ W, RC g t1 W → Calls Tryz.prog 72 #[.pointer (some ⟨g, 0, none⟩)] W (Rds g (.int .i64 n2) t2 W)) := Lib.hid fun W hW => by have := RReg_any g t1 W hW hz1; rw [e2] at this; exact this
        replace e2 := Lib.hid e2
        obtain ⟨n3, t3, e3⟩ : ∃ n t, immS t2 = (n, t) := ⟨_, _, rfl⟩
        have hz3 : t3.size ≤ 1000000 := by have := immS_size t2; rw [e3] at this; exact Nat.le_trans this hz2
        have hC3 : Hid (∀ W, RC g t2 W → Calls Tryz.prog 73 #[.pointer (some ⟨g, 0, none⟩)] W (Rds g (.int .i64 n3) t3 W)) := Lib.hid fun W hW => by have := RImm_any g t2 W hW hz2; rw [e3] at this; exact this
        replace e3 := Lib.hid e3
        clear hz1 hz2 hz3
        clear c0
        go_upto_region 20 with (go_at_call 72; (with_reducible refine (hC1.out _ hR0.e).mono ?_); rintro e v1 ⟨rfl, hE, hK⟩; replace hR0 := hR0.eats hE hK; clear hE hK hC1; have d1 : v1.cell? ⟨b, 1, none⟩ = some (.int .i64 0) := hR0.at_rd; have f1 := hR0.f 1 (by decide))
        replace hR0 := hR0.set_rd n1
        clear d1 f1
        generalize World.setCell v1 _ _ = u1 at hR0 ⊢
        have c0 : u1.cell? ⟨b, 0, none⟩ = some (.int .i64 op) := hR0.at_op
        go_wp2_with (first | (go_at_call 72; (with_reducible refine (hC2.out _ hR0.e).mono ?_); rintro e v2 ⟨rfl, hE, hK⟩; replace hR0 := hR0.eats hE hK; clear hE hK hC2) | (go_at_call 73; (with_reducible refine (hC3.out _ hR0.e).mono ?_); rintro e v3 ⟨rfl, hE, hK⟩; replace hR0 := hR0.eats hE hK; clear hE hK hC3; have d2 : v3.cell? ⟨b, 2, none⟩ = some (.int .i64 0) := hR0.at_rs1; have f2 := hR0.f 2 (by decide); have d4 : v3.cell? ⟨b, 4, none⟩ = some (.int .i64 0) := hR0.at_imm; have f4 := hR0.f 4 (by decide)))
        go_meet
        refine ⟨t3, ?_⟩
        rw [hI.out]
        unfold fieldsS
        rw [if_neg (by decide), if_pos (by decide), if_neg hj.out]
        simp only [e1.out, e2.out, e3.out]
        exact (hR0.set_rs1 n2).set_imm n3
      · as_aux_lemma =>
        obtain ⟨n1, t1, e1⟩ : ∃ n t, regS p0 = (n, t) := ⟨_, _, rfl⟩
        have hz1 : t1.size ≤ 1000000 := by have := regS_size p0; rw [e1] at this; exact Nat.le_trans this hz0
        have hC1 : Hid (∀ W, RC g p0 W → Calls Tryz.prog 72 #[.pointer (some ⟨g, 0, none⟩)] W (Rds g (.int .i64 n1) t1 W)) := Lib.hid fun W hW => by have := RReg_any g p0 W hW hz0; rw [e1] at this; exact this
        replace e1 := Lib.hid e1
        obtain ⟨n2, t2, e2⟩ : ∃ n t, regS t1 = (n, t) := ⟨_, _, rfl⟩
        have hz2 : t2.size ≤ 1000000 := by have := regS_size t1; rw [e2] at this; exact Nat.le_trans this hz1
        have hC2 : Hid (∀ W, RC g t1 W → Calls Tryz.prog 72 #[.pointer (some ⟨g, 0, none⟩)] W (Rds g (.int .i64 n2) t2 W)) := Lib.hid fun W hW => by have := RReg_any g t1 W hW hz1; rw [e2] at this; exact this
        replace e2 := Lib.hid e2
        obtain ⟨n3, t3, e3⟩ : ∃ n t, regS t2 = (n, t) := ⟨_, _, rfl⟩
        have hz3 : t3.size ≤ 1000000 := by have := regS_size t2; rw [e3] at this; exact Nat.le_trans this hz2
        have hC3 : Hid (∀ W, RC g t2 W → Calls Tryz.prog 72 #[.pointer (some ⟨g, 0, none⟩)] W (Rds g (.int .i64 n3) t3 W)) := Lib.hid fun W hW => by have := RReg_any g t2 W hW hz2; rw [e3] at this; exact this
        replace e3 := Lib.hid e3
        clear hz1 hz2 hz3
        clear c0
        go_wp2_with (first | (go_at_call 72; (with_reducible refine (hC1.out _ hR0.e).mono ?_); rintro e v1 ⟨rfl, hE, hK⟩; replace hR0 := hR0.eats hE hK; clear hE hK hC1) | (go_at_call 72; (with_reducible refine (hC2.out _ hR0.e).mono ?_); rintro e v2 ⟨rfl, hE, hK⟩; replace hR0 := hR0.eats hE hK; clear hE hK hC2) | (go_at_call 72; (with_reducible refine (hC3.out _ hR0.e).mono ?_); rintro e v3 ⟨rfl, hE, hK⟩; replace hR0 := hR0.eats hE hK; clear hE hK hC3; have d1 : v3.cell? ⟨b, 1, none⟩ = some (.int .i64 0) := hR0.at_rd; have f1 := hR0.f 1 (by decide); have d2 : v3.cell? ⟨b, 2, none⟩ = some (.int .i64 0) := hR0.at_rs1; have f2 := hR0.f 2 (by decide); have d3 : v3.cell? ⟨b, 3, none⟩ = some (.int .i64 0) := hR0.at_rs2; have f3 := hR0.f 3 (by decide)))
        go_meet
        refine ⟨t3, ?_⟩
        rw [hI.out]
        unfold fieldsS
        rw [if_neg (by decide), if_neg (by decide), if_neg (by decide), if_neg (by decide), if_neg (by decide), if_pos (by decide)]
        simp only [e1.out, e2.out, e3.out]
        exact ((hR0.set_rd n1).set_rs1 n2).set_rs2 n3
      · as_aux_lemma =>
        obtain ⟨n1, t1, e1⟩ : ∃ n t, setS p0 = (n, t) := ⟨_, _, rfl⟩
        have hz1 : t1.size ≤ 1000000 := by have := setS_size p0; rw [e1] at this; exact Nat.le_trans this hz0
        have hC1 : Hid (∀ W, RC g p0 W → Calls Tryz.prog 74 #[.pointer (some ⟨g, 0, none⟩)] W (Rds g (.int .i64 n1) t1 W)) := Lib.hid fun W hW => by have := RSet_any g p0 W hW hz0; rw [e1] at this; exact this
        replace e1 := Lib.hid e1
        obtain ⟨n2, t2, e2⟩ : ∃ n t, setS t1 = (n, t) := ⟨_, _, rfl⟩
        have hz2 : t2.size ≤ 1000000 := by have := setS_size t1; rw [e2] at this; exact Nat.le_trans this hz1
        have hC2 : Hid (∀ W, RC g t1 W → Calls Tryz.prog 74 #[.pointer (some ⟨g, 0, none⟩)] W (Rds g (.int .i64 n2) t2 W)) := Lib.hid fun W hW => by have := RSet_any g t1 W hW hz1; rw [e2] at this; exact this
        replace e2 := Lib.hid e2
        clear hz1 hz2
        clear c0
        go_wp2_with (first | (go_at_call 74; (with_reducible refine (hC1.out _ hR0.e).mono ?_); rintro e v1 ⟨rfl, hE, hK⟩; replace hR0 := hR0.eats hE hK; clear hE hK hC1) | (go_at_call 74; (with_reducible refine (hC2.out _ hR0.e).mono ?_); rintro e v2 ⟨rfl, hE, hK⟩; replace hR0 := hR0.eats hE hK; clear hE hK hC2; have d7 : v2.cell? ⟨b, 7, none⟩ = some (.int .i64 0) := hR0.at_pred; have f7 := hR0.f 7 (by decide); have d8 : v2.cell? ⟨b, 8, none⟩ = some (.int .i64 0) := hR0.at_succ; have f8 := hR0.f 8 (by decide)))
        go_meet
        refine ⟨t2, ?_⟩
        rw [hI.out]
        unfold fieldsS
        rw [if_neg (by decide), if_neg (by decide), if_neg (by decide), if_neg (by decide), if_neg (by decide), if_neg (by decide), if_pos (by decide)]
        simp only [e1.out, e2.out]
        exact (hR0.set_pred n1).set_succ n2
      · as_aux_lemma =>
        obtain ⟨n1, t1, e1⟩ : ∃ n t, regS p0 = (n, t) := ⟨_, _, rfl⟩
        have hz1 : t1.size ≤ 1000000 := by have := regS_size p0; rw [e1] at this; exact Nat.le_trans this hz0
        have hC1 : Hid (∀ W, RC g p0 W → Calls Tryz.prog 72 #[.pointer (some ⟨g, 0, none⟩)] W (Rds g (.int .i64 n1) t1 W)) := Lib.hid fun W hW => by have := RReg_any g p0 W hW hz0; rw [e1] at this; exact this
        replace e1 := Lib.hid e1
        obtain ⟨n2, t2, e2⟩ : ∃ n t, regS t1 = (n, t) := ⟨_, _, rfl⟩
        have hz2 : t2.size ≤ 1000000 := by have := regS_size t1; rw [e2] at this; exact Nat.le_trans this hz1
        have hC2 : Hid (∀ W, RC g t1 W → Calls Tryz.prog 72 #[.pointer (some ⟨g, 0, none⟩)] W (Rds g (.int .i64 n2) t2 W)) := Lib.hid fun W hW => by have := RReg_any g t1 W hW hz1; rw [e2] at this; exact this
        replace e2 := Lib.hid e2
        clear hz1 hz2
        clear c0
        go_wp2_with (first | (go_at_call 72; (with_reducible refine (hC1.out _ hR0.e).mono ?_); rintro e v1 ⟨rfl, hE, hK⟩; replace hR0 := hR0.eats hE hK; clear hE hK hC1) | (go_at_call 72; (with_reducible refine (hC2.out _ hR0.e).mono ?_); rintro e v2 ⟨rfl, hE, hK⟩; replace hR0 := hR0.eats hE hK; clear hE hK hC2; have d1 : v2.cell? ⟨b, 1, none⟩ = some (.int .i64 0) := hR0.at_rd; have f1 := hR0.f 1 (by decide); have d2 : v2.cell? ⟨b, 2, none⟩ = some (.int .i64 0) := hR0.at_rs1; have f2 := hR0.f 2 (by decide)))
        go_meet
        refine ⟨t2, ?_⟩
        rw [hI.out]
        unfold fieldsS
        rw [if_neg (by decide), if_neg (by decide), if_neg (by decide), if_neg (by decide), if_neg (by decide), if_neg (by decide), if_neg (by decide), if_pos (by decide)]
        simp only [e1.out, e2.out]
        exact (hR0.set_rd n1).set_rs1 n2
      · as_aux_lemma =>
        obtain ⟨n1, t1, e1⟩ : ∃ n t, regS p0 = (n, t) := ⟨_, _, rfl⟩
        have hz1 : t1.size ≤ 1000000 := by have := regS_size p0; rw [e1] at this; exact Nat.le_trans this hz0
        have hC1 : Hid (∀ W, RC g p0 W → Calls Tryz.prog 72 #[.pointer (some ⟨g, 0, none⟩)] W (Rds g (.int .i64 n1) t1 W)) := Lib.hid fun W hW => by have := RReg_any g p0 W hW hz0; rw [e1] at this; exact this
        replace e1 := Lib.hid e1
        obtain ⟨n2, t2, e2⟩ : ∃ n t, regS t1 = (n, t) := ⟨_, _, rfl⟩
        have hz2 : t2.size ≤ 1000000 := by have := regS_size t1; rw [e2] at this; exact Nat.le_trans this hz1
        have hC2 : Hid (∀ W, RC g t1 W → Calls Tryz.prog 72 #[.pointer (some ⟨g, 0, none⟩)] W (Rds g (.int .i64 n2) t2 W)) := Lib.hid fun W hW => by have := RReg_any g t1 W hW hz1; rw [e2] at this; exact this
        replace e2 := Lib.hid e2
        obtain ⟨n3, t3, e3⟩ : ∃ n t, regS t2 = (n, t) := ⟨_, _, rfl⟩
        have hz3 : t3.size ≤ 1000000 := by have := regS_size t2; rw [e3] at this; exact Nat.le_trans this hz2
        have hC3 : Hid (∀ W, RC g t2 W → Calls Tryz.prog 72 #[.pointer (some ⟨g, 0, none⟩)] W (Rds g (.int .i64 n3) t3 W)) := Lib.hid fun W hW => by have := RReg_any g t2 W hW hz2; rw [e3] at this; exact this
        replace e3 := Lib.hid e3
        clear hz1 hz2 hz3
        clear c0
        go_wp2_with (first | (go_at_call 72; (with_reducible refine (hC1.out _ hR0.e).mono ?_); rintro e v1 ⟨rfl, hE, hK⟩; replace hR0 := hR0.eats hE hK; clear hE hK hC1) | (go_at_call 72; (with_reducible refine (hC2.out _ hR0.e).mono ?_); rintro e v2 ⟨rfl, hE, hK⟩; replace hR0 := hR0.eats hE hK; clear hE hK hC2) | (go_at_call 72; (with_reducible refine (hC3.out _ hR0.e).mono ?_); rintro e v3 ⟨rfl, hE, hK⟩; replace hR0 := hR0.eats hE hK; clear hE hK hC3; have d1 : v3.cell? ⟨b, 1, none⟩ = some (.int .i64 0) := hR0.at_rd; have f1 := hR0.f 1 (by decide); have d3 : v3.cell? ⟨b, 3, none⟩ = some (.int .i64 0) := hR0.at_rs2; have f3 := hR0.f 3 (by decide); have d2 : v3.cell? ⟨b, 2, none⟩ = some (.int .i64 0) := hR0.at_rs1; have f2 := hR0.f 2 (by decide)))
        go_meet
        refine ⟨t3, ?_⟩
        rw [hI.out]
        unfold fieldsS
        rw [if_neg (by decide), if_neg (by decide), if_neg (by decide), if_neg (by decide), if_neg (by decide), if_neg (by decide), if_neg (by decide), if_neg (by decide), if_pos (by decide)]
        simp only [e1.out, e2.out, e3.out]
        exact ((hR0.set_rd n1).set_rs2 n2).set_rs1 n3
      · as_aux_lemma =>
        clear c0
        rcases hkk with rfl | rfl
        · go_wp2_with fail
          go_meet
          exact ⟨p0, by rw [hI.out]; exact hR0⟩
        · go_wp2_with fail
          go_meet
          exact ⟨p0, by rw [hI.out]; exact hR0⟩
    case rest =>
      as_aux_lemma =>
        clear hI hR0 hfr hz0
        obtain ⟨pF, hR⟩ := hcut
        obtain ⟨ce, hce⟩ : ∃ c, checkE I0 = c := ⟨_, rfl⟩
        obtain ⟨tx, htx⟩ : ∃ t, textT I0 = t := ⟨_, rfl⟩
        have hTx : Hid (∀ W, Below w.heap.size w W → Calls Tryz.prog 29 #[.agg I0.cells] W fun e w' => e = .returned (.tuple #[.string ⟨tx.toArray⟩, .int .i64 ce]) ∧ Below W.heap.size W w') := Lib.hid fun W hb => by rw [← hce, ← htx]; exact IText_any I0 (by rw [hIop.out]; omega) hIim.out W (hT.out W hb).1 (hT.out W hb).2
        rw [hce, htx] at hRe
        obtain ⟨IL, hIL⟩ : ∃ l, I0.cells.toList = l := ⟨_, rfl⟩
        have hIL9 : Hid (IL.length = 9) := Lib.hid (by rw [← hIL]; rfl)
        have hILo : Hid (IL.toArray.all (·.oneCell') = true) := Lib.hid (by rw [← hIL, Array.toArray_toList]; exact InsnV.oneX I0)
        have hILc : Hid (IL.toArray = I0.cells) := Lib.hid (by rw [← hIL, Array.toArray_toList])
        have hi : Hid ((Tryz.prog.info? 23).map (·.size) = some IL.length) := Lib.hid (by rw [hIL9.out]; kernel_rfl)
        have hi2 : Hid ((Tryz.prog.info? 23).map (·.size) = some IL.toArray.size) := Lib.hid (by rw [List.size_toArray]; exact hi.out)
        have hrg := hR.range
        rw [hIL] at hrg
        rw [← hILc.out] at hTx
        replace hIL := Lib.hid hIL
        clear hce htx hT hIop hIim hbd2
        go_upto_region 38 with (first | (refine wpList_load_mid rfl 23 _ rfl b 0 rfl IL _ hrg hu rfl hi.out ?_) | (go_at_call 29; (with_reducible refine (hTx.out _ hR.bl).mono ?_); rintro e w8 ⟨rfl, hb8⟩))
        replace hR := hR.keep hb8
        clear hb8 hrg hTx
        have hrg := hR.range
        rw [hIL.out] at hrg
        by_cases hc0 : ce = 0
        · subst hc0
          by_cases ht0 : tx = s.toList
          · have te : (tx == s.toList) = true := by rw [ht0]; simp
            replace ht0 := Lib.hid ht0
            have hRR : Hid (R = (I0, 0)) := Lib.hid (by rw [hRe.out]; exact if_pos ⟨rfl, ht0.out⟩)
            have hth : Hid (w8.there w.heap.size 0 IL.toArray.size) := Lib.hid (by rw [show IL.toArray.size = 9 from (List.size_toArray).trans hIL9.out]; exact hR.r)
            go_wp2_with (first | (refine wpList_load_mid rfl 23 _ rfl b 0 rfl IL _ hrg hu rfl hi.out ?_) | (refine wpList_store_mid rfl 23 _ _ rfl w.heap.size 0 IL.toArray rfl rfl hth.out hi2.out hILo.out ?_))
            have hr5 := World.rangeAt_setCells_same w8 w.heap.size 0 IL (by rw [hIL9.out]; exact hR.r)
            have hlv := result_insnX _ w.heap.size _ hr5 hIL9.out
            have hbl := below_cellsX (Nat.le_refl w.heap.size) IL 0 w8 hR.bl
            generalize World.setCells w8 w.heap.size 0 IL = W5 at hlv hbl ⊢
            exact bodyPost_ret (v := .tuple #[.agg IL.toArray, .int .i64 0]) (by simp [results, Tryz.results26, asAddr, hlv]) rfl ⟨by rw [hRR.out, hILc.out], hbl⟩
          · have te : (tx == s.toList) = false := by simpa using ht0
            have hRR : Hid (R = (zeroI, 4)) := Lib.hid (by rw [hRe.out]; exact if_neg fun e => ht0 e.2)
            replace ht0 := Lib.hid ht0
            go_wp2_with (refine wpList_store_mid rfl 23 _ _ rfl w.heap.size 0 #[.int .i64 0, .int .i64 0, .int .i64 0, .int .i64 0, .int .i64 0, .bool false, .bool false, .int .i64 0, .int .i64 0] rfl rfl hR.r (by kernel_rfl) (by kernel_rfl) ?_)
            have hr5 := World.rangeAt_setCells_same w8 w.heap.size 0 zeroI.cells.toList hR.r
            have hlv := result_insnX _ w.heap.size _ hr5 rfl
            have hbl := below_cellsX (Nat.le_refl w.heap.size) zeroI.cells.toList 0 w8 hR.bl
            rw [Array.toArray_toList] at hlv
            change bodyPost _ _ _ _ _ (World.setCells w8 w.heap.size 0 zeroI.cells.toList)
            generalize World.setCells w8 w.heap.size 0 zeroI.cells.toList = W5 at hlv hbl ⊢
            exact bodyPost_ret (v := .tuple #[.agg zeroI.cells, .int .i64 4]) (by simp [results, Tryz.results26, asAddr, hlv]) rfl ⟨by rw [hRR.out], hbl⟩
        · have tc : (ce != 0) = true := by simpa using hc0
          have hRR : Hid (R = (zeroI, 4)) := Lib.hid (by rw [hRe.out]; exact if_neg fun e => hc0 e.1)
          replace hc0 := Lib.hid hc0
          go_wp2_with (refine wpList_store_mid rfl 23 _ _ rfl w.heap.size 0 #[.int .i64 0, .int .i64 0, .int .i64 0, .int .i64 0, .int .i64 0, .bool false, .bool false, .int .i64 0, .int .i64 0] rfl rfl hR.r (by kernel_rfl) (by kernel_rfl) ?_)
          have hr5 := World.rangeAt_setCells_same w8 w.heap.size 0 zeroI.cells.toList hR.r
          have hlv := result_insnX _ w.heap.size _ hr5 rfl
          have hbl := below_cellsX (Nat.le_refl w.heap.size) zeroI.cells.toList 0 w8 hR.bl
          rw [Array.toArray_toList] at hlv
          change bodyPost _ _ _ _ _ (World.setCells w8 w.heap.size 0 zeroI.cells.toList)
          generalize World.setCells w8 w.heap.size 0 zeroI.cells.toList = W5 at hlv hbl ⊢
          exact bodyPost_ret (v := .tuple #[.agg zeroI.cells, .int .i64 4]) (by simp [results, Tryz.results26, asAddr, hlv]) rfl ⟨by rw [hRR.out], hbl⟩
end
end Go.Proofs.YtdbpnbmaineniaaGreatDoor
