/- The walk of the reader's set; what insn.Read's walk keeps. Conditions: as each theorem says. -/
import Derived.Test.YtdbpnbmaineniaaGreatDoorRdWa
import Derived.Deep.MidRow
import Derived.Lib.OthersKept
import Derived.Deep.LoopGhost
set_option linter.unusedSimpArgs false
set_option linter.unusedVariables false
namespace Go.Proofs.YtdbpnbmaineniaaGreatDoor
open Go.RowKit
theorem fresh_thawX (w : World) (cs : Array Value) (t : TypeId) (j : Nat) : (w.alloc (.cells cs t)).frozen? ⟨w.heap.size, j, none⟩ = false := by
  rw [frozen?_alloc_cells]; unfold World.frozen?; rw [Array.getElem?_eq_none (Nat.le_refl _)]
theorem cells_freshX (w : World) (cs : Array Value) (t : TypeId) (n : Nat) (hn : n ≤ cs.size) : (w.alloc (.cells cs t)).there w.heap.size 0 n := fun j hj => by
  refine ⟨?_, fresh_thawX w cs t _⟩
  rw [World.cell?_alloc_new, Nat.zero_add, Array.getElem?_eq_getElem (by omega)]; rfl
theorem result_insnX (W : World) (a : Nat) (cs : List Value) (hr : W.rangeAt a 0 cs) (h9 : cs.length = 9) : (loadVar 23 ⟨a, 0, none⟩).run Tryz.prog W = .ok (.agg cs.toArray) W := run_loadVar_mid W a 0 23 cs _ hr Tryz.underlying23 rfl (by rw [h9]; kernel_rfl)
theorem below_cellsX {B a : Nat} {w : World} (ha : B ≤ a) : ∀ (vs : List Value) (o : Nat) (W : World), Below B w W → Below B w (W.setCells a o vs)
  | [], _, _, h => h
  | v :: vs, o, _, h => below_cellsX ha vs (o + 1) _ (h.setCell ha v)
theorem InsnV.oneX (i : InsnV) : i.cells.all (·.oneCell') = true := by
  obtain ⟨op, rd, r1, r2, imm, aq, rl, pred, succ⟩ := i; kernel_rfl
theorem idx4 (c : UInt8) : Lib.indexByte [105, 111, 114, 119] c = -1 ∨ Lib.indexByte [105, 111, 114, 119] c = 0 ∨ Lib.indexByte [105, 111, 114, 119] c = 1 ∨ Lib.indexByte [105, 111, 114, 119] c = 2 ∨ Lib.indexByte [105, 111, 114, 119] c = 3 := by
  unfold Lib.indexByte Lib.indexByte Lib.indexByte Lib.indexByte Lib.indexByte
  by_cases h1 : (105 == c) = true
  · simp [h1]
  · by_cases h2 : (111 == c) = true
    · simp [h1, h2]
    · by_cases h3 : (114 == c) = true
      · simp [h1, h2, h3]
      · by_cases h4 : (119 == c) = true
        · simp [h1, h2, h3, h4]
        · simp [h1, h2, h3, h4]
theorem or_bd : ∀ a : Fin 16, ∀ k : Fin 4, 0 ≤ bits .or .i64 ((a.1 : Nat) : Int) (8 / 2 ^ k.1) ∧ bits .or .i64 ((a.1 : Nat) : Int) (8 / 2 ^ k.1) ≤ 15 := by decide +kernel
theorem or_at (n : Int) (h0 : 0 ≤ n) (h1 : n ≤ 15) (k : Nat) (hk : k < 4) : 0 ≤ bits .or .i64 n (8 / 2 ^ k) ∧ bits .or .i64 n (8 / 2 ^ k) ≤ 15 := by
  have := or_bd ⟨n.toNat, by omega⟩ ⟨k, hk⟩
  simpa [Int.toNat_of_nonneg h0] using this
set_option maxRecDepth 100000 in
set_option maxHeartbeats 16000000 in
theorem RSet_any (g : Nat) (s : ByteArray) (W : World) (h : RC g s W) (hs : s.size ≤ 1000000) : Calls Tryz.prog 74 #[.pointer (some ⟨g, 0, none⟩)] W (Rds g (.int .i64 (setS s).1) (setS s).2 W) := by
  have hH := Lib.hid (RHead_any g s { data := #[44] } W h hs)
  have hE := Lib.hid (fun s W2 (p : ByteArray) h2 => REat_any g s p W2 h2)
  have hI : Hid (∀ (R : Nat) (c : Int) W2, c = (R : Int) % 256 → Calls Tryz.prog 130 #[.string { data := #[105, 111, 114, 119] }, .int .u8 c] W2 fun e w' => e = .returned (.int .i64 (Lib.indexByte [105, 111, 114, 119] (UInt8.ofNat (R % 256)))) ∧ w' = W2) := Lib.hid fun R c W2 hc => by
    have := Tryz.strings_IndexByte { data := #[105, 111, 114, 119] } c W2
    rw [hc] at this ⊢
    rw [show ((R : Int) % 256).toNat.toUInt8 = UInt8.ofNat (R % 256) from rfl] at this
    exact this
  unfold setS
  change Hid (Calls _ _ _ _ (Rds g (.string (headS [44] s)) (restS [44] s) W)) at hH
  have hz := headS_size [44] s
  generalize headS [44] s = a at hH hz ⊢
  generalize restS [44] s = r at hH ⊢
  have hgl := h.lt
  clear h
  obtain ⟨T, hT⟩ : ∃ T, setF a a.size 0 0 = T := ⟨_, rfl⟩
  rw [hT]
  go_enter Tryz.func74, Tryz.ntmps74
  go_upto_region 2 with (go_at_call 69; (with_reducible refine hH.out.mono ?_); rintro e w1 ⟨rfl, h1, k1⟩)
  replace h1 := Lib.hid h1
  replace k1 := Lib.hid k1
  clear hH
  go_loopg [2] a.size (fun gf n wx => ∃ (pos : Nat) (v : Int), n = .int .i64 v ∧ wx.heap[w1.heap.size]? = some (.stringIter a pos) ∧ Hid (Below w1.heap.size w1 wx) ∧ Hid (setF a gf pos v = T) ∧ a.size ≤ pos + gf ∧ 0 ≤ v ∧ v ≤ 15)
  case atStart => exact ⟨0, 0, rfl, World.iter_heap w1 a 0, Lib.hid ((Below.refl _ w1).alloc (Nat.le_refl _) _), Lib.hid hT, by omega, by decide, by decide⟩
  case round =>
    obtain ⟨pos, v, rfl, hit, hbw, hleft, hfu, v0, v1⟩ := hrel
    by_cases hps : pos < a.size
    · obtain ⟨g', rfl⟩ : ∃ g', gk = g' + 1 := ⟨gk - 1, by omega⟩
      have hnx : ∀ ty, (Instr.next (.pointer (some ⟨w1.heap.size, 0, none⟩)) true ty).run Tryz.prog wr = _ := fun ty => Lib.run_next_any_at wr w1.heap.size a pos ty hit hps
      have hwd := Lib.width_pos a pos
      obtain ⟨R, hR⟩ : ∃ R, (Utf8.decode a pos).1 = R := ⟨_, rfl⟩
      obtain ⟨K, hK⟩ : ∃ K, (Utf8.decode a pos).2 = K := ⟨_, rfl⟩
      have hl2 : setF a g' (pos + K) (setStep v R) = T := by
        have := hleft.out
        unfold setF at this
        rw [if_pos hps, hR, hK] at this
        exact this
      rw [hR, hK] at hnx
      rw [hK] at hwd
      have hit2 := Lib.iterAt_heap wr w1.heap.size a pos (pos + K) hit
      have hbw2 := Lib.below_iterAt hbw.out (k := w1.heap.size) (Nat.le_refl _) a (pos + K)
      obtain ⟨W2, hWd⟩ : ∃ W2, wr.iterAt w1.heap.size a (pos + K) = W2 := ⟨_, rfl⟩
      rw [hWd] at hnx hit2 hbw2
      have hbw3 := Lib.hid hbw2
      have hIR := Lib.hid (hI.out R)
      have hst : Hid (setStep v R = if 0 ≤ Lib.indexByte [105, 111, 114, 119] (UInt8.ofNat (R % 256)) then bits .or .i64 v (8 / 2 ^ (Lib.indexByte [105, 111, 114, 119] (UInt8.ofNat (R % 256))).toNat) else v) := Lib.hid rfl
      have h4 := idx4 (UInt8.ofNat (R % 256))
      have hfu2 : a.size ≤ pos + K + g' := by omega
      generalize Lib.indexByte [105, 111, 114, 119] (UInt8.ofNat (R % 256)) = J at hIR hst h4
      replace hl2 := Lib.hid hl2
      have hob := Lib.hid (or_at v v0 v1)
      clear hbw2 hR hK hWd hleft hit
      rcases h4 with rfl | rfl | rfl | rfl | rfl
      · have e : Hid (setStep v R = v) := Lib.hid (by rw [hst.out]; rfl)
        go_wp2_with (go_at_call 130; refine (hIR.out _ _ rfl).mono ?_; rintro e w4 ⟨rfl, rfl⟩)
        go_roundg g'
        case measure => omega
        case rel => exact ⟨pos + K, v, rfl, hit2, hbw3, Lib.hid (by rw [← e.out]; exact hl2.out), hfu2, v0, v1⟩
      · have e : Hid (setStep v R = bits .or .i64 v (8 / 2 ^ 0)) := Lib.hid (by rw [hst.out]; rfl)
        have hb := hob.out 0 (by decide)
        go_wp2_with (go_at_call 130; refine (hIR.out _ _ rfl).mono ?_; rintro e w4 ⟨rfl, rfl⟩)
        go_roundg g'
        case measure => omega
        case rel => exact ⟨pos + K, bits .or .i64 v (8 / 2 ^ 0), by go_num, hit2, hbw3, Lib.hid (by rw [← e.out]; exact hl2.out), hfu2, hb.1, hb.2⟩
      · have e : Hid (setStep v R = bits .or .i64 v (8 / 2 ^ 1)) := Lib.hid (by rw [hst.out]; rfl)
        have hb := hob.out 1 (by decide)
        go_wp2_with (go_at_call 130; refine (hIR.out _ _ rfl).mono ?_; rintro e w4 ⟨rfl, rfl⟩)
        go_roundg g'
        case measure => omega
        case rel => exact ⟨pos + K, bits .or .i64 v (8 / 2 ^ 1), by go_num, hit2, hbw3, Lib.hid (by rw [← e.out]; exact hl2.out), hfu2, hb.1, hb.2⟩
      · have e : Hid (setStep v R = bits .or .i64 v (8 / 2 ^ 2)) := Lib.hid (by rw [hst.out]; rfl)
        have hb := hob.out 2 (by decide)
        go_wp2_with (go_at_call 130; refine (hIR.out _ _ rfl).mono ?_; rintro e w4 ⟨rfl, rfl⟩)
        go_roundg g'
        case measure => omega
        case rel => exact ⟨pos + K, bits .or .i64 v (8 / 2 ^ 2), by go_num, hit2, hbw3, Lib.hid (by rw [← e.out]; exact hl2.out), hfu2, hb.1, hb.2⟩
      · have e : Hid (setStep v R = bits .or .i64 v (8 / 2 ^ 3)) := Lib.hid (by rw [hst.out]; rfl)
        have hb := hob.out 3 (by decide)
        go_wp2_with (go_at_call 130; refine (hIR.out _ _ rfl).mono ?_; rintro e w4 ⟨rfl, rfl⟩)
        go_roundg g'
        case measure => omega
        case rel => exact ⟨pos + K, bits .or .i64 v (8 / 2 ^ 3), by go_num, hit2, hbw3, Lib.hid (by rw [← e.out]; exact hl2.out), hfu2, hb.1, hb.2⟩
    · have hnx : ∀ ty, (Instr.next (.pointer (some ⟨w1.heap.size, 0, none⟩)) true ty).run Tryz.prog wr = _ := fun ty => Lib.run_next_end_at wr w1.heap.size a pos ty hit hps
      have e : v = T := by
        have := hleft.out
        cases gk with
        | zero => exact this
        | succ f => unfold setF at this; rw [if_neg hps] at this; exact this
      subst e
      have h2 := Lib.hid (h1.out.keep hbw.out)
      clear hit hleft
      go_wp2_with (go_at_call 70; (with_reducible refine (hE.out _ _ _ h2.out).mono ?_); rintro e w4 ⟨rfl, h4, k4⟩)
      go_ret
      exact ⟨rfl, h4, (k1.out.trans (KE.of_below hbw.out (Nat.le_of_lt h1.out.lt))).trans k4⟩
/-- The walk's frame: the reader in g, the instruction in b, the answer in the world's first new block. -/
structure RG (w : World) (g b : Nat) (p : ByteArray) (i : InsnV) (W : World) : Prop where
  e : RC g p W
  c : ∀ j, j < 9 → W.cell? ⟨b, j, none⟩ = i.cells[j]?
  f : ∀ j, j < 9 → W.frozen? ⟨b, j, none⟩ = false
  r : W.there w.heap.size 0 9
  bl : Below w.heap.size w W
  l1 : w.heap.size < g
  l2 : g < b
  lt : b < W.heap.size
  q1 : 12 < w.heap.size
  q2 : 13 < w.heap.size
theorem RG.eats {w W W' : World} {g b : Nat} {p q : ByteArray} {i : InsnV} (h : RG w g b p i W) (hE : RC g q W') (hK : KE g W W') : RG w g b q i W' := by
  have h1 := h.l1; have h2 := h.l2; have h3 := h.lt
  exact ⟨hE, fun j hj => by rw [hK.cell j h3 (by omega)]; exact h.c j hj, fun j hj => by rw [hK.frozen j h3 (by omega)]; exact h.f j hj,
    fun j hj => by rw [hK.cell (0 + j) (by omega) (by omega), hK.frozen (0 + j) (by omega) (by omega)]; exact h.r j hj, h.bl.trans (hK.bl.mono (by omega)), h1, h2, Nat.lt_of_lt_of_le h3 hK.bl.size, h.q1, h.q2⟩
theorem RG.keep {w W W' : World} {g b : Nat} {p : ByteArray} {i : InsnV} (h : RG w g b p i W) (hb : Below W.heap.size W W') : RG w g b p i W' :=
  h.eats (h.e.keep hb) (KE.of_below hb (Nat.le_of_lt (Nat.lt_trans h.l2 h.lt)))
theorem RG.put {w W : World} {g b : Nat} {p : ByteArray} {i i' : InsnV} (h : RG w g b p i W) (j : Nat) (hj : j < 9) (v : Value) (hi : ∀ k, k < 9 → i'.cells[k]? = if k = j then some v else i.cells[k]?) : RG w g b p i' (W.setCell ⟨b, j, none⟩ v) := by
  have h1 := h.l1; have h2 := h.l2; have h3 := h.lt; have hq1 := h.q1; have hq2 := h.q2
  have hK : KE b W (W.setCell ⟨b, j, none⟩ v) := (KE.refl b W).setCell j v
  obtain ⟨u, hu⟩ : ∃ u, W.cell? ⟨b, j, none⟩ = some u := by rw [h.c j hj]; exact ⟨i.cells[j]'hj, Array.getElem?_eq_getElem hj⟩
  have hge : g < W.heap.size := by omega
  obtain ⟨⟨e1, a1, b1⟩, ⟨e2, a2, b2⟩, m1, m2⟩ := h.e.ev
  refine ⟨⟨by rw [hK.cell 0 hge (by omega)]; exact h.e.c, by rw [hK.frozen 0 hge (by omega)]; exact h.e.f, Nat.lt_of_lt_of_le hge hK.bl.size, ⟨⟨e1, by rw [hK.cell 0 m1 (by omega)]; exact a1, b1⟩, ⟨e2, by rw [hK.cell 0 m2 (by omega)]; exact a2, b2⟩, Nat.lt_of_lt_of_le m1 hK.bl.size, Nat.lt_of_lt_of_le m2 hK.bl.size⟩, h.e.n1, h.e.n2⟩, fun k hk => ?_, fun k hk => ?_, fun k hk => ?_, h.bl.trans (hK.bl.mono (by omega)), h1, h2, Nat.lt_of_lt_of_le h3 hK.bl.size, hq1, hq2⟩
  · rw [setCell_in hu, hi k hk]
    split
    · rfl
    · exact h.c k hk
  · rw [setCell_froz]; exact h.f k hk
  · rw [hK.cell (0 + k) (by omega) (by omega), hK.frozen (0 + k) (by omega) (by omega)]; exact h.r k hk
theorem RG.range {w W : World} {g b : Nat} {p : ByteArray} {i : InsnV} (h : RG w g b p i W) : W.rangeAt b 0 i.cells.toList := fun j v hv => by
  have hj : j < 9 := by
    rcases Nat.lt_or_ge j 9 with hj | hj
    · exact hj
    · rw [List.getElem?_eq_none (show i.cells.toList.length ≤ j from hj)] at hv; cases hv
  rw [Nat.zero_add, h.c j hj]
  simpa using hv
theorem nine {k : Nat} (h : k < 9) : k = 0 ∨ k = 1 ∨ k = 2 ∨ k = 3 ∨ k = 4 ∨ k = 5 ∨ k = 6 ∨ k = 7 ∨ k = 8 := by omega
theorem RG.set_op {w W : World} {g b : Nat} {p : ByteArray} {i : InsnV} (h : RG w g b p i W) (n : Int) : RG w g b p { i with op := n } (W.setCell ⟨b, 0, none⟩ (.int .i64 n)) := h.put 0 (by decide) _ fun k hk => by
  rcases nine hk with rfl | rfl | rfl | rfl | rfl | rfl | rfl | rfl | rfl <;> rfl
theorem RG.at_op {w W : World} {g b : Nat} {p : ByteArray} {i : InsnV} (h : RG w g b p i W) : W.cell? ⟨b, 0, none⟩ = some (.int .i64 i.op) := h.c 0 (by decide)
theorem RG.set_rd {w W : World} {g b : Nat} {p : ByteArray} {i : InsnV} (h : RG w g b p i W) (n : Int) : RG w g b p { i with rd := n } (W.setCell ⟨b, 1, none⟩ (.int .i64 n)) := h.put 1 (by decide) _ fun k hk => by
  rcases nine hk with rfl | rfl | rfl | rfl | rfl | rfl | rfl | rfl | rfl <;> rfl
theorem RG.at_rd {w W : World} {g b : Nat} {p : ByteArray} {i : InsnV} (h : RG w g b p i W) : W.cell? ⟨b, 1, none⟩ = some (.int .i64 i.rd) := h.c 1 (by decide)
theorem RG.set_rs1 {w W : World} {g b : Nat} {p : ByteArray} {i : InsnV} (h : RG w g b p i W) (n : Int) : RG w g b p { i with rs1 := n } (W.setCell ⟨b, 2, none⟩ (.int .i64 n)) := h.put 2 (by decide) _ fun k hk => by
  rcases nine hk with rfl | rfl | rfl | rfl | rfl | rfl | rfl | rfl | rfl <;> rfl
theorem RG.at_rs1 {w W : World} {g b : Nat} {p : ByteArray} {i : InsnV} (h : RG w g b p i W) : W.cell? ⟨b, 2, none⟩ = some (.int .i64 i.rs1) := h.c 2 (by decide)
theorem RG.set_rs2 {w W : World} {g b : Nat} {p : ByteArray} {i : InsnV} (h : RG w g b p i W) (n : Int) : RG w g b p { i with rs2 := n } (W.setCell ⟨b, 3, none⟩ (.int .i64 n)) := h.put 3 (by decide) _ fun k hk => by
  rcases nine hk with rfl | rfl | rfl | rfl | rfl | rfl | rfl | rfl | rfl <;> rfl
theorem RG.at_rs2 {w W : World} {g b : Nat} {p : ByteArray} {i : InsnV} (h : RG w g b p i W) : W.cell? ⟨b, 3, none⟩ = some (.int .i64 i.rs2) := h.c 3 (by decide)
theorem RG.set_imm {w W : World} {g b : Nat} {p : ByteArray} {i : InsnV} (h : RG w g b p i W) (n : Int) : RG w g b p { i with imm := n } (W.setCell ⟨b, 4, none⟩ (.int .i64 n)) := h.put 4 (by decide) _ fun k hk => by
  rcases nine hk with rfl | rfl | rfl | rfl | rfl | rfl | rfl | rfl | rfl <;> rfl
theorem RG.at_imm {w W : World} {g b : Nat} {p : ByteArray} {i : InsnV} (h : RG w g b p i W) : W.cell? ⟨b, 4, none⟩ = some (.int .i64 i.imm) := h.c 4 (by decide)
theorem RG.set_aq {w W : World} {g b : Nat} {p : ByteArray} {i : InsnV} (h : RG w g b p i W) (n : Bool) : RG w g b p { i with aq := n } (W.setCell ⟨b, 5, none⟩ (.bool n)) := h.put 5 (by decide) _ fun k hk => by
  rcases nine hk with rfl | rfl | rfl | rfl | rfl | rfl | rfl | rfl | rfl <;> rfl
theorem RG.at_aq {w W : World} {g b : Nat} {p : ByteArray} {i : InsnV} (h : RG w g b p i W) : W.cell? ⟨b, 5, none⟩ = some (.bool i.aq) := h.c 5 (by decide)
theorem RG.set_rl {w W : World} {g b : Nat} {p : ByteArray} {i : InsnV} (h : RG w g b p i W) (n : Bool) : RG w g b p { i with rl := n } (W.setCell ⟨b, 6, none⟩ (.bool n)) := h.put 6 (by decide) _ fun k hk => by
  rcases nine hk with rfl | rfl | rfl | rfl | rfl | rfl | rfl | rfl | rfl <;> rfl
theorem RG.at_rl {w W : World} {g b : Nat} {p : ByteArray} {i : InsnV} (h : RG w g b p i W) : W.cell? ⟨b, 6, none⟩ = some (.bool i.rl) := h.c 6 (by decide)
theorem RG.set_pred {w W : World} {g b : Nat} {p : ByteArray} {i : InsnV} (h : RG w g b p i W) (n : Int) : RG w g b p { i with pred := n } (W.setCell ⟨b, 7, none⟩ (.int .i64 n)) := h.put 7 (by decide) _ fun k hk => by
  rcases nine hk with rfl | rfl | rfl | rfl | rfl | rfl | rfl | rfl | rfl <;> rfl
theorem RG.at_pred {w W : World} {g b : Nat} {p : ByteArray} {i : InsnV} (h : RG w g b p i W) : W.cell? ⟨b, 7, none⟩ = some (.int .i64 i.pred) := h.c 7 (by decide)
theorem RG.set_succ {w W : World} {g b : Nat} {p : ByteArray} {i : InsnV} (h : RG w g b p i W) (n : Int) : RG w g b p { i with succ := n } (W.setCell ⟨b, 8, none⟩ (.int .i64 n)) := h.put 8 (by decide) _ fun k hk => by
  rcases nine hk with rfl | rfl | rfl | rfl | rfl | rfl | rfl | rfl | rfl <;> rfl
theorem RG.at_succ {w W : World} {g b : Nat} {p : ByteArray} {i : InsnV} (h : RG w g b p i W) : W.cell? ⟨b, 8, none⟩ = some (.int .i64 i.succ) := h.c 8 (by decide)
end Go.Proofs.YtdbpnbmaineniaaGreatDoor
