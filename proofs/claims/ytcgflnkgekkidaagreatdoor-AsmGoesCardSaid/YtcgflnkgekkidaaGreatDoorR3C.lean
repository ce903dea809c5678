/- The walk of the document's like: what instruction a word would be. The walk of the document's Insn: the instruction of a word. The walk of the document's Dump. Conditions: as each theorem says. -/
import Derived.Test.YtcgflnkgekkidaaGreatDoorR3A
import Derived.Test.YtcgflnkgekkidaaGreatDoorCodeWC
import Derived.Deep.CutBlock
import Derived.Deep.DeepCutAuto
import Derived.Test.YtcgflnkgekkidaaGreatDoorR3B
import Derived.Deep.LoopGhost
import Derived.Test.YtcgflnkgekkidaaGreatDoorTextCG
import Derived.Test.YtcgflnkgekkidaaGreatDoorTextAB
import Derived.Test.YtcgflnkgekkidaaGreatDoorCodeA
set_option linter.unusedSimpArgs false
set_option linter.unusedVariables false
namespace Go.Proofs.YtcgflnkgekkidaaGreatDoor
open Go.RowKit
/-- An instruction in a box b, the answer's box ahead of it. -/
structure IB (w : World) (b : Nat) (i : InsnV) (W : World) : Prop where
  c : ∀ j, j < 9 → W.cell? ⟨b, j, none⟩ = i.cells[j]?
  f : ∀ j, j < 9 → W.frozen? ⟨b, j, none⟩ = false
  r : W.there w.heap.size 0 9
  bl : Below w.heap.size w W
  l1 : w.heap.size < b
  lt : b < W.heap.size
theorem IB.put {w W : World} {b : Nat} {i i' : InsnV} (h : IB w b i W) (j : Nat) (hj : j < 9) (v : Value) (hi : ∀ k, k < 9 → i'.cells[k]? = if k = j then some v else i.cells[k]?) : IB w b i' (W.setCell ⟨b, j, none⟩ v) := by
  have h1 := h.l1; have h3 := h.lt
  have hK : KE b W (W.setCell ⟨b, j, none⟩ v) := (KE.refl b W).setCell j v
  obtain ⟨u, hu⟩ : ∃ u, W.cell? ⟨b, j, none⟩ = some u := by rw [h.c j hj]; exact ⟨i.cells[j]'hj, Array.getElem?_eq_getElem hj⟩
  refine ⟨fun k hk => ?_, fun k hk => ?_, fun k hk => ?_, h.bl.trans (hK.bl.mono (by omega)), h1, Nat.lt_of_lt_of_le h3 hK.bl.size⟩
  · rw [setCell_in hu, hi k hk]
    split
    · rfl
    · exact h.c k hk
  · rw [setCell_froz]; exact h.f k hk
  · rw [hK.cell (0 + k) (by omega) (by omega), hK.frozen (0 + k) (by omega) (by omega)]; exact h.r k hk
theorem IB.range {w W : World} {b : Nat} {i : InsnV} (h : IB w b i W) : W.rangeAt b 0 i.cells.toList := fun j v hv => by
  have hj : j < 9 := by
    rcases Nat.lt_or_ge j 9 with hj | hj
    · exact hj
    · rw [List.getElem?_eq_none (show i.cells.toList.length ≤ j from hj)] at hv; cases hv
  rw [Nat.zero_add, h.c j hj]
  simpa using hv
theorem IB.set_rd {w W : World} {b : Nat} {i : InsnV} (h : IB w b i W) (n : Int) : IB w b { i with rd := n } (W.setCell ⟨b, 1, none⟩ (.int .i64 n)) := h.put 1 (by decide) _ fun k hk => by
  rcases (show k = 0 ∨ k = 1 ∨ k = 2 ∨ k = 3 ∨ k = 4 ∨ k = 5 ∨ k = 6 ∨ k = 7 ∨ k = 8 by omega) with rfl | rfl | rfl | rfl | rfl | rfl | rfl | rfl | rfl <;> rfl
theorem IB.set_rs1 {w W : World} {b : Nat} {i : InsnV} (h : IB w b i W) (n : Int) : IB w b { i with rs1 := n } (W.setCell ⟨b, 2, none⟩ (.int .i64 n)) := h.put 2 (by decide) _ fun k hk => by
  rcases (show k = 0 ∨ k = 1 ∨ k = 2 ∨ k = 3 ∨ k = 4 ∨ k = 5 ∨ k = 6 ∨ k = 7 ∨ k = 8 by omega) with rfl | rfl | rfl | rfl | rfl | rfl | rfl | rfl | rfl <;> rfl
theorem IB.set_rs2 {w W : World} {b : Nat} {i : InsnV} (h : IB w b i W) (n : Int) : IB w b { i with rs2 := n } (W.setCell ⟨b, 3, none⟩ (.int .i64 n)) := h.put 3 (by decide) _ fun k hk => by
  rcases (show k = 0 ∨ k = 1 ∨ k = 2 ∨ k = 3 ∨ k = 4 ∨ k = 5 ∨ k = 6 ∨ k = 7 ∨ k = 8 by omega) with rfl | rfl | rfl | rfl | rfl | rfl | rfl | rfl | rfl <;> rfl
theorem IB.set_imm {w W : World} {b : Nat} {i : InsnV} (h : IB w b i W) (n : Int) : IB w b { i with imm := n } (W.setCell ⟨b, 4, none⟩ (.int .i64 n)) := h.put 4 (by decide) _ fun k hk => by
  rcases (show k = 0 ∨ k = 1 ∨ k = 2 ∨ k = 3 ∨ k = 4 ∨ k = 5 ∨ k = 6 ∨ k = 7 ∨ k = 8 by omega) with rfl | rfl | rfl | rfl | rfl | rfl | rfl | rfl | rfl <;> rfl
theorem IB.set_aq {w W : World} {b : Nat} {i : InsnV} (h : IB w b i W) (n : Bool) : IB w b { i with aq := n } (W.setCell ⟨b, 5, none⟩ (.bool n)) := h.put 5 (by decide) _ fun k hk => by
  rcases (show k = 0 ∨ k = 1 ∨ k = 2 ∨ k = 3 ∨ k = 4 ∨ k = 5 ∨ k = 6 ∨ k = 7 ∨ k = 8 by omega) with rfl | rfl | rfl | rfl | rfl | rfl | rfl | rfl | rfl <;> rfl
theorem IB.set_rl {w W : World} {b : Nat} {i : InsnV} (h : IB w b i W) (n : Bool) : IB w b { i with rl := n } (W.setCell ⟨b, 6, none⟩ (.bool n)) := h.put 6 (by decide) _ fun k hk => by
  rcases (show k = 0 ∨ k = 1 ∨ k = 2 ∨ k = 3 ∨ k = 4 ∨ k = 5 ∨ k = 6 ∨ k = 7 ∨ k = 8 by omega) with rfl | rfl | rfl | rfl | rfl | rfl | rfl | rfl | rfl <;> rfl
theorem IB.set_pred {w W : World} {b : Nat} {i : InsnV} (h : IB w b i W) (n : Int) : IB w b { i with pred := n } (W.setCell ⟨b, 7, none⟩ (.int .i64 n)) := h.put 7 (by decide) _ fun k hk => by
  rcases (show k = 0 ∨ k = 1 ∨ k = 2 ∨ k = 3 ∨ k = 4 ∨ k = 5 ∨ k = 6 ∨ k = 7 ∨ k = 8 by omega) with rfl | rfl | rfl | rfl | rfl | rfl | rfl | rfl | rfl <;> rfl
theorem IB.set_succ {w W : World} {b : Nat} {i : InsnV} (h : IB w b i W) (n : Int) : IB w b { i with succ := n } (W.setCell ⟨b, 8, none⟩ (.int .i64 n)) := h.put 8 (by decide) _ fun k hk => by
  rcases (show k = 0 ∨ k = 1 ∨ k = 2 ∨ k = 3 ∨ k = 4 ∨ k = 5 ∨ k = 6 ∨ k = 7 ∨ k = 8 by omega) with rfl | rfl | rfl | rfl | rfl | rfl | rfl | rfl | rfl <;> rfl
theorem zero_there (w : World) (t : TypeId) : (w.alloc (.cells #[.int .i64 0, .int .i64 0, .int .i64 0, .int .i64 0, .int .i64 0, .bool false, .bool false, .int .i64 0, .int .i64 0] t)).there w.heap.size 0 9 := cells_fresh w #[.int .i64 0, .int .i64 0, .int .i64 0, .int .i64 0, .int .i64 0, .bool false, .bool false, .int .i64 0, .int .i64 0] t 9 (by decide)
theorem IB.start (w : World) (i : InsnV) (t t2 : TypeId) : IB w (w.heap.size + 1) i (World.setCells ((w.alloc (.cells #[.int .i64 0, .int .i64 0, .int .i64 0, .int .i64 0, .int .i64 0, .bool false, .bool false, .int .i64 0, .int .i64 0] t)).alloc (.cells #[.int .i64 0, .int .i64 0, .int .i64 0, .int .i64 0, .int .i64 0, .bool false, .bool false, .int .i64 0, .int .i64 0] t2)) (w.heap.size + 1) 0 i.cells.toList) := by
  have s1 : (w.alloc (.cells #[.int .i64 0, .int .i64 0, .int .i64 0, .int .i64 0, .int .i64 0, .bool false, .bool false, .int .i64 0, .int .i64 0] t)).heap.size = w.heap.size + 1 := by simp
  obtain ⟨a, b, c, d⟩ := copied (s := w.alloc (.cells #[.int .i64 0, .int .i64 0, .int .i64 0, .int .i64 0, .int .i64 0, .bool false, .bool false, .int .i64 0, .int .i64 0] t)) (cs := i.cells.toList) i.list_len #[.int .i64 0, .int .i64 0, .int .i64 0, .int .i64 0, .int .i64 0, .bool false, .bool false, .int .i64 0, .int .i64 0] rfl t2
  rw [s1] at a b c d
  have h0 := zero_there w t
  have hb : Below w.heap.size w (w.alloc (.cells #[.int .i64 0, .int .i64 0, .int .i64 0, .int .i64 0, .int .i64 0, .bool false, .bool false, .int .i64 0, .int .i64 0] t)) := (Below.refl _ _).alloc (Nat.le_refl _) _
  refine ⟨fun j hj => ?_, fun j hj => there_thaw d j hj, fun j hj => ?_, hb.trans (a.mono (by omega)), by omega, c⟩
  · have := b j (i.cells[j]'hj) (by rw [Array.getElem?_toList, Array.getElem?_eq_getElem hj])
    rw [Nat.zero_add] at this
    rw [this, Array.getElem?_eq_getElem hj]
  · rw [a.cell (p := ⟨w.heap.size, 0 + j, none⟩) (by show w.heap.size < _; omega), a.frozen (p := ⟨w.heap.size, 0 + j, none⟩) (by show w.heap.size < _; omega)]; exact h0 j hj
section
attribute [local irreducible] un sn Part Sign un32
attribute [local go_sem] wrap_u64_bv bv_un bv_sn bv_add bv_mul bv_neg bv_sub mul_bvpow shr_min shl_min sshr_min bv_lit bv_0 bv_1 un_shr sn_shr wrap_i64_un bits_u64_and bits_u64_or bits_u64_xor bits_u64_andNot bv_max u64_unsigned wrap_u32_un
theorem mulT (x : BitVec 64) : x * 1048576#64 = x <<< 20 ∧ x * 4096#64 = x <<< 12 ∧ x * 2048#64 = x <<< 11 ∧ x * 32#64 = x <<< 5 ∧ x * 2#64 = x <<< 1 := ⟨mul_bvpow x 20, mul_bvpow x 12, mul_bvpow x 11, mul_bvpow x 5, mul_bvpow x 1⟩
theorem dec_some (op : Int) (X : BitVec 64) : decV 1 op X = { (⟨op, 0, 0, 0, 0, false, false, 0, 0⟩ : InsnV) with rd := sn (Part X 7 5), imm := sn (Sign (Part X 12 20) 20) } ∧ decV 2 op X = { (⟨op, 0, 0, 0, 0, false, false, 0, 0⟩ : InsnV) with rd := sn (Part X 7 5), imm := sn (Sign (Part X 31 1 * 1048576#64 + Part X 12 8 * 4096#64 + Part X 20 1 * 2048#64 + Part X 21 10 * 2#64) 21) } ∧ decV 3 op X = { (⟨op, 0, 0, 0, 0, false, false, 0, 0⟩ : InsnV) with rd := sn (Part X 7 5), rs1 := sn (Part X 15 5), imm := sn (Sign (Part X 20 12) 12) } ∧ decV 4 op X = { (⟨op, 0, 0, 0, 0, false, false, 0, 0⟩ : InsnV) with rd := sn (Part X 7 5), rs1 := sn (Part X 15 5), imm := sn (Sign (Part X 20 12) 12) } ∧ decV 5 op X = { (⟨op, 0, 0, 0, 0, false, false, 0, 0⟩ : InsnV) with rs1 := sn (Part X 15 5), rs2 := sn (Part X 20 5), imm := sn (Sign (Part X 25 7 * 32#64 + Part X 7 5) 12) } ∧ decV 6 op X = { (⟨op, 0, 0, 0, 0, false, false, 0, 0⟩ : InsnV) with rs1 := sn (Part X 15 5), rs2 := sn (Part X 20 5), imm := sn (Sign (Part X 31 1 * 4096#64 + Part X 7 1 * 2048#64 + Part X 25 6 * 32#64 + Part X 8 4 * 2#64) 13) } ∧ decV 7 op X = { (⟨op, 0, 0, 0, 0, false, false, 0, 0⟩ : InsnV) with rd := sn (Part X 7 5), rs1 := sn (Part X 15 5), imm := sn (Part X 20 6) } ∧ decV 8 op X = { (⟨op, 0, 0, 0, 0, false, false, 0, 0⟩ : InsnV) with rd := sn (Part X 7 5), rs1 := sn (Part X 15 5), rs2 := sn (Part X 20 5) } ∧ decV 9 op X = { (⟨op, 0, 0, 0, 0, false, false, 0, 0⟩ : InsnV) with pred := sn (Part X 24 4), succ := sn (Part X 20 4) } ∧ decV 11 op X = { (⟨op, 0, 0, 0, 0, false, false, 0, 0⟩ : InsnV) with rd := sn (Part X 7 5), rs1 := sn (Part X 15 5), aq := (un (Part X 26 1) == 1), rl := (un (Part X 25 1) == 1) } ∧ decV 12 op X = { (⟨op, 0, 0, 0, 0, false, false, 0, 0⟩ : InsnV) with rd := sn (Part X 7 5), rs1 := sn (Part X 15 5), rs2 := sn (Part X 20 5), aq := (un (Part X 26 1) == 1), rl := (un (Part X 25 1) == 1) } ∧ decV 0 op X = ⟨op, 0, 0, 0, 0, false, false, 0, 0⟩ ∧ decV 10 op X = ⟨op, 0, 0, 0, 0, false, false, 0, 0⟩ := by
  refine ⟨by rw [like_U]; rfl, by simp only [(mulT _).1, (mulT _).2.1, (mulT _).2.2.1, (mulT _).2.2.2.1, (mulT _).2.2.2.2]; rw [like_J]; rfl, by rw [like_I]; rfl, by rw [show (Part X 20 12) = immGet X (pieces 4) (pieces 4).length from like_I X]; rfl, by simp only [(mulT _).1, (mulT _).2.1, (mulT _).2.2.1, (mulT _).2.2.2.1, (mulT _).2.2.2.2]; rw [like_S]; rfl, by simp only [(mulT _).1, (mulT _).2.1, (mulT _).2.2.1, (mulT _).2.2.2.1, (mulT _).2.2.2.2]; rw [like_B]; rfl, rfl, rfl, rfl, rfl, rfl, rfl, rfl⟩
set_option maxRecDepth 100000 in
set_option maxHeartbeats 16000000 in
theorem R3like_any (x : BitVec 32) (op : Int) (w : World) : Calls Tryz.prog 86 #[.int .u32 (un32 x), .int .i64 op] w fun e w' => e = .returned (.agg (decI op x).cells) ∧ Below w.heap.size w w' := by
  have hu := Tryz.underlying26
  have hP : Hid (∀ f n W, Calls Tryz.prog 88 #[.int .u32 (un32 x), .int .i64 f, .int .i64 n] W fun e w' => e = .returned (.int .i64 (sn (Part (x.setWidth 64) f n))) ∧ W = w') := Lib.hid fun f n W => R3part_any x f n W
  have hQ : Hid (∀ f n W, Calls Tryz.prog 112 #[.int .u32 (un32 x), .int .i64 f, .int .i64 n] W fun e w' => e = .returned (.int .u64 (un (Part (x.setWidth 64) f n))) ∧ W = w') := Lib.hid fun f n W => R3bits_any x f n W
  unfold decI
  generalize x.setWidth 64 = X at hP hQ ⊢
  generalize un32 x = xv at hP hQ ⊢
  obtain ⟨F, hFe⟩ : ∃ F, rform op = F := ⟨_, rfl⟩
  have hF : Hid (∀ W, Calls Tryz.prog 46 #[.int .i64 op] W fun e w' => e = .returned (.int .i64 F) ∧ W = w') := Lib.hid fun W => by rw [← hFe]; exact R2Form_any op W
  rw [rform_eq, hFe]
  have hbd := rform_range op
  rw [hFe] at hbd
  clear hFe
  obtain ⟨D, hD⟩ : ∃ D, decV F op X = D := ⟨_, rfl⟩
  rw [hD]
  replace hD := Lib.hid hD
  obtain ⟨IL, hIL⟩ : ∃ l, D.cells.toList = l := ⟨_, rfl⟩
  have hn : Hid (IL.length = 9) := Lib.hid (by rw [← hIL]; rfl)
  have h1 : Hid (IL.toArray.all (·.oneCell') = true) := Lib.hid (by rw [← hIL]; exact D.list_one)
  have hs : Hid ((Tryz.prog.info? 26).map (·.size) = some IL.length) := Lib.hid (by rw [hn.out]; kernel_rfl)
  have hs2 : Hid ((Tryz.prog.info? 26).map (·.size) = some IL.toArray.size) := Lib.hid (by rw [List.size_toArray]; exact hs.out)
  have hc : D.cells = IL.toArray := by rw [← hIL, Array.toArray_toList]
  rw [hc]
  clear hc
  replace hIL := Lib.hid hIL
  have hB := IB.start w ⟨op, 0, 0, 0, 0, false, false, 0, 0⟩ 26 26
  go_enter Tryz.func86, Tryz.ntmps86
  go_upto_region 2 with (refine wpList_store_mid rfl 26 _ _ rfl (w.heap.size + 1) 0 (InsnV.cells ⟨op, 0, 0, 0, 0, false, false, 0, 0⟩) rfl rfl (fun j hj => (by have h := cells_fresh (w.alloc (.cells #[.int .i64 0, .int .i64 0, .int .i64 0, .int .i64 0, .int .i64 0, .bool false, .bool false, .int .i64 0, .int .i64 0] 26)) #[.int .i64 0, .int .i64 0, .int .i64 0, .int .i64 0, .int .i64 0, .bool false, .bool false, .int .i64 0, .int .i64 0] 26 9 (by decide) j hj; simpa using h)) (by kernel_rfl) (by kernel_rfl) ?_)
  generalize World.setCells _ _ _ _ = w2 at hB ⊢
  generalize w.heap.size + 1 = b at hB ⊢
  go_upto_block 0 with (first | (go_at_call 88; refine (hP.out _ _ _).mono ?_; rintro e wp ⟨rfl, rfl⟩) | (go_at_call 112; refine (hQ.out _ _ _).mono ?_; rintro e wp ⟨rfl, rfl⟩) | (go_at_call 63; refine (RSign_any _ _ _).mono ?_; rintro e wp ⟨rfl, rfl⟩) | (go_at_call 46; refine (hF.out _).mono ?_; rintro e wp ⟨rfl, rfl⟩))
  go_cut [19] (fun _ wx => IB w b D wx)
  case first =>
    have c1 : w2.cell? ⟨b, 1, none⟩ = some (.int .i64 0) := hB.c 1 (by decide)
    have c2 : w2.cell? ⟨b, 2, none⟩ = some (.int .i64 0) := hB.c 2 (by decide)
    have c3 : w2.cell? ⟨b, 3, none⟩ = some (.int .i64 0) := hB.c 3 (by decide)
    have c4 : w2.cell? ⟨b, 4, none⟩ = some (.int .i64 0) := hB.c 4 (by decide)
    have c5 : w2.cell? ⟨b, 5, none⟩ = some (.bool false) := hB.c 5 (by decide)
    have c6 : w2.cell? ⟨b, 6, none⟩ = some (.bool false) := hB.c 6 (by decide)
    have c7 : w2.cell? ⟨b, 7, none⟩ = some (.int .i64 0) := hB.c 7 (by decide)
    have c8 : w2.cell? ⟨b, 8, none⟩ = some (.int .i64 0) := hB.c 8 (by decide)
    have f1 := hB.f 1 (by decide)
    have f2 := hB.f 2 (by decide)
    have f3 := hB.f 3 (by decide)
    have f4 := hB.f 4 (by decide)
    have f5 := hB.f 5 (by decide)
    have f6 := hB.f 6 (by decide)
    have f7 := hB.f 7 (by decide)
    have f8 := hB.f 8 (by decide)
    rcases (show F = 0 ∨ F = 1 ∨ F = 2 ∨ F = 3 ∨ F = 4 ∨ F = 5 ∨ F = 6 ∨ F = 7 ∨ F = 8 ∨ F = 9 ∨ F = 10 ∨ F = 11 ∨ F = 12 by omega) with rfl | rfl | rfl | rfl | rfl | rfl | rfl | rfl | rfl | rfl | rfl | rfl | rfl
    · go_wp2_with fail
      go_meet
      rw [← hD.out, (dec_some op X).2.2.2.2.2.2.2.2.2.2.2.1]; exact hB
    · go_wp2_with (first | (go_at_call 88; refine (hP.out _ _ _).mono ?_; rintro e wp ⟨rfl, rfl⟩) | (go_at_call 112; refine (hQ.out _ _ _).mono ?_; rintro e wp ⟨rfl, rfl⟩) | (go_at_call 63; refine (RSign_any _ _ _).mono ?_; rintro e wp ⟨rfl, rfl⟩) | (go_at_call 46; refine (hF.out _).mono ?_; rintro e wp ⟨rfl, rfl⟩))
      go_meet
      rw [← hD.out, (dec_some op X).1]; exact (hB.set_rd (sn (Part X 7 5))).set_imm (sn (Sign (Part X 12 20) 20))
    · go_wp2_with (first | (go_at_call 88; refine (hP.out _ _ _).mono ?_; rintro e wp ⟨rfl, rfl⟩) | (go_at_call 112; refine (hQ.out _ _ _).mono ?_; rintro e wp ⟨rfl, rfl⟩) | (go_at_call 63; refine (RSign_any _ _ _).mono ?_; rintro e wp ⟨rfl, rfl⟩) | (go_at_call 46; refine (hF.out _).mono ?_; rintro e wp ⟨rfl, rfl⟩))
      go_meet
      rw [← hD.out, (dec_some op X).2.1]; exact (hB.set_rd (sn (Part X 7 5))).set_imm (sn (Sign (Part X 31 1 * 1048576#64 + Part X 12 8 * 4096#64 + Part X 20 1 * 2048#64 + Part X 21 10 * 2#64) 21))
    · go_wp2_with (first | (go_at_call 88; refine (hP.out _ _ _).mono ?_; rintro e wp ⟨rfl, rfl⟩) | (go_at_call 112; refine (hQ.out _ _ _).mono ?_; rintro e wp ⟨rfl, rfl⟩) | (go_at_call 63; refine (RSign_any _ _ _).mono ?_; rintro e wp ⟨rfl, rfl⟩) | (go_at_call 46; refine (hF.out _).mono ?_; rintro e wp ⟨rfl, rfl⟩))
      go_meet
      rw [← hD.out, (dec_some op X).2.2.1]; exact ((hB.set_rd (sn (Part X 7 5))).set_rs1 (sn (Part X 15 5))).set_imm (sn (Sign (Part X 20 12) 12))
    · go_wp2_with (first | (go_at_call 88; refine (hP.out _ _ _).mono ?_; rintro e wp ⟨rfl, rfl⟩) | (go_at_call 112; refine (hQ.out _ _ _).mono ?_; rintro e wp ⟨rfl, rfl⟩) | (go_at_call 63; refine (RSign_any _ _ _).mono ?_; rintro e wp ⟨rfl, rfl⟩) | (go_at_call 46; refine (hF.out _).mono ?_; rintro e wp ⟨rfl, rfl⟩))
      go_meet
      rw [← hD.out, (dec_some op X).2.2.2.1]; exact ((hB.set_rd (sn (Part X 7 5))).set_rs1 (sn (Part X 15 5))).set_imm (sn (Sign (Part X 20 12) 12))
    · go_wp2_with (first | (go_at_call 88; refine (hP.out _ _ _).mono ?_; rintro e wp ⟨rfl, rfl⟩) | (go_at_call 112; refine (hQ.out _ _ _).mono ?_; rintro e wp ⟨rfl, rfl⟩) | (go_at_call 63; refine (RSign_any _ _ _).mono ?_; rintro e wp ⟨rfl, rfl⟩) | (go_at_call 46; refine (hF.out _).mono ?_; rintro e wp ⟨rfl, rfl⟩))
      go_meet
      rw [← hD.out, (dec_some op X).2.2.2.2.1]; exact ((hB.set_rs1 (sn (Part X 15 5))).set_rs2 (sn (Part X 20 5))).set_imm (sn (Sign (Part X 25 7 * 32#64 + Part X 7 5) 12))
    · go_wp2_with (first | (go_at_call 88; refine (hP.out _ _ _).mono ?_; rintro e wp ⟨rfl, rfl⟩) | (go_at_call 112; refine (hQ.out _ _ _).mono ?_; rintro e wp ⟨rfl, rfl⟩) | (go_at_call 63; refine (RSign_any _ _ _).mono ?_; rintro e wp ⟨rfl, rfl⟩) | (go_at_call 46; refine (hF.out _).mono ?_; rintro e wp ⟨rfl, rfl⟩))
      go_meet
      rw [← hD.out, (dec_some op X).2.2.2.2.2.1]; exact ((hB.set_rs1 (sn (Part X 15 5))).set_rs2 (sn (Part X 20 5))).set_imm (sn (Sign (Part X 31 1 * 4096#64 + Part X 7 1 * 2048#64 + Part X 25 6 * 32#64 + Part X 8 4 * 2#64) 13))
    · go_wp2_with (first | (go_at_call 88; refine (hP.out _ _ _).mono ?_; rintro e wp ⟨rfl, rfl⟩) | (go_at_call 112; refine (hQ.out _ _ _).mono ?_; rintro e wp ⟨rfl, rfl⟩) | (go_at_call 63; refine (RSign_any _ _ _).mono ?_; rintro e wp ⟨rfl, rfl⟩) | (go_at_call 46; refine (hF.out _).mono ?_; rintro e wp ⟨rfl, rfl⟩))
      go_meet
      rw [← hD.out, (dec_some op X).2.2.2.2.2.2.1]; exact ((hB.set_rd (sn (Part X 7 5))).set_rs1 (sn (Part X 15 5))).set_imm (sn (Part X 20 6))
    · go_wp2_with (first | (go_at_call 88; refine (hP.out _ _ _).mono ?_; rintro e wp ⟨rfl, rfl⟩) | (go_at_call 112; refine (hQ.out _ _ _).mono ?_; rintro e wp ⟨rfl, rfl⟩) | (go_at_call 63; refine (RSign_any _ _ _).mono ?_; rintro e wp ⟨rfl, rfl⟩) | (go_at_call 46; refine (hF.out _).mono ?_; rintro e wp ⟨rfl, rfl⟩))
      go_meet
      rw [← hD.out, (dec_some op X).2.2.2.2.2.2.2.1]; exact ((hB.set_rd (sn (Part X 7 5))).set_rs1 (sn (Part X 15 5))).set_rs2 (sn (Part X 20 5))
    · go_wp2_with (first | (go_at_call 88; refine (hP.out _ _ _).mono ?_; rintro e wp ⟨rfl, rfl⟩) | (go_at_call 112; refine (hQ.out _ _ _).mono ?_; rintro e wp ⟨rfl, rfl⟩) | (go_at_call 63; refine (RSign_any _ _ _).mono ?_; rintro e wp ⟨rfl, rfl⟩) | (go_at_call 46; refine (hF.out _).mono ?_; rintro e wp ⟨rfl, rfl⟩))
      go_meet
      rw [← hD.out, (dec_some op X).2.2.2.2.2.2.2.2.1]; exact (hB.set_pred (sn (Part X 24 4))).set_succ (sn (Part X 20 4))
    · go_wp2_with fail
      go_meet
      rw [← hD.out, (dec_some op X).2.2.2.2.2.2.2.2.2.2.2.2]; exact hB
    · go_wp2_with (first | (go_at_call 88; refine (hP.out _ _ _).mono ?_; rintro e wp ⟨rfl, rfl⟩) | (go_at_call 112; refine (hQ.out _ _ _).mono ?_; rintro e wp ⟨rfl, rfl⟩) | (go_at_call 63; refine (RSign_any _ _ _).mono ?_; rintro e wp ⟨rfl, rfl⟩) | (go_at_call 46; refine (hF.out _).mono ?_; rintro e wp ⟨rfl, rfl⟩))
      go_meet
      rw [← hD.out, (dec_some op X).2.2.2.2.2.2.2.2.2.1]; exact (((hB.set_rd (sn (Part X 7 5))).set_rs1 (sn (Part X 15 5))).set_aq ((un (Part X 26 1) == 1))).set_rl ((un (Part X 25 1) == 1))
    · go_wp2_with (first | (go_at_call 88; refine (hP.out _ _ _).mono ?_; rintro e wp ⟨rfl, rfl⟩) | (go_at_call 112; refine (hQ.out _ _ _).mono ?_; rintro e wp ⟨rfl, rfl⟩) | (go_at_call 63; refine (RSign_any _ _ _).mono ?_; rintro e wp ⟨rfl, rfl⟩) | (go_at_call 46; refine (hF.out _).mono ?_; rintro e wp ⟨rfl, rfl⟩))
      go_meet
      rw [← hD.out, (dec_some op X).2.2.2.2.2.2.2.2.2.2.1]; exact ((((hB.set_rd (sn (Part X 7 5))).set_rs1 (sn (Part X 15 5))).set_rs2 (sn (Part X 20 5))).set_aq ((un (Part X 26 1) == 1))).set_rl ((un (Part X 25 1) == 1))
  case rest =>
    clear hP hQ hF hD hbd hB
    have hB := hcut
    clear hcut
    have hr := hB.range
    rw [hIL.out] at hr
    have hth : Hid (wc.there w.heap.size 0 IL.toArray.size) := Lib.hid (by rw [show IL.toArray.size = 9 from (List.size_toArray).trans hn.out]; exact hB.r)
    go_wp2_with (first | (refine wpList_load_mid rfl 26 _ rfl b 0 rfl IL _ hr hu rfl hs.out ?_) | (refine wpList_store_mid rfl 26 _ _ rfl w.heap.size 0 IL.toArray rfl rfl hth.out hs2.out h1.out ?_))
    have hr5 := World.rangeAt_setCells_same wc w.heap.size 0 IL (by rw [hn.out]; exact hB.r)
    have hlv := result_insn _ w.heap.size _ hr5 hn.out
    have hbl := below_cells (Nat.le_refl w.heap.size) IL 0 wc hB.bl
    generalize World.setCells wc w.heap.size 0 IL = W5 at hlv hbl ⊢
    exact bodyPost_ret (v := .agg IL.toArray) (by simp [results, Tryz.results86, asAddr, Act.put, hlv]) rfl ⟨rfl, hbl⟩
end
end Go.Proofs.YtcgflnkgekkidaaGreatDoor
namespace Go.Proofs.YtcgflnkgekkidaaGreatDoor
open Go.RowKit
theorem insnFrom_yesR (x : BitVec 32) (op : Int) (n : Nat) (h : isOp x op = true) : insnFrom x op (n + 1) = (decI op x, 0) := by show (if isOp x op = true then _ else _) = _; rw [if_pos h]
theorem insnFrom_noR (x : BitVec 32) (op : Int) (n : Nat) (h : isOp x op = false) : insnFrom x op (n + 1) = insnFrom x (op + 1) n := by show (if isOp x op = true then _ else _) = _; rw [h]; rfl
theorem insnFrom_0R (x : BitVec 32) (op : Int) : insnFrom x op 0 = (insnNone, 4) := rfl
theorem un32_eqR {x y : BitVec 32} : (un32 x == un32 y) = (x == y) := by
  by_cases h : x = y
  · subst h; simp
  · rw [beq_eq_false_iff_ne.2 h, beq_eq_false_iff_ne]
    intro e; apply h; unfold un32 at e; exact BitVec.eq_of_toNat_eq (by omega)
section
attribute [local irreducible] un32 decI wordV checkE insnFrom
set_option maxRecDepth 100000 in
set_option maxHeartbeats 16000000 in
theorem R3Insn_any (x : BitVec 32) (w : World) : Calls Tryz.prog 52 #[.int .u32 (un32 x)] w fun e w' => e = .returned (.tuple #[.agg (insnW x).1.cells, .int .i64 (insnW x).2]) ∧ Below w.heap.size w w' := by
  have hu := Tryz.underlying26
  have hL := Lib.hid (fun op W => R3like_any x op W)
  have hW := Lib.hid (fun i W => R3Word_any i W)
  have hopA : Hid (∀ op : Int, isOp x op = ((checkE (decI op x) == 0) && (un32 (wordV (decI op x)) == un32 x))) := Lib.hid fun op => by rw [un32_eqR]; exact isOp_same x op
  show Calls Tryz.prog 52 #[.int .u32 (un32 x)] w fun e w' => e = .returned (.tuple #[.agg (insnFrom x 1 87).1.cells, .int .i64 (insnFrom x 1 87).2]) ∧ Below w.heap.size w w'
  obtain ⟨R, hR⟩ : ∃ R, insnFrom x 1 87 = R := ⟨_, rfl⟩
  rw [hR]
  generalize un32 x = xv at hL hopA ⊢
  have h0 := zero_there w 26
  have hb0 : Below w.heap.size w (w.alloc (.cells #[.int .i64 0, .int .i64 0, .int .i64 0, .int .i64 0, .int .i64 0, .bool false, .bool false, .int .i64 0, .int .i64 0] 26)) := (Below.refl _ _).alloc (Nat.le_refl _) _
  go_enter Tryz.func52, Tryz.ntmps52
  go_wp2_with fail
  have l0 : w.heap.size < (w.alloc (.cells #[.int .i64 0, .int .i64 0, .int .i64 0, .int .i64 0, .int .i64 0, .bool false, .bool false, .int .i64 0, .int .i64 0] 26)).heap.size := by simp
  generalize World.alloc _ _ = w1 at h0 hb0 l0 ⊢
  go_loopg [4] 87 (fun g i wx => ∃ k : Nat, k ≤ 87 ∧ g = 87 - k ∧ i = .int .i64 ((k : Int) + 1) ∧ Hid (insnFrom x ((k : Int) + 1) (87 - k) = R) ∧ Hid (wx.there w.heap.size 0 9 ∧ Below w.heap.size w wx ∧ w.heap.size < wx.heap.size))
  case atStart => exact ⟨0, Nat.zero_le _, rfl, rfl, Lib.hid hR, Lib.hid ⟨h0, hb0, l0⟩⟩
  case round =>
    clear h0 hb0 l0 hR
    obtain ⟨k, hk, rfl, rfl, hI, hw⟩ := hrel
    by_cases hlt : k < 87
    · have n1 : decide (((k : Int) + 1) ≤ 87) = true := decide_eq_true (by omega)
      have n2 : decide ((k + 1) ≤ 87) = true := decide_eq_true (by omega)
      have n3 : (0 : Int) ≤ (k : Int) ∧ (k : Int) < 87 := by omega
      obtain ⟨g, hg⟩ : ∃ g, 87 - k = g + 1 := ⟨87 - k - 1, by omega⟩
      rw [hg] at hI
      have hop : Hid (isOp x ((k : Int) + 1) = ((checkE (decI ((k : Int) + 1) x) == 0) && (un32 (wordV (decI ((k : Int) + 1) x)) == xv))) := Lib.hid (hopA.out _)
      have h02 := checkE_02 (decI ((k : Int) + 1) x)
      have hWd := Lib.hid (hW.out (decI ((k : Int) + 1) x))
      have hLk := Lib.hid (hL.out ((k : Int) + 1))
      have hI1 := Lib.hid (fun h => (insnFrom_yesR x ((k : Int) + 1) g h).symm.trans hI.out)
      have hI2 := Lib.hid (fun h => (insnFrom_noR x ((k : Int) + 1) g h).symm.trans hI.out)
      clear hI
      generalize decI ((k : Int) + 1) x = D at hop h02 hWd hLk hI1
      generalize un32 (wordV D) = y at hop hWd
      generalize checkE D = c at hop h02 hWd
      generalize isOp x ((k : Int) + 1) = B at hop hI1 hI2
      obtain ⟨IL, hIL⟩ : ∃ l, D.cells.toList = l := ⟨_, rfl⟩
      have hn : Hid (IL.length = 9) := Lib.hid (by rw [← hIL]; rfl)
      have h1 : Hid (IL.toArray.all (·.oneCell') = true) := Lib.hid (by rw [← hIL]; exact D.list_one)
      have hs : Hid ((Tryz.prog.info? 26).map (·.size) = some IL.length) := Lib.hid (by rw [hn.out]; kernel_rfl)
      have hs2 : Hid ((Tryz.prog.info? 26).map (·.size) = some IL.toArray.size) := Lib.hid (by rw [List.size_toArray]; exact hs.out)
      have hc : Hid (D.cells = IL.toArray) := Lib.hid (by rw [← hIL, Array.toArray_toList])
      rw [hc.out] at hWd hLk
      clear hIL
      obtain ⟨r1, r2, r3⟩ := hw.out
      clear hw
      go_upto_region 5 with (first | (go_at_call 86; (with_reducible refine (hLk.out _).mono ?_); rintro e w3 ⟨rfl, hb3⟩) | (refine wpList_store_mid rfl 26 _ _ rfl w3.heap.size 0 IL.toArray rfl rfl (fun j hj => cells_fresh w3 #[.int .i64 0, .int .i64 0, .int .i64 0, .int .i64 0, .int .i64 0, .bool false, .bool false, .int .i64 0, .int .i64 0] 26 9 (by decide) j (by rw [List.size_toArray, hn.out] at hj; exact hj)) hs2.out h1.out ?_))
      obtain ⟨hcc, hr, hl, -⟩ := copied (s := w3) (cs := IL) hn.out #[.int .i64 0, .int .i64 0, .int .i64 0, .int .i64 0, .int .i64 0, .bool false, .bool false, .int .i64 0, .int .i64 0] rfl 26
      have hbb : Below wr.heap.size wr (World.setCells (w3.alloc (.cells #[.int .i64 0, .int .i64 0, .int .i64 0, .int .i64 0, .int .i64 0, .bool false, .bool false, .int .i64 0, .int .i64 0] 26)) w3.heap.size 0 IL) := hb3.trans (hcc.mono hb3.size)
      generalize World.setCells _ w3.heap.size 0 IL = v4 at hr hl hbb ⊢
      generalize w3.heap.size = b3 at hr hl ⊢
      clear hcc hb3
      go_upto_region 6 with (first | (refine wpList_load_mid rfl 26 _ rfl b3 0 rfl IL _ hr hu rfl hs.out ?_) | (go_at_call 37; (with_reducible refine (hWd.out _).mono ?_); rintro e w5 ⟨rfl, hb5⟩))
      have hr5 := range_on hr hl hb5
      have hb6 := hbb.trans (hb5.mono hbb.size)
      have q1 : w5.there w.heap.size 0 9 := fun j hj => by rw [hb6.cell (p := ⟨w.heap.size, 0 + j, none⟩) r3, hb6.frozen (p := ⟨w.heap.size, 0 + j, none⟩) r3]; exact r1 j hj
      have q2 : Below w.heap.size w w5 := r2.trans (hb6.mono r2.size)
      have q3 : w.heap.size < w5.heap.size := Nat.lt_of_lt_of_le r3 hb6.size
      clear hr hl hbb hb5 hb6 r1 r2 r3
      cases hB : B
      · have hI3 := hI2.out hB
        rw [hB] at hop
        have hw : Hid (w5.there w.heap.size 0 9 ∧ Below w.heap.size w w5 ∧ w.heap.size < w5.heap.size) := Lib.hid ⟨q1, q2, q3⟩
        have hg2 : g = 87 - (k + 1) := by omega
        replace hI3 : Hid (insnFrom x (((k + 1 : Nat) : Int) + 1) (87 - (k + 1)) = R) := Lib.hid (by rw [← hg2]; rw [show ((k + 1 : Nat) : Int) + 1 = (k : Int) + 1 + 1 by omega]; exact hI3)
        clear hI1 hI2 hWd hLk q1 q2 q3
        rcases h02 with rfl | rfl
        · have ty : (y == xv) = false := by have := hop.out; simpa using this.symm
          go_wp2_with fail
          go_roundg (87 - (k + 1))
          case measure => omega
          case rel => exact ⟨k + 1, by omega, rfl, by go_num, hI3, hw⟩
        · go_wp2_with fail
          go_roundg (87 - (k + 1))
          case measure => omega
          case rel => exact ⟨k + 1, by omega, rfl, by go_num, hI3, hw⟩
      · have hI3 := Lib.hid (hI1.out hB)
        rw [hB] at hop
        have hx := hop.out.symm
        simp only [Bool.and_eq_true, beq_iff_eq] at hx
        obtain ⟨rfl, rfl⟩ := hx
        have ty : (y == y) = true := by simp
        have hth : Hid (w5.there w.heap.size 0 IL.toArray.size) := Lib.hid (by rw [show IL.toArray.size = 9 from (List.size_toArray).trans hn.out]; exact q1)
        clear hop h02 hI1 hI2 hWd hLk
        go_wp2_with (first | (refine wpList_load_mid rfl 26 _ rfl b3 0 rfl IL _ hr5 hu rfl hs.out ?_) | (refine wpList_store_mid rfl 26 _ _ rfl w.heap.size 0 IL.toArray rfl rfl hth.out hs2.out h1.out ?_))
        have hr6 := World.rangeAt_setCells_same w5 w.heap.size 0 IL (by rw [hn.out]; exact q1)
        have hlv := result_insn _ w.heap.size _ hr6 hn.out
        have hbl := below_cells (Nat.le_refl w.heap.size) IL 0 w5 q2
        generalize World.setCells w5 w.heap.size 0 IL = W6 at hlv hbl ⊢
        exact bodyPost_ret (v := .tuple #[.agg IL.toArray, .int .i64 0]) (by simp [results, Tryz.results52, asAddr, hlv]) rfl ⟨by rw [← hI3.out, hc.out], hbl⟩
    · obtain rfl : k = 87 := by omega
      obtain ⟨q1, q2, q3⟩ := hw.out
      have hRz : Hid (R = (insnNone, 4)) := Lib.hid (by rw [← hI.out, Nat.sub_self]; exact insnFrom_0R x _)
      clear hI hw hL hW hopA
      go_wp2_with (refine wpList_store_mid rfl 26 _ _ rfl w.heap.size 0 #[.int .i64 0, .int .i64 0, .int .i64 0, .int .i64 0, .int .i64 0, .bool false, .bool false, .int .i64 0, .int .i64 0] rfl rfl q1 (by kernel_rfl) (by kernel_rfl) ?_)
      have hr6 := World.rangeAt_setCells_same wr w.heap.size 0 insnNone.cells.toList q1
      have hlv := result_insn _ w.heap.size _ hr6 rfl
      have hbl := below_cells (Nat.le_refl w.heap.size) insnNone.cells.toList 0 wr q2
      rw [Array.toArray_toList] at hlv
      change bodyPost _ _ _ _ _ (World.setCells wr w.heap.size 0 insnNone.cells.toList)
      generalize World.setCells wr w.heap.size 0 insnNone.cells.toList = W6 at hlv hbl ⊢
      exact bodyPost_ret (v := .tuple #[.agg insnNone.cells, .int .i64 4]) (by simp [results, Tryz.results52, asAddr, hlv]) rfl ⟨by rw [hRz.out], hbl⟩
end
end Go.Proofs.YtcgflnkgekkidaaGreatDoor
namespace Go.Proofs.YtcgflnkgekkidaaGreatDoor
open Go.RowKit
theorem part_hex (x : BitVec 32) (j : Nat) (hj : j < 8) : sn (Part (x.setWidth 64) (4 * (7 - (j : Int))) 4) = ((x.toNat / 2 ^ (28 - 4 * j) % 16 : Nat) : Int) := by
  have e : Part (x.setWidth 64) (4 * (7 - (j : Int))) 4 = ((x.setWidth 64) >>> (28 - 4 * j)) &&& 15#64 := by
    unfold Part Low
    rw [show (4 * (7 - (j : Int))).toNat = 28 - 4 * j by omega]
    rfl
  rw [e]
  have h2 : ((x.setWidth 64) >>> (28 - 4 * j) &&& 15#64).toNat = x.toNat / 2 ^ (28 - 4 * j) % 16 := by
    rw [BitVec.toNat_and, BitVec.toNat_ushiftRight, Nat.shiftRight_eq_div_pow]
    have : (x.setWidth 64).toNat = x.toNat := by simp; have := x.isLt; omega
    rw [this]
    exact Nat.and_two_pow_sub_one_eq_mod (x.toNat / 2 ^ (28 - 4 * j)) 4
  unfold sn
  rw [BitVec.toInt_eq_toNat_of_lt (by rw [h2]; omega), h2]
theorem hex_cut : ∀ m : Nat, m < 16 → (({ data := #[48, 49, 50, 51, 52, 53, 54, 55, 56, 57, 97, 98, 99, 100, 101, 102] } : ByteArray).extract m (m + 1)) = ⟨[hexD m].toArray⟩ := by
  intro m hm
  have : ∀ d : Fin 16, (({ data := #[48, 49, 50, 51, 52, 53, 54, 55, 56, 57, 97, 98, 99, 100, 101, 102] } : ByteArray).extract d.1 (d.1 + 1)).data.toList = [hexD d.1] := by decide +kernel
  have h := this ⟨m, hm⟩
  apply ByteArray.ext
  apply Array.toList_inj.1
  rw [h]
section
attribute [local irreducible] un32 insnW textT checkE dumpT
set_option maxRecDepth 100000 in
set_option maxHeartbeats 16000000 in
theorem R3Dump_any (ao : Option Addr) (n cap : Nat) (F : Nat → BitVec 32) (w : World) (h : WordsAt w ao n F) (hn : n ≤ 100000) :
    Calls Tryz.prog 53 #[.slice ao n cap] w (NewRow 9 w (dumpsV F n)) := by
  have hu := Tryz.underlying26
  obtain ⟨i0, hi, hz0, hz1, hz2⟩ := info_parts Tryz.info_strD
  have hi' := Lib.hid hi; have hz0' := Lib.hid hz0; have hz1' := Lib.hid hz1; have hz2' := Lib.hid hz2; clear hi hz0 hz1 hz2
  have hF : Hid (∀ k, k < n → ∃ b off, ao = some ⟨b, off, none⟩ ∧ b < w.heap.size ∧ w.cell? ⟨b, off + k, none⟩ = some (.int .u32 (un32 (F k)))) := Lib.hid fun k hk => by
    obtain ⟨b, off, e, hlt, hc⟩ := h (by omega)
    exact ⟨b, off, e, hlt, hc k hk⟩
  clear h
  go_enter Tryz.func53, Tryz.ntmps53
  go_wp2_with fail
  go_loopw [3, 4] (fun v i wr => ∃ k : Nat, k ≤ n ∧ i = .int .i64 k ∧ wr.ownsRow w.heap.size 9 1 v k (dumpsV F k) ∧ Below w.heap.size w wr) (fun _ i _ => n - (intOf i).toNat)
  case atStart => exact ⟨0, Nat.zero_le _, rfl, World.ownsRow_nil _ _ _ _, Below.refl _ _⟩
  case round =>
    obtain ⟨k, hk, rfl, hown, hb⟩ := hrel
    by_cases hlt : k < n
    · obtain ⟨b, off, rfl, hbl, hc⟩ := hF.out k hlt
      have ck : wr.cell? ⟨b, off + k, none⟩ = some (.int .u32 (un32 (F k))) := by rw [hb.cell (p := ⟨b, off + k, none⟩) hbl]; exact hc
      have hq : Hid (dumpsV F k ++ [.string ⟨(dumpT (F k)).toArray⟩] = dumpsV F (k + 1)) := Lib.hid rfl
      have hdt : Hid (dumpT (F k) = if (insnW (F k)).2 = 0 then textT (insnW (F k)).1 else 46 :: hexL (F k) 8) := Lib.hid (by unfold dumpT; rfl)
      have hIk := Lib.hid (fun W => R3Insn_any (F k) W)
      have hTk := Lib.hid (fun W => R2Text_any (insnW (F k)).1 (insnW_bd (F k)).2 W)
      obtain ⟨x, hx⟩ : ∃ x, F k = x := ⟨_, rfl⟩
      rw [hx] at ck hq hdt hIk hTk
      have hPa : Hid (∀ (j : Nat) W, j < 8 → Calls Tryz.prog 88 #[.int .u32 (un32 x), .int .i64 (4 * (7 - (j : Int))), .int .i64 4] W fun e w' => e = .returned (.int .i64 ((x.toNat / 2 ^ (28 - 4 * j) % 16 : Nat) : Int)) ∧ W = w') := Lib.hid fun j W hj => by
        have := R3part_any x (4 * (7 - (j : Int))) 4 W
        rw [part_hex x j hj] at this
        exact this
      have hn9 : Hid ((insnW x).1.cells.toList.length = 9) := Lib.hid rfl
      have h1c : Hid ((insnW x).1.cells.toList.toArray.all (·.oneCell') = true) := Lib.hid (insnW x).1.list_one
      rw [show (insnW x).1.cells = (insnW x).1.cells.toList.toArray by rw [Array.toArray_toList]] at hIk hTk
      generalize (insnW x).1.cells.toList = PL at *
      generalize dumpT x = dt at *
      generalize textT (insnW x).1 = tt at *
      generalize checkE (insnW x).1 = ce at *
      generalize (insnW x).2 = E at *
      have hsP : Hid ((Tryz.prog.info? 26).map (·.size) = some PL.length) := Lib.hid (by rw [hn9.out]; kernel_rfl)
      clear hx
      go_upto_region 6 with (first | (go_at_call 52; (with_reducible refine (hIk.out _).mono ?_); rintro e w2 ⟨rfl, hb2⟩) | (refine wpList_store_mid rfl 26 _ _ rfl w2.heap.size 0 PL.toArray rfl rfl (fun j hj => cells_fresh w2 #[.int .i64 0, .int .i64 0, .int .i64 0, .int .i64 0, .int .i64 0, .bool false, .bool false, .int .i64 0, .int .i64 0] 26 9 (by decide) j (by rw [List.size_toArray, hn9.out] at hj; exact hj)) (by rw [List.size_toArray]; exact hsP.out) h1c.out ?_))
      obtain ⟨hb3, hr3, hl3, -⟩ := copied (s := w2) (cs := PL) hn9.out #[.int .i64 0, .int .i64 0, .int .i64 0, .int .i64 0, .int .i64 0, .bool false, .bool false, .int .i64 0, .int .i64 0] rfl 26
      generalize World.setCells _ w2.heap.size 0 PL = w3 at hb3 hr3 hl3 ⊢
      have hb4 : Below wr.heap.size wr w3 := hb2.trans (hb3.mono hb2.size)
      replace hown := ownsRow_keep hown hb4
      have ck3 := (hb4.cell (p := ⟨b, off + k, none⟩) (Nat.lt_of_lt_of_le hbl hb.size)).trans ck
      have hl4 := Nat.lt_of_lt_of_le hbl (Nat.le_trans hb.size hb4.size)
      replace hb := hb.trans (hb4.mono hb.size)
      clear hb2 hb3 hb4 ck
      go_upto_region 7 with (first | (refine wpList_load_mid rfl 26 _ rfl w2.heap.size 0 rfl PL _ hr3 hu rfl hsP.out ?_) | (go_at_call 87; (with_reducible refine (hTk.out _).mono ?_); rintro e w4 ⟨rfl, hb5⟩))
      replace hown := ownsRow_keep hown hb5
      have ck4 := (hb5.cell (p := ⟨b, off + k, none⟩) hl4).trans ck3
      replace hb := hb.trans (hb5.mono hb.size)
      clear hb5 hr3 hl3 ck3 hl4
      go_upto_if 31 with fail
      go_cut [7] (fun s wx => s = .string ⟨dt.toArray⟩ ∧ w4 = wx)
      case first =>
        cases hE : (E != 0)
        · obtain rfl : dt = tt := by rw [hdt.out, if_pos (by simpa using hE)]
          go_wp2_with fail
          go_meet
          exact ⟨rfl, rfl⟩
        · obtain rfl : dt = 46 :: hexL x 8 := by rw [hdt.out, if_neg (by simpa using hE)]
          have hx1 : Hid (∀ j, hexL x (j + 1) = hexL x j ++ [hexD (x.toNat / 2 ^ (28 - 4 * j) % 16)]) := Lib.hid fun j => rfl
          have hxl := Lib.hid (hexL_len x)
          have h0 : Hid (([46] : List UInt8) = 46 :: hexL x 0) := Lib.hid rfl
          have i7 : (0 : Int) ≤ (k : Int) ∧ (k : Int) < (n : Int) ∧ (n : Int) ≤ 100000 := by omega
          clear hown hb hdt hq hIk hTk hc
          go_upto_region 9 with fail
          go_wp2_with fail
          go_loopg [7, 9] 8 (fun g s i wx => ∃ j : Nat, j ≤ 8 ∧ g = 8 - j ∧ s = .string ⟨(46 :: hexL x j).toArray⟩ ∧ i = .int .i64 (7 - (j : Int)) ∧ w4 = wx)
          case atStart => exact ⟨0, Nat.zero_le _, rfl, by rw [← h0.out], rfl, rfl⟩
          case round =>
            obtain ⟨j, hj, rfl, rfl, rfl, rfl⟩ := hrel
            by_cases hj8 : j < 8
            · obtain ⟨m, hm⟩ : ∃ m, x.toNat / 2 ^ (28 - 4 * j) % 16 = m := ⟨_, rfl⟩
              have hm16 : m < 16 := by omega
              have hPj := Lib.hid fun W => hPa.out j W hj8
              have hxj := hx1.out j
              rw [hm] at hPj hxj
              have hlen := hxl.out j
              obtain ⟨a, ha⟩ : ∃ a : Int, 7 - (j : Int) = a := ⟨_, rfl⟩
              rw [ha] at hPj ⊢
              have a1 : 0 ≤ a ∧ a ≤ 7 := by omega
              have a2 : decide ((0 : Int) ≤ a) = true := decide_eq_true a1.1
              have a3 : Hid (a - 1 = 7 - ((j + 1 : Nat) : Int)) := Lib.hid (by omega)
              obtain ⟨q, hq4⟩ : ∃ q, 4 * a = q := ⟨_, rfl⟩
              rw [hq4] at hPj
              have a4 : 0 ≤ q ∧ q ≤ 28 := by omega
              obtain ⟨m1, hm1⟩ : ∃ m1, m + 1 = m1 := ⟨_, rfl⟩
              have a5 : (m : Int) + 1 = (m1 : Int) := by omega
              have a6 : (0 : Int) ≤ (m : Int) ∧ (m : Int) ≤ (m1 : Int) ∧ (m1 : Int) ≤ 16 := by omega
              have a7 : m ≤ m1 := by omega
              have a8 : m1 ≤ 16 := by omega
              have hcut := hex_cut m hm16
              rw [hm1] at hcut
              have hxj2 : Hid (⟨((46 :: hexL x j) ++ [hexD m]).toArray⟩ = (⟨(46 :: hexL x (j + 1)).toArray⟩ : ByteArray)) := Lib.hid (by rw [hxj]; rfl)
              have hlen2 : (46 :: hexL x j).length ≤ 9 := by rw [List.length_cons, hlen]; omega
              clear hm ha hxj hlen hm1
              generalize 46 :: hexL x j = L at hlen2 hxj2 ⊢
              generalize hexD m = D at hcut hxj2
              go_wp2_with (first | (go_at_call 88; (with_reducible refine (hPj.out _).mono ?_); rintro e w5 ⟨rfl, rfl⟩) | (refine wpList_cat (by rfl) _ _ _ _ rfl _ _ rfl rfl (by simp only [List.length_cons, List.length_nil]; omega) ?_))
              go_roundg (8 - (j + 1))
              case measure => omega
              case rel => exact ⟨j + 1, by omega, rfl, by rw [← hxj2.out], by rw [← a3.out], rfl⟩
            · obtain rfl : j = 8 := by omega
              rw [show (7 - ((8 : Nat) : Int)) = -1 by decide]
              go_wp2_with fail
              go_meet
              exact ⟨rfl, rfl⟩
      case rest =>
        obtain ⟨rfl, rfl⟩ := hcut
        clear ck4 hPa hdt hIk hTk hc
        go_wp2_with (at_builtin; refine wpList_append_own _ rfl _ _ 60 rfl w.heap.size 9 i0 (.string { data := #[] }) 1 16 Tryz.underlying60 hi'.out hz0'.out hz1'.out hz2'.out rfl (by decide) _ k _ rfl (hown.alloc _) ⟨w4.heap.size, 0, none⟩ 1 1 [.string ⟨dt.toArray⟩] rfl rfl ?c1 ?c2 ?c3 ?c4 ?c5 ?_)
        case c1 => exact cell_new1 _ _ _
        case c2 => simp [Value.oneCell']
        case c3 => unfold maxLen; omega
        case c4 => omega
        case c5 => have := hb.size; simp; omega
        intro v' w1' hown' hgrow _
        rw [hq.out] at hown'
        have hb8 : Below w.heap.size w w1' := (hb.alloc hb.size _).grown hgrow (by have := hb.size; simp; omega) (fun j hj => (World.ownsRow.lt hown j hj).1)
        clear hown hb hgrow
        go_wp2
        go_roundw
        case rel => exact ⟨k + 1, by omega, by go_num, hown', hb8⟩
        case measure => simp [intOf]; omega
    · obtain rfl : k = n := by omega
      go_wp2_with fail
      go_ret
      exact ⟨⟨_, rfl, by rw [dumpsV_len]; exact hown⟩, hb⟩
end
end Go.Proofs.YtcgflnkgekkidaaGreatDoor
