/- AsmNumbers, whatever comes. The document's Step at a jump, at a branch. Conditions: as each theorem says. -/
import Derived.Test.YtcgflnkgekkidaaGreatDoorAsmNb
import Derived.Test.YtcgflnkgekkidaaGreatDoorAsmPG
import Derived.Test.YtcgflnkgekkidaaGreatDoorAsmC
import Derived.Test.YtcgflnkgekkidaaGreatDoorRefDf
import Derived.Deep.DeepCutAuto
import Derived.Test.YtcgflnkgekkidaaGreatDoorAsmSb
set_option linter.unusedSimpArgs false
set_option linter.unusedVariables false
namespace Go.Proofs.YtcgflnkgekkidaaGreatDoor
open Go.RowKit Go.Maps
section
attribute [local irreducible] un sn hartL
def newV (pc : BitVec 64) : HartV := ⟨pc, fun _ => 0#64, 0, 0#64⟩
end
def newL (pc : BitVec 64) : List Value := [.int .u64 (un pc), .int .u64 0, .int .u64 0, .int .u64 0, .int .u64 0, .int .u64 0, .int .u64 0, .int .u64 0, .int .u64 0, .int .u64 0, .int .u64 0, .int .u64 0, .int .u64 0, .int .u64 0, .int .u64 0, .int .u64 0, .int .u64 0, .int .u64 0, .int .u64 0, .int .u64 0, .int .u64 0, .int .u64 0, .int .u64 0, .int .u64 0, .int .u64 0, .int .u64 0, .int .u64 0, .int .u64 0, .int .u64 0, .int .u64 0, .int .u64 0, .int .u64 0, .int .u64 0, .int .i64 0, .int .u64 0]
theorem newL_eq (pc : BitVec 64) : newL pc = hartL (newV pc) := rfl
section
attribute [local irreducible] un sn
theorem there_new {W : World} {a : Nat} (hz : W.there a 0 35) (pc : BitVec 64) : W.there a 0 (newL pc).toArray.size := hz
theorem size_new (pc : BitVec 64) : (Tryz.prog.info? 47).map (·.size) = some (newL pc).toArray.size := by kernel_rfl
theorem one_new (pc : BitVec 64) : (newL pc).toArray.all (·.oneCell') = true := by rw [newL_eq]; exact hartL_one _
set_option maxRecDepth 100000 in
set_option maxHeartbeats 4000000 in
theorem RNew_any (pc : BitVec 64) (w : World) :
    Calls Tryz.prog 18 #[.int .u64 (un pc)] w fun e w' => e = .returned (.agg (hartL (newV pc)).toArray) ∧ Below w.heap.size w w' := by
  have hz := zeros_there w 47
  have hbl : Below w.heap.size w (w.alloc (.cells #[.int .u64 0, .int .u64 0, .int .u64 0, .int .u64 0, .int .u64 0, .int .u64 0, .int .u64 0, .int .u64 0, .int .u64 0, .int .u64 0, .int .u64 0, .int .u64 0, .int .u64 0, .int .u64 0, .int .u64 0, .int .u64 0, .int .u64 0, .int .u64 0, .int .u64 0, .int .u64 0, .int .u64 0, .int .u64 0, .int .u64 0, .int .u64 0, .int .u64 0, .int .u64 0, .int .u64 0, .int .u64 0, .int .u64 0, .int .u64 0, .int .u64 0, .int .u64 0, .int .u64 0, .int .i64 0, .int .u64 0] 47)) := (Below.refl _ _).alloc (Nat.le_refl _) _
  go_enter Tryz.func18, Tryz.ntmps18
  go_wp2_with (refine wpList_store_mid rfl 47 _ _ rfl w.heap.size 0 (newL pc).toArray rfl rfl (there_new hz pc) (size_new pc) (one_new pc) ?_)
  rw [newL_eq]
  have hr := World.rangeAt_setCells_same _ w.heap.size 0 (hartL (newV pc)) (by rw [hartL_len]; exact hz)
  have hbl := below_setCells (Nat.le_refl w.heap.size) (hartL (newV pc)) 0 _ hbl
  generalize World.setCells _ w.heap.size 0 (hartL (newV pc)) = W5 at hr hbl ⊢
  have hlv := result_hart W5 w.heap.size (newV pc) hr
  exact bodyPost_ret (v := .agg (hartL (newV pc)).toArray) (by simp [results, Tryz.results18, asAddr, hlv]) rfl ⟨rfl, hbl⟩
end
/-- What the loop of AsmNumbers holds: the hart's box, the number's instructions. -/
structure NB (w : World) (H Bm : Nat) (h : HartV) (A : Option Addr) (l : List InsnV) (W : World) : Prop where
  hc : HC H h W
  hz : ∀ j, j < 35 → W.frozen? ⟨H, j, none⟩ = false
  hl : H < Bm
  ir : ∀ j i, l[j]? = some i → ∃ g, A = some ⟨g, 0, none⟩ ∧ g < Bm ∧ g ≠ H ∧ W.rangeAt g (j * 9) i.cells.toList
  bl : Below w.heap.size w W
  ge : w.heap.size ≤ H
  sz : Bm ≤ W.heap.size
theorem NB.keep {w : World} {H Bm B : Nat} {h : HartV} {A : Option Addr} {l : List InsnV} {W W' : World} (hN : NB w H Bm h A l W) (hb : Below B W W') (hB : Bm ≤ B) : NB w H Bm h A l W' := by
  have hH := hN.hl
  have hG := hN.ge
  refine ⟨fun j hj => by rw [hb.cell (p := ⟨H, j, none⟩) (Nat.lt_of_lt_of_le hH hB)]; exact hN.hc j hj, fun j hj => by rw [hb.frozen (p := ⟨H, j, none⟩) (Nat.lt_of_lt_of_le hH hB)]; exact hN.hz j hj, hH, fun j i hi => ?_, hN.bl.trans (hb.mono (by omega)), hG, Nat.le_trans hN.sz hb.size⟩
  obtain ⟨g, e, h1, h2, h3⟩ := hN.ir j i hi
  exact ⟨g, e, h1, h2, fun m v hv => by rw [hb.cell (p := ⟨g, j * 9 + m, none⟩) (Nat.lt_of_lt_of_le h1 hB)]; exact h3 m v hv⟩
theorem NB.kept {w : World} {H Bm : Nat} {h : HartV} {A : Option Addr} {l : List InsnV} {W W' : World} (hN : NB w H Bm h A l W) (hb : Below W.heap.size W W') : NB w H Bm h A l W' := hN.keep hb hN.sz
theorem put_hart {W : World} {X : Nat} (hz : W.there X 0 35) (hl : X < W.heap.size) (y : HartV) : Below X W (World.setCells W X 0 (hartL y)) ∧ HC X y (World.setCells W X 0 (hartL y)) ∧ X < (World.setCells W X 0 (hartL y)).heap.size ∧ (World.setCells W X 0 (hartL y)).there X 0 35 := by
  have hb := below_setCells (Nat.le_refl X) (hartL y) 0 W (Below.refl X W)
  exact ⟨hb, HC.of_range (World.rangeAt_setCells_same W X 0 (hartL y) (by rw [hartL_len]; exact hz)), Nat.lt_of_lt_of_le hl hb.size, World.there_setCells hz X 0 (hartL y)⟩
theorem NB.there {w : World} {H Bm : Nat} {h : HartV} {A : Option Addr} {l : List InsnV} {W : World} (hN : NB w H Bm h A l W) : W.there H 0 35 := fun j hj => by
  rw [Nat.zero_add]; exact ⟨by rw [hN.hc j hj]; rfl, hN.hz j hj⟩
/-- The hart's box is written whole. -/
theorem NB.put {w : World} {H Bm : Nat} {h : HartV} {A : Option Addr} {l : List InsnV} {W : World} (hN : NB w H Bm h A l W) (y : HartV) : NB w H Bm y A l (World.setCells W H 0 (hartL y)) := by
  obtain ⟨hb, hc, hl, ht⟩ := put_hart hN.there (Nat.lt_of_lt_of_le hN.hl hN.sz) y
  refine ⟨hc, fun j hj => by have := (ht j hj).2; rwa [Nat.zero_add] at this, hN.hl, fun j i hi => ?_, below_setCells hN.ge (hartL y) 0 W hN.bl, hN.ge, Nat.le_trans hN.sz hb.size⟩
  obtain ⟨g, e, h1, h2, h3⟩ := hN.ir j i hi
  exact ⟨g, e, h1, h2, World.rangeAt_setCells_apart h3 H 0 _ (.inl h2)⟩
end Go.Proofs.YtcgflnkgekkidaaGreatDoor
namespace Go.Proofs.YtcgflnkgekkidaaGreatDoor
open Go.RowKit
/-- The document's Step at a jump to a word. -/
theorem Step_jal (h : HartV) (op : Int) (d r1 r2 : Nat) (imm : Int) (w : World) (ho : op = 3) (hr1 : r1 < 32) (hr2 : r2 < 32) (hd : d < 32) (hck : checkE ⟨op, d, r1, r2, imm, false, false, 0, 0⟩ = 0) (hx : un (h.x 0) = 0) (hf : h.fin = 0) (hcd : un h.code = 0) (j4 : ((un (h.pc + bv imm)).tmod 4 != 0) = false) :
    Calls Tryz.prog 19 #[.agg (hartArr h), .agg #[.int .i64 op, .int .i64 d, .int .i64 r1, .int .i64 r2, .int .i64 imm, .bool false, .bool false, .int .i64 0, .int .i64 0], .int .u64 0, .bool false] w fun e w' => e = .returned (.tuple #[.agg (hartArr (rgoneV h ⟨op, d, r1, r2, imm, false, false, 0, 0⟩ (h.pc + bv imm) (h.pc + 4#64))), .int .i64 0]) ∧ Below w.heap.size w w' := by
  have u0 : (0 : Int) = un 0#64 := by decide +kernel
  have hMem := Lib.hid (fun W => MemB op (.inl ho) W)
  have hA := Lib.hid (fun W => RAddr_q h op d r1 r2 imm false false 0 0 W hr1 hMem)
  have hM : Hid (∀ W, Calls Tryz.prog 44 #[.agg (hartArr h), .agg #[.int .i64 op, .int .i64 d, .int .i64 r1, .int .i64 r2, .int .i64 imm, .bool false, .bool false, .int .i64 0, .int .i64 0]] W fun e w' => e = .returned (.int .i64 0) ∧ Below W.heap.size W w') := Lib.hid fun W => by
    have := RMay_on h op d r1 r2 imm false false 0 0 W hx hf hcd
    rwa [hck] at this
  have hW : Hid (∀ W, Calls Tryz.prog 50 #[.agg #[.int .i64 op, .int .i64 d, .int .i64 r1, .int .i64 r2, .int .i64 imm, .bool false, .bool false, .int .i64 0, .int .i64 0]] W fun e w' => e = .returned (.int .i64 d) ∧ Below W.heap.size W w') := Lib.hid fun W => R2Writes_ok ⟨op, d, r1, r2, imm, false, false, 0, 0⟩ hck W
  have hD := Lib.hid fun W => RDo_none op (.inl ho) (h.x r1) (bv imm) W
  have hT := Lib.hid (fun W => RTgt_jal h op d r1 r2 imm false false 0 0 W hr1 hr2 ho)
  have hN := Lib.hid (fun W => REndJ_q h op d r1 r2 imm false false 0 0 W (h.x 17) (h.x r1 + bv imm) (h.pc + bv imm) 0 (Lib.hid rfl) hA hT (by subst ho; rfl) (by subst ho; rfl) rfl j4)
  have := RStepJ_q h op d r1 r2 imm false false 0 0 0#64 false w hr1 hr2 hd (h.pc + bv imm) true hM hN 0#64 2 hD hMem hT hW (by subst ho; rfl) (by subst ho; rfl) (by subst ho; rfl)
  rwa [← u0] at this
/-- The document's Step at a branch that is taken. -/
theorem Step_brT (h : HartV) (op : Int) (d r1 r2 : Nat) (imm : Int) (w : World) (ho : 5 ≤ op ∧ op ≤ 10) (hr1 : r1 < 32) (hr2 : r2 < 32) (hd : d < 32) (hck : checkE ⟨op, d, r1, r2, imm, false, false, 0, 0⟩ = 0) (hx : un (h.x 0) = 0) (hf : h.fin = 0) (hcd : un h.code = 0) (ht : takesF op (h.x r1) (h.x r2) = true) (j4 : ((un (h.pc + bv imm)).tmod 4 != 0) = false) :
    Calls Tryz.prog 19 #[.agg (hartArr h), .agg #[.int .i64 op, .int .i64 d, .int .i64 r1, .int .i64 r2, .int .i64 imm, .bool false, .bool false, .int .i64 0, .int .i64 0], .int .u64 0, .bool false] w fun e w' => e = .returned (.tuple #[.agg (hartArr (rgoneV h ⟨op, d, r1, r2, imm, false, false, 0, 0⟩ (h.pc + bv imm) (0#64))), .int .i64 0]) ∧ Below w.heap.size w w' := by
  have hx8 : op = 5 ∨ op = 6 ∨ op = 7 ∨ op = 8 ∨ op = 9 ∨ op = 10 := by omega
  have u0 : (0 : Int) = un 0#64 := by decide +kernel
  have hMem := Lib.hid (fun W => MemB op (.inr ho) W)
  have hA := Lib.hid (fun W => RAddr_q h op d r1 r2 imm false false 0 0 W hr1 hMem)
  have hM : Hid (∀ W, Calls Tryz.prog 44 #[.agg (hartArr h), .agg #[.int .i64 op, .int .i64 d, .int .i64 r1, .int .i64 r2, .int .i64 imm, .bool false, .bool false, .int .i64 0, .int .i64 0]] W fun e w' => e = .returned (.int .i64 0) ∧ Below W.heap.size W w') := Lib.hid fun W => by
    have := RMay_on h op d r1 r2 imm false false 0 0 W hx hf hcd
    rwa [hck] at this
  have hW : Hid (∀ W, Calls Tryz.prog 50 #[.agg #[.int .i64 op, .int .i64 d, .int .i64 r1, .int .i64 r2, .int .i64 imm, .bool false, .bool false, .int .i64 0, .int .i64 0]] W fun e w' => e = .returned (.int .i64 d) ∧ Below W.heap.size W w') := Lib.hid fun W => R2Writes_ok ⟨op, d, r1, r2, imm, false, false, 0, 0⟩ hck W
  have hD := Lib.hid fun W => RDo_none op (.inr ho) (h.x r1) (bv imm) W
  have hT := Lib.hid (fun W => RTgt_br h op d r1 r2 imm false false 0 0 W hr1 hr2 (by omega) (if_pos ho) ht)
  have hN := Lib.hid (fun W => REndJ_q h op d r1 r2 imm false false 0 0 W (h.x 17) (h.x r1 + bv imm) (h.pc + bv imm) 0 (Lib.hid rfl) hA hT (by rw [beq_eq_false_iff_ne]; omega) (by rw [beq_eq_false_iff_ne]; omega) rfl j4)
  have := RStepB_q h op d r1 r2 imm false false 0 0 0#64 false w hr1 hr2 hd (h.pc + bv imm) true hM hN 0#64 2 hD hMem hT hW (by rcases hx8 with rfl | rfl | rfl | rfl | rfl | rfl <;> rfl) (by rw [beq_eq_false_iff_ne]; omega) (by rw [beq_eq_false_iff_ne]; omega) (by rw [beq_eq_false_iff_ne]; omega) (by rw [beq_eq_false_iff_ne]; omega) rfl
  rwa [← u0] at this
/-- The document's Step at a branch that is not taken. -/
theorem Step_brN (h : HartV) (op : Int) (d r1 r2 : Nat) (imm : Int) (w : World) (ho : 5 ≤ op ∧ op ≤ 10) (hr1 : r1 < 32) (hr2 : r2 < 32) (hd : d < 32) (hck : checkE ⟨op, d, r1, r2, imm, false, false, 0, 0⟩ = 0) (hx : un (h.x 0) = 0) (hf : h.fin = 0) (hcd : un h.code = 0) (ht : takesF op (h.x r1) (h.x r2) = false) :
    Calls Tryz.prog 19 #[.agg (hartArr h), .agg #[.int .i64 op, .int .i64 d, .int .i64 r1, .int .i64 r2, .int .i64 imm, .bool false, .bool false, .int .i64 0, .int .i64 0], .int .u64 0, .bool false] w fun e w' => e = .returned (.tuple #[.agg (hartArr (rgoneV h ⟨op, d, r1, r2, imm, false, false, 0, 0⟩ (h.pc + 4#64) (0#64))), .int .i64 0]) ∧ Below w.heap.size w w' := by
  have hx8 : op = 5 ∨ op = 6 ∨ op = 7 ∨ op = 8 ∨ op = 9 ∨ op = 10 := by omega
  have u0 : (0 : Int) = un 0#64 := by decide +kernel
  have hMem := Lib.hid (fun W => MemB op (.inr ho) W)
  have hA := Lib.hid (fun W => RAddr_q h op d r1 r2 imm false false 0 0 W hr1 hMem)
  have hM : Hid (∀ W, Calls Tryz.prog 44 #[.agg (hartArr h), .agg #[.int .i64 op, .int .i64 d, .int .i64 r1, .int .i64 r2, .int .i64 imm, .bool false, .bool false, .int .i64 0, .int .i64 0]] W fun e w' => e = .returned (.int .i64 0) ∧ Below W.heap.size W w') := Lib.hid fun W => by
    have := RMay_on h op d r1 r2 imm false false 0 0 W hx hf hcd
    rwa [hck] at this
  have hW : Hid (∀ W, Calls Tryz.prog 50 #[.agg #[.int .i64 op, .int .i64 d, .int .i64 r1, .int .i64 r2, .int .i64 imm, .bool false, .bool false, .int .i64 0, .int .i64 0]] W fun e w' => e = .returned (.int .i64 d) ∧ Below W.heap.size W w') := Lib.hid fun W => R2Writes_ok ⟨op, d, r1, r2, imm, false, false, 0, 0⟩ hck W
  have hD := Lib.hid fun W => RDo_none op (.inr ho) (h.x r1) (bv imm) W
  have hT := Lib.hid (fun W => RTgt_next1 h op d r1 r2 imm false false 0 0 W hr1 hr2 (by rw [beq_eq_false_iff_ne]; omega) (by omega) (by unfold takesE; rw [if_pos ho]; rfl) ht)
  have hN := Lib.hid (fun W => REnd_q h op d r1 r2 imm false false 0 0 W (h.x 17) (h.x r1 + bv imm) (h.pc + 4#64) 0 (Lib.hid rfl) hA hT (by rw [beq_eq_false_iff_ne]; omega) (by rw [beq_eq_false_iff_ne]; omega) rfl)
  have := RStepB_q h op d r1 r2 imm false false 0 0 0#64 false w hr1 hr2 hd (h.pc + 4#64) false hM hN 0#64 2 hD hMem hT hW (by rcases hx8 with rfl | rfl | rfl | rfl | rfl | rfl <;> rfl) (by rw [beq_eq_false_iff_ne]; omega) (by rw [beq_eq_false_iff_ne]; omega) (by rw [beq_eq_false_iff_ne]; omega) (by rw [beq_eq_false_iff_ne]; omega) rfl
  rwa [← u0] at this
end Go.Proofs.YtcgflnkgekkidaaGreatDoor
