/- AsmNumbers, whatever comes. Conditions: the variables lie as their initialisers lay them. -/
import Derived.Test.YtcgflnkgekkidaaGreatDoorAsmNb
import Derived.Test.YtcgflnkgekkidaaGreatDoorAsmPl
import Derived.Test.YtcgflnkgekkidaaGreatDoorAsmC
import Derived.Test.YtcgflnkgekkidaaGreatDoorPick
import Derived.Deep.DeepCutAuto
set_option linter.unusedSimpArgs false
set_option linter.unusedVariables false
namespace Go.Proofs.YtcgflnkgekkidaaGreatDoor
open Go.RowKit Go.Maps
theorem MemQ (n : Int) (ho : n = 1 ∨ n = 22 ∨ n = 28 ∨ n = 31) (w : World) : Calls Tryz.prog 48 #[.int .i64 n] w fun e w' => e = .returned (.tuple #[.bool false, .bool false, .int .i64 0]) ∧ Below w.heap.size w w' := by
  have hN : Hid (∀ W, Calls Tryz.prog 84 #[.int .i64 n] W fun e w' => e = .returned (strV (opOf n).name) ∧ Below W.heap.size W w') := Lib.hid fun W => R2Name_any n W
  have hF : Hid (∀ W, Calls Tryz.prog 46 #[.int .i64 n] W fun e w' => e = .returned (.int .i64 (rform n)) ∧ W = w') := Lib.hid fun W => R2Form_any n W
  generalize strV (opOf n).name = s at hN
  obtain ⟨t4, t5, t11, t12⟩ : (rform n == 4) = false ∧ (rform n == 5) = false ∧ (rform n == 11) = false ∧ (rform n == 12) = false := by
    rcases ho with rfl | rfl | rfl | rfl <;> exact ⟨rfl, rfl, rfl, rfl⟩
  generalize rform n = f at hF t4 t5 t11 t12
  have hund : ∀ b : Bool, (some undef = some (Value.bool b)) = False := fun b => by simp [undef]
  clear ho
  go_enter Tryz.func48, Tryz.ntmps48
  go_wp2_with (first | (go_at_call 84; refine (hN.out _).mono ?_; rintro e w1 ⟨rfl, hb⟩) | (go_at_call 46; refine (hF.out _).mono ?_; rintro e w2 ⟨rfl, rfl⟩))
  go_ret3
  exact ⟨rfl, hb⟩
/-- The document's Step at an instruction of a number. -/
theorem Step_q (h : HartV) (op : Int) (d r1 r2 : Nat) (imm : Int) (w : World) (ho : op = 1 ∨ op = 22 ∨ op = 28 ∨ op = 31) (hr1 : r1 < 32) (hr2 : r2 < 32) (hd : d < 32) (hck : checkE ⟨op, d, r1, r2, imm, false, false, 0, 0⟩ = 0) (hx : un (h.x 0) = 0) (hf : h.fin = 0) (hcd : un h.code = 0) :
    Calls Tryz.prog 19 #[.agg (hartArr h), .agg #[.int .i64 op, .int .i64 d, .int .i64 r1, .int .i64 r2, .int .i64 imm, .bool false, .bool false, .int .i64 0, .int .i64 0], .int .u64 0, .bool false] w fun e w' => e = .returned (.tuple #[.agg (hartArr (rgoneV h ⟨op, d, r1, r2, imm, false, false, 0, 0⟩ (h.pc + 4#64) (doF op (h.x r1) (bv imm)))), .int .i64 0]) ∧ Below w.heap.size w w' := by
  have u0 : (0 : Int) = un 0#64 := by decide +kernel
  have hMem := Lib.hid (fun W => MemQ op ho W)
  have hTk : Hid (∀ W, Calls Tryz.prog 85 #[.int .i64 op, .int .u64 (un (h.x r1)), .int .u64 (un (h.x r2))] W fun e w' => e = .returned (.tuple #[.bool (takesF op (h.x r1) (h.x r2)), .int .i64 2]) ∧ W = w') := Lib.hid fun W => by
    have := RTakes_any op (h.x r1) (h.x r2) W
    rwa [show takesE op = 2 by rcases ho with rfl | rfl | rfl | rfl <;> rfl] at this
  have t3 : (op == 3) = false := by rcases ho with rfl | rfl | rfl | rfl <;> rfl
  have h4 : op ≠ 4 := by omega
  have hT := Lib.hid (fun W => RTgt_q h op d r1 r2 imm false false 0 0 W hr1 hr2 t3 h4 _ 2 rfl hTk)
  have hA := Lib.hid (fun W => RAddr_q h op d r1 r2 imm false false 0 0 W hr1 hMem)
  have hN := Lib.hid (fun W => REnd_q h op d r1 r2 imm false false 0 0 W (h.x 17) (h.x r1 + bv imm) (h.pc + 4#64) 0 (Lib.hid rfl) hA hT (by rcases ho with rfl | rfl | rfl | rfl <;> rfl) (by rcases ho with rfl | rfl | rfl | rfl <;> rfl) rfl)
  have hM : Hid (∀ W, Calls Tryz.prog 44 #[.agg (hartArr h), .agg #[.int .i64 op, .int .i64 d, .int .i64 r1, .int .i64 r2, .int .i64 imm, .bool false, .bool false, .int .i64 0, .int .i64 0]] W fun e w' => e = .returned (.int .i64 0) ∧ Below W.heap.size W w') := Lib.hid fun W => by
    have := RMay_on h op d r1 r2 imm false false 0 0 W hx hf hcd
    rwa [hck] at this
  have hW : Hid (∀ W, Calls Tryz.prog 50 #[.agg #[.int .i64 op, .int .i64 d, .int .i64 r1, .int .i64 r2, .int .i64 imm, .bool false, .bool false, .int .i64 0, .int .i64 0]] W fun e w' => e = .returned (.int .i64 d) ∧ Below W.heap.size W w') := Lib.hid fun W => R2Writes_ok ⟨op, d, r1, r2, imm, false, false, 0, 0⟩ hck W
  have := RStep_q h op d r1 r2 imm false false 0 0 0#64 false w hr1 hr2 hd (doF op (h.x r1) (bv imm)) (h.pc + 4#64) false hM hN (Lib.hid fun W => RDo_q op ho (h.x r1) (bv imm) W) hMem hT hW (by rcases ho with rfl | rfl | rfl | rfl <;> rfl) (by rcases ho with rfl | rfl | rfl | rfl <;> rfl) t3 (by rw [beq_eq_false_iff_ne]; exact h4) (by rcases ho with rfl | rfl | rfl | rfl <;> rfl)
  rwa [← u0] at this
/-- A hart with one register set. -/
def runH (pc : BitVec 64) (r : Nat) (v : BitVec 64) : HartV := ⟨pc, fun q => if q = r then v else 0#64, 0, 0#64⟩
theorem runH_set (pc n : BitVec 64) (r : Nat) (v x : BitVec 64) : ((runH pc r v).goes n).set r x = runH n r x := by
  unfold runH HartV.goes HartV.set
  simp only [HartV.mk.injEq, true_and, and_true]
  funext q
  by_cases h : q = r
  · rw [if_pos h, if_pos h]
  · rw [if_neg h, if_neg h, if_neg h]
theorem runH_x (pc : BitVec 64) (r : Nat) (v : BitVec 64) : (runH pc r v).x r = v := if_pos rfl
theorem runH_0 (pc : BitVec 64) (r : Nat) (hr : 1 ≤ r) (v : BitVec 64) : (runH pc r v).x 0 = 0#64 := if_neg (by omega)
theorem do_exec (op : Int) (r : Nat) (hr : 1 ≤ r) (v pc : BitVec 64) (i : InsnV) (hok : numOk r i) (r1 : Nat) (h1 : i.rs1 = r1) : doF i.op ((runH pc r v).x r1) (bv i.imm) = execV v i := by
  rcases hok with ⟨m, hm, rfl⟩ | ⟨m, hm, rfl⟩ | ⟨m, hm, rfl⟩ | rfl | ⟨m, hm, rfl⟩
  · rw [exec_lui]; rfl
  · rw [exec_addi0]
    obtain rfl : r1 = 0 := by simp only at h1; omega
    rw [runH_0 pc r hr]; rfl
  · rw [exec_addi _ _ _ (by omega)]
    obtain rfl : r1 = r := by simp only at h1; omega
    rw [runH_x]; rfl
  · rw [exec_slli]
    obtain rfl : r1 = r := by simp only at h1; omega
    rw [runH_x]
    show v <<< sh (bv 12) 63#64 = _
    rw [show sh (bv 12) 63#64 = 12 by decide +kernel]
  · rw [exec_addiw]
    obtain rfl : r1 = r := by simp only at h1; omega
    rw [runH_x]
    show Short (Short v + Short (bv m)) = _
    exact short_45 _ _
theorem Step_num (pc v : BitVec 64) (r : Nat) (hr : 1 ≤ r) (hr2 : r < 32) (i : InsnV) (hok : numOk r i) (hck : checkE i = 0) (w : World) :
    Calls Tryz.prog 19 #[.agg (hartArr (runH pc r v)), .agg i.cells, .int .u64 0, .bool false] w fun e w' => e = .returned (.tuple #[.agg (hartArr (runH (pc + 4#64) r (execV v i))), .int .i64 0]) ∧ Below w.heap.size w w' := by
  have key : ∃ (op : Int) (r1 : Nat) (imm : Int), i = ⟨op, r, r1, (0 : Nat), imm, false, false, 0, 0⟩ ∧ (op = 1 ∨ op = 22 ∨ op = 28 ∨ op = 31) ∧ r1 < 32 := by
    rcases hok with ⟨m, hm, rfl⟩ | ⟨m, hm, rfl⟩ | ⟨m, hm, rfl⟩ | rfl | ⟨m, hm, rfl⟩
    · exact ⟨1, 0, m, rfl, .inl rfl, by omega⟩
    · exact ⟨22, 0, m, rfl, .inr (.inl rfl), by omega⟩
    · exact ⟨22, r, m, rfl, .inr (.inl rfl), by omega⟩
    · exact ⟨28, r, 12, rfl, .inr (.inr (.inl rfl)), by omega⟩
    · exact ⟨31, r, m, rfl, .inr (.inr (.inr rfl)), by omega⟩
  obtain ⟨op, r1, imm, rfl, ho, h1⟩ := key
  have hd := do_exec op r hr v pc _ hok r1 rfl
  have := Step_q (runH pc r v) op r r1 0 imm w ho h1 (by decide) hr2 hck (by rw [runH_0 pc r hr]; decide +kernel) rfl (by show un 0#64 = 0; decide +kernel)
  simp only at hd
  rw [hd] at this
  have e : rgoneV (runH pc r v) ⟨op, r, r1, (0 : Nat), imm, false, false, 0, 0⟩ ((runH pc r v).pc + 4#64) (execV v ⟨op, r, r1, (0 : Nat), imm, false, false, 0, 0⟩) = runH (pc + 4#64) r (execV v ⟨op, r, r1, (0 : Nat), imm, false, false, 0, 0⟩) := by
    unfold rgoneV
    rw [if_neg (show ¬ (r : Int) = 0 by omega)]
    exact runH_set pc (pc + 4#64) r v _
  rw [e] at this
  exact this
section
attribute [local irreducible] un sn hartL
def newV (pc : BitVec 64) : HartV := ⟨pc, fun _ => 0#64, 0, 0#64⟩
end
def newL (pc : BitVec 64) : List Value := [.int .u64 (un pc), .int .u64 0, .int .u64 0, .int .u64 0, .int .u64 0, .int .u64 0, .int .u64 0, .int .u64 0, .int .u64 0, .int .u64 0, .int .u64 0, .int .u64 0, .int .u64 0, .int .u64 0, .int .u64 0, .int .u64 0, .int .u64 0, .int .u64 0, .int .u64 0, .int .u64 0, .int .u64 0, .int .u64 0, .int .u64 0, .int .u64 0, .int .u64 0, .int .u64 0, .int .u64 0, .int .u64 0, .int .u64 0, .int .u64 0, .int .u64 0, .int .u64 0, .int .u64 0, .int .i64 0, .int .u64 0]
theorem newL_eq (pc : BitVec 64) : newL pc = hartL (newV pc) := rfl
theorem newV_set (pc : BitVec 64) (r : Nat) (v : BitVec 64) : (newV pc).set r v = runH pc r v := rfl
section
attribute [local irreducible] un sn
theorem there_new {W : World} {a : Nat} (hz : W.there a 0 35) (pc : BitVec 64) : W.there a 0 (newL pc).toArray.size := hz
theorem size_new (pc : BitVec 64) : (Tryz.prog.info? 47).map (·.size) = some (newL pc).toArray.size := by kernel_rfl
theorem one_new (pc : BitVec 64) : (newL pc).toArray.all (·.oneCell') = true := by rw [newL_eq]; exact hartL_one _
set_option maxRecDepth 100000 in
set_option maxHeartbeats 4000000 in
theorem RNew_any (pc : BitVec 64) (w : World) :
    Calls Tryz.prog 18 #[.int .u64 (un pc)] w fun e w' => e = .returned (.agg (hartL (newV pc)).toArray) ∧ Below w.heap.size w w' := by
  have hz := zeros_there w 47
  have hbl : Below w.heap.size w (w.alloc (.cells #[.int .u64 0, .int .u64 0, .int .u64 0, .int .u64 0, .int .u64 0, .int .u64 0, .int .u64 0, .int .u64 0, .int .u64 0, .int .u64 0, .int .u64 0, .int .u64 0, .int .u64 0, .int .u64 0, .int .u64 0, .int .u64 0, .int .u64 0, .int .u64 0, .int .u64 0, .int .u64 0, .int .u64 0, .int .u64 0, .int .u64 0, .int .u64 0, .int .u64 0, .int .u64 0, .int .u64 0, .int .u64 0, .int .u64 0, .int .u64 0, .int .u64 0, .int .u64 0, .int .u64 0, .int .i64 0, .int .u64 0] 47)) := (Below.refl _ _).alloc (Nat.le_refl _) _
  go_enter Tryz.func18, Tryz.ntmps18
  go_wp2_with (refine wpList_store_mid rfl 47 _ _ rfl w.heap.size 0 (newL pc).toArray rfl rfl (there_new hz pc) (size_new pc) (one_new pc) ?_)
  rw [newL_eq]
  have hr := World.rangeAt_setCells_same _ w.heap.size 0 (hartL (newV pc)) (by rw [hartL_len]; exact hz)
  have hbl := below_setCells (Nat.le_refl w.heap.size) (hartL (newV pc)) 0 _ hbl
  generalize World.setCells _ w.heap.size 0 (hartL (newV pc)) = W5 at hr hbl ⊢
  have hlv := result_hart W5 w.heap.size (newV pc) hr
  exact bodyPost_ret (v := .agg (hartL (newV pc)).toArray) (by simp [results, Tryz.results18, asAddr, hlv]) rfl ⟨rfl, hbl⟩
end
/-- What the loop of AsmNumbers holds: the hart's box, the number's instructions. -/
structure NB (w : World) (H Bm : Nat) (h : HartV) (A : Option Addr) (l : List InsnV) (W : World) : Prop where
  hc : HC H h W
  hz : ∀ j, j < 35 → W.frozen? ⟨H, j, none⟩ = false
  hl : H < Bm
  ir : ∀ j i, l[j]? = some i → ∃ g, A = some ⟨g, 0, none⟩ ∧ g < Bm ∧ g ≠ H ∧ W.rangeAt g (j * 9) i.cells.toList
  bl : Below w.heap.size w W
  ge : w.heap.size ≤ H
  sz : Bm ≤ W.heap.size
theorem NB.keep {w : World} {H Bm B : Nat} {h : HartV} {A : Option Addr} {l : List InsnV} {W W' : World} (hN : NB w H Bm h A l W) (hb : Below B W W') (hB : Bm ≤ B) : NB w H Bm h A l W' := by
  have hH := hN.hl
  have hG := hN.ge
  refine ⟨fun j hj => by rw [hb.cell (p := ⟨H, j, none⟩) (Nat.lt_of_lt_of_le hH hB)]; exact hN.hc j hj, fun j hj => by rw [hb.frozen (p := ⟨H, j, none⟩) (Nat.lt_of_lt_of_le hH hB)]; exact hN.hz j hj, hH, fun j i hi => ?_, hN.bl.trans (hb.mono (by omega)), hG, Nat.le_trans hN.sz hb.size⟩
  obtain ⟨g, e, h1, h2, h3⟩ := hN.ir j i hi
  exact ⟨g, e, h1, h2, fun m v hv => by rw [hb.cell (p := ⟨g, j * 9 + m, none⟩) (Nat.lt_of_lt_of_le h1 hB)]; exact h3 m v hv⟩
theorem NB.kept {w : World} {H Bm : Nat} {h : HartV} {A : Option Addr} {l : List InsnV} {W W' : World} (hN : NB w H Bm h A l W) (hb : Below W.heap.size W W') : NB w H Bm h A l W' := hN.keep hb hN.sz
theorem there_keep {a B : Nat} {W W' : World} (hz : W.there a 0 35) (ha : a < B) (hb : Below B W W') : W'.there a 0 35 := fun j hj => by
  rw [hb.cell (p := ⟨a, 0 + j, none⟩) ha, hb.frozen (p := ⟨a, 0 + j, none⟩) ha]; exact hz j hj
theorem put_hart {W : World} {X : Nat} (hz : W.there X 0 35) (hl : X < W.heap.size) (y : HartV) : Below X W (World.setCells W X 0 (hartL y)) ∧ HC X y (World.setCells W X 0 (hartL y)) ∧ X < (World.setCells W X 0 (hartL y)).heap.size ∧ (World.setCells W X 0 (hartL y)).there X 0 35 := by
  have hb := below_setCells (Nat.le_refl X) (hartL y) 0 W (Below.refl X W)
  exact ⟨hb, HC.of_range (World.rangeAt_setCells_same W X 0 (hartL y) (by rw [hartL_len]; exact hz)), Nat.lt_of_lt_of_le hl hb.size, World.there_setCells hz X 0 (hartL y)⟩
theorem NB.there {w : World} {H Bm : Nat} {h : HartV} {A : Option Addr} {l : List InsnV} {W : World} (hN : NB w H Bm h A l W) : W.there H 0 35 := fun j hj => by
  rw [Nat.zero_add]; exact ⟨by rw [hN.hc j hj]; rfl, hN.hz j hj⟩
/-- The hart's box is written whole. -/
theorem NB.put {w : World} {H Bm : Nat} {h : HartV} {A : Option Addr} {l : List InsnV} {W : World} (hN : NB w H Bm h A l W) (y : HartV) : NB w H Bm y A l (World.setCells W H 0 (hartL y)) := by
  obtain ⟨hb, hc, hl, ht⟩ := put_hart hN.there (Nat.lt_of_lt_of_le hN.hl hN.sz) y
  refine ⟨hc, fun j hj => by have := (ht j hj).2; rwa [Nat.zero_add] at this, hN.hl, fun j i hi => ?_, below_setCells hN.ge (hartL y) 0 W hN.bl, hN.ge, Nat.le_trans hN.sz hb.size⟩
  obtain ⟨g, e, h1, h2, h3⟩ := hN.ir j i hi
  exact ⟨g, e, h1, h2, World.rangeAt_setCells_apart h3 H 0 _ (.inl h2)⟩
end Go.Proofs.YtcgflnkgekkidaaGreatDoor
