/- The document's answers of layer 4 at the operations of a number's instructions, and whether a branch is taken. The document's hart at an instruction that is no branch, no jump and no access to memory: Check, may, address, target, end, Step. Plain: a number's instructions compute it, and are at most eight. No program in sight. Conditions: as each theorem says. -/
import Derived.Test.YtcgflnkgekkidaaGreatDoorAsmC
import Derived.Test.YtcgflnkgekkidaaGreatDoorRefCheck
import Derived.Test.YtcgflnkgekkidaaGreatDoorAsmA
set_option linter.unusedSimpArgs false
set_option linter.unusedVariables false
namespace Go.Proofs.YtcgflnkgekkidaaGreatDoor
open Go.RowKit
theorem quo_sn (a b : BitVec 64) : IntKind.i64.wrap ((sn a).tdiv (sn b)) = sn (a.sdiv b) := by
  rw [wrap_i64_sn]; congr 1
  apply BitVec.eq_of_toInt_eq
  unfold bv sn
  rw [BitVec.toInt_ofInt, BitVec.toInt_sdiv]
theorem rem_sn (a b : BitVec 64) : (sn a).tmod (sn b) = sn (a.srem b) := by
  unfold sn; rw [BitVec.toInt_srem]
theorem quo_un (a b : BitVec 64) : IntKind.u64.wrap ((un a).tdiv (un b)) = un (a / b) := by
  have h : (un a).tdiv (un b) = un (a / b) := by
    unfold un; rw [BitVec.toNat_udiv]; rfl
  rw [h, wrap_u64_bv, bv_un]
theorem bv_quo_un (a b : BitVec 64) : bv ((un a).tdiv (un b)) = a / b := by
  have h := quo_un a b
  rw [wrap_u64_bv] at h; exact un_inj.1 h
theorem rem_un (a b : BitVec 64) : (un a).tmod (un b) = un (a % b) := by
  unfold un; rw [BitVec.toNat_umod]; rfl
def takesF (op : Int) (a b : BitVec 64) : Bool :=
  if op = 5 then un a == un b else if op = 6 then un a != un b else if op = 7 then decide (sn a < sn b) else if op = 8 then decide (sn b ≤ sn a)
  else if op = 9 then decide (un a < un b) else if op = 10 then decide (un b ≤ un a) else false
def takesE (op : Int) : Int := if 5 ≤ op ∧ op ≤ 10 then 0 else 2
attribute [local go_sem] wrap_u64_bv bv_un bv_sn bv_add bv_mul bv_neg bv_sub mul_bvpow shr_min shl_min sshr_min bv_lit bv_0 bv_1 un_shr sn_shr wrap_i64_un bits_u64_and bits_u64_or bits_u64_xor bits_u64_andNot bv_max u64_unsigned quo_sn rem_sn bv_quo_un rem_un
section
attribute [local irreducible] un sn
theorem RTakes_any (op : Int) (a b : BitVec 64) (w : World) :
    Calls Tryz.prog 85 #[.int .i64 op, .int .u64 (un a), .int .u64 (un b)] w fun e w' => e = .returned (.tuple #[.bool (takesF op a b), .int .i64 (takesE op)]) ∧ w = w' := by
  have hF : Hid (takesF op a b = if op = 5 then un a == un b else if op = 6 then un a != un b else if op = 7 then decide (sn a < sn b) else if op = 8 then decide (sn b ≤ sn a) else if op = 9 then decide (un a < un b) else if op = 10 then decide (un b ≤ un a) else false) := Lib.hid rfl
  have hE : Hid (takesE op = if 5 ≤ op ∧ op ≤ 10 then 0 else 2) := Lib.hid rfl
  by_cases h : 5 ≤ op ∧ op ≤ 10
  · have hx : op = 5 ∨ op = 6 ∨ op = 7 ∨ op = 8 ∨ op = 9 ∨ op = 10 := by omega
    clear h
    rcases hx with rfl | rfl | rfl | rfl | rfl | rfl
    all_goals
      go_enter Tryz.func85, Tryz.ntmps85
      go_wp2
      all_goals
        go_ret2
        exact ⟨by rw [hF.out, hE.out]; simp; try omega, rfl⟩
  · have hE' := Lib.hid (hE.out.trans (if_neg h))
    have t5 : (op == 5) = false := by rw [beq_eq_false_iff_ne]; omega
    have t6 : (op == 6) = false := by rw [beq_eq_false_iff_ne]; omega
    have t7 : (op == 7) = false := by rw [beq_eq_false_iff_ne]; omega
    have t8 : (op == 8) = false := by rw [beq_eq_false_iff_ne]; omega
    have t9 : (op == 9) = false := by rw [beq_eq_false_iff_ne]; omega
    have t10 : (op == 10) = false := by rw [beq_eq_false_iff_ne]; omega
    have hF' : Hid (takesF op a b = false) := Lib.hid (by rw [hF.out, if_neg (by omega), if_neg (by omega), if_neg (by omega), if_neg (by omega), if_neg (by omega), if_neg (by omega)])
    clear hE hF h
    go_enter Tryz.func85, Tryz.ntmps85
    go_wp2
    go_ret2
    exact ⟨by rw [hF'.out, hE'.out] <;> rfl, rfl⟩
theorem RPlain_any (n : Int) (w : World) :
    Calls Tryz.prog 81 #[.int .i64 n] w fun e w' => e = .returned (.int .i64 (plainOf n)) ∧ w = w' := by
  by_cases h : 22 ≤ n ∧ n ≤ 34
  · have hx : n = 22 ∨ n = 23 ∨ n = 24 ∨ n = 25 ∨ n = 26 ∨ n = 27 ∨ n = 28 ∨ n = 29 ∨ n = 30 ∨ n = 31 ∨ n = 32 ∨ n = 33 ∨ n = 34 := by omega
    clear h
    rcases hx with rfl | rfl | rfl | rfl | rfl | rfl | rfl | rfl | rfl | rfl | rfl | rfl | rfl
    all_goals
      go_enter Tryz.func81, Tryz.ntmps81
      go_wp2_with fail
      go_ret
      exact ⟨rfl, rfl⟩
  · have hp := Lib.hid (plainOf_other n h)
    have t22 : (n == 22) = false := by rw [beq_eq_false_iff_ne]; omega
    have t23 : (n == 23) = false := by rw [beq_eq_false_iff_ne]; omega
    have t24 : (n == 24) = false := by rw [beq_eq_false_iff_ne]; omega
    have t25 : (n == 25) = false := by rw [beq_eq_false_iff_ne]; omega
    have t26 : (n == 26) = false := by rw [beq_eq_false_iff_ne]; omega
    have t27 : (n == 27) = false := by rw [beq_eq_false_iff_ne]; omega
    have t28 : (n == 28) = false := by rw [beq_eq_false_iff_ne]; omega
    have t29 : (n == 29) = false := by rw [beq_eq_false_iff_ne]; omega
    have t30 : (n == 30) = false := by rw [beq_eq_false_iff_ne]; omega
    have t31 : (n == 31) = false := by rw [beq_eq_false_iff_ne]; omega
    have t32 : (n == 32) = false := by rw [beq_eq_false_iff_ne]; omega
    have t33 : (n == 33) = false := by rw [beq_eq_false_iff_ne]; omega
    have t34 : (n == 34) = false := by rw [beq_eq_false_iff_ne]; omega
    clear h
    cases hf : (rform n == 8) with
    | true =>
      have hq : Hid (plainOf n = n) := Lib.hid (by rw [hp.out, rform_eq, if_pos (by simpa using hf)])
      go_enter Tryz.func81, Tryz.ntmps81
      go_wp2_with (go_at_call 46; (with_reducible refine (R2Form_any _ _).mono ?_); rintro e w1 ⟨rfl, rfl⟩)
      go_ret
      exact ⟨ret_int (by rw [hq.out] <;> rfl), rfl⟩
    | false =>
      have hq : Hid (plainOf n = 0) := Lib.hid (by rw [hp.out, rform_eq, if_neg (by simpa using hf)])
      go_enter Tryz.func81, Tryz.ntmps81
      go_wp2_with (go_at_call 46; (with_reducible refine (R2Form_any _ _).mono ?_); rintro e w1 ⟨rfl, rfl⟩)
      go_ret
      exact ⟨ret_int (by rw [hq.out] <;> rfl), rfl⟩
end
end Go.Proofs.YtcgflnkgekkidaaGreatDoor
namespace Go.Proofs.YtcgflnkgekkidaaGreatDoor
open Go.RowKit
structure HartV where
  pc : BitVec 64
  x : Nat → BitVec 64
  fin : Int
  code : BitVec 64
/-- Where a hart goes on. -/
def HartV.goes (h : HartV) (n : BitVec 64) : HartV := { h with pc := n }
/-- A hart with another register. -/
def HartV.set (h : HartV) (d : Nat) (v : BitVec 64) : HartV := { h with x := fun r => if r = d then v else h.x r }
def hartCell (h : HartV) (j : Nat) : Value := if j = 0 then .int .u64 (un h.pc) else if j ≤ 32 then .int .u64 (un (h.x (j - 1))) else if j = 33 then .int .i64 h.fin else .int .u64 (un h.code)
/-- The cells of a hart in block a. -/
def HC (a : Nat) (h : HartV) (W : World) : Prop := ∀ j, j < 35 → W.cell? ⟨a, j, none⟩ = some (hartCell h j)
/-- A hart's cells. -/
def hartL (h : HartV) : List Value := (List.range 35).map (hartCell h)
theorem hartL_at (h : HartV) (j : Nat) (hj : j < 35) : (hartL h)[j]? = some (hartCell h j) := by
  unfold hartL; simp [hj]
theorem hartL_len (h : HartV) : (hartL h).length = 35 := by unfold hartL; simp
theorem hart_range {h : HartV} {b : Nat} {w : World} (hc : ∀ j, j < 35 → w.cell? ⟨b, j, none⟩ = some (hartCell h j)) : w.rangeAt b 0 (hartL h) := fun j v hv => by
  rcases Nat.lt_or_ge j 35 with hj | hj
  · rw [hartL_at h j hj] at hv; rw [Nat.zero_add, hc j hj, hv]
  · rw [List.getElem?_eq_none (by rw [hartL_len]; exact hj)] at hv; cases hv
theorem HC.range {a : Nat} {h : HartV} {W : World} (hc : HC a h W) : W.rangeAt a 0 (hartL h) := hart_range hc
theorem HC.of_range {a : Nat} {h : HartV} {W : World} (hr : W.rangeAt a 0 (hartL h)) : HC a h W := fun j hj => by
  have := hr j _ (hartL_at h j hj); rw [Nat.zero_add] at this; exact this
theorem hartCell_x (h : HartV) (r : Nat) (hr : r < 32) : hartCell h (1 + r) = .int .u64 (un (h.x r)) := by
  unfold hartCell; rw [if_neg (by omega), if_pos (by omega)]; rw [show 1 + r - 1 = r by omega]
theorem setCell_at {W : World} {b o j : Nat} {v u : Value} (hc : W.cell? ⟨b, o, none⟩ = some u) : (W.setCell ⟨b, o, none⟩ v).cell? ⟨b, j, none⟩ = if j = o then some v else W.cell? ⟨b, j, none⟩ := by
  split
  · rename_i e; subst e; exact World.cell?_setCell_same _ _ _ hc
  · rename_i e; exact World.cell?_setCell_other _ _ _ _ (fun h => e (by injection h with _ h2 _; exact h2.symm))
theorem HC.setX {a : Nat} {h : HartV} {W : World} (hc : HC a h W) (d : Nat) (hd : d < 32) (v : BitVec 64) : HC a (h.set d v) (W.setCell ⟨a, 1 + d, none⟩ (.int .u64 (un v))) := fun j hj => by
  rw [setCell_at (hc (1 + d) (by omega))]
  split
  · rename_i e; subst e; rw [hartCell_x _ d hd]; simp [HartV.set]
  · rename_i e
    rw [hc j hj]; unfold hartCell
    by_cases j0 : j = 0
    · rw [if_pos j0, if_pos j0]; rfl
    · rw [if_neg j0, if_neg j0]
      by_cases j32 : j ≤ 32
      · rw [if_pos j32, if_pos j32]; simp only [HartV.set]; rw [if_neg (by omega)]
      · rw [if_neg j32, if_neg j32]; rfl
theorem HC.goes {a : Nat} {h : HartV} {W : World} (hc : HC a h W) (n : BitVec 64) : HC a (h.goes n) (W.setCell ⟨a, 0, none⟩ (.int .u64 (un n))) := fun j hj => by
  rw [setCell_at (hc 0 (by decide))]
  split
  · rename_i e; subst e; rfl
  · rename_i e; rw [hc j hj]; unfold hartCell; rw [if_neg e, if_neg e]; rfl
def insnCell (i : InsnV) (j : Nat) : Value := i.cells.getD j undef
/-- What begin's frame holds, begun in world w: a copy of the hart, a copy of the instruction. -/
structure BK (w : World) (h : HartV) (i : InsnV) (W : World) : Prop where
  h : ∀ j, j < 35 → W.cell? ⟨w.heap.size, j, none⟩ = some (hartCell h j)
  c : ∀ j, j < 9 → W.cell? ⟨w.heap.size + 1, j, none⟩ = some (insnCell i j)
  bl : Below w.heap.size w W
  sz : w.heap.size + 2 ≤ W.heap.size
theorem BK.keep {w W W' : World} {h : HartV} {i : InsnV} (hB : BK w h i W) (hb : Below W.heap.size W W') : BK w h i W' := by
  have sz := hB.sz
  exact ⟨fun j hj => by rw [hb.cell (p := ⟨w.heap.size, j, none⟩) (by show w.heap.size < _; omega)]; exact hB.h j hj,
    fun j hj => by rw [hb.cell (p := ⟨w.heap.size + 1, j, none⟩) (by show w.heap.size + 1 < _; omega)]; exact hB.c j hj, hB.bl.trans (hb.mono (by omega)), Nat.le_trans sz hb.size⟩
theorem BK.drew {w W : World} {h : HartV} {i : InsnV} (hB : BK w h i W) : BK w h i W.drew := hB.keep ((Below.refl _ _).drew)
/-- A hart by value. -/
def hartArr (h : HartV) : Array Value := (hartL h).toArray
theorem hartArr_at (h : HartV) (j : Nat) (hj : j < 35) : (hartArr h)[j]? = some (hartCell h j) := by
  unfold hartArr; simp [hartL_at h j hj]
theorem BK.start (w : World) (h : HartV) (i : InsnV) (t t' : TypeId) : BK w h i ((w.alloc (.cells (hartArr h) t)).alloc (.cells i.cells t')) := by
  have s1 : (w.alloc (.cells (hartArr h) t)).heap.size = w.heap.size + 1 := by simp
  refine ⟨fun j hj => ?_, fun j hj => ?_, ((Below.refl _ _).alloc (Nat.le_refl _) _).alloc (by simp) _, by simp⟩
  · rw [((Below.refl _ _).alloc (Nat.le_refl _) _ : Below _ (w.alloc (.cells (hartArr h) t)) _).cell (p := ⟨w.heap.size, j, none⟩) (by rw [s1]; show w.heap.size < _; omega), World.cell?_alloc_new, hartArr_at h j hj]
  · rw [← s1, World.cell?_alloc_new]
    rcases (show j = 0 ∨ j = 1 ∨ j = 2 ∨ j = 3 ∨ j = 4 ∨ j = 5 ∨ j = 6 ∨ j = 7 ∨ j = 8 by omega) with rfl | rfl | rfl | rfl | rfl | rfl | rfl | rfl | rfl <;> rfl
theorem insn_range {i : InsnV} {b o : Nat} {w : World} (hc : ∀ j, j < 9 → w.cell? ⟨b, o + j, none⟩ = some (insnCell i j)) : w.rangeAt b o i.cells.toList := fun j v hv => by
  rcases (show j = 0 ∨ j = 1 ∨ j = 2 ∨ j = 3 ∨ j = 4 ∨ j = 5 ∨ j = 6 ∨ j = 7 ∨ j = 8 ∨ 9 ≤ j by omega) with rfl | rfl | rfl | rfl | rfl | rfl | rfl | rfl | rfl | hj
  all_goals first
    | (rw [hc _ (by decide)]; exact hv)
    | (rw [List.getElem?_eq_none (show i.cells.toList.length ≤ j from hj)] at hv; cases hv)
theorem BK.facts {w W : World} {h : HartV} {op rd r1 r2 imm : Int} {aq rl : Bool} {pred succ : Int} (hB : BK w h ⟨op, rd, r1, r2, imm, aq, rl, pred, succ⟩ W) :
    W.rangeAt w.heap.size 0 (hartL h) ∧ W.rangeAt (w.heap.size + 1) 0 (InsnV.cells ⟨op, rd, r1, r2, imm, aq, rl, pred, succ⟩).toList ∧ W.cell? ⟨w.heap.size, 33, none⟩ = some (.int .i64 h.fin) ∧ W.cell? ⟨w.heap.size + 1, 0, none⟩ = some (Value.int .i64 op) ∧ W.cell? ⟨w.heap.size + 1, 1, none⟩ = some (Value.int .i64 rd) ∧ W.cell? ⟨w.heap.size + 1, 2, none⟩ = some (Value.int .i64 r1) ∧ W.cell? ⟨w.heap.size + 1, 3, none⟩ = some (Value.int .i64 r2) ∧ W.cell? ⟨w.heap.size + 1, 4, none⟩ = some (Value.int .i64 imm) ∧ W.cell? ⟨w.heap.size + 1, 5, none⟩ = some (Value.bool aq) ∧ W.cell? ⟨w.heap.size + 1, 6, none⟩ = some (Value.bool rl) ∧ W.cell? ⟨w.heap.size + 1, 7, none⟩ = some (Value.int .i64 pred) ∧ W.cell? ⟨w.heap.size + 1, 8, none⟩ = some (Value.int .i64 succ) :=
  ⟨hart_range hB.h, insn_range (fun j hj => by rw [Nat.zero_add]; exact hB.c j hj), hB.h 33 (by decide), hB.c 0 (by decide), hB.c 1 (by decide), hB.c 2 (by decide), hB.c 3 (by decide), hB.c 4 (by decide), hB.c 5 (by decide), hB.c 6 (by decide), hB.c 7 (by decide), hB.c 8 (by decide)⟩
/-- What the frame of the document's Step holds, begun in world w. -/
structure RK (w : World) (h : HartV) (i : InsnV) (W : World) : Prop where
  h : HC w.heap.size h W
  hf : ∀ j, j < 35 → W.frozen? ⟨w.heap.size, j, none⟩ = false
  c : ∀ j, j < 9 → W.cell? ⟨w.heap.size + 1, j, none⟩ = some (insnCell i j)
  z : W.there (w.heap.size + 2) 0 35
  bl : Below w.heap.size w W
  sz : w.heap.size + 3 ≤ W.heap.size
theorem RK.keep {w W W' : World} {h : HartV} {i : InsnV} (hE : RK w h i W) (hb : Below W.heap.size W W') : RK w h i W' := by
  have sz := hE.sz
  have cl : ∀ (x j : Nat), x < w.heap.size + 3 → W'.cell? ⟨x, j, none⟩ = W.cell? ⟨x, j, none⟩ := fun x j hx => hb.cell (p := ⟨x, j, none⟩) (by show x < _; omega)
  have fl : ∀ (x j : Nat), x < w.heap.size + 3 → W'.frozen? ⟨x, j, none⟩ = W.frozen? ⟨x, j, none⟩ := fun x j hx => hb.frozen (p := ⟨x, j, none⟩) (by show x < _; omega)
  exact ⟨fun j hj => by rw [cl _ _ (by omega)]; exact hE.h j hj, fun j hj => by rw [fl _ _ (by omega)]; exact hE.hf j hj, fun j hj => by rw [cl _ _ (by omega)]; exact hE.c j hj,
    fun j hj => by rw [cl _ _ (by omega), fl _ _ (by omega)]; exact hE.z j hj, hE.bl.trans (hb.mono (by omega)), Nat.le_trans hE.sz hb.size⟩
theorem RK.drew {w W : World} {h : HartV} {i : InsnV} (hE : RK w h i W) : RK w h i W.drew := hE.keep (Below.refl _ _).drew
theorem setCell_size (W : World) (a : Addr) (v : Value) : W.heap.size ≤ (W.setCell a v).heap.size := ((Below.refl 0 W).setCell (Nat.zero_le _) v).size
/-- A cell of the hart is stored. -/
theorem RK.put {w W : World} {h h' : HartV} {i : InsnV} (hE : RK w h i W) (o : Nat) (v : Value) (hc : HC w.heap.size h' (W.setCell ⟨w.heap.size, o, none⟩ v)) : RK w h' i (W.setCell ⟨w.heap.size, o, none⟩ v) := by
  have sz := setCell_size W ⟨w.heap.size, o, none⟩ v
  have cl : ∀ (x j : Nat), x ≠ w.heap.size → (W.setCell ⟨w.heap.size, o, none⟩ v).cell? ⟨x, j, none⟩ = W.cell? ⟨x, j, none⟩ := fun x j hx => World.cell?_setCell_other _ _ _ _ (fun e => hx (by injection e with e1 _ _; exact e1.symm))
  have fl : ∀ (x j : Nat), (W.setCell ⟨w.heap.size, o, none⟩ v).frozen? ⟨x, j, none⟩ = W.frozen? ⟨x, j, none⟩ := fun x j => World.frozen?_setCells w.heap.size [v] o W ⟨x, j, none⟩
  exact ⟨hc, fun j hj => by rw [fl]; exact hE.hf j hj, fun j hj => by rw [cl _ _ (by omega)]; exact hE.c j hj, fun j hj => by rw [cl _ _ (by omega), fl]; exact hE.z j hj, hE.bl.setCell (p := ⟨w.heap.size, o, none⟩) (Nat.le_refl _) v, Nat.le_trans hE.sz sz⟩
theorem fresh_thaw (w : World) (cs : Array Value) (t : TypeId) (j : Nat) : (w.alloc (.cells cs t)).frozen? ⟨w.heap.size, j, none⟩ = false := by
  rw [frozen?_alloc_cells]; unfold World.frozen?; rw [Array.getElem?_eq_none (Nat.le_refl _)]
theorem there_fresh (w : World) (cs : Array Value) (t : TypeId) (n : Nat) (hn : n ≤ cs.size) : (w.alloc (.cells cs t)).there w.heap.size 0 n := fun j hj => by
  refine ⟨?_, fresh_thaw w cs t _⟩
  rw [World.cell?_alloc_new, Nat.zero_add, Array.getElem?_eq_getElem (by omega)]; rfl
theorem RK.start (w : World) (h : HartV) (i : InsnV) (t1 t2 t3 : TypeId) : RK w h i (((((w.alloc (.cells (hartArr h) t1)).alloc (.cells i.cells t2)).alloc (.cells #[.int .u64 0, .int .u64 0, .int .u64 0, .int .u64 0, .int .u64 0, .int .u64 0, .int .u64 0, .int .u64 0, .int .u64 0, .int .u64 0, .int .u64 0, .int .u64 0, .int .u64 0, .int .u64 0, .int .u64 0, .int .u64 0, .int .u64 0, .int .u64 0, .int .u64 0, .int .u64 0, .int .u64 0, .int .u64 0, .int .u64 0, .int .u64 0, .int .u64 0, .int .u64 0, .int .u64 0, .int .u64 0, .int .u64 0, .int .u64 0, .int .u64 0, .int .u64 0, .int .u64 0, .int .i64 0, .int .u64 0] t3)))) := by
  have n1 : (w.alloc (.cells (hartArr h) t1)).heap.size = w.heap.size + 1 := by simp
  have n2 : ((w.alloc (.cells (hartArr h) t1)).alloc (.cells i.cells t2)).heap.size = w.heap.size + 2 := by simp
  have k1 : Below (w.heap.size + 1) (w.alloc (.cells (hartArr h) t1)) (((((w.alloc (.cells (hartArr h) t1)).alloc (.cells i.cells t2)).alloc (.cells #[.int .u64 0, .int .u64 0, .int .u64 0, .int .u64 0, .int .u64 0, .int .u64 0, .int .u64 0, .int .u64 0, .int .u64 0, .int .u64 0, .int .u64 0, .int .u64 0, .int .u64 0, .int .u64 0, .int .u64 0, .int .u64 0, .int .u64 0, .int .u64 0, .int .u64 0, .int .u64 0, .int .u64 0, .int .u64 0, .int .u64 0, .int .u64 0, .int .u64 0, .int .u64 0, .int .u64 0, .int .u64 0, .int .u64 0, .int .u64 0, .int .u64 0, .int .u64 0, .int .u64 0, .int .i64 0, .int .u64 0] t3)))) := ((Below.refl _ _).alloc (by omega) _).alloc (by omega) _
  have k2 : Below (w.heap.size + 2) ((w.alloc (.cells (hartArr h) t1)).alloc (.cells i.cells t2)) (((((w.alloc (.cells (hartArr h) t1)).alloc (.cells i.cells t2)).alloc (.cells #[.int .u64 0, .int .u64 0, .int .u64 0, .int .u64 0, .int .u64 0, .int .u64 0, .int .u64 0, .int .u64 0, .int .u64 0, .int .u64 0, .int .u64 0, .int .u64 0, .int .u64 0, .int .u64 0, .int .u64 0, .int .u64 0, .int .u64 0, .int .u64 0, .int .u64 0, .int .u64 0, .int .u64 0, .int .u64 0, .int .u64 0, .int .u64 0, .int .u64 0, .int .u64 0, .int .u64 0, .int .u64 0, .int .u64 0, .int .u64 0, .int .u64 0, .int .u64 0, .int .u64 0, .int .i64 0, .int .u64 0] t3)))) := (Below.refl _ _).alloc (by omega) _
  refine ⟨fun j hj => ?_, fun j hj => ?_, fun j hj => ?_, ?_, (((Below.refl _ _).alloc (Nat.le_refl _) _).alloc (by omega) _).alloc (by omega) _, by simp⟩
  · rw [k1.cell (p := ⟨w.heap.size, j, none⟩) (by show w.heap.size < _; omega), World.cell?_alloc_new, hartArr_at h j hj]
  · rw [k1.frozen (p := ⟨w.heap.size, j, none⟩) (by show w.heap.size < _; omega)]; exact fresh_thaw _ _ _ _
  · rw [k2.cell (p := ⟨w.heap.size + 1, j, none⟩) (by show w.heap.size + 1 < _; omega), ← n1, World.cell?_alloc_new]
    rcases (show j = 0 ∨ j = 1 ∨ j = 2 ∨ j = 3 ∨ j = 4 ∨ j = 5 ∨ j = 6 ∨ j = 7 ∨ j = 8 by omega) with rfl | rfl | rfl | rfl | rfl | rfl | rfl | rfl | rfl <;> rfl
  · rw [← n2]; exact there_fresh _ _ _ 35 (by simp)
theorem RK.facts {w W : World} {h : HartV} {op rd r1 r2 imm : Int} {aq rl : Bool} {pred succ : Int} (hE : RK w h ⟨op, rd, r1, r2, imm, aq, rl, pred, succ⟩ W) :
    W.rangeAt w.heap.size 0 (hartL h) ∧ W.cell? ⟨w.heap.size + 1, 0, none⟩ = some (Value.int .i64 op) ∧ W.cell? ⟨w.heap.size + 1, 1, none⟩ = some (Value.int .i64 rd) ∧ W.cell? ⟨w.heap.size + 1, 2, none⟩ = some (Value.int .i64 r1) ∧ W.cell? ⟨w.heap.size + 1, 3, none⟩ = some (Value.int .i64 r2) ∧ W.cell? ⟨w.heap.size + 1, 4, none⟩ = some (Value.int .i64 imm) ∧ W.cell? ⟨w.heap.size + 1, 5, none⟩ = some (Value.bool aq) ∧ W.cell? ⟨w.heap.size + 1, 6, none⟩ = some (Value.bool rl) ∧ W.cell? ⟨w.heap.size + 1, 7, none⟩ = some (Value.int .i64 pred) ∧ W.cell? ⟨w.heap.size + 1, 8, none⟩ = some (Value.int .i64 succ) :=
  ⟨hE.h.range, hE.c 0 (by decide), hE.c 1 (by decide), hE.c 2 (by decide), hE.c 3 (by decide), hE.c 4 (by decide), hE.c 5 (by decide), hE.c 6 (by decide), hE.c 7 (by decide), hE.c 8 (by decide)⟩
def rgoneV (h : HartV) (i : InsnV) (n : BitVec 64) (v : BitVec 64) : HartV := if i.rd = 0 then h.goes n else (h.goes n).set i.rd.toNat v
theorem zeros_there (w : World) (t : TypeId) : (w.alloc (.cells #[.int .u64 0, .int .u64 0, .int .u64 0, .int .u64 0, .int .u64 0, .int .u64 0, .int .u64 0, .int .u64 0, .int .u64 0, .int .u64 0, .int .u64 0, .int .u64 0, .int .u64 0, .int .u64 0, .int .u64 0, .int .u64 0, .int .u64 0, .int .u64 0, .int .u64 0, .int .u64 0, .int .u64 0, .int .u64 0, .int .u64 0, .int .u64 0, .int .u64 0, .int .u64 0, .int .u64 0, .int .u64 0, .int .u64 0, .int .u64 0, .int .u64 0, .int .u64 0, .int .u64 0, .int .i64 0, .int .u64 0] t)).there w.heap.size 0 35 := there_fresh w _ t 35 (by simp)
theorem below_setCells {B a : Nat} {w : World} (ha : B ≤ a) : ∀ (vs : List Value) (o : Nat) (W : World), Below B w W → Below B w (W.setCells a o vs)
  | [], _, _, h => h
  | v :: vs, o, _, h => below_setCells ha vs (o + 1) _ (h.setCell ha v)
theorem hartL_one (h : HartV) : (hartL h).toArray.all (·.oneCell') = true := all_oneCell_toArray (fun v hv => by
  obtain ⟨j, _, rfl⟩ := List.mem_map.1 hv
  unfold hartCell
  split
  · rfl
  · split
    · rfl
    · split <;> rfl)
theorem size_hart (h : HartV) : (Tryz.prog.info? 47).map (·.size) = some (hartL h).length := by rw [hartL_len]; kernel_rfl
theorem result_hart (W : World) (a : Nat) (h : HartV) (hr : W.rangeAt a 0 (hartL h)) : (loadVar 47 ⟨a, 0, none⟩).run Tryz.prog W = .ok (.agg (hartL h).toArray) W := run_loadVar_mid W a 0 47 (hartL h) _ hr Tryz.underlying47 rfl (size_hart h)
theorem hartArr_size (h : HartV) : (hartArr h).size = 35 := by unfold hartArr; simp [hartL_len]
theorem hartL_size (h : HartV) : (hartL h).toArray.size = 35 := hartArr_size h
theorem size_hartA (h : HartV) : (Tryz.prog.info? 47).map (·.size) = some (hartL h).toArray.size := by rw [hartL_size]; kernel_rfl
theorem there_hart {W : World} {a : Nat} (hz : W.there a 0 35) (h : HartV) : W.there a 0 (hartL h).toArray.size := by rw [hartL_size]; exact hz
attribute [local go_sem] wrap_u64_bv bv_un bv_sn bv_add bv_mul bv_neg bv_sub mul_bvpow shr_min shl_min sshr_min bv_lit bv_0 bv_1 un_shr sn_shr wrap_i64_un bits_u64_and bits_u64_or bits_u64_xor bits_u64_andNot bv_max u64_unsigned
section
attribute [local irreducible] un sn hartL
set_option maxRecDepth 100000 in
theorem RHCheck_5 (h : HartV) (w : World) (h0 : un (h.x 0) = 0) (h1 : 0 ≤ h.fin) (h2 : h.fin ≤ 6) (h3 : h.fin ≠ 1) (h4 : un h.code = 0) :
    Calls Tryz.prog 78 #[.agg (hartArr h)] w fun e w' => e = .returned (.int .i64 0) ∧ Below w.heap.size w w' := by
  have hund : ∀ b : Bool, (some undef = some (Value.bool b)) = False := fun b => by simp [undef]
  have a1 : (hartArr h)[1]? = some (.int .u64 (un (h.x 0))) := hartArr_at h 1 (by decide)
  have a33 : (hartArr h)[33]? = some (.int .i64 h.fin) := hartArr_at h 33 (by decide)
  have a34 : (hartArr h)[34]? = some (.int .u64 (un h.code)) := hartArr_at h 34 (by decide)
  have t0 : (un (h.x 0) != 0) = false := by rw [h0]; rfl
  have t1 : decide (h.fin < 0) = false := by rw [decide_eq_false_iff_not]; omega
  have t2 : decide (6 < h.fin) = false := by rw [decide_eq_false_iff_not]; omega
  have t3 : (h.fin != 1) = true := by simpa using h3
  have t4 : (un h.code != 0) = false := by rw [h4]; rfl
  generalize hartArr h = A at a1 a33 a34 ⊢
  go_enter Tryz.func78, Tryz.ntmps78
  go_wp2
  go_ret
  exact ⟨rfl, (Below.refl _ _).alloc (Nat.le_refl _) _⟩
set_option maxRecDepth 100000 in
set_option maxHeartbeats 4000000 in
theorem RMay_on (h : HartV) (op rd r1 r2 imm : Int) (aq rl : Bool) (pred succ : Int) (w : World) (hx : un (h.x 0) = 0) (hf : h.fin = 0) (hcd : un h.code = 0) :
    Calls Tryz.prog 44 #[.agg (hartArr h), .agg #[.int .i64 op, .int .i64 rd, .int .i64 r1, .int .i64 r2, .int .i64 imm, .bool aq, .bool rl, .int .i64 pred, .int .i64 succ]] w fun e w' => e = .returned (.int .i64 (checkE ⟨op, rd, r1, r2, imm, aq, rl, pred, succ⟩)) ∧ Below w.heap.size w w' := by
  have hB0 := BK.start w h ⟨op, rd, r1, r2, imm, aq, rl, pred, succ⟩ 47 26
  have hu := Tryz.underlying47
  have hE := Lib.hid (fun W => RHCheck_5 h W hx (by omega) (by omega) (by omega) hcd)
  have hR := Lib.hid (fun W => R2Check_any ⟨op, rd, r1, r2, imm, aq, rl, pred, succ⟩ W)
  have tf : (h.fin != 0) = false := by rw [hf]; rfl
  clear hf hx hcd
  obtain ⟨rh, ri, x33, c0, c1, c2, c3, c4, c5, c6, c7, c8⟩ := hB0.facts
  go_enter Tryz.func44, Tryz.ntmps44
  go_wp2_with (first | (refine wpList_load_mid rfl 47 _ rfl w.heap.size 0 rfl (hartL h) _ rh hu rfl (size_hart _) ?_) | (go_at_call 78; refine (hE.out _).mono ?_; rintro e w2 ⟨rfl, hb2⟩; have hB := hB0.keep hb2; clear hb2 rh ri x33 c0 c1 c2 c3 c4 c5 c6 c7 c8; obtain ⟨rh, ri, x33, c0, c1, c2, c3, c4, c5, c6, c7, c8⟩ := hB.facts) | (go_at_call 65; refine (hR.out _).mono ?_; rintro e w3 ⟨rfl, hb3⟩; replace hB := hB.keep hb3))
  go_ret
  exact ⟨rfl, hB.bl⟩
set_option maxRecDepth 100000 in
set_option maxHeartbeats 4000000 in
theorem RAddr_q (h : HartV) (op : Int) (d r1 r2 : Nat) (imm : Int) (aq rl : Bool) (pred succ : Int) (w : World) (hr1 : r1 < 32) (hMem : Hid (∀ W, Calls Tryz.prog 48 #[.int .i64 op] W fun e w' => e = .returned (.tuple #[.bool false, .bool false, .int .i64 0]) ∧ Below W.heap.size W w')) :
    Calls Tryz.prog 79 #[.agg (hartArr h), .agg #[.int .i64 op, .int .i64 d, .int .i64 r1, .int .i64 r2, .int .i64 imm, .bool aq, .bool rl, .int .i64 pred, .int .i64 succ]] w fun e w' => e = .returned (.tuple #[.int .u64 (un (h.x r1 + bv imm)), .int .i64 0]) ∧ Below w.heap.size w w' := by
  have hB0 := BK.start w h ⟨op, d, r1, r2, imm, aq, rl, pred, succ⟩ 47 26
  obtain ⟨_, _, _, c0, c1, c2, c3, c4, c5, c6, c7, c8⟩ := hB0.facts
  go_enter Tryz.func79, Tryz.ntmps79
  go_upto_region 2 with (go_at_call 48; refine (hMem.out _).mono ?_; rintro e w1 ⟨rfl, hb1⟩; have hB := hB0.keep hb1; clear hb1 hB0 c0 c1 c2 c3 c4 c5 c6 c7 c8; obtain ⟨_, _, _, c0, c1, c2, c3, c4, c5, c6, c7, c8⟩ := hB.facts)
  have x1 : w1.cell? ⟨w.heap.size, 1 + r1, none⟩ = some (.int .u64 (un (h.x r1))) := (hB.h (1 + r1) (by omega)).trans (congrArg some (hartCell_x h r1 hr1))
  have hlr : 0 ≤ (r1 : Int) ∧ (r1 : Int) < 32 := by omega
  go_quiet (fail)
  go_wp2
  go_ret2
  exact ⟨rfl, hB.bl.trans ⟨rfl, rfl, rfl, Nat.le_refl _, fun _ _ => rfl⟩⟩
set_option maxRecDepth 100000 in
set_option maxHeartbeats 4000000 in
theorem REnd_q (h : HartV) (op : Int) (d r1 r2 : Nat) (imm : Int) (aq rl : Bool) (pred succ : Int) (w : World) (x17 ad tw : BitVec 64) (z : Int) (h17 : Hid (h.x 17 = x17)) (hA : Hid (∀ W, Calls Tryz.prog 79 #[.agg (hartArr h), .agg #[.int .i64 op, .int .i64 d, .int .i64 r1, .int .i64 r2, .int .i64 imm, .bool aq, .bool rl, .int .i64 pred, .int .i64 succ]] W fun e w' => e = .returned (.tuple #[.int .u64 (un ad), .int .i64 z]) ∧ Below W.heap.size W w')) (hT : Hid (∀ W, Calls Tryz.prog 49 #[.agg (hartArr h), .agg #[.int .i64 op, .int .i64 d, .int .i64 r1, .int .i64 r2, .int .i64 imm, .bool aq, .bool rl, .int .i64 pred, .int .i64 succ]] W fun e w' => e = .returned (.tuple #[.int .u64 (un tw), .bool false]) ∧ Below W.heap.size W w')) (t65 : (op == 65) = false) (t64 : (op == 64) = false) (s0 : decide (0 < z) = false) :
    Calls Tryz.prog 45 #[.agg (hartArr h), .agg #[.int .i64 op, .int .i64 d, .int .i64 r1, .int .i64 r2, .int .i64 imm, .bool aq, .bool rl, .int .i64 pred, .int .i64 succ]] w fun e w' => e = .returned (.int .i64 0) ∧ Below w.heap.size w w' := by
  have hB0 := BK.start w h ⟨op, d, r1, r2, imm, aq, rl, pred, succ⟩ 47 26
  have hu := Tryz.underlying47
  have hund : ∀ b : Bool, (some undef = some (Value.bool b)) = False := fun b => by simp [undef]
  obtain ⟨rh, ri, x33, c0, c1, c2, c3, c4, c5, c6, c7, c8⟩ := hB0.facts
  go_enter Tryz.func45, Tryz.ntmps45
  go_wp2_with (first | (refine wpList_load_mid rfl 47 _ rfl w.heap.size 0 rfl (hartL h) _ rh hu rfl (size_hart _) ?_) | (go_at_call 79; refine (hA.out _).mono ?_; rintro e wa ⟨rfl, hba⟩; replace hB0 := hB0.keep hba; clear hba rh ri x33 c0 c1 c2 c3 c4 c5 c6 c7 c8; obtain ⟨rh, ri, x33, c0, c1, c2, c3, c4, c5, c6, c7, c8⟩ := hB0.facts) | (go_at_call 49; refine (hT.out _).mono ?_; rintro e wt ⟨rfl, hbt⟩; have hB := hB0.keep hbt; clear hbt rh ri x33 c0 c1 c2 c3 c4 c5 c6 c7 c8; obtain ⟨rh, ri, x33, c0, c1, c2, c3, c4, c5, c6, c7, c8⟩ := hB.facts; have k17 : wt.cell? ⟨w.heap.size, 18, none⟩ = some (.int .u64 (un x17)) := by rw [← h17.out]; exact hB.h 18 (by decide)))
  go_ret
  exact ⟨rfl, hB.bl⟩
set_option maxRecDepth 100000 in
theorem R2Writes_ok (i : InsnV) (hc : checkE i = 0) (w : World) :
    Calls Tryz.prog 50 #[.agg i.cells] w fun e w' => e = .returned (.int .i64 i.rd) ∧ Below w.heap.size w w' := by
  have hK := Lib.hid (fun W => R2Check_any i W)
  rw [hc] at hK
  clear hc
  obtain ⟨op, rd, r1, r2, imm, aq, rl, pred, succ⟩ := i
  have hz : ∀ w4, Below (w.alloc (.cells (InsnV.cells ⟨op, rd, r1, r2, imm, aq, rl, pred, succ⟩) 26)).heap.size (w.alloc (.cells (InsnV.cells ⟨op, rd, r1, r2, imm, aq, rl, pred, succ⟩) 26)) w4 → w4.cell? ⟨w.heap.size, 1, none⟩ = some (.int .i64 rd) := fun w4 hb => by
    rw [hb.cell (p := ⟨w.heap.size, 1, none⟩) (by simp), World.cell?_alloc_new]; rfl
  have hz := Lib.hid hz
  unfold InsnV.cells at *
  go_enter Tryz.func50, Tryz.ntmps50
  go_wp2_with (go_at_call 65; refine (hK.out _).mono ?_; rintro e w4 ⟨rfl, hb4⟩; have k1 := hz.out w4 hb4)
  go_ret
  exact ⟨rfl, ((Below.refl _ _).alloc (Nat.le_refl _) _).trans (hb4.mono (by simp))⟩
end
end Go.Proofs.YtcgflnkgekkidaaGreatDoor
namespace Go.Proofs.YtcgflnkgekkidaaGreatDoor
end Go.Proofs.YtcgflnkgekkidaaGreatDoor
