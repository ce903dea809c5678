/- The walks of the document's Turned and may. The walks of the document's Number and Size. The walk of the document's laid. The walk of the document's places. The walk of the document's Check of items. The walk of the document's Long. The walk of the document's Build. AsmCalls, whatever comes. Conditions: as each theorem says. -/
import Derived.Test.YtcgflnkgekkidaaGreatDoorAsmLv
import Derived.Test.YtcgflnkgekkidaaGreatDoorInsnEq
import Derived.Test.YtcgflnkgekkidaaGreatDoorAsmPl
import Derived.Test.YtcgflnkgekkidaaGreatDoorAsmLw
set_option linter.unusedSimpArgs false
set_option linter.unusedVariables false
namespace Go.Proofs.YtcgflnkgekkidaaGreatDoor
open Go.RowKit Go.Maps
set_option maxRecDepth 100000 in
set_option maxHeartbeats 4000000 in
theorem RTurned_any (op : Int) (w : World) : Calls Tryz.prog 36 #[.int .i64 op] w fun e w' => e = .returned (.int .i64 (turnedV op)) ∧ Below w.heap.size w w' := by
  by_cases h : 5 ≤ op ∧ op ≤ 10
  · have hx : op = 5 ∨ op = 6 ∨ op = 7 ∨ op = 8 ∨ op = 9 ∨ op = 10 := by omega
    clear h
    rcases hx with rfl | rfl | rfl | rfl | rfl | rfl
    all_goals
      go_enter Tryz.func36, Tryz.ntmps36
      go_wp2
      go_ret
      exact ⟨rfl, Below.refl _ _⟩
  · have t5 : (op == 5) = false := by rw [beq_eq_false_iff_ne]; omega
    have t6 : (op == 6) = false := by rw [beq_eq_false_iff_ne]; omega
    have t7 : (op == 7) = false := by rw [beq_eq_false_iff_ne]; omega
    have t8 : (op == 8) = false := by rw [beq_eq_false_iff_ne]; omega
    have t9 : (op == 9) = false := by rw [beq_eq_false_iff_ne]; omega
    have t10 : (op == 10) = false := by rw [beq_eq_false_iff_ne]; omega
    have e : turnedV op = 0 := by unfold turnedV; rw [if_neg (by omega), if_neg (by omega), if_neg (by omega), if_neg (by omega), if_neg (by omega), if_neg (by omega)]
    rw [e]
    clear e h
    go_enter Tryz.func36, Tryz.ntmps36
    go_wp2
    go_ret
    exact ⟨rfl, Below.refl _ _⟩
theorem un_z (a : BitVec 64) : (un a == 0) = decide (a = 0#64) := by
  rw [Bool.eq_iff_iff, beq_iff_eq, decide_eq_true_eq]
  constructor
  · intro h
    apply BitVec.eq_of_toNat_eq
    unfold un at h
    simp only [BitVec.toNat_ofNat]
    omega
  · rintro rfl; decide +kernel
theorem rm_1 (i : InsnV) (l : Int) (a : BitVec 64) : mayV ⟨1, i, l, a⟩ = ((l == 0) && (un a == 0) && (checkE i == 0) && (rform i.op != 6) && (rform i.op != 2) && (i.op != 2)) := by
  rw [may_1, rform_eq, un_z, Bool.eq_iff_iff]
  simp only [ItemV.mk.injEq, Bool.and_eq_true, decide_eq_true_eq, beq_iff_eq, true_and]
  constructor
  · rintro ⟨⟨⟨⟨h1, h2⟩, h3⟩, h4⟩, ⟨h5, h6⟩, h7⟩; exact ⟨⟨⟨⟨⟨h5.symm, h6.symm⟩, h1⟩, h2⟩, h3⟩, h4⟩
  · rintro ⟨⟨⟨⟨⟨h5, h6⟩, h1⟩, h2⟩, h3⟩, h4⟩; exact ⟨⟨⟨⟨h1, h2⟩, h3⟩, h4⟩, ⟨h5.symm, h6.symm⟩, by omega⟩
theorem rm_2 (i : InsnV) (l : Int) (a : BitVec 64) : mayV ⟨2, i, l, a⟩ = (decide (i = ⟨0, 0, 0, 0, 0, false, false, 0, 0⟩) && decide (0 ≤ l) && (un a == 0)) := by
  rw [may_2, un_z, Bool.eq_iff_iff]
  simp only [ItemV.mk.injEq, Bool.and_eq_true, decide_eq_true_eq, beq_iff_eq, true_and]
  constructor
  · rintro ⟨⟨h1, h2⟩, h3⟩; exact ⟨⟨h1.symm, h3⟩, h2.symm⟩
  · rintro ⟨⟨h1, h3⟩, h2⟩; exact ⟨⟨h1.symm, h2.symm⟩, h3⟩
theorem rm_3 (i : InsnV) (l : Int) (a : BitVec 64) : mayV ⟨3, i, l, a⟩ = (decide (0 ≤ l) && (un a == 0) && (checkE i == 0) && (rform i.op == 6) && (i.imm == 0)) := by
  rw [may_3, rform_eq, un_z, Bool.eq_iff_iff]
  simp only [ItemV.mk.injEq, Bool.and_eq_true, decide_eq_true_eq, beq_iff_eq, true_and]
  constructor
  · rintro ⟨⟨⟨h1, h2⟩, h3⟩, h5, h7⟩; exact ⟨⟨⟨⟨h7, h5.symm⟩, h1⟩, h2⟩, h3⟩
  · rintro ⟨⟨⟨⟨h7, h5⟩, h1⟩, h2⟩, h3⟩; exact ⟨⟨⟨h1, h2⟩, h3⟩, h5.symm, h7⟩
theorem rm_4 (i : InsnV) (l : Int) (a : BitVec 64) : mayV ⟨4, i, l, a⟩ = (decide (0 ≤ l) && (un a == 0) && (checkE i == 0) && (rform i.op == 2) && (i.imm == 0)) := by
  rw [may_4, rform_eq, un_z, Bool.eq_iff_iff]
  simp only [ItemV.mk.injEq, Bool.and_eq_true, decide_eq_true_eq, beq_iff_eq, true_and]
  constructor
  · rintro ⟨⟨⟨h1, h2⟩, h3⟩, h5, h7⟩; exact ⟨⟨⟨⟨h7, h5.symm⟩, h1⟩, h2⟩, h3⟩
  · rintro ⟨⟨⟨⟨h7, h5⟩, h1⟩, h2⟩, h3⟩; exact ⟨⟨⟨h1, h2⟩, h3⟩, h5.symm, h7⟩
theorem rm_5 (i : InsnV) (l : Int) (a : BitVec 64) : mayV ⟨5, i, l, a⟩ = ((l == 0) && decide (i = ⟨0, i.rd, 0, 0, 0, false, false, 0, 0⟩) && decide (1 ≤ i.rd) && decide (i.rd ≤ 31)) := by
  rw [may_5, Bool.eq_iff_iff]
  simp only [ItemV.mk.injEq, Bool.and_eq_true, decide_eq_true_eq, beq_iff_eq, true_and, and_true]
  constructor
  · rintro ⟨⟨h1, h2⟩, ⟨h3, h4⟩, h5⟩; exact ⟨⟨⟨h4.symm, h3.symm⟩, h1⟩, h2⟩
  · rintro ⟨⟨⟨h4, h3⟩, h1⟩, h2⟩; exact ⟨⟨h1, h2⟩, ⟨h3.symm, h4.symm⟩, by omega⟩
theorem rm_0 (k : Int) (i : InsnV) (l : Int) (a : BitVec 64) (h1 : k ≠ 1) (h2 : k ≠ 2) (h3 : k ≠ 3) (h4 : k ≠ 4) (h5 : k ≠ 5) : mayV ⟨k, i, l, a⟩ = false := by
  unfold mayV
  rw [if_neg h1, if_neg h2, if_neg h3, if_neg h4, if_neg h5]
/-- A load of a row by an operation that is wanted. -/
theorem wpList_loadW {P : Program} {ops : Array Oper} {rest : List Oper} {op : Oper} {a : Act} {w : World} {Q : Exit → Act → World → Prop} (hw : Region.wanted op (yielded ops a.tmps) = true) (ty : TypeId) (x : Operand) (ho : op.op = .load ty x)
    (b o : Nat) (hx : a.eval x = .pointer (some ⟨b, o, none⟩)) (cs : List Value) (d : TypeDesc) (hc : w.rangeAt b o cs)
    (hu : P.underlying ty = some d) (hd : d.isRow = true) (hi : (P.info? ty).map (·.size) = some cs.length)
    (h : wpList P ops Q rest (a.put op.dst (.agg cs.toArray)) w) : wpList P ops Q (op :: rest) a w :=
  wpList_step fun _ hK => by rw [if_pos hw]; exact wp_load_mid ty x ho b o hx cs d hc hu hd hi (hK _ _ h)
theorem wpList_eqlN {ops : Array Oper} {rest : List Oper} {op : Oper} {a : Act} {w : World} {Q : Exit → Act → World → Prop} (hw : Region.wanted op (yielded ops a.tmps) = true) (x y : Operand) (t : TypeId) (ho : op.op = .binOp .eql 26 x y t) (A B : Array Value) (b : Bool)
    (hx : a.eval x = .agg A) (hy : a.eval y = .agg B) (hq : ∀ w, (binOp .eql 26 (.agg A) (.agg B)).run Tryz.prog w = .ok (.bool b) w) (h : wpList Tryz.prog ops Q rest (a.put op.dst (.bool b)) w) : wpList Tryz.prog ops Q (op :: rest) a w :=
  wpList_yieldsT (S := fun W => W = w) (.inl ⟨hw, fun w _ => by
    unfold execOp
    simp only [ho, hx, hy, Sem.run_bind, run_eqGuard_agg w .eql 26 x y A B Tryz.eqGuardType26, hq, Result.andThen_ok, Sem.run_pure]⟩) rfl h
section
attribute [local irreducible] checkE un
set_option maxRecDepth 100000 in
set_option maxHeartbeats 8000000 in
/-- fencepostref15.may. -/
theorem Rmay_any (i : ItemV) (w : World) : Calls Tryz.prog 64 #[.agg i.cells] w fun e w' => e = .returned (.bool (mayV i)) ∧ Below w.heap.size w w' := by
  obtain ⟨hI, hb0⟩ := ItB.new w i 29
  have hF : Hid (∀ W, Calls Tryz.prog 46 #[.int .i64 i.insn.op] W fun e w' => e = .returned (.int .i64 (rform i.insn.op)) ∧ W = w') := Lib.hid fun W => R2Form_any i.insn.op W
  have hK : Hid (∀ W, Calls Tryz.prog 65 #[.agg i.insn.cells] W fun e w' => e = .returned (.int .i64 (checkE i.insn)) ∧ Below W.heap.size W w') := Lib.hid fun W => R2Check_any i.insn W
  have hQ : Hid (∀ (k : InsnV) W, (binOp .eql 26 (.agg i.insn.cells) (.agg k.cells)).run Tryz.prog W = .ok (.bool (decide (i.insn = k))) W) := Lib.hid fun k W => insn_eql i.insn k W
  obtain ⟨kind, ⟨op, rd, r1, r2, imm, aq, rl, pred, succ⟩, label, addr⟩ := i
  simp only at hF hK hQ
  have m0 := Lib.hid (fun h1 h2 h3 h4 h5 => rm_0 kind ⟨op, rd, r1, r2, imm, aq, rl, pred, succ⟩ label addr h1 h2 h3 h4 h5)
  have m1 := Lib.hid (rm_1 ⟨op, rd, r1, r2, imm, aq, rl, pred, succ⟩ label addr)
  have m2 := Lib.hid (rm_2 ⟨op, rd, r1, r2, imm, aq, rl, pred, succ⟩ label addr)
  have m3 := Lib.hid (rm_3 ⟨op, rd, r1, r2, imm, aq, rl, pred, succ⟩ label addr)
  have m4 := Lib.hid (rm_4 ⟨op, rd, r1, r2, imm, aq, rl, pred, succ⟩ label addr)
  have m5 := Lib.hid (rm_5 ⟨op, rd, r1, r2, imm, aq, rl, pred, succ⟩ label addr)
  simp only at m1 m3 m4 m5
  generalize rform op = FM at hF m1 m3 m4
  have hth := fresh9 (w.alloc (.cells (ItemV.cells ⟨kind, ⟨op, rd, r1, r2, imm, aq, rl, pred, succ⟩, label, addr⟩) 29)) #[.int .i64 0, .int .i64 0, .int .i64 0, .int .i64 0, .int .i64 0, .bool false, .bool false, .int .i64 0, .int .i64 0] rfl 26
  rw [alloc_size] at hth
  obtain ⟨c0, c1, c2, c3, c4, c5, c6, c7, c8, c9, c10, c11⟩ := hI.all
  replace hI := Lib.hid hI
  go_enter Tryz.func64, Tryz.ntmps64
  go_upto_region 3 with (first | (go_at_call 46; (with_reducible refine (hF.out _).mono ?_); rintro e w1 ⟨rfl, rfl⟩) | (refine wpList_store_mid rfl 26 _ _ rfl (w.heap.size + 1) 0 #[.int .i64 0, .int .i64 0, .int .i64 0, .int .i64 0, .int .i64 0, .bool false, .bool false, .int .i64 0, .int .i64 0] rfl rfl (fun j hj => hth j hj) (by kernel_rfl) (by kernel_rfl) ?_))
  have hW13 : Below (w.alloc (.cells (ItemV.cells ⟨kind, ⟨op, rd, r1, r2, imm, aq, rl, pred, succ⟩, label, addr⟩) 29)).heap.size (w.alloc (.cells (ItemV.cells ⟨kind, ⟨op, rd, r1, r2, imm, aq, rl, pred, succ⟩, label, addr⟩) 29)) (World.setCells ((w.alloc (.cells (ItemV.cells ⟨kind, ⟨op, rd, r1, r2, imm, aq, rl, pred, succ⟩, label, addr⟩) 29)).alloc (.cells #[.int .i64 0, .int .i64 0, .int .i64 0, .int .i64 0, .int .i64 0, .bool false, .bool false, .int .i64 0, .int .i64 0] 26)) (w.heap.size + 1) 0 (#[.int .i64 0, .int .i64 0, .int .i64 0, .int .i64 0, .int .i64 0, .bool false, .bool false, .int .i64 0, .int .i64 0] : Array Value).toList) := below_cells (by simp) _ 0 _ ((Below.refl _ _).alloc (Nat.le_refl _) _)
  have hB3 := hb0.trans (hW13.mono hb0.size)
  have hZ3 := World.rangeAt_setCells_same _ (w.heap.size + 1) 0 (#[.int .i64 0, .int .i64 0, .int .i64 0, .int .i64 0, .int .i64 0, .bool false, .bool false, .int .i64 0, .int .i64 0] : Array Value).toList (fun j hj => hth j hj)
  replace hI := Lib.hid (hI.out.keep hW13)
  clear hth hW13 hb0
  change World.rangeAt _ _ _ [.int .i64 0, .int .i64 0, .int .i64 0, .int .i64 0, .int .i64 0, .bool false, .bool false, .int .i64 0, .int .i64 0] at hZ3
  generalize World.setCells _ (w.heap.size + 1) 0 _ = W3 at hB3 hZ3 hI ⊢
  clear c0 c1 c2 c3 c4 c5 c6 c7 c8 c9 c10 c11
  obtain ⟨c0, c1, c2, c3, c4, c5, c6, c7, c8, c9, c10, c11⟩ := hI.out.all
  have hR3 : Hid (W3.rangeAt w.heap.size 1 [.int .i64 op, .int .i64 rd, .int .i64 r1, .int .i64 r2, .int .i64 imm, .bool aq, .bool rl, .int .i64 pred, .int .i64 succ]) := Lib.hid hI.out.mid
  replace hZ3 := Lib.hid hZ3
  have hB3b := hB3
  have hund : ∀ b : Bool, (some undef = some (Value.bool b)) = False := fun b => by simp [undef]
  by_cases k1 : kind = 1
  · subst k1
    clear m0 m2 m3 m4 m5 hQ
    go_wp2_with (first | (go_at_call 65; refine (hK.out _).mono ?_; rintro e w5 ⟨rfl, hb5⟩; have hB5 := hB3.trans (hb5.mono hB3.size); obtain ⟨d0, d1, d2, d3, d4, d5, d6, d7, d8, d9, d10, d11⟩ := (hI.out.keep hb5).all) | (refine wpList_loadW (by rfl) 26 _ rfl w.heap.size 1 rfl _ _ hR3.out Tryz.underlying26 rfl (by kernel_rfl) ?_))
    all_goals
      go_ret
      refine ⟨?_, by first | exact hB5 | exact hB3b⟩
      rw [m1.out]
      first | (simp_all; done) | (simp_all; omega)
  by_cases k2 : kind = 2
  · subst k2
    clear m0 m1 m3 m4 m5 hK hF
    have hq := Lib.hid (hQ.out ⟨0, 0, 0, 0, 0, false, false, 0, 0⟩)
    clear hQ
    generalize decide ((⟨op, rd, r1, r2, imm, aq, rl, pred, succ⟩ : InsnV) = ⟨0, 0, 0, 0, 0, false, false, 0, 0⟩) = Bq at hq m2
    go_wp2_with (first | (refine wpList_loadW (by rfl) 26 _ rfl w.heap.size 1 rfl _ _ hR3.out Tryz.underlying26 rfl (by kernel_rfl) ?_) | (refine wpList_loadW (by rfl) 26 _ rfl (w.heap.size + 1) 0 rfl _ _ hZ3.out Tryz.underlying26 rfl (by kernel_rfl) ?_) | (refine wpList_eqlN (by rfl) _ _ _ rfl _ _ Bq rfl rfl (fun W => hq.out W) ?_))
    all_goals
      go_ret
      refine ⟨?_, hB3b⟩
      rw [m2.out]
      first | (simp_all; done) | (simp_all; omega)
  by_cases k3 : kind = 3
  · subst k3
    clear m0 m1 m2 m4 m5 hQ
    go_wp2_with (first | (go_at_call 65; refine (hK.out _).mono ?_; rintro e w5 ⟨rfl, hb5⟩; have hB5 := hB3.trans (hb5.mono hB3.size); obtain ⟨d0, d1, d2, d3, d4, d5, d6, d7, d8, d9, d10, d11⟩ := (hI.out.keep hb5).all) | (refine wpList_loadW (by rfl) 26 _ rfl w.heap.size 1 rfl _ _ hR3.out Tryz.underlying26 rfl (by kernel_rfl) ?_))
    all_goals
      go_ret
      refine ⟨?_, by first | exact hB5 | exact hB3b⟩
      rw [m3.out]
      first | (simp_all; done) | (simp_all; omega)
  by_cases k4 : kind = 4
  · subst k4
    clear m0 m1 m2 m3 m5 hQ
    go_wp2_with (first | (go_at_call 65; refine (hK.out _).mono ?_; rintro e w5 ⟨rfl, hb5⟩; have hB5 := hB3.trans (hb5.mono hB3.size); obtain ⟨d0, d1, d2, d3, d4, d5, d6, d7, d8, d9, d10, d11⟩ := (hI.out.keep hb5).all) | (refine wpList_loadW (by rfl) 26 _ rfl w.heap.size 1 rfl _ _ hR3.out Tryz.underlying26 rfl (by kernel_rfl) ?_))
    all_goals
      go_ret
      refine ⟨?_, by first | exact hB5 | exact hB3b⟩
      rw [m4.out]
      first | (simp_all; done) | (simp_all; omega)
  by_cases k5 : kind = 5
  · subst k5
    clear m0 m1 m2 m3 m4 hK hF
    have hq := Lib.hid (hQ.out ⟨0, rd, 0, 0, 0, false, false, 0, 0⟩)
    clear hQ
    generalize decide ((⟨op, rd, r1, r2, imm, aq, rl, pred, succ⟩ : InsnV) = ⟨0, rd, 0, 0, 0, false, false, 0, 0⟩) = Bq at hq m5
    go_wp2_with (first | (refine wpList_loadW (by rfl) 26 _ rfl w.heap.size 1 rfl _ _ hR3.out Tryz.underlying26 rfl (by kernel_rfl) ?_) | (refine wpList_eqlN (by rfl) _ _ _ rfl _ _ Bq rfl rfl (fun W => hq.out W) ?_))
    all_goals
      go_ret
      refine ⟨?_, hB3b⟩
      have h5 := m5.out
      first | (rw [h5]; (first | (simp_all; done) | (simp_all; omega))) | (simp_all; done) | (simp_all; omega)
  have t1 : (kind == 1) = false := by simpa using k1
  have t2 : (kind == 2) = false := by simpa using k2
  have t3 : (kind == 3) = false := by simpa using k3
  have t4 : (kind == 4) = false := by simpa using k4
  have t5 : (kind == 5) = false := by simpa using k5
  have h0 := Lib.hid (m0.out k1 k2 k3 k4 k5)
  clear m0 m1 m2 m3 m4 m5 k1 k2 k3 k4 k5
  go_wp2_with fail
  go_ret
  exact ⟨by rw [h0.out]; rfl, hB3b⟩
end
end Go.Proofs.YtcgflnkgekkidaaGreatDoor
namespace Go.Proofs.YtcgflnkgekkidaaGreatDoor
open Go.RowKit Go.Maps
/-- What the document's Number answers: instructions in new memory. -/
structure RNew (w : World) (l : List InsnV) (e : Ending) (w' : World) : Prop where
  ret : ∃ v, e = .returned (.tuple #[v, .int .i64 0]) ∧ w'.ownsRow w.heap.size 26 9 v l.length (insnsC l)
  below : Below w.heap.size w w'
section
attribute [local irreducible] Sign Fits un sn upV restV
attribute [local go_sem] wrap64_un w64_sub sn_4096 wrap_u64_bv bv_sn
set_option maxRecDepth 100000 in
set_option maxHeartbeats 8000000 in
theorem rnumber_step (rd : Int) (hrd : 1 ≤ rd ∧ rd ≤ 31) (x : BitVec 64) (L : List InsnV) (w : World) (hL : L.length ≤ 1000)
    (hrec : Fits (sn x) 12 = false → (Fits (sn x) 32 && Fits (sn (upV x)) 20) = false → ∀ W, Calls Tryz.prog 31 #[.int .i64 rd, .int .u64 (un (upV x))] W (RNew W L)) :
    Calls Tryz.prog 31 #[.int .i64 rd, .int .u64 (un x)] w (RNew w (numS rd x L)) := by
  have hS : Hid (∀ W, Calls Tryz.prog 63 #[.int .u64 (un x), .int .i64 12] W fun e w' => e = .returned (.int .i64 (sn (restV x))) ∧ W = w') := Lib.hid (fun W => by unfold restV; exact RSign_any x 12 W)
  have eU : wrap64 (sn x - sn (restV x)) / 4096 = sn (upV x) := by rw [w64_sub, sn_4096]; unfold upV; rfl
  have d1 : decide (rd < 1) = false := decide_eq_false (by omega)
  have d2 : decide (31 < rd) = false := decide_eq_false (by omega)
  obtain ⟨B1, h1⟩ : ∃ B, Fits (sn x) 12 = B := ⟨_, rfl⟩
  obtain ⟨B2, h2⟩ : ∃ B, Fits (sn x) 32 = B := ⟨_, rfl⟩
  obtain ⟨B3, h3⟩ : ∃ B, Fits (sn (upV x)) 20 = B := ⟨_, rfl⟩
  have hF1 : Hid (∀ W, Calls Tryz.prog 62 #[.int .i64 (sn x), .int .i64 12] W fun e w' => e = .returned (.bool B1) ∧ W = w') := Lib.hid fun W => by rw [← h1]; exact RFits_any (sn x) 12 W
  have hF2 : Hid (∀ W, Calls Tryz.prog 62 #[.int .i64 (sn x), .int .i64 32] W fun e w' => e = .returned (.bool B2) ∧ W = w') := Lib.hid fun W => by rw [← h2]; exact RFits_any (sn x) 32 W
  have hF3 : Hid (∀ W, Calls Tryz.prog 62 #[.int .i64 (sn (upV x)), .int .i64 20] W fun e w' => e = .returned (.bool B3) ∧ W = w') := Lib.hid fun W => by rw [← h3]; exact RFits_any (sn (upV x)) 20 W
  rw [h1, h2, h3] at hrec
  unfold numS
  rw [h1, h2, h3]
  clear h1 h2 h3
  replace hrec := Lib.hid hrec
  generalize upV x = u at *
  generalize sn (restV x) = r at *
  obtain ⟨i0, q0, q1, q2, q3⟩ := info_parts Tryz.info_insn9
  replace q0 := Lib.hid q0
  replace q1 := Lib.hid q1
  replace q2 := Lib.hid q2
  replace q3 := Lib.hid q3
  cases B1
  case true =>
    rw [if_pos rfl]
    clear hrec
    go_enter Tryz.func31, Tryz.ntmps31
    go_upto_region 5 with (go_at_call 63; refine (hS.out _).mono ?_; rintro e w1 ⟨rfl, rfl⟩)
    clear eU hS
    go_wp2_with (first | (go_at_call 62; (with_reducible refine (hF1.out _).mono ?_); rintro e w1 ⟨rfl, rfl⟩) | (go_at_call 62; (with_reducible refine (hF2.out _).mono ?_); rintro e w1 ⟨rfl, rfl⟩) | (go_at_call 62; (with_reducible refine (hF3.out _).mono ?_); rintro e w1 ⟨rfl, rfl⟩))
    go_ret2
    exact ⟨⟨_, rfl, lit_insn w ⟨22, rd, 0, 0, sn x, false, false, 0, 0⟩⟩, ((Below.refl _ _).alloc (Nat.le_refl _) _)⟩
  case false =>
    rw [if_neg (by decide)]
    by_cases hB : (B2 && B3) = true
    · rw [if_pos hB]
      obtain ⟨rfl, rfl⟩ := Bool.and_eq_true_iff.1 hB
      clear hB
      by_cases hr0 : r = 0
      · rw [if_pos hr0]
        clear hrec
        replace hr0 := Lib.hid hr0
        go_enter Tryz.func31, Tryz.ntmps31
        go_upto_region 5 with (go_at_call 63; refine (hS.out _).mono ?_; rintro e w1 ⟨rfl, rfl⟩)
        go_upto_region 6 with fail
        clear eU hS
        obtain rfl := hr0.out
        go_wp2_with (first | (go_at_call 62; (with_reducible refine (hF1.out _).mono ?_); rintro e w1 ⟨rfl, rfl⟩) | (go_at_call 62; (with_reducible refine (hF2.out _).mono ?_); rintro e w1 ⟨rfl, rfl⟩) | (go_at_call 62; (with_reducible refine (hF3.out _).mono ?_); rintro e w1 ⟨rfl, rfl⟩))
        go_ret2
        exact ⟨⟨_, rfl, lit_insn w ⟨1, rd, 0, 0, sn u, false, false, 0, 0⟩⟩, ((Below.refl _ _).alloc (Nat.le_refl _) _)⟩
      · rw [if_neg hr0]
        have tr : (r != 0) = true := by simpa using hr0
        clear hrec
        go_enter Tryz.func31, Tryz.ntmps31
        go_upto_region 5 with (go_at_call 63; refine (hS.out _).mono ?_; rintro e w1 ⟨rfl, rfl⟩)
        go_upto_region 6 with fail
        clear eU hS
        go_upto_region 10 with (first | (go_at_call 62; (with_reducible refine (hF1.out _).mono ?_); rintro e w1 ⟨rfl, rfl⟩) | (go_at_call 62; (with_reducible refine (hF2.out _).mono ?_); rintro e w1 ⟨rfl, rfl⟩) | (go_at_call 62; (with_reducible refine (hF3.out _).mono ?_); rintro e w1 ⟨rfl, rfl⟩))
        have hown := lit_insn w ⟨1, rd, 0, 0, sn u, false, false, 0, 0⟩
        dsimp only [InsnV.cells] at hown
        generalize hW1 : w.alloc _ = W1 at hown ⊢
        have hb1 : Below w.heap.size w W1 := by rw [← hW1]; exact ((Below.refl _ _).alloc (Nat.le_refl _) _)
        clear hW1
        go_wp2_with (at_builtin; refine wpList_append_own _ rfl _ _ 42 rfl w.heap.size 26 i0 (.agg #[.int .i64 0, .int .i64 0, .int .i64 0, .int .i64 0, .int .i64 0, .bool false, .bool false, .int .i64 0, .int .i64 0]) 9 64 Tryz.underlying42 q0.out q1.out q2.out q3.out rfl (by decide) _ 1 _ rfl (hown.alloc _) ⟨W1.heap.size, 0, none⟩ 1 1 (InsnV.cells ⟨31, rd, rd, 0, r, false, false, 0, 0⟩).toList rfl rfl ?c1 ?c2 ?c3 ?c4 ?c5 ?_)
        case c1 => exact lit_cellI W1 ⟨31, rd, rd, 0, r, false, false, 0, 0⟩ _
        case c2 => exact insn_ones _
        case c3 => (first | decide | (unfold maxLen; (try simp); omega) | ((try simp); omega))
        case c4 => (first | decide | (unfold maxLen; (try simp); omega) | ((try simp); omega))
        case c5 => have := hb1.size; simp; omega
        intro v' w2 hown2 hgrow _
        have hb2 := (hb1.alloc hb1.size _).grown hgrow (by have := hb1.size; simp; omega) (fun j hj => (World.ownsRow.lt hown j hj).1)
        go_wp2_with fail
        go_ret2
        exact ⟨⟨_, rfl, hown2⟩, hb2⟩
    · have hB' : (B2 && B3) = false := by simpa using hB
      have hR := Lib.hid (hrec.out rfl hB')
      rw [if_neg hB]
      have hcase : (B2 = false) ∨ (B2 = true ∧ B3 = false) := by cases B2 <;> cases B3 <;> simp_all
      clear hrec hB hB'
      by_cases hr0 : r = 0
      · rw [if_pos hr0]
        rcases hcase with rfl | ⟨rfl, rfl⟩
        all_goals
          replace hr0 := Lib.hid hr0
          go_enter Tryz.func31, Tryz.ntmps31
          go_upto_region 5 with (go_at_call 63; refine (hS.out _).mono ?_; rintro e w1 ⟨rfl, rfl⟩)
          go_upto_region 6 with fail
          clear eU hS
          obtain rfl := hr0.out
          go_upto_region 13 with (first | (go_at_call 62; (with_reducible refine (hF1.out _).mono ?_); rintro e w1 ⟨rfl, rfl⟩) | (go_at_call 62; (with_reducible refine (hF2.out _).mono ?_); rintro e w1 ⟨rfl, rfl⟩) | (go_at_call 62; (with_reducible refine (hF3.out _).mono ?_); rintro e w1 ⟨rfl, rfl⟩))
          go_upto_region 15 with (first | (go_at_call 31; (with_reducible refine (hR.out _).mono ?_); rintro e w2 ⟨⟨v, rfl, hown⟩, hb2⟩) | (at_builtin; refine wpList_append_own _ rfl _ _ 42 rfl w.heap.size 26 i0 (.agg #[.int .i64 0, .int .i64 0, .int .i64 0, .int .i64 0, .int .i64 0, .bool false, .bool false, .int .i64 0, .int .i64 0]) 9 64 Tryz.underlying42 q0.out q1.out q2.out q3.out rfl (by decide) _ L.length _ rfl (hown.alloc _) ⟨w2.heap.size, 0, none⟩ 1 1 (InsnV.cells ⟨28, rd, rd, 0, 12, false, false, 0, 0⟩).toList rfl rfl ?c1 ?c2 ?c3 ?c4 ?c5 ?_))
          case c1 => exact lit_cellI w2 ⟨28, rd, rd, 0, 12, false, false, 0, 0⟩ _
          case c2 => exact insn_ones _
          case c3 => (first | decide | (unfold maxLen; (try simp); omega) | ((try simp); omega))
          case c4 => (first | decide | (unfold maxLen; (try simp); omega) | ((try simp); omega))
          case c5 => have := hb2.size; simp; omega
          intro v3 w3 hown3 hgrow3 _
          have hb3 := (hb2.alloc hb2.size _).grown hgrow3 (by have := hb2.size; simp; omega) (fun j hj => (World.ownsRow.lt hown j hj).1)
          replace hown3 := own_snocI hown3
          clear hgrow3 hown hb2 hR
          go_wp2_with fail
          go_ret2
          exact ⟨⟨_, rfl, hown3⟩, hb3⟩
      · rw [if_neg hr0]
        rcases hcase with rfl | ⟨rfl, rfl⟩
        all_goals
          have tr : (r != 0) = true := by simpa using hr0
          go_enter Tryz.func31, Tryz.ntmps31
          go_upto_region 5 with (go_at_call 63; refine (hS.out _).mono ?_; rintro e w1 ⟨rfl, rfl⟩)
          go_upto_region 6 with fail
          clear eU hS
          go_upto_region 13 with (first | (go_at_call 62; (with_reducible refine (hF1.out _).mono ?_); rintro e w1 ⟨rfl, rfl⟩) | (go_at_call 62; (with_reducible refine (hF2.out _).mono ?_); rintro e w1 ⟨rfl, rfl⟩) | (go_at_call 62; (with_reducible refine (hF3.out _).mono ?_); rintro e w1 ⟨rfl, rfl⟩))
          go_upto_region 15 with (first | (go_at_call 31; (with_reducible refine (hR.out _).mono ?_); rintro e w2 ⟨⟨v, rfl, hown⟩, hb2⟩) | (at_builtin; refine wpList_append_own _ rfl _ _ 42 rfl w.heap.size 26 i0 (.agg #[.int .i64 0, .int .i64 0, .int .i64 0, .int .i64 0, .int .i64 0, .bool false, .bool false, .int .i64 0, .int .i64 0]) 9 64 Tryz.underlying42 q0.out q1.out q2.out q3.out rfl (by decide) _ L.length _ rfl (hown.alloc _) ⟨w2.heap.size, 0, none⟩ 1 1 (InsnV.cells ⟨28, rd, rd, 0, 12, false, false, 0, 0⟩).toList rfl rfl ?c1 ?c2 ?c3 ?c4 ?c5 ?_))
          case c1 => exact lit_cellI w2 ⟨28, rd, rd, 0, 12, false, false, 0, 0⟩ _
          case c2 => exact insn_ones _
          case c3 => (first | decide | (unfold maxLen; (try simp); omega) | ((try simp); omega))
          case c4 => (first | decide | (unfold maxLen; (try simp); omega) | ((try simp); omega))
          case c5 => have := hb2.size; simp; omega
          intro v3 w3 hown3 hgrow3 _
          have hb3 := (hb2.alloc hb2.size _).grown hgrow3 (by have := hb2.size; simp; omega) (fun j hj => (World.ownsRow.lt hown j hj).1)
          replace hown3 := own_snocI hown3
          clear hgrow3 hown hb2 hR
          go_wp2_with (at_builtin; refine wpList_append_own _ rfl _ _ 42 rfl w.heap.size 26 i0 (.agg #[.int .i64 0, .int .i64 0, .int .i64 0, .int .i64 0, .int .i64 0, .bool false, .bool false, .int .i64 0, .int .i64 0]) 9 64 Tryz.underlying42 q0.out q1.out q2.out q3.out rfl (by decide) _ _ _ rfl (hown3.alloc _) ⟨w3.heap.size, 0, none⟩ 1 1 (InsnV.cells ⟨22, rd, rd, 0, r, false, false, 0, 0⟩).toList rfl rfl ?c1 ?c2 ?c3 ?c4 ?c5 ?_)
          case c1 => exact lit_cellI w3 ⟨22, rd, rd, 0, r, false, false, 0, 0⟩ _
          case c2 => exact insn_ones _
          case c3 => (first | decide | (unfold maxLen; (try simp); omega) | ((try simp); omega))
          case c4 => (first | decide | (unfold maxLen; (try simp); omega) | ((try simp); omega))
          case c5 => have := hb3.size; simp; omega
          intro v4 w4 hown4 hgrow4 _
          have hb4 := (hb3.alloc hb3.size _).grown hgrow4 (by have := hb3.size; simp; omega) (fun j hj => (World.ownsRow.lt hown3 j hj).1)
          replace hown4 := own_snocI (l := L ++ [(⟨28, rd, rd, 0, 12, false, false, 0, 0⟩ : InsnV)]) (by rw [List.length_append]; exact hown4)
          go_wp2_with fail
          go_ret2
          exact ⟨⟨_, rfl, hown4⟩, hb4⟩
end
theorem rnumber_f : ∀ (f : Nat) (rd : Int) (hrd : 1 ≤ rd ∧ rd ≤ 31) (x : BitVec 64) (w : World), f ≤ 5 → -(2048 * (4096 ^ f : Nat) : Int) ≤ sn x → sn x ≤ 2048 * (4096 ^ f : Nat) →
    Calls Tryz.prog 31 #[.int .i64 rd, .int .u64 (un x)] w (RNew w (numF (f + 1) rd x)) := by
  intro f
  induction f with
  | zero =>
    intro rd hrd x w _ h1 h2
    have e0 : ((4096 ^ 0 : Nat) : Int) = 1 := by decide
    rw [e0] at h1 h2
    rw [numF_S]
    refine rnumber_step rd hrd x _ w (Nat.le_trans (numF_len 0 rd _) (by decide)) fun b1 b2 => ?_
    have hx : sn x = 2048 := by
      rcases Int.lt_or_le (sn x) 2048 with h | h
      · rw [fits12 x (by omega) (by omega)] at b1; cases b1
      · omega
    have hx2 : x = 2048#64 := BitVec.eq_of_toInt_eq (by show sn x = _; rw [hx]; decide)
    subst hx2
    exact absurd b2 (by decide +kernel)
  | succ f ih =>
    intro rd hrd x w hf h1 h2
    rw [numF_S]
    refine rnumber_step rd hrd x _ w (Nat.le_trans (numF_len (f + 1) rd _) (by omega)) fun b1 b2 W => ?_
    have hpow : ((4096 ^ (f + 1) : Nat) : Int) = 4096 * ((4096 ^ f : Nat) : Int) := by rw [Nat.pow_succ, Int.natCast_mul]; generalize 4096 ^ f = q; omega
    rw [hpow] at h1 h2
    have hb := rest_bd x
    have ha := up_all x
    have hp : (1 : Int) ≤ ((4096 ^ f : Nat) : Int) := by have := Nat.one_le_pow f 4096 (by decide); generalize 4096 ^ f = q at this ⊢; omega
    by_cases h4 : f = 4
    · subst h4
      refine ih rd hrd (upV x) W (by decide) ?_ ?_
      · have e4 : ((4096 ^ 4 : Nat) : Int) = 281474976710656 := by decide
        rw [e4]; omega
      · have e4 : ((4096 ^ 4 : Nat) : Int) = 281474976710656 := by decide
        rw [e4]; omega
    · have h3 : f ≤ 3 := by omega
      have hq : ((4096 ^ f : Nat) : Int) ≤ 68719476736 := by
        have := Nat.pow_le_pow_right (show 1 ≤ 4096 by decide) h3
        have e : (4096 : Nat) ^ 3 = 68719476736 := by decide
        rw [e] at this
        generalize 4096 ^ f = q at this ⊢
        omega
      generalize ((4096 ^ f : Nat) : Int) = m at *
      have he := up_eq x (by omega) (by omega)
      exact ih rd hrd (upV x) W (by omega) (by omega) (by omega)
/-- fencepostref15.Number, whatever comes. -/
theorem RNumber_any (rd : Int) (x : BitVec 64) (w : World) : Calls Tryz.prog 31 #[.int .i64 rd, .int .u64 (un x)] w (NumR rd x w) := by
  unfold NumR
  by_cases hrd : 1 ≤ rd ∧ rd ≤ 31
  · rw [if_pos hrd, if_pos hrd]
    have h := sn_lt x
    have e : ((4096 ^ 5 : Nat) : Int) = 1152921504606846976 := by decide
    refine (rnumber_f 5 rd hrd x w (Nat.le_refl _) (by rw [e]; omega) (by rw [e]; omega)).mono ?_
    rintro e w' ⟨⟨v, rfl, ho⟩, hb⟩
    exact ⟨⟨v, rfl, ho⟩, hb⟩
  · rw [if_neg hrd, if_neg hrd]
    by_cases h1 : rd < 1
    · have d1 : decide (rd < 1) = true := decide_eq_true h1
      go_enter Tryz.func31, Tryz.ntmps31
      go_wp2_with fail
      go_ret2
      exact ⟨⟨_, rfl, World.ownsRow_nil _ _ _ _⟩, Below.refl _ _⟩
    · have d1 : decide (rd < 1) = false := decide_eq_false h1
      have d2 : decide (31 < rd) = true := decide_eq_true (by omega)
      go_enter Tryz.func31, Tryz.ntmps31
      go_wp2_with fail
      go_ret2
      exact ⟨⟨_, rfl, World.ownsRow_nil _ _ _ _⟩, Below.refl _ _⟩
theorem may_num5 {i : ItemV} (h : mayV i = true) (hk : i.kind = 5) : 1 ≤ i.insn.rd ∧ i.insn.rd ≤ 31 := by
  obtain ⟨kind, insn, label, addr⟩ := i
  simp only at hk
  subst hk
  rw [rm_5] at h
  simp only [Bool.and_eq_true, decide_eq_true_eq] at h
  exact ⟨h.1.2, h.2⟩
section
attribute [local irreducible] un
set_option maxRecDepth 100000 in
set_option maxHeartbeats 8000000 in
/-- fencepostref15.Size. -/
theorem RSize_any (i : ItemV) (long : Bool) (w : World) : Calls Tryz.prog 32 #[.agg i.cells, .bool long] w fun e w' => e = .returned (.int .i64 (sizeV i long)) ∧ Below w.heap.size w w' := by
  obtain ⟨hI, hb0⟩ := ItB.new w i 29
  have hM := Lib.hid (fun W => Rmay_any i W)
  have hN := Lib.hid (fun W => RNumber_any i.insn.rd i.addr W)
  obtain ⟨B, hB⟩ : ∃ B, mayV i = B := ⟨_, rfl⟩
  have hSz : Hid (sizeV i long = if B = true then lenV i long else 0) := Lib.hid (by unfold sizeV; rw [hB])
  have hrd : Hid (B = true → i.kind = 5 → 1 ≤ i.insn.rd ∧ i.insn.rd ≤ 31) := Lib.hid fun h h5 => may_num5 (hB.trans h) h5
  rw [hB] at hM
  have hR := Lib.hid (item_range (b := w.heap.size) (o := 0) (fun j v hv => by rw [Nat.zero_add]; exact hI.c j v hv))
  obtain ⟨kind, ⟨op, rd, r1, r2, imm, aq, rl, pred, succ⟩, label, addr⟩ := i
  clear hB
  simp only at hrd hN
  replace hI := Lib.hid hI
  have hund : ∀ b : Bool, (some undef = some (Value.bool b)) = False := fun b => by simp [undef]
  go_enter Tryz.func32, Tryz.ntmps32
  cases B
  case false =>
    go_wp2_with (first | (refine wpList_load_mid rfl 29 _ rfl w.heap.size 0 rfl _ _ hR.out Tryz.underlying29 rfl (by kernel_rfl) ?_) | (go_at_call 64; refine (hM.out _).mono ?_; rintro e w2 ⟨rfl, hb2⟩))
    go_ret
    exact ⟨by rw [hSz.out]; rfl, hb0.trans (hb2.mono hb0.size)⟩
  case true =>
    rw [if_pos rfl] at hSz
    by_cases k2 : kind = 2
    · subst k2
      go_wp2_with (first | (refine wpList_load_mid rfl 29 _ rfl w.heap.size 0 rfl _ _ hR.out Tryz.underlying29 rfl (by kernel_rfl) ?_) | (go_at_call 64; refine (hM.out _).mono ?_; rintro e w2 ⟨rfl, hb2⟩; obtain ⟨d0, d1, d2, d3, d4, d5, d6, d7, d8, d9, d10, d11⟩ := (hI.out.keep hb2).all))
      go_ret
      exact ⟨by rw [hSz.out]; rfl, hb0.trans (hb2.mono hb0.size)⟩
    by_cases k5 : kind = 5
    · subst k5
      have hrd2 := hrd.out rfl rfl
      unfold NumR at hN
      rw [if_pos hrd2, if_pos hrd2] at hN
      have hlen : Hid (sizeV ⟨5, ⟨op, rd, r1, r2, imm, aq, rl, pred, succ⟩, label, addr⟩ long = ((numV rd addr).length : Int)) := Lib.hid (by rw [hSz.out]; rfl)
      clear hSz
      generalize numV rd addr = l at hN hlen
      go_wp2_with (first | (refine wpList_load_mid rfl 29 _ rfl w.heap.size 0 rfl _ _ hR.out Tryz.underlying29 rfl (by kernel_rfl) ?_) | (go_at_call 64; refine (hM.out _).mono ?_; rintro e w2 ⟨rfl, hb2⟩; obtain ⟨d0, d1, d2, d3, d4, d5, d6, d7, d8, d9, d10, d11⟩ := (hI.out.keep hb2).all) | (go_at_call 31; (with_reducible refine (hN.out _).mono ?_); rintro e w3 ⟨⟨v, rfl, ho⟩, hb3⟩; obtain ⟨A3, c3, rfl⟩ := own_sliceN ho))
      go_ret
      exact ⟨by rw [hlen.out]; rfl, (hb0.trans (hb2.mono hb0.size)).trans (hb3.mono (by have := hb0.size; have := hb2.size; omega))⟩
    have t2 : (kind == 2) = false := by simpa using k2
    have t5 : (kind == 5) = false := by simpa using k5
    have hlen : Hid (sizeV ⟨kind, ⟨op, rd, r1, r2, imm, aq, rl, pred, succ⟩, label, addr⟩ long = if kind = 3 ∧ long = true then 2 else 1) := Lib.hid (by
      rw [hSz.out]; unfold lenV
      rw [if_neg k2, if_neg k5])
    clear hSz k2 k5 hrd hN
    by_cases k3 : kind = 3
    · subst k3
      cases long
      all_goals
        go_wp2_with (first | (refine wpList_load_mid rfl 29 _ rfl w.heap.size 0 rfl _ _ hR.out Tryz.underlying29 rfl (by kernel_rfl) ?_) | (go_at_call 64; refine (hM.out _).mono ?_; rintro e w2 ⟨rfl, hb2⟩; obtain ⟨d0, d1, d2, d3, d4, d5, d6, d7, d8, d9, d10, d11⟩ := (hI.out.keep hb2).all))
        go_ret
        exact ⟨by rw [hlen.out]; rfl, hb0.trans (hb2.mono hb0.size)⟩
    · have t3 : (kind == 3) = false := by simpa using k3
      rw [if_neg (fun h => k3 h.1)] at hlen
      clear k3
      go_wp2_with (first | (refine wpList_load_mid rfl 29 _ rfl w.heap.size 0 rfl _ _ hR.out Tryz.underlying29 rfl (by kernel_rfl) ?_) | (go_at_call 64; refine (hM.out _).mono ?_; rintro e w2 ⟨rfl, hb2⟩; obtain ⟨d0, d1, d2, d3, d4, d5, d6, d7, d8, d9, d10, d11⟩ := (hI.out.keep hb2).all))
      go_ret
      exact ⟨by rw [hlen.out]; rfl, hb0.trans (hb2.mono hb0.size)⟩
end
end Go.Proofs.YtcgflnkgekkidaaGreatDoor
namespace Go.Proofs.YtcgflnkgekkidaaGreatDoor
open Go.RowKit Go.Maps
/-- What the document lays for an item. -/
def laidR (i : ItemV) (long : Bool) (at1 tg : Int) : List InsnV :=
  if i.kind = 2 then []
  else if i.kind = 5 then (if 1 ≤ i.insn.rd ∧ i.insn.rd ≤ 31 then numV i.insn.rd i.addr else [])
  else if i.kind = 3 ∧ long = true then [{ i.insn with op := turnedV i.insn.op, imm := 8 }, ⟨3, 0, 0, 0, 4 * (tg - at1 - 1), false, false, 0, 0⟩]
  else if i.kind = 3 ∨ i.kind = 4 then [{ i.insn with imm := 4 * (tg - at1) }]
  else [i.insn]
section
attribute [local irreducible] un
set_option maxRecDepth 100000 in
set_option maxHeartbeats 16000000 in
theorem RLaid_any (i : ItemV) (long : Bool) (at1 tg : Int) (h1 : 0 ≤ at1) (h2 : at1 ≤ 1000000) (h3 : 0 ≤ tg) (h4 : tg ≤ 1000000) (w : World) :
    Calls Tryz.prog 61 #[.agg i.cells, .bool long, .int .i64 at1, .int .i64 tg] w fun e w' => (∃ v, e = .returned v ∧ w'.ownsRow w.heap.size 26 9 v (laidR i long at1 tg).length (insnsC (laidR i long at1 tg))) ∧ Below w.heap.size w w' := by
  obtain ⟨hbx, hb1⟩ := ItB.new w i 29
  have hN := Lib.hid (fun W => RNumber_any i.insn.rd i.addr W)
  have hT := Lib.hid (fun W => RTurned_any i.insn.op W)
  obtain ⟨kind, ⟨op, rd, r1, r2, imm, aq, rl, pred, succ⟩, label, addr⟩ := i
  obtain ⟨Lr, hLr⟩ : ∃ Lr, Lr = laidR ⟨kind, ⟨op, rd, r1, r2, imm, aq, rl, pred, succ⟩, label, addr⟩ long at1 tg := ⟨_, rfl⟩
  rw [← hLr]
  unfold laidR at hLr
  simp only at hN hT hLr
  generalize turnedV op = top at hT hLr
  have hmid := Lib.hid hbx.mid
  change Hid (World.rangeAt _ _ _ [.int .i64 op, .int .i64 rd, .int .i64 r1, .int .i64 r2, .int .i64 imm, .bool aq, .bool rl, .int .i64 pred, .int .i64 succ]) at hmid
  generalize hW1 : w.alloc (.cells (ItemV.cells ⟨kind, ⟨op, rd, r1, r2, imm, aq, rl, pred, succ⟩, label, addr⟩) 29) = w1 at hbx hb1 hmid
  have hth9 := Lib.hid (fresh9 w1 #[.int .i64 0, .int .i64 0, .int .i64 0, .int .i64 0, .int .i64 0, .bool false, .bool false, .int .i64 0, .int .i64 0] rfl 26)
  have hB6 : Hid (BI w1.heap.size [.int .i64 op, .int .i64 rd, .int .i64 r1, .int .i64 r2, .int .i64 imm, .bool aq, .bool rl, .int .i64 pred, .int .i64 succ] (World.setCells (w1.alloc (.cells #[.int .i64 0, .int .i64 0, .int .i64 0, .int .i64 0, .int .i64 0, .bool false, .bool false, .int .i64 0, .int .i64 0] 26)) w1.heap.size 0 [.int .i64 op, .int .i64 rd, .int .i64 r1, .int .i64 r2, .int .i64 imm, .bool aq, .bool rl, .int .i64 pred, .int .i64 succ])) := Lib.hid ⟨World.rangeAt_setCells_same _ _ 0 [.int .i64 op, .int .i64 rd, .int .i64 r1, .int .i64 r2, .int .i64 imm, .bool aq, .bool rl, .int .i64 pred, .int .i64 succ] hth9.out, World.there_setCells hth9.out _ _ _, by rw [size_setCells]; simp⟩
  have hb6 : Hid (Below w1.heap.size w1 (World.setCells (w1.alloc (.cells #[.int .i64 0, .int .i64 0, .int .i64 0, .int .i64 0, .int .i64 0, .bool false, .bool false, .int .i64 0, .int .i64 0] 26)) w1.heap.size 0 [.int .i64 op, .int .i64 rd, .int .i64 r1, .int .i64 r2, .int .i64 imm, .bool aq, .bool rl, .int .i64 pred, .int .i64 succ])) := Lib.hid (below_cells (Nat.le_refl _) _ 0 _ ((Below.refl _ _).alloc (Nat.le_refl _) _))
  replace hLr := Lib.hid hLr
  go_enter Tryz.func61, Tryz.ntmps61
  go_upto_region 1 with fail
  clear hW1
  go_upto_region 2 with (first | (refine wpList_load_mid rfl 26 _ rfl w.heap.size 1 rfl [.int .i64 op, .int .i64 rd, .int .i64 r1, .int .i64 r2, .int .i64 imm, .bool aq, .bool rl, .int .i64 pred, .int .i64 succ] _ hmid.out Tryz.underlying26 rfl (by kernel_rfl) ?_) | (refine wpList_store_mid rfl 26 _ _ rfl w1.heap.size 0 #[.int .i64 op, .int .i64 rd, .int .i64 r1, .int .i64 r2, .int .i64 imm, .bool aq, .bool rl, .int .i64 pred, .int .i64 succ] rfl rfl (fun j hj => hth9.out j hj) (by kernel_rfl) (by kernel_rfl) ?_))
  replace hB6 := hB6.out
  replace hb6 := hb6.out
  clear hth9 hmid
  change Code.wp _ _ _ _ (World.setCells (w1.alloc (.cells #[.int .i64 0, .int .i64 0, .int .i64 0, .int .i64 0, .int .i64 0, .bool false, .bool false, .int .i64 0, .int .i64 0] 26)) w1.heap.size 0 [.int .i64 op, .int .i64 rd, .int .i64 r1, .int .i64 r2, .int .i64 imm, .bool aq, .bool rl, .int .i64 pred, .int .i64 succ])
  generalize World.setCells (w1.alloc (.cells #[.int .i64 0, .int .i64 0, .int .i64 0, .int .i64 0, .int .i64 0, .bool false, .bool false, .int .i64 0, .int .i64 0] 26)) w1.heap.size 0 [.int .i64 op, .int .i64 rd, .int .i64 r1, .int .i64 r2, .int .i64 imm, .bool aq, .bool rl, .int .i64 pred, .int .i64 succ] = w2 at hB6 hb6 ⊢
  have hbx2 := hbx.keep hb6
  have hb2 := hb1.trans (hb6.mono hb1.size)
  have hge6 : w.heap.size ≤ w1.heap.size := hb1.size
  clear hbx hb1 hb6
  generalize w1.heap.size = b6 at hB6 hge6 ⊢
  have c0 : w2.cell? ⟨w.heap.size, 0, none⟩ = some (.int .i64 kind) := hbx2.c 0 _ rfl
  by_cases k2 : kind = 2
  · subst k2
    obtain rfl : Lr = [] := by rw [hLr.out]; exact if_pos rfl
    clear hB6 hbx2 hLr
    go_wp2_with fail
    go_ret
    exact ⟨⟨_, rfl, World.ownsRow_nil _ _ _ _⟩, hb2⟩
  rw [if_neg k2] at hLr
  have t2 : (kind == 2) = false := by simpa using k2
  by_cases k5 : kind = 5
  · rw [if_pos k5] at hLr
    subst k5
    have e1 : w2.cell? ⟨b6, 1, none⟩ = some (.int .i64 rd) := hB6.r 1 _ rfl
    have c11 : w2.cell? ⟨w.heap.size, 11, none⟩ = some (.int .u64 (un addr)) := hbx2.c 11 _ rfl
    unfold NumR at hN
    rw [← hLr.out] at hN
    generalize (if 1 ≤ rd ∧ rd ≤ 31 then (0 : Int) else 2) = E5 at hN
    clear hB6 hbx2 hLr k2
    go_wp2_with (go_at_call 31; (with_reducible refine (hN.out _).mono ?_); rintro e w4 ⟨⟨v, rfl, hown⟩, hb4⟩; obtain ⟨A4, c4, rfl⟩ := own_sliceN hown)
    go_ret
    exact ⟨⟨_, rfl, own_base hown hb2.size⟩, hb2.trans (hb4.mono hb2.size)⟩
  rw [if_neg k5] at hLr
  have t5 : (kind == 5) = false := by simpa using k5
  by_cases k3 : kind = 3
  · subst k3
    clear t2 t5 k2 k5
    cases long with
    | true =>
      rw [if_pos ⟨rfl, rfl⟩] at hLr
      have hx := hLr.out
      subst hx
      have d0 : w2.cell? ⟨b6, 0, none⟩ = some (.int .i64 op) := hB6.r 0 _ rfl
      replace hB6 := Lib.hid hB6
      go_upto_region 10 with fail
      go_upto_region 11 with (go_at_call 36; (with_reducible refine (hT.out _).mono ?_); rintro e w3 ⟨rfl, hb3⟩; have hB7 := hB6.out.keep hb3; have e0 : w3.cell? ⟨b6, 0, none⟩ = some (.int .i64 op) := hB7.r 0 _ rfl; have g0 : w3.frozen? ⟨b6, 0, none⟩ = false := (hB7.t 0 (by decide)).2; have e4 : w3.cell? ⟨b6, 4, none⟩ = some (.int .i64 imm) := hB7.r 4 _ rfl; have g4 : w3.frozen? ⟨b6, 4, none⟩ = false := by have := (hB7.t 4 (by decide)).2; rwa [Nat.zero_add] at this)
      have hB8 := (hB7.set 0 (show 0 < 9 by decide) (.int .i64 top)).set 4 (show 4 < 9 by decide) (.int .i64 8)
      have hb8 : Below w.heap.size w ((w3.setCell ⟨b6, 0, none⟩ (.int .i64 top)).setCell ⟨b6, 4, none⟩ (.int .i64 8)) := ((hb2.trans (hb3.mono hb2.size)).setCell (p := ⟨b6, 0, none⟩) hge6 _).setCell (p := ⟨b6, 4, none⟩) hge6 _
      change BI b6 [.int .i64 top, .int .i64 rd, .int .i64 r1, .int .i64 r2, .int .i64 8, .bool aq, .bool rl, .int .i64 pred, .int .i64 succ] _ at hB8
      clear e0 g0 e4 g4 hB7 hB6 hb2 d0
      generalize World.setCell (World.setCell w3 _ _) _ _ = w4 at hB8 hb8 ⊢
      have hr8 := Lib.hid hB8.r
      have hnew := lit_insn2 w4 ⟨top, rd, r1, r2, 8, aq, rl, pred, succ⟩ ⟨3, 0, 0, 0, 4 * (tg - at1 - 1), false, false, 0, 0⟩
      have hw1 : wrap64 (tg - at1) = tg - at1 := IntWalk.wrap64_in _ ⟨by omega, by omega⟩
      have hw2 : wrap64 (tg - at1 - 1) = tg - at1 - 1 := IntWalk.wrap64_in _ ⟨by omega, by omega⟩
      have hw3 : wrap64 (4 * (tg - at1 - 1)) = 4 * (tg - at1 - 1) := IntWalk.wrap64_in _ ⟨by omega, by omega⟩
      go_wp2_with (refine wpList_load_mid rfl 26 _ rfl b6 0 rfl [.int .i64 top, .int .i64 rd, .int .i64 r1, .int .i64 r2, .int .i64 8, .bool aq, .bool rl, .int .i64 pred, .int .i64 succ] _ hr8.out Tryz.underlying26 rfl (by kernel_rfl) ?_)
      go_ret
      exact ⟨⟨_, rfl, own_base hnew hb8.size⟩, hb8.alloc hb8.size _⟩
    | false =>
      rw [if_neg (fun h => by cases h.2), if_pos (.inl rfl)] at hLr
      have hx := hLr.out
      subst hx
      have hw1 : wrap64 (tg - at1) = tg - at1 := IntWalk.wrap64_in _ ⟨by omega, by omega⟩
      have hw2 : wrap64 (4 * (tg - at1)) = 4 * (tg - at1) := IntWalk.wrap64_in _ ⟨by omega, by omega⟩
      have e4 : w2.cell? ⟨b6, 4, none⟩ = some (.int .i64 imm) := hB6.r 4 _ rfl
      have g4 : w2.frozen? ⟨b6, 4, none⟩ = false := by have := (hB6.t 4 (by decide)).2; rwa [Nat.zero_add] at this
      have hB7 := hB6.set 4 (show 4 < 9 by decide) (.int .i64 (4 * (tg - at1)))
      change BI b6 [.int .i64 op, .int .i64 rd, .int .i64 r1, .int .i64 r2, .int .i64 (4 * (tg - at1)), .bool aq, .bool rl, .int .i64 pred, .int .i64 succ] _ at hB7
      have hb7 : Below w.heap.size w (w2.setCell ⟨b6, 4, none⟩ (.int .i64 (4 * (tg - at1)))) := hb2.setCell (p := ⟨b6, 4, none⟩) hge6 _
      replace hB7 := Lib.hid hB7
      clear hB6 hb2 hbx2
      go_upto_region 15 with fail
      clear e4 g4 c0
      generalize World.setCell w2 _ _ = w3 at hB7 hb7 ⊢
      have hr7 := Lib.hid hB7.out.r
      have hnew := lit_insn w3 ⟨op, rd, r1, r2, 4 * (tg - at1), aq, rl, pred, succ⟩
      go_wp2_with (refine wpList_load_mid rfl 26 _ rfl b6 0 rfl [.int .i64 op, .int .i64 rd, .int .i64 r1, .int .i64 r2, .int .i64 (4 * (tg - at1)), .bool aq, .bool rl, .int .i64 pred, .int .i64 succ] _ hr7.out Tryz.underlying26 rfl (by kernel_rfl) ?_)
      go_ret
      exact ⟨⟨_, rfl, own_base hnew hb7.size⟩, hb7.alloc hb7.size _⟩
  by_cases k4 : kind = 4
  · subst k4
    rw [if_neg (fun h => by cases h.1), if_pos (.inr rfl)] at hLr
    have hx := hLr.out
    subst hx
    clear t2 t5 k2 k5 k3
    have hone : True := trivial
    · clear hone
      have hw1 : wrap64 (tg - at1) = tg - at1 := IntWalk.wrap64_in _ ⟨by omega, by omega⟩
      have hw2 : wrap64 (4 * (tg - at1)) = 4 * (tg - at1) := IntWalk.wrap64_in _ ⟨by omega, by omega⟩
      have e4 : w2.cell? ⟨b6, 4, none⟩ = some (.int .i64 imm) := hB6.r 4 _ rfl
      have g4 : w2.frozen? ⟨b6, 4, none⟩ = false := by have := (hB6.t 4 (by decide)).2; rwa [Nat.zero_add] at this
      have hB7 := hB6.set 4 (show 4 < 9 by decide) (.int .i64 (4 * (tg - at1)))
      change BI b6 [.int .i64 op, .int .i64 rd, .int .i64 r1, .int .i64 r2, .int .i64 (4 * (tg - at1)), .bool aq, .bool rl, .int .i64 pred, .int .i64 succ] _ at hB7
      have hb7 : Below w.heap.size w (w2.setCell ⟨b6, 4, none⟩ (.int .i64 (4 * (tg - at1)))) := hb2.setCell (p := ⟨b6, 4, none⟩) hge6 _
      replace hB7 := Lib.hid hB7
      clear hB6 hb2 hbx2
      go_upto_region 15 with fail
      clear e4 g4 c0
      generalize World.setCell w2 _ _ = w3 at hB7 hb7 ⊢
      have hr7 := Lib.hid hB7.out.r
      have hnew := lit_insn w3 ⟨op, rd, r1, r2, 4 * (tg - at1), aq, rl, pred, succ⟩
      go_wp2_with (refine wpList_load_mid rfl 26 _ rfl b6 0 rfl [.int .i64 op, .int .i64 rd, .int .i64 r1, .int .i64 r2, .int .i64 (4 * (tg - at1)), .bool aq, .bool rl, .int .i64 pred, .int .i64 succ] _ hr7.out Tryz.underlying26 rfl (by kernel_rfl) ?_)
      go_ret
      exact ⟨⟨_, rfl, own_base hnew hb7.size⟩, hb7.alloc hb7.size _⟩
  have t3 : (kind == 3) = false := by simpa using k3
  have t4 : (kind == 4) = false := by simpa using k4
  rw [if_neg (fun h => k3 h.1), if_neg (fun h => h.elim k3 k4)] at hLr
  have hx := hLr.out
  subst hx
  clear k2 k5 k3 k4
  have hr7 := Lib.hid hB6.r
  have hnew := lit_insn w2 ⟨op, rd, r1, r2, imm, aq, rl, pred, succ⟩
  replace hbx2 := Lib.hid hbx2
  replace hB6 := Lib.hid hB6
  go_wp2_with (refine wpList_load_mid rfl 26 _ rfl b6 0 rfl [.int .i64 op, .int .i64 rd, .int .i64 r1, .int .i64 r2, .int .i64 imm, .bool aq, .bool rl, .int .i64 pred, .int .i64 succ] _ hr7.out Tryz.underlying26 rfl (by kernel_rfl) ?_)
  go_ret
  exact ⟨⟨_, rfl, own_base hnew hb2.size⟩, hb2.alloc hb2.size _⟩
end
end Go.Proofs.YtcgflnkgekkidaaGreatDoor
namespace Go.Proofs.YtcgflnkgekkidaaGreatDoor
open Go.RowKit Go.Maps
theorem keyed_int : Go.Maps.Keyed Tryz.prog 3 := int_keyed Tryz.underlying3
theorem item_sz (i : ItemV) : (Tryz.prog.info? 29).map (·.size) = some i.cells.toList.length := by kernel_rfl
theorem numsL_snoc (f : Nat → Int) (k : Nat) : (numsL f (k + 1)).map (Value.int .i64) = (numsL f k).map (Value.int .i64) ++ [.int .i64 (f k)] := by
  unfold numsL; rw [List.range_succ]; simp
/-- What the document's places answers. -/
structure PlR (w : World) (F : Nat → ItemV) (n : Nat) (L : Nat → Bool) (e : Ending) (w' : World) : Prop where
  ret : ∃ v bm c, e = .returned (.tuple #[v, .map (some bm)]) ∧ w.heap.size ≤ bm ∧ w'.ownsRow (bm + 1) 3 1 v n ((numsL (placeF F L) n).map (Value.int .i64)) ∧ MapAt 3 w' bm c (labV F L n) ∧ c ≤ n
  bl : Below w.heap.size w w'
set_option maxRecDepth 100000 in
set_option maxHeartbeats 16000000 in
theorem RPlaces_any (ao : Option Addr) (n cap : Nat) (F : Nat → ItemV) (L : Nat → Bool) (A3 : Option Addr) (c3 : Nat) (w : World) (hI : ItemsAt w ao n F) (hF : FitF F n) (hmay : ∀ k, k < n → mayV (F k) = true) (hLk : ∀ k, L k = true → (F k).kind = 3) (hn : n ≤ 60) (hc3 : n ≤ c3)
    (hL : 0 < n → ∃ b3, A3 = some ⟨b3, 0, none⟩ ∧ b3 < w.heap.size ∧ ∀ k, k < n → w.cell? ⟨b3, k, none⟩ = some (.bool (L k))) :
    Calls Tryz.prog 60 #[.slice ao n cap, .slice A3 n c3] w (PlR w F n L) := by
  have hmk : Tryz.prog.follows .mixedOrders = true := by kernel_rfl
  have hwl : Hid (∀ k, k < n → (Lit.int .i64 (F k).label).wf = true) := Lib.hid fun k hk => (hF k hk).2
  have hsz9 : Hid (∀ k, k < n → sizeV (F k) (L k) = sizeW (F k) (L k)) := Lib.hid fun k hk => by
    unfold sizeV
    rw [if_pos (hmay k hk), lenV_long _ _ (hLk k)]
  replace hI := Lib.hid hI
  replace hL := Lib.hid hL
  clear hF hmay hLk
  obtain ⟨i0, q0, q1, q2, q3⟩ := info_parts Tryz.info_int1
  replace q0 := Lib.hid q0
  replace q1 := Lib.hid q1
  replace q2 := Lib.hid q2
  replace q3 := Lib.hid q3
  have hmm := @run_makeMap Tryz.prog
  go_enter Tryz.func60, Tryz.ntmps60
  go_upto_region 3 with fail
  have hm0 := MapAt.made 3 w
  have hb0 : Below w.heap.size w (w.alloc (.map #[] 0)) := (Below.refl _ _).alloc (Nat.le_refl _) _
  generalize w.alloc (.map #[] 0) = w1 at hm0 hb0 ⊢
  go_wp2_with fail
  go_loopw [6, 8, 9] (fun s6 s8 s9 wr => ∃ (k : Nat) (A6 : Option Addr) (c6 : Nat), k ≤ n ∧ s6 = .slice A6 k c6 ∧ s8 = .int .i64 (placeF F L k) ∧ s9 = .int .i64 k ∧ wr.ownsRow (w.heap.size + 1) 3 1 (.slice A6 k c6) k ((numsL (placeF F L) k).map (Value.int .i64)) ∧ MapAt 3 wr w.heap.size k (labF F L (fun _ => 0) k) ∧ Below w.heap.size w wr) (fun _ _ s9 _ => n - (intOf s9).toNat)
  case atStart => exact ⟨0, none, 0, Nat.zero_le _, rfl, rfl, rfl, World.ownsRow_nil _ _ _ _, hm0, hb0⟩
  case round =>
    obtain ⟨k, A6, c6, hk, rfl, rfl, rfl, hown, hM, hb⟩ := hrel
    clear hm0 hb0
    have hk1 : (0 : Int) ≤ (k : Int) := Int.natCast_nonneg k
    have hbd := placeF_bd F L k
    by_cases hlt : k < n
    · obtain ⟨ib, io, rfl, hib, hcc⟩ := hI.out (by omega)
      obtain ⟨b3, rfl, hb3, hl3⟩ := hL.out (by omega)
      have hRk : Hid (∀ W, Below w.heap.size w W → W.rangeAt ib (io + k * 12) (F k).cells.toList) := Lib.hid fun W hW => item_range fun j v hv => (hW.cell (p := ⟨ib, io + k * 12 + j, none⟩) hib).trans (hcc k hlt j v hv)
      have hLc0 : Hid (∀ W, Below w.heap.size w W → W.cell? ⟨b3, k, none⟩ = some (.bool (L k))) := Lib.hid fun W hW => (hW.cell (p := ⟨b3, k, none⟩) hb3).trans (hl3 k hlt)
      have hwk := hwl.out k hlt
      have hS9 := hsz9.out k hlt
      have hlb := lenV_bd (F k) false
      have hswb : 0 ≤ sizeW (F k) (L k) ∧ sizeW (F k) (L k) ≤ 13 := by unfold sizeW; split <;> omega
      have hSz := Lib.hid (fun W => RSize_any (F k) (L k) W)
      rw [hS9] at hSz
      have hP1 : Hid (placeF F L (k + 1) = placeF F L k + sizeW (F k) (L k)) := Lib.hid rfl
      have hM1 : Hid (labF F L (fun _ => 0) (k + 1) = fun x => if (F k).kind = 2 ∧ x = (F k).label then placeF F L k else labF F L (fun _ => 0) k x) := Lib.hid rfl
      have hSn : Hid ((numsL (placeF F L) (k + 1)).map (Value.int .i64) = (numsL (placeF F L) k).map (Value.int .i64) ++ [.int .i64 (placeF F L k)]) := Lib.hid (numsL_snoc _ _)
      clear hcc hl3 hS9 hlb
      generalize sizeW (F k) (L k) = sz at hSz hP1 hswb
      generalize hat : placeF F L k = at1 at hP1 hM1 hSn hbd ⊢
      generalize L k = lk at hSz hLc0
      have hLc := hLc0
      clear hLc0 hat
      have hm1 : (k : Int) < (n : Int) := by omega
      have hm2 : decide ((k : Int) < (n : Int)) = true := decide_eq_true hm1
      have hn3 : (n : Int) ≤ 60 := by omega
      have hwr : IntKind.i64.wrap (at1 + sz) = at1 + sz := by rw [IntWalk.i64_left]; exact IntWalk.wrap64_in _ ⟨by omega, by omega⟩
      go_upto_region 8 with (at_builtin; refine wpList_append_own _ rfl _ _ 32 rfl (w.heap.size + 1) 3 i0 (.int .i64 0) 1 8 Tryz.underlying32 q0.out q1.out q2.out q3.out rfl (by decide) _ k _ rfl (hown.alloc _) ⟨wr.heap.size, 0, none⟩ 1 1 [.int .i64 at1] rfl rfl ?c1 ?c2 ?c3 ?c4 ?c5 ?_)
      case c1 => exact lit_cellX wr _ _ rfl _
      case c2 => intro u hu; simp at hu; subst hu; rfl
      case c3 => (first | (unfold maxLen; omega) | omega)
      case c4 => (first | (unfold maxLen; omega) | omega)
      case c5 => have := hb.size; have := hM.lt; simp; omega
      intro v3 w3 hown3 hgrow3 _
      rw [← hSn.out] at hown3
      obtain ⟨A7, c7, rfl⟩ := own_sliceN hown3
      have hne6 : some w.heap.size ≠ (Value.slice A6 k c6).ownBlock := fun h => by have := (World.ownsRow.lt hown _ h.symm).1; omega
      have hne7 : (Value.slice A7 (k + 1) c7).ownBlock ≠ some w.heap.size := fun h => by have := (World.ownsRow.lt hown3 _ h).1; omega
      have hM3 := (hM.al _).grown hgrow3 hne6
      have hb3' := (hb.alloc hb.size _).grown hgrow3 (by have := hb.size; simp; omega) (fun j hj => by have := (World.ownsRow.lt hown j hj).1; omega)
      clear hown hM hb hgrow3 hne6
      have hR3 := hRk.out w3 hb3'
      have ck : w3.cell? ⟨ib, io + k * 12, none⟩ = some (.int .i64 (F k).kind) := hR3 0 _ rfl
      have cl : w3.cell? ⟨ib, io + k * 12 + 10, none⟩ = some (.int .i64 (F k).label) := hR3 10 _ rfl
      clear hR3
      generalize hkd : (F k).kind = kd at ck hM1
      generalize (F k).label = lb at cl hM1 hwk
      go_upto_if 26 with fail
      clear ck
      go_cut [] (fun wx => MapAt 3 wx w.heap.size (k + 1) (labF F L (fun _ => 0) (k + 1)) ∧ wx.ownsRow (w.heap.size + 1) 3 1 (.slice A7 (k + 1) c7) (k + 1) ((numsL (placeF F L) (k + 1)).map (Value.int .i64)) ∧ Below w.heap.size w wx)
      case first =>
        by_cases h2 : kd = 2
        · have e : labF F L (fun _ => 0) (k + 1) = fun y => if y = lb then at1 else labF F L (fun _ => 0) k y := by
            rw [hM1.out]; funext x
            by_cases hx : x = lb
            · rw [if_pos ⟨h2, hx⟩, if_pos hx]
            · rw [if_neg (fun hh => hx hh.2), if_neg hx]
          replace e := Lib.hid e
          have tk2 : (kd == 2) = true := by rw [h2]; rfl
          clear h2 hM1
          go_wp2_with (refine wpList_setM _ rfl _ _ _ 56 3 rfl keyed_int Tryz.underlying56 Tryz.underlying3 w.heap.size k _ rfl hM3 (by unfold maxLen; omega) lb at1 rfl rfl hwk (WalkArith.wf_i64 (by omega)) ?_; intro w4 hM4 hg4)
          go_meet
          rw [e.out]
          exact ⟨hM4, World.ownsRow.kept hown3 hg4 (.inr hne7), hb3'.grown hg4 hb3'.size (fun j hj => by injection hj with hj; rw [← hj]; exact Nat.le_refl _)⟩
        · have e : labF F L (fun _ => 0) (k + 1) = labF F L (fun _ => 0) k := by
            rw [hM1.out]; funext x; rw [if_neg (fun hh => h2 hh.1)]
          replace e := Lib.hid e
          have tk2 : (kd == 2) = false := by simpa using h2
          clear h2 hM1
          go_wp2_with fail
          go_meet
          rw [e.out]
          exact ⟨hM3.mono (Nat.le_succ _), hown3, hb3'⟩
      case rest =>
        obtain ⟨hM5, hO5, hb5⟩ := hcut
        clear hM3 hown3 hb3' hM1 cl hSn hwk hne7
        go_upto_region 10 with fail
        refine wp_region_held_drew (S := fun W => Below w.heap.size w W ∧ MapAt 3 W w.heap.size (k + 1) (labF F L (fun _ => 0) (k + 1)) ∧ W.ownsRow (w.heap.size + 1) 3 1 (.slice A7 (k + 1) c7) (k + 1) ((numsL (placeF F L) (k + 1)).map (Value.int .i64))) hmk ⟨hb5.drew, hM5.keep (Below.refl _ _).drew, own_keep hO5 (Below.refl _ _).drew⟩ (fun hHeld => ?_)
        clear hM5 hO5 hb5
        generalize World.drew _ = w5 at hHeld ⊢
        refine wpAnyH_take (i := 0) (v := .int .i64 at1) rfl (by kernel_rfl) (by kernel_rfl) (by kernel_rfl) (fun _ _ _ h => h) (Or.inl ⟨by rfl, fun W _ => by kernel_rfl⟩) hHeld ?_
        try simp only [Act.put, List.getElem_toArray, List.getElem_cons_zero, List.setIfInBounds_toArray, List.set_cons_zero, List.set_cons_succ]
        refine wpAnyH_take (i := 1) (v := .slice (some ⟨ib, io, none⟩) n cap) rfl (by kernel_rfl) (by kernel_rfl) (by kernel_rfl) (fun _ _ _ h => h) (Or.inl ⟨by rfl, fun W _ => by kernel_rfl⟩) hHeld ?_
        try simp only [Act.put, List.getElem_toArray, List.getElem_cons_succ, List.getElem_cons_zero, List.setIfInBounds_toArray, List.set_cons_zero, List.set_cons_succ]
        refine wpAnyH_take (i := 2) (v := .int .i64 k) rfl (by kernel_rfl) (by kernel_rfl) (by kernel_rfl) (fun _ _ _ h => h) (Or.inl ⟨by rfl, fun W _ => by kernel_rfl⟩) hHeld ?_
        try simp only [Act.put, List.getElem_toArray, List.getElem_cons_succ, List.getElem_cons_zero, List.setIfInBounds_toArray, List.set_cons_zero, List.set_cons_succ]
        refine wpAnyH_take (i := 3) (v := .pointer (some ⟨ib, io + k * 12, none⟩)) rfl (by kernel_rfl) (by kernel_rfl) (by kernel_rfl) (fun _ _ _ h => h) (Or.inl ⟨by rfl, fun W _ => by go_simp⟩) hHeld ?_
        try simp only [Act.put, List.getElem_toArray, List.getElem_cons_succ, List.getElem_cons_zero, List.setIfInBounds_toArray, List.set_cons_zero, List.set_cons_succ]
        refine wpAnyH_take (i := 4) rfl (by kernel_rfl) (by kernel_rfl) (by kernel_rfl) (fun _ _ _ h => h) (yieldsIf_load_mid (by rfl) _ _ rfl ib (io + k * 12) rfl (F k).cells.toList _ (fun W hS => hRk.out W hS.1) Tryz.underlying29 rfl (item_sz _)) hHeld ?_
        try simp only [Act.put, List.getElem_toArray, List.getElem_cons_succ, List.getElem_cons_zero, List.setIfInBounds_toArray, List.set_cons_zero, List.set_cons_succ]
        refine wpAnyH_take (i := 5) (v := .slice (some ⟨b3, 0, none⟩) n c3) rfl (by kernel_rfl) (by kernel_rfl) (by kernel_rfl) (fun _ _ _ h => h) (Or.inl ⟨by rfl, fun W _ => by kernel_rfl⟩) hHeld ?_
        try simp only [Act.put, List.getElem_toArray, List.getElem_cons_succ, List.getElem_cons_zero, List.setIfInBounds_toArray, List.set_cons_zero, List.set_cons_succ]
        refine wpAnyH_take (i := 6) (v := .int .i64 k) rfl (by kernel_rfl) (by kernel_rfl) (by kernel_rfl) (fun _ _ _ h => h) (Or.inl ⟨by rfl, fun W _ => by kernel_rfl⟩) hHeld ?_
        try simp only [Act.put, List.getElem_toArray, List.getElem_cons_succ, List.getElem_cons_zero, List.setIfInBounds_toArray, List.set_cons_zero, List.set_cons_succ]
        refine wpAnyH_take (i := 7) (v := .pointer (some ⟨b3, k, none⟩)) rfl (by kernel_rfl) (by kernel_rfl) (by kernel_rfl) (fun _ _ _ h => h) (Or.inl ⟨by rfl, fun W _ => by go_simp⟩) hHeld ?_
        try simp only [Act.put, List.getElem_toArray, List.getElem_cons_succ, List.getElem_cons_zero, List.setIfInBounds_toArray, List.set_cons_zero, List.set_cons_succ]
        refine wpAnyH_take (i := 8) (v := .bool lk) rfl (by kernel_rfl) (by kernel_rfl) (by kernel_rfl) (fun _ _ _ h => h) (Or.inl ⟨by rfl, fun W hS => by (have k4 := hLc.out W hS.1; go_simp)⟩) hHeld ?_
        try simp only [Act.put, List.getElem_toArray, List.getElem_cons_succ, List.getElem_cons_zero, List.setIfInBounds_toArray, List.set_cons_zero, List.set_cons_succ]
        refine wpAnyH_ready (rs := [9]) (by kernel_rfl) (by simp) (AllReadyH.cons rfl (fun K hK2 => ?_) AllReadyH.nil)
        rw [if_pos (by rfl)]
        simp only [List.getElem_toArray, List.getElem_cons_succ, List.getElem_cons_zero]
        go_wp2_with (go_at_call 32; refine (hSz.out _).mono ?_; rintro e w6 ⟨rfl, hb6⟩)
        refine hK2.out _ _ ⟨hHeld.1.trans (hb6.mono hHeld.1.size), hHeld.2.1.keep hb6, own_keep hHeld.2.2 hb6⟩ (fun hHeld2 => ?_)
        clear hK2 K hHeld
        have hHeld := hHeld2
        clear hHeld2 hb6
        try simp only [Act.put, List.getElem_toArray, List.getElem_cons_succ, List.getElem_cons_zero, List.setIfInBounds_toArray, List.set_cons_zero, List.set_cons_succ]
        refine wpAnyH_take (i := 10) (v := .int .i64 (at1 + sz)) rfl (by kernel_rfl) (by kernel_rfl) (by kernel_rfl) (fun _ _ _ h => h) (Or.inl ⟨by rfl, fun W _ => by (go_simp; try exact hwr)⟩) hHeld ?_
        try simp only [Act.put, List.getElem_toArray, List.getElem_cons_succ, List.getElem_cons_zero, List.setIfInBounds_toArray, List.set_cons_zero, List.set_cons_succ]
        refine wpAnyH_take (i := 11) (v := .int .i64 (at1 + sz)) rfl (by kernel_rfl) (by kernel_rfl) (by kernel_rfl) (fun _ _ _ h => h) (Or.inl ⟨by rfl, fun W _ => by kernel_rfl⟩) hHeld ?_
        try simp only [Act.put, List.getElem_toArray, List.getElem_cons_succ, List.getElem_cons_zero, List.setIfInBounds_toArray, List.set_cons_zero, List.set_cons_succ]
        refine wpAnyH_done (by kernel_rfl) ?_ _
        obtain ⟨hb6, hM6, hO6⟩ := hHeld
        go_wp2_with fail
        go_roundw
        case rel => exact ⟨k + 1, A7, c7, by omega, rfl, by rw [hP1.out], by go_num, hO6, hM6, hb6⟩
        case measure => simp [intOf]; omega
    · obtain rfl : k = n := by omega
      go_wp2_with fail
      go_ret2
      exact ⟨⟨_, _, k, rfl, Nat.le_refl _, hown, hM, Nat.le_refl _⟩, hb⟩
end Go.Proofs.YtcgflnkgekkidaaGreatDoor
namespace Go.Proofs.YtcgflnkgekkidaaGreatDoor
open Go.RowKit Go.Maps
section
attribute [local irreducible] un
set_option maxRecDepth 100000 in
set_option maxHeartbeats 16000000 in
/-- fencepostref15.Check. -/
theorem RCheck_any (ao : Option Addr) (n cap : Nat) (F : Nat → ItemV) (w : World) (hI : ItemsAt w ao n F) (hwl0 : ∀ k, k < n → (Lit.int .i64 (F k).label).wf = true) (hn : n ≤ 60) :
    Calls Tryz.prog 35 #[.slice ao n cap] w fun e w' => e = .returned (.int .i64 (checkV F n)) ∧ Below w.heap.size w w' := by
  have h2 : Hid (∀ k, k < n → mayV (F k) = false → checkV F n = 2) := Lib.hid fun k hk h => by
    unfold checkV
    rw [if_neg (by omega), if_pos (anyB_true hk (by simp only [h]; rfl))]
  have hm0 : (∀ k, k < n → mayV (F k) = true) → anyB (fun k => !mayV (F k)) n = false := fun h => anyB_false fun k hk => by rw [h k hk]; rfl
  have h8 : Hid ((∀ k, k < n → mayV (F k) = true) → ∀ k, k < n → (F k).kind = 2 → standsF F k (F k).label ≠ 0 → checkV F n = 8) := Lib.hid fun hm k hk h h' => by
    unfold checkV
    rw [if_neg (by omega), hm0 hm, if_neg (by decide), if_pos (anyB_true hk (by rw [decide_eq_true h, decide_eq_true h']; rfl))]
  have hd0 : (∀ k, k < n → (F k).kind = 2 → standsF F k (F k).label = 0) → anyB (fun k => decide ((F k).kind = 2) && decide (standsF F k (F k).label ≠ 0)) n = false := fun h => anyB_false fun k hk => by
    by_cases e : (F k).kind = 2
    · rw [decide_eq_true e, decide_eq_false (fun hh => hh (h k hk e))]; rfl
    · rw [decide_eq_false e]; rfl
  have h6 : Hid ((∀ k, k < n → mayV (F k) = true) → (∀ k, k < n → (F k).kind = 2 → standsF F k (F k).label = 0) → ∀ k, k < n → ((F k).kind = 3 ∨ (F k).kind = 4) → standsF F n (F k).label = 0 → checkV F n = 6) := Lib.hid fun hm hd k hk h h' => by
    unfold checkV
    rw [if_neg (by omega), hm0 hm, if_neg (by decide), hd0 hd, if_neg (by decide), if_pos (anyB_true hk (by
      rw [decide_eq_true h', Bool.and_true]
      unfold goesV
      rcases h with h | h <;> rw [h] <;> rfl))]
  have h0 : Hid ((∀ k, k < n → mayV (F k) = true) → (∀ k, k < n → (F k).kind = 2 → standsF F k (F k).label = 0) → (∀ k, k < n → ((F k).kind = 3 ∨ (F k).kind = 4) → standsF F n (F k).label ≠ 0) → checkV F n = 0) := Lib.hid fun hm hd hg => by
    unfold checkV
    rw [if_neg (by omega), hm0 hm, if_neg (by decide), hd0 hd, if_neg (by decide), if_neg]
    rw [anyB_false fun k hk => ?_]
    · decide
    · by_cases e : (F k).kind = 3 ∨ (F k).kind = 4
      · rw [decide_eq_false (hg k hk e), Bool.and_false]
      · unfold goesV
        rw [decide_eq_false (fun h => e (.inl h)), decide_eq_false (fun h => e (.inr h))]; rfl
  clear hm0 hd0
  have hwl := Lib.hid hwl0
  replace hI := Lib.hid hI
  clear hwl0
  have hn3 : (n : Int) ≤ 60 := by omega
  have d1 : decide ((16384 : Int) < (n : Int)) = false := decide_eq_false (by omega)
  generalize checkV F n = C at h2 h8 h6 h0 ⊢
  have hmm := @run_makeMap Tryz.prog
  go_enter Tryz.func35, Tryz.ntmps35
  go_wp2_with fail
  go_loopw [3] (fun s3 wr => ∃ k : Nat, k ≤ n ∧ s3 = .int .i64 k ∧ Hid (∀ j, j < k → mayV (F j) = true) ∧ Below w.heap.size w wr) (fun s3 _ => n - (intOf s3).toNat)
  case atStart => exact ⟨0, Nat.zero_le _, rfl, Lib.hid fun j hj => absurd hj (Nat.not_lt_zero _), Below.refl _ _⟩
  case round =>
    obtain ⟨k, hk, rfl, hms, hb⟩ := hrel
    have hk1 : (0 : Int) ≤ (k : Int) := Int.natCast_nonneg k
    by_cases hlt : k < n
    · obtain ⟨ib, io, rfl, hib, hcc⟩ := hI.out (by omega)
      have hR0 := Lib.hid (item_range (fun j v hv => (hb.cell (p := ⟨ib, io + k * 12 + j, none⟩) hib).trans (hcc k hlt j v hv)))
      have hMy := Lib.hid (fun W => Rmay_any (F k) W)
      obtain ⟨B, hB⟩ : ∃ B, mayV (F k) = B := ⟨_, rfl⟩
      rw [hB] at hMy
      have hk2 : (k : Int) < (n : Int) := by omega
      have hk3 : decide ((k : Int) < (n : Int)) = true := decide_eq_true hk2
      replace hB := Lib.hid hB
      clear hcc
      cases B
      · go_wp2_with (first | (refine wpList_load_mid rfl 29 _ rfl ib (io + k * 12) rfl (F k).cells.toList _ hR0.out Tryz.underlying29 rfl (item_sz _) ?_) | (go_at_call 64; refine (hMy.out _).mono ?_; rintro e w2 ⟨rfl, hb2⟩))
        go_ret
        exact ⟨by rw [h2.out k hlt hB.out]; rfl, hb.trans (hb2.mono hb.size)⟩
      · go_wp2_with (first | (refine wpList_load_mid rfl 29 _ rfl ib (io + k * 12) rfl (F k).cells.toList _ hR0.out Tryz.underlying29 rfl (item_sz _) ?_) | (go_at_call 64; refine (hMy.out _).mono ?_; rintro e w2 ⟨rfl, hb2⟩))
        go_roundw
        case rel => exact ⟨k + 1, by omega, by go_num, Lib.hid fun j hj => by
          rcases Nat.lt_or_ge j k with h | h
          · exact hms.out j h
          · obtain rfl : j = k := by omega
            exact hB.out, hb.trans (hb2.mono hb.size)⟩
        case measure => simp [intOf]; omega
    · obtain rfl : n = k := by omega
      have h8' := Lib.hid (h8.out hms.out)
      have h6' := Lib.hid (h6.out hms.out)
      have h0' := Lib.hid (h0.out hms.out)
      clear h8 h6 h0 h2 hms
      have d2 : decide ((n : Int) < (n : Int)) = false := by simp
      go_upto_region 9 with fail
      have hM0 := MapAt.made 3 wr
      have hb0 : Below w.heap.size w (wr.alloc (.map #[] 0)) := hb.alloc hb.size _
      have hge : w.heap.size ≤ wr.heap.size := hb.size
      generalize wr.alloc (.map #[] 0) = w1 at hM0 hb0 ⊢
      clear hb
      generalize wr.heap.size = bm at hM0 hge ⊢
      go_wp2_with fail
      go_loopw [5] (fun s5 wz => ∃ k : Nat, k ≤ n ∧ s5 = .int .i64 k ∧ Hid (∀ j, j < k → (F j).kind = 2 → standsF F j (F j).label = 0) ∧ MapAt 3 wz bm k (standsF F k) ∧ Below w.heap.size w wz) (fun s5 _ => n - (intOf s5).toNat)
      case atStart => exact ⟨0, Nat.zero_le _, rfl, Lib.hid fun j hj => absurd hj (Nat.not_lt_zero _), hM0, hb0⟩
      case round =>
        obtain ⟨k, hk, rfl, hds, hM, hb⟩ := hrel
        obtain ⟨wz, hwz⟩ : ∃ wz, wz = wr := ⟨_, rfl⟩
        subst hwz
        clear hM0 hb0
        have hk1 : (0 : Int) ≤ (k : Int) := Int.natCast_nonneg k
        by_cases hlt : k < n
        · obtain ⟨ib, io, rfl, hib, hcc⟩ := hI.out (by omega)
          have ck : wz.cell? ⟨ib, io + k * 12, none⟩ = some (.int .i64 (F k).kind) := (hb.cell (p := ⟨ib, io + k * 12 + 0, none⟩) hib).trans (hcc k hlt 0 _ rfl)
          have cl : wz.cell? ⟨ib, io + k * 12 + 10, none⟩ = some (.int .i64 (F k).label) := (hb.cell (p := ⟨ib, io + k * 12 + 10, none⟩) hib).trans (hcc k hlt 10 _ rfl)
          have hk2 : (k : Int) < (n : Int) := by omega
          have hk3 : decide ((k : Int) < (n : Int)) = true := decide_eq_true hk2
          have hwk := hwl.out k hlt
          have hS1 : Hid (standsF F (k + 1) = fun x => if (F k).kind = 2 ∧ x = (F k).label then 1 else standsF F k x) := Lib.hid rfl
          have h8k := Lib.hid (h8'.out k hlt)
          have hdk : Hid (((F k).kind = 2 → standsF F k (F k).label = 0) → ∀ j, j < k + 1 → (F j).kind = 2 → standsF F j (F j).label = 0) := Lib.hid fun h j hj => by
            rcases Nat.lt_or_ge j k with h5 | h5
            · exact hds.out j h5
            · obtain rfl : j = k := by omega
              exact h
          clear hcc hds
          generalize (F k).kind = kd at ck hS1 h8k hdk
          generalize (F k).label = lb at cl hwk hS1 h8k hdk
          by_cases h2 : kd = 2
          · have tk : (kd == 2) = true := by rw [h2]; rfl
            have e1 : Hid (standsF F (k + 1) = fun x => if x = lb then 1 else standsF F k x) := Lib.hid (by
              rw [hS1.out]; funext x
              by_cases hx : x = lb
              · rw [if_pos ⟨h2, hx⟩, if_pos hx]
              · rw [if_neg (fun hh => hx hh.2), if_neg hx])
            obtain ⟨st, hst⟩ : ∃ st, standsF F k lb = st := ⟨_, rfl⟩
            by_cases hz : st = 0
            · have tz : (st != 0) = false := by rw [hz]; rfl
              have hdn := Lib.hid (hdk.out (fun _ => hst.trans hz))
              replace hst := Lib.hid hst
              clear h2 hz hS1 h8k hdk
              go_upto_region 15 with (refine wpList_lookM _ (by first | rfl | kernel_rfl) _ _ 56 3 rfl keyed_int Tryz.underlying56 Tryz.underlying3 bm k _ rfl hM lb rfl hwk ?_; rw [hst.out])
              go_wp2_with (refine wpList_setM _ rfl _ _ _ 56 3 rfl keyed_int Tryz.underlying56 Tryz.underlying3 bm k _ rfl hM (by unfold maxLen; omega) lb 1 rfl rfl hwk rfl ?_; intro w4 hM4 hg4)
              go_roundw
              case rel => exact ⟨k + 1, by omega, by go_num, hdn, by rw [e1.out]; exact hM4, hb.grown hg4 hb.size (fun j hj => by injection hj with hj; rw [← hj]; exact hge)⟩
              case measure => simp [intOf]; omega
            · have tz : (st != 0) = true := by simpa using hz
              have hC := Lib.hid (h8k.out h2 (by rw [hst]; exact hz))
              replace hst := Lib.hid hst
              clear h2 hz hS1 h8k hdk e1
              go_wp2_with (refine wpList_lookM _ (by first | rfl | kernel_rfl) _ _ 56 3 rfl keyed_int Tryz.underlying56 Tryz.underlying3 bm k _ rfl hM lb rfl hwk ?_; rw [hst.out])
              go_ret
              exact ⟨by rw [hC.out]; rfl, hb⟩
          · have tk : (kd == 2) = false := by simpa using h2
            have e1 : Hid (standsF F (k + 1) = standsF F k) := Lib.hid (by rw [hS1.out]; funext x; rw [if_neg (fun hh => h2 hh.1)])
            have hdn := Lib.hid (hdk.out (fun h => absurd h h2))
            clear h2 hS1 h8k hdk
            go_wp2_with fail
            go_roundw
            case rel => exact ⟨k + 1, by omega, by go_num, hdn, by rw [e1.out]; exact hM.mono (Nat.le_succ _), hb⟩
            case measure => simp [intOf]; omega
        · obtain rfl : n = k := by omega
          have h6'' := Lib.hid (h6'.out hds.out)
          have h0'' := Lib.hid (h0'.out hds.out)
          clear h6' h0' h8' hds
          go_wp2_with fail
          go_loopw [6] (fun s6 wy => ∃ k : Nat, k ≤ n ∧ s6 = .int .i64 k ∧ Hid (∀ j, j < k → ((F j).kind = 3 ∨ (F j).kind = 4) → standsF F n (F j).label ≠ 0) ∧ wz = wy) (fun s6 _ => n - (intOf s6).toNat)
          case atStart => exact ⟨0, Nat.zero_le _, rfl, Lib.hid fun j hj => absurd hj (Nat.not_lt_zero _), rfl⟩
          case round =>
            obtain ⟨k, hk, rfl, hgs, rfl⟩ := hrel
            have hk1 : (0 : Int) ≤ (k : Int) := Int.natCast_nonneg k
            by_cases hlt : k < n
            · obtain ⟨ib, io, rfl, hib, hcc⟩ := hI.out (by omega)
              have ck : wz.cell? ⟨ib, io + k * 12, none⟩ = some (.int .i64 (F k).kind) := (hb.cell (p := ⟨ib, io + k * 12 + 0, none⟩) hib).trans (hcc k hlt 0 _ rfl)
              have cl : wz.cell? ⟨ib, io + k * 12 + 10, none⟩ = some (.int .i64 (F k).label) := (hb.cell (p := ⟨ib, io + k * 12 + 10, none⟩) hib).trans (hcc k hlt 10 _ rfl)
              have hk2 : (k : Int) < (n : Int) := by omega
              have hk3 : decide ((k : Int) < (n : Int)) = true := decide_eq_true hk2
              have hwk := hwl.out k hlt
              have h6k := Lib.hid (h6''.out k hlt)
              have hgk : Hid ((((F k).kind = 3 ∨ (F k).kind = 4) → standsF F n (F k).label ≠ 0) → ∀ j, j < k + 1 → ((F j).kind = 3 ∨ (F j).kind = 4) → standsF F n (F j).label ≠ 0) := Lib.hid fun h j hj => by
                rcases Nat.lt_or_ge j k with h5 | h5
                · exact hgs.out j h5
                · obtain rfl : j = k := by omega
                  exact h
              clear hcc hgs
              generalize (F k).kind = kd at ck h6k hgk
              generalize (F k).label = lb at cl hwk h6k hgk
              obtain ⟨st, hst⟩ : ∃ st, standsF F n lb = st := ⟨_, rfl⟩
              rw [hst] at h6k hgk
              replace hst := Lib.hid hst
              by_cases h34 : kd = 3 ∨ kd = 4
              · by_cases hz : st = 0
                · have tz : (st == 0) = true := by rw [hz]; rfl
                  have hC := Lib.hid (h6k.out h34 hz)
                  clear hz h6k hgk
                  rcases h34 with rfl | rfl
                  all_goals
                    go_wp2_with (refine wpList_lookM _ (by first | rfl | kernel_rfl) _ _ 56 3 rfl keyed_int Tryz.underlying56 Tryz.underlying3 bm n _ rfl hM lb rfl hwk ?_; rw [hst.out])
                    go_ret
                    exact ⟨by rw [hC.out]; rfl, hb⟩
                · have tz : (st == 0) = false := by simpa using hz
                  have hgn := Lib.hid (hgk.out (fun _ => hz))
                  clear hz h6k hgk
                  rcases h34 with rfl | rfl
                  all_goals
                    go_wp2_with (refine wpList_lookM _ (by first | rfl | kernel_rfl) _ _ 56 3 rfl keyed_int Tryz.underlying56 Tryz.underlying3 bm n _ rfl hM lb rfl hwk ?_; rw [hst.out])
                    go_roundw
                    case rel => exact ⟨k + 1, by omega, by go_num, hgn, by first | rfl | trivial⟩
                    case measure => simp [intOf]; omega
              · have t3 : (kd == 3) = false := by rw [beq_eq_false_iff_ne]; exact fun h => h34 (.inl h)
                have t4 : (kd == 4) = false := by rw [beq_eq_false_iff_ne]; exact fun h => h34 (.inr h)
                have hgn := Lib.hid (hgk.out (fun h => absurd h h34))
                clear h34 h6k hgk
                go_wp2_with fail
                go_roundw
                case rel => exact ⟨k + 1, by omega, by go_num, hgn, by first | rfl | trivial⟩
                case measure => simp [intOf]; omega
            · obtain rfl : n = k := by omega
              have hC := Lib.hid (h0''.out hgs.out)
              go_wp2_with fail
              go_ret
              exact ⟨by rw [hC.out]; rfl, hb⟩
end
end Go.Proofs.YtcgflnkgekkidaaGreatDoor
namespace Go.Proofs.YtcgflnkgekkidaaGreatDoor
open Go.RowKit Go.Maps
/-- A copy of Booleans behind an empty list. -/
theorem run_copyB (w : World) (lo n : Nat) (A : Option Addr) (c : Nat) (L : Nat → Bool) (hs : SlAt lo (.slice A n c) n (fun k => .bool (L k)) w) (hn : n ≤ 1000) :
    ∃ A8 c8 w', (Builtin.append_ #[53, 53] 53 #[.slice (some ⟨w.heap.size, 0, none⟩) 0 0, .slice A n c]).run Tryz.prog (w.alloc (.cells #[] 4)) = .ok (.slice A8 n c8) w' ∧ SlAt w.heap.size (.slice A8 n c8) n (fun k => .bool (L k)) w' ∧ Below w.heap.size w w' := by
  obtain ⟨i0, q0, q1, q2, q3⟩ := info_parts Tryz.info_bool1
  have hu := Tryz.underlying53
  have hown : (w.alloc (.cells #[] 4)).ownsRow w.heap.size 4 1 (.slice (some ⟨w.heap.size, 0, none⟩) 0 0) 0 [] := World.ownsRow_lit w #[] 0 (Nat.le_refl _) (Nat.zero_le _) rfl
  have hb0 : Below w.heap.size w (w.alloc (.cells #[] 4)) := (Below.refl _ _).alloc (Nat.le_refl _) _
  obtain ⟨A0, c0, e0, -, hs⟩ := hs
  injection e0 with e1 _ _
  subst e1
  have hxs : ((List.range n).map fun k => Value.bool (L k)).length = n := by simp
  have key : ∃ v' w', (Builtin.append_ #[53, 53] 53 #[.slice (some ⟨w.heap.size, 0, none⟩) 0 0, .slice A n c]).run Tryz.prog (w.alloc (.cells #[] 4)) = .ok v' w' ∧ w'.ownsRow w.heap.size 4 1 v' n ((List.range n).map fun k => Value.bool (L k)) ∧ Below w.heap.size w w' := by
    rcases A with _ | ad
    · have hn0 : n = 0 := by
        rcases Nat.eq_zero_or_pos n with h0 | h0
        · exact h0
        · obtain ⟨b, e, -⟩ := hs h0; cases e
      subst hn0
      refine ⟨_, _, ?_, hown, hb0⟩
      simp [Builtin.append_, run_underlying hu, sizeOf, typeInfo, q0, Builtin.lenOf, Builtin.firstCells, storeCells]
    · have hc : ∀ j u, ((List.range n).map fun k => Value.bool (L k))[j]? = some u → (w.alloc (.cells #[] 4)).cell? (ad.add j) = some u := by
        intro j u hj
        have hjn : j < n := by have := (List.getElem?_eq_some_iff.1 hj).1; rwa [hxs] at this
        obtain ⟨b, e, -, hv⟩ := hs (by omega)
        obtain rfl := Option.some.inj e
        rw [List.getElem?_map, List.getElem?_range hjn] at hj
        obtain rfl : Value.bool (L j) = u := Option.some.inj hj
        rw [Addr.add_mid, Nat.zero_add, hb0.cell (p := ⟨b, j, none⟩) hv.lt]
        exact hv.c j hjn
      obtain ⟨v', w', hr, h2, h3, -, h5⟩ := run_append_own_at (P := Tryz.prog) (w.alloc (.cells #[] 4)) w.heap.size 53 53 4 i0 _ 1 1 hu q0 q1 q2 q3 rfl (by decide) _ 0 [] hown ad n c ((List.range n).map fun k => Value.bool (L k)) (by rw [hxs, Nat.mul_one]) hc (fun u hu => by obtain ⟨k, -, rfl⟩ := List.mem_map.1 hu; rfl) (by simp only [maxLen]; omega) (by omega) hb0.size
      refine ⟨v', w', hr, by simpa using h2, hb0.grown h3 hb0.size (fun k hk => (hown.lt k hk).1)⟩
  obtain ⟨v', w', hr, ho, hB⟩ := key
  obtain ⟨A8, c8, rfl⟩ := own_sliceN ho
  exact ⟨A8, c8, w', hr, SlAt.own ho (fun k hk => by rw [List.getElem?_map, List.getElem?_range hk]; rfl), hB⟩
/-- Cells of a slice, from a world on. -/
theorem SlAt.cells {lo m : Nat} {A : Option Addr} {c : Nat} {f : Nat → Value} {W : World} (h : SlAt lo (.slice A m c) m f W) (hm : 0 < m) : ∃ b, A = some ⟨b, 0, none⟩ ∧ b < W.heap.size ∧ ∀ k, k < m → W.cell? ⟨b, k, none⟩ = some (f k) := by
  obtain ⟨A0, c0, e0, -, hs⟩ := h
  injection e0 with e1 _ _
  subst e1
  obtain ⟨b, e, -, hv⟩ := hs hm
  exact ⟨b, e, hv.lt, hv.c⟩
theorem numsR_cell {W : World} {lo n : Nat} {A : Option Addr} {c : Nat} {f : Nat → Int} (h : W.ownsRow lo 3 1 (.slice A n c) n ((numsL f n).map (Value.int .i64))) (hn : 0 < n) : ∃ b, A = some ⟨b, 0, none⟩ ∧ b < W.heap.size ∧ ∀ k, k < n → W.cell? ⟨b, k, none⟩ = some (.int .i64 (f k)) :=
  (SlAt.own h (f := fun k => .int .i64 (f k)) (fun k hk => by rw [List.getElem?_map, numsL_at f n k hk]; rfl)).cells hn
set_option maxRecDepth 100000 in
set_option maxHeartbeats 16000000 in
/-- fencepostref15.Long. -/
theorem RLong_any (ao : Option Addr) (n cap : Nat) (F : Nat → ItemV) (w : World) (hI : ItemsAt w ao n F) (hF : FitF F n) (hn : n ≤ 60) :
    Calls Tryz.prog 30 #[.slice ao n cap] w (LongR F n w) := by
  have hCk := Lib.hid (RCheck_any ao n cap F w hI (fun k hk => (hF k hk).2) hn)
  by_cases hz : checkV F n = 0
  · have hmay := check_may hz
    have e2 : outN F n = n := if_pos hz
    unfold LongR
    rw [hz, e2]
    rw [hz] at hCk
    clear hz e2
    have hwl : Hid (∀ k, k < n → (Lit.int .i64 (F k).label).wf = true) := Lib.hid fun k hk => (hF k hk).2
    have hPl := Lib.hid (fun (L : Nat → Bool) (A3 : Option Addr) (c3 : Nat) (lo : Nat) (W : World) (hW : Below w.heap.size w W) (hLk : ∀ k, L k = true → (F k).kind = 3) (hs : SlAt lo (.slice A3 n c3) n (fun k => .bool (L k)) W) => RPlaces_any ao n cap F L A3 c3 W (hI.keep hW) hF (fun k hk => hmay k hk) hLk hn (by obtain ⟨_, _, e, h, -⟩ := hs; injection e with _ _ e; rw [e]; exact h) (fun h => hs.cells h))
    obtain ⟨i2, hi2, hz2, hs2, hb2⟩ := info_parts Tryz.info_bool1
    have hmb : ∀ W : World, (Instr.makeSlice 53 (.int .i64 (n : Int)) (.int .i64 (n : Int))).run Tryz.prog W = .ok (.slice (some ⟨W.heap.size, 0, none⟩) n n) (W.alloc (.cells (madeCells #[.bool false] n) 4)) := fun W => by
      have := run_make (P := Tryz.prog) W 53 4 i2 _ Tryz.underlying53 hi2 hz2 .i64 .i64 n n (by omega) (Int.le_refl _) (by rw [hb2]; omega) (by omega)
      rw [hs2, Nat.mul_one, Int.toNat_natCast] at this; exact this
    clear hmay hi2 hz2 hs2 hb2
    replace hI := Lib.hid hI
    replace hF := Lib.hid hF
    have hn3 : (n : Int) ≤ 60 := by omega
    have hn0 : (0 : Int) ≤ (n : Int) := by omega
    go_enter Tryz.func30, Tryz.ntmps30
    go_upto_region 4 with (go_at_call 35; (with_reducible refine hCk.out.mono ?_); rintro e w1 ⟨rfl, hb1⟩)
    clear hCk
    have hv0 := VR.made w1 (.bool false) n 4
    go_upto_region 5 with fail
    have hS0 : SlAt w.heap.size (.slice (some ⟨w1.heap.size, 0, none⟩) n n) n (fun k => .bool ((fun _ => false : Nat → Bool) k)) (w1.alloc (.cells (madeCells #[.bool false] n) 4)) := ⟨_, _, rfl, Nat.le_refl _, fun _ => ⟨_, rfl, hb1.size, hv0⟩⟩
    replace hb1 := hb1.alloc hb1.size (.cells (madeCells #[.bool false] n) 4)
    generalize w1.alloc (.cells (madeCells #[.bool false] n) 4) = w2 at hS0 hb1 ⊢
    clear hv0 hmb
    go_wp2_with fail
    go_loopg [5, 6, 7, 8, 9, 10, 11] n (fun g s5 _ _ _ _ _ _ wr => ∃ (L : Nat → Bool) (A5 : Option Addr) (c5 : Nat), s5 = .slice A5 n c5 ∧ Hid (longV F n = growF F n (g + 1) L) ∧ Hid (n ≤ g + cntF L n) ∧ Hid (∀ j, L j = true → (F j).kind = 3) ∧ SlAt w.heap.size (.slice A5 n c5) n (fun k => .bool (L k)) wr ∧ Below w.heap.size w wr)
    case atStart => exact ⟨_, _, _, rfl, Lib.hid rfl, Lib.hid (Nat.le_add_right _ _), Lib.hid (fun j hj => by cases hj), hS0, hb1⟩
    case round =>
      obtain ⟨L, A5, c5, rfl, hlv, hcn, hk3, hs5, hb⟩ := hrel
      clear hS0 hb1
      go_upto_region 6 with (go_at_call 60; (with_reducible refine (hPl.out L A5 c5 _ _ hb hk3.out hs5).mono ?_); rintro e w3 ⟨⟨v6, bm, cm, rfl, hgm, ho6, hM, hcm⟩, hb3⟩; obtain ⟨A6, c6, rfl⟩ := own_sliceN ho6)
      have hbb := hb.trans (hb3.mono hb.size)
      have hs5b := hs5.keep hb3
      obtain ⟨A8, c8, w8, hr8, hs8, hb8⟩ := run_copyB w3 _ n A5 c5 L hs5b (by omega)
      replace hr8 := Lib.hid hr8
      clear hb hb3 hs5
      have hlong : Hid (∀ W, Below w3.heap.size w3 W → 0 < n → ∃ b, A5 = some ⟨b, 0, none⟩ ∧ ∀ k, k < n → W.cell? ⟨b, k, none⟩ = some (.bool (L k))) := Lib.hid fun W hW h0 => by
        obtain ⟨b, e, hl, hc⟩ := hs5b.cells h0
        exact ⟨b, e, fun k hk => (hW.cell (p := ⟨b, k, none⟩) hl).trans (hc k hk)⟩
      have hat : Hid (∀ W, Below w3.heap.size w3 W → 0 < n → ∃ b, A6 = some ⟨b, 0, none⟩ ∧ ∀ k, k < n → W.cell? ⟨b, k, none⟩ = some (.int .i64 (placeF F L k))) := Lib.hid fun W hW h0 => by
        obtain ⟨b, e, hl, hc⟩ := numsR_cell ho6 h0
        exact ⟨b, e, fun k hk => (hW.cell (p := ⟨b, k, none⟩) hl).trans (hc k hk)⟩
      have hmap : Hid (∀ W, Below w3.heap.size w3 W → MapAt 3 W bm cm (labV F L n)) := Lib.hid fun W hW => hM.keep hW
      have hs5c := Lib.hid hs5b
      clear hM ho6 hs5b hgm hcm
      go_upto_region 7 with (at_builtin; refine wpList_appI rfl (.tmp 30) (.tmp 31) 53 rfl _ _ _ rfl rfl hr8.out ?_)
      clear hr8
      go_wp2_with fail
      go_loopw [9, 10, 11] (fun s9 s10 s11 wx => ∃ k : Nat, k ≤ n ∧ s9 = .bool (anyB (condF F n L) k) ∧ s10 = .int .i64 k ∧ SlAt w3.heap.size (.slice A8 n c8) n (fun j => .bool (L j || (decide (j < k) && condF F n L j))) wx ∧ Below w3.heap.size w3 wx) (fun _ s10 _ _ => n - (intOf s10).toNat)
      case atStart => exact ⟨0, Nat.zero_le _, rfl, rfl, hs8.congr (fun k hk => by simp), hb8⟩
      case round =>
        obtain ⟨k, hk, rfl, rfl, hs, hbx⟩ := hrel
        clear hs8 hb8
        have hk1 : (0 : Int) ≤ (k : Int) := Int.natCast_nonneg k
        by_cases hlt : k < n
        · have h0n : 0 < n := by omega
          obtain ⟨ib, io, rfl, hib, hcc⟩ := hI.out h0n
          obtain ⟨b5, rfl, hl5⟩ := hlong.out _ hbx h0n
          obtain ⟨b6, rfl, hl6⟩ := hat.out _ hbx h0n
          have hbw := hbb.trans (hbx.mono hbb.size)
          have ck : wr.cell? ⟨ib, io + k * 12, none⟩ = some (.int .i64 (F k).kind) := (hbw.cell (p := ⟨ib, io + k * 12 + 0, none⟩) hib).trans (hcc k hlt 0 _ rfl)
          have cl : wr.cell? ⟨ib, io + k * 12 + 10, none⟩ = some (.int .i64 (F k).label) := (hbw.cell (p := ⟨ib, io + k * 12 + 10, none⟩) hib).trans (hcc k hlt 10 _ rfl)
          have c5k := hl5 k hlt
          have c6k := hl6 k hlt
          have hwk := hwl.out k hlt
          have hk2 : (k : Int) < (n : Int) := by omega
          have hk4 : decide ((k : Int) < (n : Int)) = true := decide_eq_true hk2
          have hPb := placeF_bd F L k
          have hTb := labV_bd F L n (F k).label
          have hC : Hid (condF F n L k = (decide ((F k).kind = 3) && !L k && !Fits (4 * (labV F L n (F k).label - placeF F L k)) 13)) := Lib.hid (by unfold condF wayF; rw [Int.sub_zero])
          have hA1 : Hid (anyB (condF F n L) (k + 1) = (anyB (condF F n L) k || condF F n L k)) := Lib.hid rfl
          have hlk : ∀ q, (Instr.lookup 56 (.map (some bm)) (.int .i64 (F k).label) false).run Tryz.prog (wr.drewN q) = .ok (.int .i64 (labV F L n (F k).label)) (wr.drewN q) := fun q => ((hmap.out _ hbx).drewN q).look keyed_int Tryz.underlying56 Tryz.underlying3 _ hwk
          clear hcc hl5 hl6 hbw
          have hstep : Hid (∀ j, j < n → (L j || (decide (j < k + 1) && condF F n L j)) = if j = k then (L k || condF F n L k) else (L j || (decide (j < k) && condF F n L j))) := Lib.hid fun j hj => by
            by_cases e : j = k
            · rw [if_pos e, e]; simp
            · rw [if_neg e]
              by_cases e2 : j < k
              · rw [decide_eq_true e2, decide_eq_true (show j < k + 1 by omega)]
              · rw [decide_eq_false e2, decide_eq_false (show ¬ j < k + 1 by omega)]
          generalize hkd : (F k).kind = kd at ck hC
          generalize hlb : (F k).label = lb at cl hwk hTb hC hlk
          generalize labV F L n lb = T at hTb hC hlk
          generalize placeF F L k = P at c6k hPb hC
          generalize hLk9 : L k = lk at c5k hC
          generalize hcd : condF F n L k = cd at hC hA1
          generalize anyB (condF F n L) k = M at hA1 ⊢
          have e1 : wrap64 (T - P) = T - P := IntWalk.wrap64_in _ ⟨by omega, by omega⟩
          have e2 : wrap64 (4 * (T - P)) = 4 * (T - P) := IntWalk.wrap64_in _ ⟨by omega, by omega⟩
          go_upto_region 11 with fail
          go_quiet (fail)
          have hbq : Below w3.heap.size w3 (wr.drewN nq) := bl_drewN hbx nq
          have hsq := hs.keep (bl_drewN (Below.refl _ _) nq)
          have ckq : (wr.drewN nq).cell? ⟨ib, io + k * 12, none⟩ = some (.int .i64 kd) := ck
          have c5q : (wr.drewN nq).cell? ⟨b5, k, none⟩ = some (.bool lk) := c5k
          clear ck cl c5k c6k hlk hbx hs
          generalize wr.drewN nq = wq at hbq hsq ckq c5q ⊢
          generalize hWy : 4 * (T - P) = Wy at hC e2 ⊢
          have hFt := Lib.hid (fun W => RFits_any Wy 13 W)
          generalize Fits Wy 13 = Ft at hC hFt
          clear e1 e2 hPb hTb hWy
          go_upto_region 12 with fail
          go_cut [69] (fun s wx => s = .bool cd ∧ wq = wx)
          case first =>
            by_cases h3 : kd = 3
            · have t3 : (kd == 3) = true := by rw [h3]; rfl
              cases lk
              · cases Ft
                · go_wp2_with (go_at_call 62; (with_reducible refine (hFt.out _).mono ?_); rintro e w7 ⟨rfl, rfl⟩)
                  go_meet
                  exact ⟨congrArg Value.bool (by rw [hC.out, decide_eq_true h3]; rfl), rfl⟩
                · go_wp2_with (go_at_call 62; (with_reducible refine (hFt.out _).mono ?_); rintro e w7 ⟨rfl, rfl⟩)
                  go_meet
                  exact ⟨congrArg Value.bool (by rw [hC.out, decide_eq_true h3]; rfl), rfl⟩
              · go_wp2_with fail
                go_meet
                exact ⟨congrArg Value.bool (by rw [hC.out, decide_eq_true h3]; rfl), rfl⟩
            · have t3 : (kd == 3) = false := by simpa using h3
              go_wp2_with fail
              go_meet
              exact ⟨congrArg Value.bool (by rw [hC.out, decide_eq_false h3]; simp), rfl⟩
          case rest =>
          obtain ⟨rfl, rfl⟩ := hcut
          clear ckq c5q hFt hC
          cases cd
          · rw [Bool.or_false] at hA1
            go_wp2_with fail
            go_roundw
            case rel => exact ⟨k + 1, by omega, by rw [hA1.out], by go_num, hsq.congr (fun j hj => by rw [hstep.out j hj]; by_cases e : j = k; rw [if_pos e, e, hLk9, hcd]; simp; rw [if_neg e]), hbq⟩
            case measure => simp [intOf]; omega
          · rw [Bool.or_true] at hA1
            have hsq2 := hsq
            obtain ⟨A0, c0, e0, hc8, hv⟩ := hsq2
            injection e0 with e1 _ e3
            subst e1
            subst e3
            obtain ⟨b8, rfl, hge8, hv8⟩ := hv h0n
            clear hv
            have q8 := hv8.c k hlt
            have f8 := hv8.z k hlt
            have hv9 := Lib.hid (hv8.set k (.bool true) (fun j => .bool (L j || (decide (j < k + 1) && condF F n L j))) (fun j hj => by
              simp only [hstep.out j hj]
              by_cases e : j = k
              · rw [if_pos e, if_pos e, hcd, Bool.or_true]
              · rw [if_neg e, if_neg e]))
            have hb9 := hbq.setCell (p := ⟨b8, k, none⟩) hge8 (.bool true)
            clear hv8 hsq hbq
            go_wp2_with fail
            go_roundw
            case rel => exact ⟨k + 1, by omega, by rw [hA1.out], by go_num, ⟨_, _, rfl, hc8, fun _ => ⟨b8, rfl, hge8, hv9.out⟩⟩, hb9⟩
            case measure => simp [intOf]; omega
        · obtain rfl : n = k := by omega
          have hbw := hbb.trans (hbx.mono hbb.size)
          have hs5d := hs5c.out.keep hbx
          clear hlong hat hmap hs5c
          obtain ⟨M, hMe⟩ : ∃ M, anyB (condF F n L) n = M := ⟨_, rfl⟩
          rw [hMe]
          cases M
          · have hfin : Hid (longV F n = L) := Lib.hid (by rw [hlv.out, growF, if_neg (by rw [hMe]; decide)])
            clear hMe hs hlv hcn hbb hbx
            go_upto_region 17 with (go_at_call 60; (with_reducible refine (hPl.out L A5 c5 _ _ hbw hk3.out hs5d).mono ?_); rintro e w9 ⟨⟨v12, bm2, cm2, rfl, hgm2, ho12, hM9, hcm2⟩, hb9⟩; obtain ⟨A12, c12, rfl⟩ := own_sliceN ho12)
            have hbz := hbw.trans (hb9.mono hbw.size)
            have hs5e := hs5d.keep hb9
            have hl5 : Hid (0 < n → ∃ b, A5 = some ⟨b, 0, none⟩ ∧ b < w9.heap.size ∧ ∀ k, k < n → w9.cell? ⟨b, k, none⟩ = some (.bool (L k))) := Lib.hid hs5e.cells
            have hl6 : Hid (0 < n → ∃ b, A12 = some ⟨b, 0, none⟩ ∧ b < w9.heap.size ∧ ∀ k, k < n → w9.cell? ⟨b, k, none⟩ = some (.int .i64 (placeF F L k))) := Lib.hid (numsR_cell ho12)
            replace hM9 := Lib.hid hM9
            replace hs5e := Lib.hid hs5e
            clear ho12 hs5d hb9 hbw hgm2 hcm2 hPl
            go_wp2_with fail
            go_loopw [14, 15] (fun s14 s15 wy => ∃ k : Nat, k ≤ n ∧ s14 = .int .i64 k ∧ w9 = wy) (fun s14 _ _ => n - (intOf s14).toNat)
            case atStart => exact ⟨0, Nat.zero_le _, rfl, rfl⟩
            case round =>
              obtain ⟨k, hk, rfl, rfl⟩ := hrel
              have hk1 : (0 : Int) ≤ (k : Int) := Int.natCast_nonneg k
              by_cases hlt : k < n
              · have h0n : 0 < n := by omega
                obtain ⟨ib, io, rfl, hib, hcc⟩ := hI.out h0n
                obtain ⟨b5, rfl, -, hc5⟩ := hl5.out h0n
                obtain ⟨b6, rfl, -, hc6⟩ := hl6.out h0n
                have ck : w9.cell? ⟨ib, io + k * 12, none⟩ = some (.int .i64 (F k).kind) := (hbz.cell (p := ⟨ib, io + k * 12 + 0, none⟩) hib).trans (hcc k hlt 0 _ rfl)
                have cl : w9.cell? ⟨ib, io + k * 12 + 10, none⟩ = some (.int .i64 (F k).label) := (hbz.cell (p := ⟨ib, io + k * 12 + 10, none⟩) hib).trans (hcc k hlt 10 _ rfl)
                have c5k := hc5 k hlt
                have c6k := hc6 k hlt
                have hwk := hwl.out k hlt
                have hk2 : (k : Int) < (n : Int) := by omega
                have hk4 : decide ((k : Int) < (n : Int)) = true := decide_eq_true hk2
                have hPb := placeF_bd F L k
                have hTb := labV_bd F L n (F k).label
                have hk3k := hk3.out k
                clear hcc hc5 hc6
                generalize (F k).kind = kd at ck hk3k
                generalize (F k).label = lb at cl hwk hTb
                obtain ⟨T, hT⟩ : ∃ T, labV F L n lb = T := ⟨_, rfl⟩
                rw [hT] at hTb
                replace hT := Lib.hid hT
                generalize placeF F L k = P at c6k hPb
                generalize L k = lk at c5k hk3k
                cases lk
                · by_cases h4 : kd = 4
                  · have t4 : (kd == 4) = true := by rw [h4]; rfl
                    have e1 : wrap64 (T - P) = T - P := IntWalk.wrap64_in _ ⟨by omega, by omega⟩
                    have e2 : wrap64 (4 * (T - P)) = 4 * (T - P) := IntWalk.wrap64_in _ ⟨by omega, by omega⟩
                    have hFt : Hid (∀ W, Calls Tryz.prog 62 #[.int .i64 (4 * (T - P)), .int .i64 21] W fun e w' => e = .returned (.bool true) ∧ W = w') := Lib.hid fun W => by
                      have := RFits_any (4 * (T - P)) 21 W
                      rwa [fits21 _ (by omega) (by omega)] at this
                    clear h4 hk3k hPb hTb
                    go_wp2_with (first | (refine wpList_lookM _ (by first | rfl | kernel_rfl) _ _ 56 3 rfl keyed_int Tryz.underlying56 Tryz.underlying3 bm2 cm2 _ rfl hM9.out lb rfl hwk ?_; rw [hT.out]) | (go_at_call 62; (with_reducible refine (hFt.out _).mono ?_); rintro e w7 ⟨rfl, rfl⟩))
                    go_roundw
                    case rel => exact ⟨k + 1, by omega, by go_num, by first | rfl | trivial⟩
                    case measure => simp [intOf]; omega
                  · have t4 : (kd == 4) = false := by simpa using h4
                    clear h4 hk3k hPb hTb
                    go_wp2_with fail
                    go_roundw
                    case rel => exact ⟨k + 1, by omega, by go_num, by first | rfl | trivial⟩
                    case measure => simp [intOf]; omega
                · obtain rfl := hk3k rfl
                  have e0 : wrap64 (P + 1) = P + 1 := IntWalk.wrap64_in _ ⟨by omega, by omega⟩
                  have e1 : wrap64 (T - (P + 1)) = T - (P + 1) := IntWalk.wrap64_in _ ⟨by omega, by omega⟩
                  have e2 : wrap64 (4 * (T - (P + 1))) = 4 * (T - (P + 1)) := IntWalk.wrap64_in _ ⟨by omega, by omega⟩
                  have hFt : Hid (∀ W, Calls Tryz.prog 62 #[.int .i64 (4 * (T - (P + 1))), .int .i64 21] W fun e w' => e = .returned (.bool true) ∧ W = w') := Lib.hid fun W => by
                    have := RFits_any (4 * (T - (P + 1))) 21 W
                    rwa [fits21 _ (by omega) (by omega)] at this
                  clear hPb hTb
                  go_wp2_with (first | (refine wpList_lookM _ (by first | rfl | kernel_rfl) _ _ 56 3 rfl keyed_int Tryz.underlying56 Tryz.underlying3 bm2 cm2 _ rfl hM9.out lb rfl hwk ?_; rw [hT.out]) | (go_at_call 62; (with_reducible refine (hFt.out _).mono ?_); rintro e w7 ⟨rfl, rfl⟩))
                  go_roundw
                  case rel => exact ⟨k + 1, by omega, by go_num, by first | rfl | trivial⟩
                  case measure => simp [intOf]; omega
              · obtain rfl : n = k := by omega
                go_wp2_with fail
                go_ret2
                exact ⟨⟨_, rfl, by rw [hfin.out]; exact hs5e.out⟩, hbz⟩
          · have hcs := cntF_step F n L hMe
            have hcl := cntF_le (stepF F n L) n
            have hcn2 := hcn.out
            have hgk : 1 ≤ gk := by omega
            have hlv2 : Hid (longV F n = growF F n (gk - 1 + 1) (stepF F n L)) := Lib.hid (by rw [hlv.out, growF, if_pos hMe, Nat.sub_add_cancel hgk])
            have hcn3 : Hid (n ≤ gk - 1 + cntF (stepF F n L) n) := Lib.hid (by omega)
            have hk32 : Hid (∀ j, stepF F n L j = true → (F j).kind = 3) := Lib.hid fun j hj => by
              unfold stepF at hj
              rcases Bool.or_eq_true_iff.1 hj with h | h
              · exact hk3.out j h
              · unfold condF at h
                simp only [Bool.and_eq_true, decide_eq_true_eq] at h
                exact h.1.1
            have hs6 : SlAt w.heap.size (.slice A8 n c8) n (fun k => .bool (stepF F n L k)) wr := by
              obtain ⟨A0, c0, e0, hc0, hv⟩ := hs
              refine ⟨A0, c0, e0, hc0, fun h0 => ?_⟩
              obtain ⟨b, e, hge, hvr⟩ := hv h0
              exact ⟨b, e, Nat.le_trans hbb.size hge, hvr.congr (fun j hj => by unfold stepF; rw [decide_eq_true hj, Bool.true_and])⟩
            replace hgk := Lib.hid hgk
            clear hs hMe hlv hcn hcs hcl hcn2 hbb hbx hs5d
            go_wp2_with fail
            go_roundg (gk - 1)
            case measure => have := hgk.out; omega
            case rel => exact ⟨stepF F n L, A8, c8, rfl, hlv2, hcn3, hk32, hs6, hbw⟩
  · have e2 : outN F n = 0 := if_neg hz
    unfold LongR
    rw [e2]
    generalize checkV F n = E at hCk hz ⊢
    have tE : (E != 0) = true := by simpa using hz
    go_enter Tryz.func30, Tryz.ntmps30
    go_wp2_with (go_at_call 35; (with_reducible refine hCk.out.mono ?_); rintro e w1 ⟨rfl, hb1⟩)
    go_ret2
    exact ⟨⟨_, rfl, ⟨none, 0, rfl, Nat.le_refl _, fun h => absurd h (Nat.lt_irrefl 0)⟩⟩, hb1⟩
end Go.Proofs.YtcgflnkgekkidaaGreatDoor
namespace Go.Proofs.YtcgflnkgekkidaaGreatDoor
open Go.RowKit Go.Maps
theorem laid_insns (F : Nat → ItemV) (n : Nat) (L : Nat → Bool) (k : Nat) (hm : mayV (F k) = true) (hL : L k = true → (F k).kind = 3) : laidR (F k) (L k) (placeF F L k) (labV F L n (F k).label) = insnsV F n L k := by
  have h5 := fun h => may_num5 hm h
  unfold laidR insnsV wayF
  by_cases k2 : (F k).kind = 2
  · rw [if_pos k2, if_pos k2]
  rw [if_neg k2, if_neg k2]
  by_cases k5 : (F k).kind = 5
  · rw [if_pos k5, if_pos k5, if_pos (h5 k5)]
  rw [if_neg k5, if_neg k5]
  by_cases k3 : (F k).kind = 3
  · have o : (F k).kind = 3 ∨ (F k).kind = 4 := .inl k3
    cases hl : L k with
    | true => rw [if_pos ⟨k3, rfl⟩, if_pos o, if_pos rfl]
    | false => rw [if_neg (fun h => by cases h.2), if_pos o, if_pos o, if_neg (by decide), Int.sub_zero]
  · rw [if_neg (fun h => k3 h.1)]
    by_cases k4 : (F k).kind = 4
    · rw [if_pos (.inr k4), if_pos (.inr k4), if_neg (fun h => k3 (hL h)), Int.sub_zero]
    · rw [if_neg (fun h => h.elim k3 k4), if_neg (fun h => h.elim k3 k4)]
set_option maxRecDepth 100000 in
set_option maxHeartbeats 16000000 in
/-- fencepostref15.Build. -/
theorem RBuild_any (ao : Option Addr) (n cap : Nat) (F : Nat → ItemV) (w : World) (hI : ItemsAt w ao n F) (hF : FitF F n) (hn : n ≤ 60) :
    Calls Tryz.prog 29 #[.slice ao n cap] w (BuildR F n w) := by
  have hmk : Tryz.prog.follows .mixedOrders = true := by kernel_rfl
  have hLg := Lib.hid (RLong_any ao n cap F w hI hF hn)
  by_cases hz : checkV F n = 0
  · have hmay := check_may hz
    have e1 : Hid (outW F n = wordsF F n (longV F n) n) := Lib.hid (if_pos hz)
    have e2 : Hid (outN F n = n) := Lib.hid (if_pos hz)
    unfold BuildR
    unfold LongR at hLg
    rw [e1.out, hz, e2.out]
    rw [hz, e2.out] at hLg
    clear hz e1 e2
    have hk3 : ∀ k, longV F n k = true → (F k).kind = 3 := fun k => longV_kind F n k
    generalize longV F n = L at hLg hk3 ⊢
    have hwl : Hid (∀ k, k < n → (Lit.int .i64 (F k).label).wf = true) := Lib.hid fun k hk => (hF k hk).2
    have hPl := Lib.hid (fun (A3 : Option Addr) (c3 : Nat) (lo : Nat) (W : World) (hW : Below w.heap.size w W) (hs : SlAt lo (.slice A3 n c3) n (fun k => .bool (L k)) W) => RPlaces_any ao n cap F L A3 c3 W (hI.keep hW) hF (fun k hk => hmay k hk) hk3 hn (by obtain ⟨_, _, e, h, -⟩ := hs; injection e with _ _ e; rw [e]; exact h) (fun h => hs.cells h))
    have hli : Hid (∀ k, k < n → laidR (F k) (L k) (placeF F L k) (labV F L n (F k).label) = insnsV F n L k) := Lib.hid fun k hk => laid_insns F n L k (hmay k hk) (hk3 k)
    have hwS : Hid (∀ k, wordsF F n L (k + 1) = wordsF F n L k ++ (insnsV F n L k).map wordV) := Lib.hid fun k => rfl
    have hwk9 : Hid (∀ k, (wordsF F n L k).length ≤ 12 * k) := Lib.hid (wordsF_len F n L)
    have hil : Hid (∀ k, (insnsV F n L k).length ≤ 12) := Lib.hid (insnsV_len F n L)
    clear hmay hk3
    replace hI := Lib.hid hI
    clear hF
    obtain ⟨i0, q0, q1, q2, q3⟩ := info_parts Tryz.info_u32A
    replace q0 := Lib.hid q0
    replace q1 := Lib.hid q1
    replace q2 := Lib.hid q2
    replace q3 := Lib.hid q3
    have hn3 : (n : Int) ≤ 60 := by omega
    go_enter Tryz.func29, Tryz.ntmps29
    go_upto_region 2 with (go_at_call 30; (with_reducible refine hLg.out.mono ?_); rintro e w1 ⟨⟨v5, rfl, hs5⟩, hb1⟩; obtain ⟨A5, c5, hve, -, -⟩ := id hs5; obtain rfl := hve)
    clear hLg
    go_upto_region 5 with (go_at_call 60; (with_reducible refine (hPl.out A5 c5 _ _ hb1 hs5).mono ?_); rintro e w3 ⟨⟨v6, bm, cm, rfl, hgm, ho6, hM, hcm⟩, hb3⟩; obtain ⟨A6, c6, rfl⟩ := own_sliceN ho6)
    have hbb := hb1.trans (hb3.mono hb1.size)
    have hs5b := hs5.keep hb3
    have hgm2 : w.heap.size ≤ bm + 1 := by have := hb1.size; omega
    have hres := Lib.hid (SlAt.own (own_base ho6 hgm2) (f := fun k => .int .i64 (placeF F L k)) (fun k hk => by rw [List.getElem?_map, numsL_at _ n k hk]; rfl))
    have hl5 : Hid (0 < n → ∃ b, A5 = some ⟨b, 0, none⟩ ∧ b < w3.heap.size ∧ ∀ k, k < n → w3.cell? ⟨b, k, none⟩ = some (.bool (L k))) := Lib.hid hs5b.cells
    have hl6 : Hid (0 < n → ∃ b, A6 = some ⟨b, 0, none⟩ ∧ b < w3.heap.size ∧ ∀ k, k < n → w3.cell? ⟨b, k, none⟩ = some (.int .i64 (placeF F L k))) := Lib.hid (numsR_cell ho6)
    have hmap : Hid (∀ W, Below w3.heap.size w3 W → MapAt 3 W bm cm (labV F L n)) := Lib.hid fun W hW => hM.keep hW
    clear hM ho6 hs5 hs5b hb1 hb3 hgm hgm2 hcm hPl
    go_wp2_with fail
    go_loopw [9, 10, 11, 12, 13, 14] (fun s9 s10 _ _ _ _ wr => ∃ (k : Nat) (A9 : Option Addr) (c9 : Nat), k ≤ n ∧ s10 = .int .i64 k ∧ s9 = .slice A9 (wordsF F n L k).length c9 ∧ wr.ownsRow w3.heap.size 38 1 (.slice A9 (wordsF F n L k).length c9) (wordsF F n L k).length (w32C (wordsF F n L k)) ∧ Below w3.heap.size w3 wr) (fun _ s10 _ _ _ _ _ => n - (intOf s10).toNat)
    case atStart => exact ⟨0, none, 0, Nat.zero_le _, rfl, rfl, World.ownsRow_nil _ _ _ _, Below.refl _ _⟩
    case round =>
      obtain ⟨k, A9, c9, hk, rfl, rfl, hown, hb⟩ := hrel
      have hk1 : (0 : Int) ≤ (k : Int) := Int.natCast_nonneg k
      by_cases hlt : k < n
      · have h0n : 0 < n := by omega
        obtain ⟨ib, io, rfl, hib, hcc⟩ := hI.out h0n
        obtain ⟨b5, rfl, h5lt, hc5⟩ := hl5.out h0n
        obtain ⟨b6, rfl, h6lt, hc6⟩ := hl6.out h0n
        have hwk := hwl.out k hlt
        have hRk : Hid (∀ W, Below w3.heap.size w3 W → W.rangeAt ib (io + k * 12) (F k).cells.toList) := Lib.hid fun W hW => item_range fun j v hv => ((hbb.trans (hW.mono hbb.size)).cell (p := ⟨ib, io + k * 12 + j, none⟩) hib).trans (hcc k hlt j v hv)
        have hlc : Hid (∀ W, Below w3.heap.size w3 W → W.cell? ⟨ib, io + k * 12 + 10, none⟩ = some (.int .i64 (F k).label)) := Lib.hid fun W hW => hRk.out W hW 10 _ rfl
        have h5c : Hid (∀ W, Below w3.heap.size w3 W → W.cell? ⟨b5, k, none⟩ = some (.bool (L k))) := Lib.hid fun W hW => (hW.cell (p := ⟨b5, k, none⟩) h5lt).trans (hc5 k hlt)
        have h6c : Hid (∀ W, Below w3.heap.size w3 W → W.cell? ⟨b6, k, none⟩ = some (.int .i64 (placeF F L k))) := Lib.hid fun W hW => (hW.cell (p := ⟨b6, k, none⟩) h6lt).trans (hc6 k hlt)
        have hlk : Hid (∀ W, Below w3.heap.size w3 W → (Instr.lookup 56 (.map (some bm)) (.int .i64 (F k).label) false).run Tryz.prog W = .ok (.int .i64 (labV F L n (F k).label)) W) := Lib.hid fun W hW => (hmap.out W hW).look keyed_int Tryz.underlying56 Tryz.underlying3 _ hwk
        have hPb := placeF_bd F L k
        have hTb := labV_bd F L n (F k).label
        have hl9 := hli.out k hlt
        have hLd := Lib.hid (fun W => RLaid_any (F k) (L k) (placeF F L k) (labV F L n (F k).label) hPb.1 (by omega) hTb.1 (by omega) W)
        rw [hl9] at hLd
        have hll := hil.out k
        have hwk2 := hwk9.out k
        have hws := Lib.hid (hwS.out k)
        clear hl9 hcc hc5 hc6 hPb hTb hwk
        generalize insnsV F n L k = l at hLd hll hws
        generalize hWK : wordsF F n L k = WK at hwk2 hws hown ⊢
        clear hWK
        generalize (F k).label = lb at hlc hlk hLd
        generalize labV F L n lb = T at hlk hLd
        generalize placeF F L k = P at h6c hLd
        generalize L k = lk at h5c hLd
        have hk2 : (k : Int) < (n : Int) := by omega
        have hk4 : decide ((k : Int) < (n : Int)) = true := decide_eq_true hk2
        go_upto_region 9 with fail
        refine wp_region_held_drew (S := fun W => Below w3.heap.size w3 W ∧ W.ownsRow w3.heap.size 38 1 (.slice A9 WK.length c9) WK.length (w32C WK)) hmk ⟨hb.drew, own_keep hown (Below.refl _ _).drew⟩ (fun hHeld => ?_)
        clear hb hown
        generalize World.drew _ = w5 at hHeld ⊢
        refine wpAnyH_take (i := 0) (v := .slice (some ⟨ib, io, none⟩) n cap) rfl (by kernel_rfl) (by kernel_rfl) (by kernel_rfl) (fun _ _ _ h => h) (Or.inl ⟨by rfl, fun W _ => by kernel_rfl⟩) hHeld ?_
        try simp only [Act.put, List.getElem_toArray, List.getElem_cons_zero, List.setIfInBounds_toArray, List.set_cons_zero, List.set_cons_succ]
        refine wpAnyH_take (i := 1) (v := .int .i64 k) rfl (by kernel_rfl) (by kernel_rfl) (by kernel_rfl) (fun _ _ _ h => h) (Or.inl ⟨by rfl, fun W _ => by kernel_rfl⟩) hHeld ?_
        try simp only [Act.put, List.getElem_toArray, List.getElem_cons_succ, List.getElem_cons_zero, List.setIfInBounds_toArray, List.set_cons_zero, List.set_cons_succ]
        refine wpAnyH_take (i := 2) (v := .pointer (some ⟨ib, io + k * 12, none⟩)) rfl (by kernel_rfl) (by kernel_rfl) (by kernel_rfl) (fun _ _ _ h => h) (Or.inl ⟨by rfl, fun W _ => by go_simp⟩) hHeld ?_
        try simp only [Act.put, List.getElem_toArray, List.getElem_cons_succ, List.getElem_cons_zero, List.setIfInBounds_toArray, List.set_cons_zero, List.set_cons_succ]
        refine wpAnyH_take (i := 3) rfl (by kernel_rfl) (by kernel_rfl) (by kernel_rfl) (fun _ _ _ h => h) (yieldsIf_load_mid (by rfl) _ _ rfl ib (io + k * 12) rfl (F k).cells.toList _ (fun W hS => hRk.out W hS.1) Tryz.underlying29 rfl (item_sz _)) hHeld ?_
        try simp only [Act.put, List.getElem_toArray, List.getElem_cons_succ, List.getElem_cons_zero, List.setIfInBounds_toArray, List.set_cons_zero, List.set_cons_succ]
        refine wpAnyH_take (i := 4) (v := .slice (some ⟨b5, 0, none⟩) n c5) rfl (by kernel_rfl) (by kernel_rfl) (by kernel_rfl) (fun _ _ _ h => h) (Or.inl ⟨by rfl, fun W _ => by kernel_rfl⟩) hHeld ?_
        try simp only [Act.put, List.getElem_toArray, List.getElem_cons_succ, List.getElem_cons_zero, List.setIfInBounds_toArray, List.set_cons_zero, List.set_cons_succ]
        refine wpAnyH_take (i := 5) (v := .int .i64 k) rfl (by kernel_rfl) (by kernel_rfl) (by kernel_rfl) (fun _ _ _ h => h) (Or.inl ⟨by rfl, fun W _ => by kernel_rfl⟩) hHeld ?_
        try simp only [Act.put, List.getElem_toArray, List.getElem_cons_succ, List.getElem_cons_zero, List.setIfInBounds_toArray, List.set_cons_zero, List.set_cons_succ]
        refine wpAnyH_take (i := 6) (v := .pointer (some ⟨b5, k, none⟩)) rfl (by kernel_rfl) (by kernel_rfl) (by kernel_rfl) (fun _ _ _ h => h) (Or.inl ⟨by rfl, fun W _ => by go_simp⟩) hHeld ?_
        try simp only [Act.put, List.getElem_toArray, List.getElem_cons_succ, List.getElem_cons_zero, List.setIfInBounds_toArray, List.set_cons_zero, List.set_cons_succ]
        refine wpAnyH_take (i := 7) (v := .bool lk) rfl (by kernel_rfl) (by kernel_rfl) (by kernel_rfl) (fun _ _ _ h => h) (Or.inl ⟨by rfl, fun W hS => by (have k4 := h5c.out W hS.1; go_simp)⟩) hHeld ?_
        try simp only [Act.put, List.getElem_toArray, List.getElem_cons_succ, List.getElem_cons_zero, List.setIfInBounds_toArray, List.set_cons_zero, List.set_cons_succ]
        refine wpAnyH_take (i := 8) (v := .slice (some ⟨b6, 0, none⟩) n c6) rfl (by kernel_rfl) (by kernel_rfl) (by kernel_rfl) (fun _ _ _ h => h) (Or.inl ⟨by rfl, fun W _ => by kernel_rfl⟩) hHeld ?_
        try simp only [Act.put, List.getElem_toArray, List.getElem_cons_succ, List.getElem_cons_zero, List.setIfInBounds_toArray, List.set_cons_zero, List.set_cons_succ]
        refine wpAnyH_take (i := 9) (v := .int .i64 k) rfl (by kernel_rfl) (by kernel_rfl) (by kernel_rfl) (fun _ _ _ h => h) (Or.inl ⟨by rfl, fun W _ => by kernel_rfl⟩) hHeld ?_
        try simp only [Act.put, List.getElem_toArray, List.getElem_cons_succ, List.getElem_cons_zero, List.setIfInBounds_toArray, List.set_cons_zero, List.set_cons_succ]
        refine wpAnyH_take (i := 10) (v := .pointer (some ⟨b6, k, none⟩)) rfl (by kernel_rfl) (by kernel_rfl) (by kernel_rfl) (fun _ _ _ h => h) (Or.inl ⟨by rfl, fun W _ => by go_simp⟩) hHeld ?_
        try simp only [Act.put, List.getElem_toArray, List.getElem_cons_succ, List.getElem_cons_zero, List.setIfInBounds_toArray, List.set_cons_zero, List.set_cons_succ]
        refine wpAnyH_take (i := 11) (v := .int .i64 P) rfl (by kernel_rfl) (by kernel_rfl) (by kernel_rfl) (fun _ _ _ h => h) (Or.inl ⟨by rfl, fun W hS => by (have k4 := h6c.out W hS.1; go_simp)⟩) hHeld ?_
        try simp only [Act.put, List.getElem_toArray, List.getElem_cons_succ, List.getElem_cons_zero, List.setIfInBounds_toArray, List.set_cons_zero, List.set_cons_succ]
        refine wpAnyH_take (i := 12) (v := .map (some bm)) rfl (by kernel_rfl) (by kernel_rfl) (by kernel_rfl) (fun _ _ _ h => h) (Or.inl ⟨by rfl, fun W _ => by kernel_rfl⟩) hHeld ?_
        try simp only [Act.put, List.getElem_toArray, List.getElem_cons_succ, List.getElem_cons_zero, List.setIfInBounds_toArray, List.set_cons_zero, List.set_cons_succ]
        refine wpAnyH_take (i := 13) (v := .slice (some ⟨ib, io, none⟩) n cap) rfl (by kernel_rfl) (by kernel_rfl) (by kernel_rfl) (fun _ _ _ h => h) (Or.inl ⟨by rfl, fun W _ => by kernel_rfl⟩) hHeld ?_
        try simp only [Act.put, List.getElem_toArray, List.getElem_cons_succ, List.getElem_cons_zero, List.setIfInBounds_toArray, List.set_cons_zero, List.set_cons_succ]
        refine wpAnyH_take (i := 14) (v := .int .i64 k) rfl (by kernel_rfl) (by kernel_rfl) (by kernel_rfl) (fun _ _ _ h => h) (Or.inl ⟨by rfl, fun W _ => by kernel_rfl⟩) hHeld ?_
        try simp only [Act.put, List.getElem_toArray, List.getElem_cons_succ, List.getElem_cons_zero, List.setIfInBounds_toArray, List.set_cons_zero, List.set_cons_succ]
        refine wpAnyH_take (i := 15) (v := .pointer (some ⟨ib, io + k * 12, none⟩)) rfl (by kernel_rfl) (by kernel_rfl) (by kernel_rfl) (fun _ _ _ h => h) (Or.inl ⟨by rfl, fun W _ => by go_simp⟩) hHeld ?_
        try simp only [Act.put, List.getElem_toArray, List.getElem_cons_succ, List.getElem_cons_zero, List.setIfInBounds_toArray, List.set_cons_zero, List.set_cons_succ]
        refine wpAnyH_take (i := 16) (v := .pointer (some ⟨ib, io + k * 12 + 10, none⟩)) rfl (by kernel_rfl) (by kernel_rfl) (by kernel_rfl) (fun _ _ _ h => h) (Or.inl ⟨by rfl, fun W _ => by go_simp⟩) hHeld ?_
        try simp only [Act.put, List.getElem_toArray, List.getElem_cons_succ, List.getElem_cons_zero, List.setIfInBounds_toArray, List.set_cons_zero, List.set_cons_succ]
        refine wpAnyH_take (i := 17) (v := .int .i64 lb) rfl (by kernel_rfl) (by kernel_rfl) (by kernel_rfl) (fun _ _ _ h => h) (Or.inl ⟨by rfl, fun W hS => by (have k4 := hlc.out W hS.1; go_simp)⟩) hHeld ?_
        try simp only [Act.put, List.getElem_toArray, List.getElem_cons_succ, List.getElem_cons_zero, List.setIfInBounds_toArray, List.set_cons_zero, List.set_cons_succ]
        refine wpAnyH_take (i := 18) (v := .int .i64 T) rfl (by kernel_rfl) (by kernel_rfl) (by kernel_rfl) (fun _ _ _ h => h) (Or.inl ⟨by rfl, fun W hS => by (have k4 := hlk.out W hS.1; go_simp)⟩) hHeld ?_
        try simp only [Act.put, List.getElem_toArray, List.getElem_cons_succ, List.getElem_cons_zero, List.setIfInBounds_toArray, List.set_cons_zero, List.set_cons_succ]
        refine wpAnyH_ready (rs := [19]) (by kernel_rfl) (by simp) (AllReadyH.cons rfl (fun K hK2 => ?_) AllReadyH.nil)
        rw [if_pos (by rfl)]
        simp only [List.getElem_toArray, List.getElem_cons_succ, List.getElem_cons_zero]
        go_wp2_with (go_at_call 61; refine (hLd.out _).mono ?_; rintro e w6 ⟨⟨v6, rfl, hir⟩, hb6⟩; obtain ⟨A4, c4, rfl⟩ := own_sliceN hir)
        have hIr := InsR.of (own_base hir (Nat.zero_le _))
        have hne0 : Hid (∀ g, A4 = some ⟨g, 0, none⟩ → (Value.slice A9 WK.length c9).ownBlock ≠ some g) := Lib.hid fun g e e2 => by
          have h1 := (hHeld.2.lt g e2).2
          have h2 := own_ge hir e
          omega
        refine hK2.out _ _ ⟨hHeld.1.trans (hb6.mono hHeld.1.size), own_keep hHeld.2 hb6⟩ (fun hHeld2 => ?_)
        clear hK2 K hHeld
        have hHeld := hHeld2
        clear hHeld2 hb6 hir
        try simp only [Act.put, List.getElem_toArray, List.getElem_cons_succ, List.getElem_cons_zero, List.setIfInBounds_toArray, List.set_cons_zero, List.set_cons_succ]
        refine wpAnyH_take (i := 20) (v := .slice A4 l.length c4) rfl (by kernel_rfl) (by kernel_rfl) (by kernel_rfl) (fun _ _ _ h => h) (Or.inl ⟨by rfl, fun W _ => by kernel_rfl⟩) hHeld ?_
        try simp only [Act.put, List.getElem_toArray, List.getElem_cons_succ, List.getElem_cons_zero, List.setIfInBounds_toArray, List.set_cons_zero, List.set_cons_succ]
        refine wpAnyH_done (by kernel_rfl) ?_ _
        obtain ⟨hbr, hown⟩ := hHeld
        clear hRk hlc h5c h6c hlk hLd
        go_wp2_with fail
        go_loopw [9, 12, 13, 14] (fun s9 s12 _ _ wz => ∃ (j : Nat) (A8 : Option Addr) (m c8 : Nat), j ≤ l.length ∧ s12 = .int .i64 j ∧ s9 = .slice A8 m c8 ∧ Hid (m = (WK ++ (l.take j).map wordV).length) ∧ wz.ownsRow w3.heap.size 38 1 (.slice A8 m c8) m (w32C (WK ++ (l.take j).map wordV)) ∧ InsR A4 l 0 wz ∧ Hid (∀ g, A4 = some ⟨g, 0, none⟩ → (Value.slice A8 m c8).ownBlock ≠ some g) ∧ Below w3.heap.size w3 wz) (fun _ s12 _ _ _ => l.length - (intOf s12).toNat)
        case atStart => exact ⟨0, A9, WK.length, c9, Nat.zero_le _, rfl, rfl, Lib.hid (by rw [List.take_zero, List.map_nil, List.append_nil]), by rw [List.take_zero, List.map_nil, List.append_nil]; exact hown, hIr, hne0, hbr⟩
        case round =>
          clear hown hIr hne0 hbr
          obtain ⟨j, A8, m, c8, hj, rfl, rfl, hm9, hown, hIr, hne, hb⟩ := hrel
          by_cases hjl : j < l.length
          · obtain ⟨i, hi⟩ : ∃ i, l[j]? = some i := ⟨_, List.getElem?_eq_getElem hjl⟩
            obtain ⟨g, rfl, -, hg, hr⟩ := hIr j i hi
            have hWd : Hid (∀ W, Calls Tryz.prog 37 #[.agg i.cells.toList.toArray] W fun e w' => e = .returned (.tuple #[.int .u32 (un32 (wordV i)), .int .i64 (checkE i)]) ∧ Below W.heap.size W w') := Lib.hid fun W => by rw [Array.toArray_toList]; exact R3Word_any i W
            have htk : Hid (WK ++ (l.take (j + 1)).map wordV = (WK ++ (l.take j).map wordV) ++ [wordV i]) := Lib.hid (by rw [List.take_add_one, hi, List.map_append, List.append_assoc]; rfl)
            have hlj : (WK ++ (l.take j).map wordV).length ≤ 12 * k + 12 := by rw [List.length_append, List.length_map, List.length_take]; omega
            rw [← hm9.out] at hlj
            have hmS : Hid (m + 1 = (WK ++ (l.take (j + 1)).map wordV).length) := Lib.hid (by rw [htk.out, List.length_append, ← hm9.out]; rfl)
            generalize hWJ : WK ++ (l.take j).map wordV = WJ at hown htk
            clear hWJ hm9
            have hrr := Lib.hid hr
            have hs9 := Lib.hid (size_insn i)
            replace hi := Lib.hid hi
            clear hr
            have hj1 : (0 : Int) ≤ (j : Int) := by omega
            have hj2 : (j : Int) < (l.length : Int) := by omega
            have hj3 : decide ((j : Int) < (l.length : Int)) = true := decide_eq_true hj2
            go_wp2_with (first | (refine wpList_load_mid rfl 26 _ rfl g (j * 9) (by first | rfl | simp) i.cells.toList _ hrr.out Tryz.underlying26 rfl hs9.out ?_) | (go_at_call 37; (with_reducible refine (hWd.out _).mono ?_); rintro e w7 ⟨rfl, hb7⟩; replace hown := own_keep hown hb7; replace hIr := hIr.keep hb7; have hb8 := hb.trans (hb7.mono hb.size)) | (at_builtin; refine wpList_append_own_at _ rfl _ _ 31 rfl w3.heap.size 38 i0 (.int .u32 0) 1 4 Tryz.underlying31 q0.out q1.out q2.out q3.out rfl (by decide) _ _ _ rfl (hown.alloc _) ⟨w7.heap.size, 0, none⟩ 1 1 [.int .u32 (un32 (wordV i))] rfl rfl ?c1 ?c2 ?c3 ?c4 ?c5 ?_))
            case c1 => exact cell_new1 _ _ _
            case c2 => simp [Value.oneCell']
            case c3 => unfold maxLen; omega
            case c4 => omega
            case c5 => have := hb8.size; simp; omega
            intro v' w9 hown' hgrow _ hloc
            have hb9 : Below w3.heap.size w3 w9 := (hb8.alloc hb8.size _).grown hgrow (by have := hb8.size; simp; omega) (fun j hj => (World.ownsRow.lt hown j hj).1)
            have hg7 : g < w7.heap.size := by
              obtain ⟨g', e, -, h3, -⟩ := hIr j i hi.out
              injection e with e
              injection e with e
              rw [e]; exact h3
            replace hIr : InsR (some ⟨g, 0, none⟩) l 0 w9 := (hIr.keep ((Below.refl _ _).alloc (Nat.le_refl _) _)).grown hgrow (fun g2 e e2 => hne.out g2 e e2.symm)
            replace hne : Hid (∀ g2, some (⟨g, 0, none⟩ : Addr) = some ⟨g2, 0, none⟩ → v'.ownBlock ≠ some g2) := Lib.hid fun g2 e e2 => by
              rcases hloc with h | h
              · exact hne.out g2 e (h ▸ e2)
              · rw [h] at e2
                injection e2 with e2
                injection e with e
                injection e with e
                omega
            have hown9 : w9.ownsRow w3.heap.size 38 1 v' (m + 1) (w32C (WK ++ (l.take (j + 1)).map wordV)) := by rw [htk.out]; unfold w32C at hown' ⊢; rw [List.map_append]; exact hown'
            obtain ⟨A7, c7, rfl⟩ := own_sliceN hown9
            clear hown' hgrow hloc hown hb8 hb7
            go_wp2_with fail
            go_roundw
            case rel => exact ⟨j + 1, A7, m + 1, c7, by omega, by go_num, rfl, hmS, hown9, hIr, hne, hb9⟩
            case measure => simp [intOf]; omega
          · obtain rfl : l.length = j := by omega
            have hm8 := hm9.out
            rw [List.take_length] at hm8 hown
            rw [← hws.out] at hm8 hown
            subst hm8
            clear hm9
            go_wp2_with fail
            go_roundw
            case rel => exact ⟨k + 1, A8, c8, by omega, by go_num, rfl, hown, hb⟩
            case measure => simp [intOf]; omega
      · obtain rfl : n = k := by omega
        clear hli hwS hwk9 hil hl5 hl6 hmap
        go_wp2_with fail
        go_ret3
        exact ⟨⟨_, _, rfl, SlAt.of (own_base hown hbb.size), hres.out.keep hb⟩, hbb.trans (hb.mono hbb.size)⟩
  · have e1 : Hid (outW F n = []) := Lib.hid (if_neg hz)
    have e2 : Hid (outN F n = 0) := Lib.hid (if_neg hz)
    unfold BuildR
    unfold LongR at hLg
    rw [e1.out, e2.out]
    rw [e2.out] at hLg
    clear e1 e2 hI hF
    generalize checkV F n = E at hLg hz ⊢
    have tE : (E != 0) = true := by simpa using hz
    go_enter Tryz.func29, Tryz.ntmps29
    go_wp2_with (go_at_call 30; (with_reducible refine hLg.out.mono ?_); rintro e w1 ⟨⟨v5, rfl, ⟨A5, c5, rfl, -, -⟩⟩, hb1⟩)
    go_ret3
    exact ⟨⟨_, _, rfl, ⟨none, 0, rfl, Nat.le_refl _, fun h => absurd h (Nat.lt_irrefl 0)⟩, ⟨none, 0, rfl, Nat.le_refl _, fun h => absurd h (Nat.lt_irrefl 0)⟩⟩, hb1⟩
end Go.Proofs.YtcgflnkgekkidaaGreatDoor
namespace Go.Proofs.YtcgflnkgekkidaaGreatDoor
open Go.RowKit Go.Maps
set_option maxRecDepth 100000 in
set_option maxHeartbeats 4000000 in
/-- Lists that hold the same are the same. -/
theorem SameBl_any (lo1 lo2 : Nat) (v1 v2 : Value) (m : Nat) (f : Nat → Bool) (w : World) (hm : m ≤ 9000000000) (h1 : SlAt lo1 v1 m (fun j => Value.bool (f j)) w) (h2 : SlAt lo2 v2 m (fun j => Value.bool (f j)) w) :
    Calls Tryz.prog 33 #[v1, v2] w fun e w' => e = .returned (.bool true) ∧ Below w.heap.size w w' := by
  obtain ⟨A1, c1, rfl, a1, a3⟩ := h1
  obtain ⟨A2, c2, rfl, b1, b3⟩ := h2
  replace a3 := Lib.hid a3
  replace b3 := Lib.hid b3
  go_enter Tryz.func33, Tryz.ntmps33
  go_wp2_with fail
  go_loopw [5] (fun i wr => ∃ k : Nat, k ≤ m ∧ i = .int .i64 k ∧ (∃ q, wr = w.drewN q)) (fun i _ => m - (intOf i).toNat)
  case atStart => exact ⟨0, Nat.zero_le _, rfl, ⟨0, rfl⟩⟩
  case round =>
    obtain ⟨k, hk, rfl, ⟨q, rfl⟩⟩ := hrel
    by_cases hlt : k < m
    · obtain ⟨p1, rfl, -, hv1⟩ := a3.out (by omega)
      obtain ⟨p2, rfl, -, hv2⟩ := b3.out (by omega)
      have m1 := hv1.c k hlt
      have m2 := hv2.c k hlt
      generalize f k = x at m1 m2
      have n0 : (0 : Int) ≤ (k : Int) ∧ (k : Int) < (m : Int) := by omega
      obtain ⟨n1, n2⟩ := n0
      have hne : (x != x) = false := by simp
      clear hv1 hv2
      go_upto_region 6 with fail
      go_quiet (fail)
      go_wp2_with fail
      go_roundw
      case rel => exact ⟨k + 1, by omega, by go_num, ⟨_, rfl⟩⟩
      case measure => simp [intOf]; omega
    · obtain rfl : k = m := by omega
      go_wp2_with fail
      go_ret
      exact ⟨rfl, bl_drewN (Below.refl _ _) q⟩
theorem yieldsIf_neqN {ops : Array Oper} {S : World → Prop} {op : Oper} {a : Act} (hw : Region.wanted op (yielded ops a.tmps) = true) (x y : Operand) (t : TypeId) (ho : op.op = .binOp .neq 26 x y t) (A : Array Value)
    (hx : a.eval x = .agg A) (hy : a.eval y = .agg A) (hq : ∀ w, (binOp .neq 26 (.agg A) (.agg A)).run Tryz.prog w = .ok (.bool false) w) : YieldsIf Tryz.prog ops S op (.bool false) a :=
  .inl ⟨hw, fun w _ => by
    unfold execOp
    simp only [ho, hx, hy, Sem.run_bind, run_eqGuard_agg w .neq 26 x y A A Tryz.eqGuardType26, hq, Result.andThen_ok, Sem.run_pure]⟩
set_option maxRecDepth 100000 in
set_option maxHeartbeats 4000000 in
/-- Lists of the same instructions are the same. -/
theorem SameI_any (A1 A2 : Option Addr) (c1 c2 : Nat) (l : List InsnV) (w : World) (hl9 : l.length ≤ 1000) (h1 : InsR A1 l 0 w) (h2 : InsR A2 l 0 w) :
    Calls Tryz.prog 34 #[.slice A1 l.length c1, .slice A2 l.length c2] w fun e w' => e = .returned (.bool true) ∧ Below w.heap.size w w' := by
  have hmk : Tryz.prog.follows .mixedOrders = true := by kernel_rfl
  replace h1 := Lib.hid h1
  replace h2 := Lib.hid h2
  have tl : ((l.length : Int) != (l.length : Int)) = false := by simp
  go_enter Tryz.func34, Tryz.ntmps34
  go_wp2_with fail
  go_loopw [5] (fun i wr => ∃ k : Nat, k ≤ l.length ∧ i = .int .i64 k ∧ Below w.heap.size w wr) (fun i _ => l.length - (intOf i).toNat)
  case atStart => exact ⟨0, Nat.zero_le _, rfl, Below.refl _ _⟩
  case round =>
    obtain ⟨k, hk, rfl, hb⟩ := hrel
    have n1 : (0 : Int) ≤ (k : Int) := Int.natCast_nonneg k
    by_cases hlt : k < l.length
    · obtain ⟨i, hi⟩ : ∃ i, l[k]? = some i := ⟨_, List.getElem?_eq_getElem hlt⟩
      obtain ⟨g1, rfl, -, hg1, hr1'⟩ := h1.out k i hi
      obtain ⟨g2, rfl, -, hg2, hr2'⟩ := h2.out k i hi
      have hr1 : Hid (∀ W, Below w.heap.size w W → W.rangeAt g1 (k * 9) i.cells.toList) := Lib.hid fun W hW m v hv => by rw [hW.cell (p := ⟨g1, k * 9 + m, none⟩) hg1]; exact hr1' m v hv
      have hr2 : Hid (∀ W, Below w.heap.size w W → W.rangeAt g2 (k * 9) i.cells.toList) := Lib.hid fun W hW m v hv => by rw [hW.cell (p := ⟨g2, k * 9 + m, none⟩) hg2]; exact hr2' m v hv
      have hs9 := Lib.hid (size_insn i)
      have hq : Hid (∀ W, (binOp .neq 26 (.agg i.cells.toList.toArray) (.agg i.cells.toList.toArray)).run Tryz.prog W = .ok (.bool false) W) := Lib.hid fun W => by
        have := insn_neq i i W
        rw [show decide (i ≠ i) = false by simp] at this
        exact this
      have n2 : (k : Int) < (l.length : Int) := by omega
      have n3 : decide ((k : Int) < (l.length : Int)) = true := decide_eq_true n2
      have hlt9 := Lib.hid hlt
      have n4 : (l.length : Int) ≤ 1000 := by omega
      clear hi hr1' hr2'
      go_upto_region 6 with fail
      refine wp_region_held_drew (S := fun W => Below w.heap.size w W) hmk hb.drew (fun hHeld => ?_)
      clear hb
      generalize World.drew _ = w5 at hHeld ⊢
      refine wpAnyH_take (i := 0) (v := .slice (some ⟨g1, 0, none⟩) l.length c1) rfl (by kernel_rfl) (by kernel_rfl) (by kernel_rfl) (fun _ _ _ h => h) (Or.inl ⟨by rfl, fun W _ => by kernel_rfl⟩) hHeld ?_
      try simp only [Act.put, List.getElem_toArray, List.getElem_cons_zero, List.setIfInBounds_toArray, List.set_cons_zero, List.set_cons_succ]
      refine wpAnyH_take (i := 1) (v := .int .i64 k) rfl (by kernel_rfl) (by kernel_rfl) (by kernel_rfl) (fun _ _ _ h => h) (Or.inl ⟨by rfl, fun W _ => by kernel_rfl⟩) hHeld ?_
      try simp only [Act.put, List.getElem_toArray, List.getElem_cons_succ, List.getElem_cons_zero, List.setIfInBounds_toArray, List.set_cons_zero, List.set_cons_succ]
      refine wpAnyH_take (i := 2) (v := .pointer (some ⟨g1, k * 9, none⟩)) rfl (by kernel_rfl) (by kernel_rfl) (by kernel_rfl) (fun _ _ _ h => h) (Or.inl ⟨by rfl, fun W _ => by go_simp⟩) hHeld ?_
      try simp only [Act.put, List.getElem_toArray, List.getElem_cons_succ, List.getElem_cons_zero, List.setIfInBounds_toArray, List.set_cons_zero, List.set_cons_succ]
      refine wpAnyH_take (i := 3) rfl (by kernel_rfl) (by kernel_rfl) (by kernel_rfl) (fun _ _ _ h => h) (yieldsIf_load_mid (by rfl) _ _ rfl g1 (k * 9) (by first | rfl | simp) i.cells.toList _ (fun W hS => hr1.out W hS) Tryz.underlying26 rfl hs9.out) hHeld ?_
      try simp only [Act.put, List.getElem_toArray, List.getElem_cons_succ, List.getElem_cons_zero, List.setIfInBounds_toArray, List.set_cons_zero, List.set_cons_succ]
      refine wpAnyH_take (i := 4) (v := .slice (some ⟨g2, 0, none⟩) l.length c2) rfl (by kernel_rfl) (by kernel_rfl) (by kernel_rfl) (fun _ _ _ h => h) (Or.inl ⟨by rfl, fun W _ => by kernel_rfl⟩) hHeld ?_
      try simp only [Act.put, List.getElem_toArray, List.getElem_cons_succ, List.getElem_cons_zero, List.setIfInBounds_toArray, List.set_cons_zero, List.set_cons_succ]
      refine wpAnyH_take (i := 5) (v := .int .i64 k) rfl (by kernel_rfl) (by kernel_rfl) (by kernel_rfl) (fun _ _ _ h => h) (Or.inl ⟨by rfl, fun W _ => by kernel_rfl⟩) hHeld ?_
      try simp only [Act.put, List.getElem_toArray, List.getElem_cons_succ, List.getElem_cons_zero, List.setIfInBounds_toArray, List.set_cons_zero, List.set_cons_succ]
      refine wpAnyH_take (i := 6) (v := .pointer (some ⟨g2, k * 9, none⟩)) rfl (by kernel_rfl) (by kernel_rfl) (by kernel_rfl) (fun _ _ _ h => h) (Or.inl ⟨by rfl, fun W _ => by go_simp⟩) hHeld ?_
      try simp only [Act.put, List.getElem_toArray, List.getElem_cons_succ, List.getElem_cons_zero, List.setIfInBounds_toArray, List.set_cons_zero, List.set_cons_succ]
      refine wpAnyH_take (i := 7) rfl (by kernel_rfl) (by kernel_rfl) (by kernel_rfl) (fun _ _ _ h => h) (yieldsIf_load_mid (by rfl) _ _ rfl g2 (k * 9) (by first | rfl | simp) i.cells.toList _ (fun W hS => hr2.out W hS) Tryz.underlying26 rfl hs9.out) hHeld ?_
      try simp only [Act.put, List.getElem_toArray, List.getElem_cons_succ, List.getElem_cons_zero, List.setIfInBounds_toArray, List.set_cons_zero, List.set_cons_succ]
      refine wpAnyH_take (i := 8) (v := .bool false) rfl (by kernel_rfl) (by kernel_rfl) (by kernel_rfl) (fun _ _ _ h => h) (yieldsIf_neqN (by rfl) _ _ _ rfl i.cells.toList.toArray rfl rfl hq.out) hHeld ?_
      try simp only [Act.put, List.getElem_toArray, List.getElem_cons_succ, List.getElem_cons_zero, List.setIfInBounds_toArray, List.set_cons_zero, List.set_cons_succ]
      refine wpAnyH_done (by kernel_rfl) ?_ _
      go_wp2_with fail
      go_roundw
      case rel => exact ⟨k + 1, by have := hlt9.out; omega, by go_num, hHeld⟩
      case measure => have := hlt9.out; simp [intOf]; omega
    · obtain rfl : l.length = k := by omega
      go_wp2_with fail
      go_ret
      exact ⟨rfl, hb⟩
set_option maxRecDepth 100000 in
set_option maxHeartbeats 16000000 in
theorem AsmCalls_far (ao : Option Addr) (n cap : Nat) (rd : Int) (x : BitVec 64) (op : Int) (long : Bool) (w : World) (ht : Tabs w) (hfl : Flds w) (hn : 60 < n) :
    Calls Tryz.prog 7 #[.slice ao n cap, .int .i64 rd, .int .u64 (un x), .int .i64 op, .bool long] w fun e w' => e = .returned (.bool true) ∧ Below w.heap.size w w' := by
  have d1 : decide ((n : Int) > 60) = true := decide_eq_true (by omega)
  have hn2 : (60 : Int) < (n : Int) := by omega
  have hLv := Lib.hid (Lives15_any w ht hfl)
  go_enter Tryz.func7, Tryz.ntmps7
  go_wp2_with (go_at_call 9; (with_reducible refine hLv.out.mono ?_); rintro e w1 ⟨rfl, hb1⟩; clear hLv)
  go_ret
  exact ⟨rfl, hb1⟩
section
attribute [local irreducible] un
set_option maxRecDepth 100000 in
set_option maxHeartbeats 16000000 in
theorem AsmCalls_go (ao : Option Addr) (n cap : Nat) (F : Nat → ItemV) (rd : Int) (x : BitVec 64) (op : Int) (long : Bool) (w : World) (hI : ItemsAt w ao n F) (hF : FitF F n) (hlo : ∀ k, k < n → -9223372036854775808 ≤ (F k).insn.op) (ht : Tabs w) (hfl : Flds w) (hn : n ≤ 60) :
    Calls Tryz.prog 7 #[.slice ao n cap, .int .i64 rd, .int .u64 (un x), .int .i64 op, .bool long] w fun e w' => e = .returned (.bool true) ∧ Below w.heap.size w w' := by
  have hmk : Tryz.prog.follows .mixedOrders = true := by kernel_rfl
  have d1 : decide ((n : Int) > 60) = false := decide_eq_false (by omega)
  have hn2 : ¬ (60 : Int) < (n : Int) := by omega
  have hLv := Lib.hid (Lives15_any w ht hfl)
  have hOw := Lib.hid (fun (W : World) (hW : Below w.heap.size w W) => KOwnI_any ao n cap F W (hI.keep hW) (by omega))
  have hBd := Lib.hid (fun (W : World) (A : Option Addr) (c : Nat) (hW : Below w.heap.size w W) (hA : ItemsAt W A n F) => Build_any A n c F W hA hF hlo (ht.later hW (Nat.le_refl _)) (hfl.later hW))
  have hRB := Lib.hid (fun (W : World) (hW : Below w.heap.size w W) => RBuild_any ao n cap F W (hI.keep hW) hF hn)
  have hLg := Lib.hid (fun (W : World) (hW : Below w.heap.size w W) => Long_any ao n cap F W (hI.keep hW) hF (ht.later hW (Nat.le_refl _)))
  have hRL := Lib.hid (fun (W : World) (hW : Below w.heap.size w W) => RLong_any ao n cap F W (hI.keep hW) hF hn)
  have hNm := Lib.hid (fun (W : World) => Number_any rd x W)
  have hRN := Lib.hid (fun (W : World) => RNumber_any rd x W)
  have hSz := Lib.hid (fun (k : Nat) (hk : k < n) (W : World) (hW : Below w.heap.size w W) => Size_any (F k) long (hF k hk).1 W (ht.later hW (Nat.le_refl _)))
  have hRS := Lib.hid (fun (k : Nat) (W : World) => RSize_any (F k) long W)
  have hCk := Lib.hid (fun (W : World) (hW : Below w.heap.size w W) => ACheck_any ao n cap F W (hI.keep hW) hF (ht.later hW (Nat.le_refl _)))
  have hRC := Lib.hid (fun (W : World) (hW : Below w.heap.size w W) => RCheck_any ao n cap F W (hI.keep hW) (fun k hk => (hF k hk).2) hn)
  have hT := Lib.hid (fun (W : World) => Turned_any op W)
  have hRT := Lib.hid (fun (W : World) => RTurned_any op W)
  have hWl : Hid ((outW F n).length ≤ 720) := Lib.hid (by
    unfold outW
    split
    · have := wordsF_len F n (longV F n) n; omega
    · exact Nat.zero_le _)
  have hON : Hid (outN F n ≤ 60) := Lib.hid (by unfold outN; split <;> omega)
  replace hI := Lib.hid hI
  clear hF hlo ht hfl
  unfold BuildR at hBd hRB
  unfold LongR at hLg hRL
  unfold NumR at hNm hRN
  have hl12 : (if 1 ≤ rd ∧ rd ≤ 31 then numV rd x else []).length ≤ 12 := by
    split
    · exact numF_len 6 rd x
    · exact Nat.zero_le _
  generalize (if 1 ≤ rd ∧ rd ≤ 31 then numV rd x else []) = l at hNm hRN hl12
  generalize (if 1 ≤ rd ∧ rd ≤ 31 then (0 : Int) else 2) = EN at hNm hRN
  generalize outW F n = WS at hBd hRB hWl
  generalize outN F n = ON at hBd hRB hLg hRL hON
  generalize longV F n = LV at hBd hRB hLg hRL
  generalize placeF F LV = PL at hBd hRB
  generalize checkV F n = E at hBd hRB hLg hRL hCk hRC
  generalize turnedV op = top at hT hRT
  have tE : (E == E) = true := by simp
  have tN : (EN == EN) = true := by simp
  have tT : (top == top) = true := by simp
  go_enter Tryz.func7, Tryz.ntmps7
  go_upto_region 6 with (first | (go_at_call 9; (with_reducible refine hLv.out.mono ?_); rintro e w1 ⟨rfl, hb1⟩; clear hLv) | (go_at_call 13; (with_reducible refine (hOw.out _ hb1).mono ?_); rintro e w2 ⟨⟨A, c, rfl, hA, -⟩, hb2⟩; replace hb2 := hb1.trans (hb2.mono hb1.size); clear hb1) | (go_at_call 12; (with_reducible refine (hBd.out _ A c hb2 hA).mono ?_); rintro e w3 ⟨⟨v1, u1, rfl, hv1, hu1⟩, hb3⟩; replace hb3 := hb2.trans (hb3.mono hb2.size); clear hb2 hA))
  clear hOw hBd
  go_upto_region 7 with (go_at_call 29; (with_reducible refine (hRB.out _ hb3).mono ?_); rintro e w4 ⟨⟨v2, u2, rfl, hv2, hu2⟩, hb4⟩)
  replace hv1 := hv1.keep hb4
  replace hu1 := hu1.keep hb4
  replace hb4 := hb3.trans (hb4.mono hb3.size)
  clear hRB hb3
  go_upto_region 8 with (go_at_call 21; (with_reducible refine (hLg.out _ hb4).mono ?_); rintro e w5 ⟨⟨v3, rfl, hv3⟩, hb5⟩)
  replace hv1 := hv1.keep hb5
  replace hu1 := hu1.keep hb5
  replace hv2 := hv2.keep hb5
  replace hu2 := hu2.keep hb5
  replace hb5 := hb4.trans (hb5.mono hb4.size)
  clear hLg hb4
  go_upto_region 9 with (go_at_call 30; (with_reducible refine (hRL.out _ hb5).mono ?_); rintro e w6 ⟨⟨v4, rfl, hv4⟩, hb6⟩)
  replace hv1 := hv1.keep hb6
  replace hu1 := hu1.keep hb6
  replace hv2 := hv2.keep hb6
  replace hu2 := hu2.keep hb6
  replace hv3 := hv3.keep hb6
  replace hb6 := hb5.trans (hb6.mono hb5.size)
  clear hRL hb5
  go_upto_region 10 with (go_at_call 17; (with_reducible refine (hNm.out _).mono ?_); rintro e w7 ⟨⟨v5, rfl, ho5⟩, hb7⟩; obtain ⟨A5, c5, rfl⟩ := own_sliceN ho5)
  have hi5 := InsR.of (own_base ho5 (Nat.zero_le _))
  replace hv1 := hv1.keep hb7
  replace hu1 := hu1.keep hb7
  replace hv2 := hv2.keep hb7
  replace hu2 := hu2.keep hb7
  replace hv3 := hv3.keep hb7
  replace hv4 := hv4.keep hb7
  replace hb7 := hb6.trans (hb7.mono hb6.size)
  clear hNm hb6 ho5
  go_upto_region 11 with (go_at_call 31; (with_reducible refine (hRN.out _).mono ?_); rintro e w8 ⟨⟨v6, rfl, ho6⟩, hb8⟩; obtain ⟨A6, c6, rfl⟩ := own_sliceN ho6)
  have hi6 := InsR.of (own_base ho6 (Nat.zero_le _))
  replace hi5 := hi5.keep hb8
  have hQ1 := Lib.hid (fun (W : World) (hW : Below w8.heap.size w8 W) => SameWl_any _ _ v1 v2 WS.length (fun j => WS.getD j 0#32) W (by have := hWl.out; omega) ((hv1.keep hb8).keep hW) ((hv2.keep hb8).keep hW))
  have hQ2 := Lib.hid (fun (W : World) (hW : Below w8.heap.size w8 W) => SameIl_any _ _ u1 u2 ON PL W (by have := hON.out; omega) ((hu1.keep hb8).keep hW) ((hu2.keep hb8).keep hW))
  have hQ3 := Lib.hid (fun (W : World) (hW : Below w8.heap.size w8 W) => SameBl_any _ _ v3 v4 ON LV W (by have := hON.out; omega) ((hv3.keep hb8).keep hW) ((hv4.keep hb8).keep hW))
  have hQ4 := Lib.hid (fun (W : World) (hW : Below w8.heap.size w8 W) => SameI_any A5 A6 c5 c6 l W (by omega) (hi5.keep hW) (hi6.keep hW))
  replace hb8 := hb7.trans (hb8.mono hb7.size)
  clear hRN hb7 ho6 hv1 hv2 hu1 hu2 hv3 hv4 hi5 hi6 hWl hON
  go_wp2_with fail
  go_loopw [25] (fun s25 wr => ∃ k : Nat, k ≤ n ∧ s25 = .int .i64 k ∧ Below w8.heap.size w8 wr) (fun s25 _ => n - (intOf s25).toNat)
  case atStart => exact ⟨0, Nat.zero_le _, rfl, Below.refl _ _⟩
  case round =>
    obtain ⟨k, hk, rfl, hb⟩ := hrel
    have hk1 : (0 : Int) ≤ (k : Int) := Int.natCast_nonneg k
    by_cases hlt : k < n
    · obtain ⟨ib, io, rfl, hib, hcc⟩ := hI.out (by omega)
      have hRk : Hid (∀ W, Below w8.heap.size w8 W → W.rangeAt ib (io + k * 12) (F k).cells.toList) := Lib.hid fun W hW => item_range fun j v hv => ((hb8.trans (hW.mono hb8.size)).cell (p := ⟨ib, io + k * 12 + j, none⟩) hib).trans (hcc k hlt j v hv)
      have hS1 := Lib.hid (fun (W : World) (hW : Below w8.heap.size w8 W) => hSz.out k hlt W (hb8.trans (hW.mono hb8.size)))
      have hS2 := Lib.hid (fun (W : World) (hW : Below w8.heap.size w8 W) => hRS.out k W)
      generalize sizeV (F k) long = sz at hS1 hS2
      have tS : (sz != sz) = false := by simp
      have hk2 : (k : Int) < (n : Int) := by omega
      have hk4 : decide ((k : Int) < (n : Int)) = true := decide_eq_true hk2
      clear hcc
      go_upto_region 14 with fail
      · refine wp_region_held_drew (S := fun W => Below w8.heap.size w8 W) hmk hb.drew (fun hHeld => ?_)
        clear hb
        generalize World.drew _ = w9 at hHeld ⊢
        refine wpAnyH_take (i := 0) (v := .slice (some ⟨ib, io, none⟩) n cap) rfl (by kernel_rfl) (by kernel_rfl) (by kernel_rfl) (fun _ _ _ h => h) (Or.inl ⟨by rfl, fun W _ => by kernel_rfl⟩) hHeld ?_
        try simp only [Act.put, List.getElem_toArray, List.getElem_cons_zero, List.setIfInBounds_toArray, List.set_cons_zero, List.set_cons_succ]
        refine wpAnyH_take (i := 1) (v := .int .i64 k) rfl (by kernel_rfl) (by kernel_rfl) (by kernel_rfl) (fun _ _ _ h => h) (Or.inl ⟨by rfl, fun W _ => by kernel_rfl⟩) hHeld ?_
        try simp only [Act.put, List.getElem_toArray, List.getElem_cons_succ, List.getElem_cons_zero, List.setIfInBounds_toArray, List.set_cons_zero, List.set_cons_succ]
        refine wpAnyH_take (i := 2) (v := .pointer (some ⟨ib, io + k * 12, none⟩)) rfl (by kernel_rfl) (by kernel_rfl) (by kernel_rfl) (fun _ _ _ h => h) (Or.inl ⟨by rfl, fun W _ => by go_simp⟩) hHeld ?_
        try simp only [Act.put, List.getElem_toArray, List.getElem_cons_succ, List.getElem_cons_zero, List.setIfInBounds_toArray, List.set_cons_zero, List.set_cons_succ]
        refine wpAnyH_take (i := 3) rfl (by kernel_rfl) (by kernel_rfl) (by kernel_rfl) (fun _ _ _ h => h) (yieldsIf_load_mid (by rfl) _ _ rfl ib (io + k * 12) (by first | rfl | simp) (F k).cells.toList _ (fun W hS => hRk.out W hS) Tryz.underlying29 rfl (item_sz _)) hHeld ?_
        try simp only [Act.put, List.getElem_toArray, List.getElem_cons_succ, List.getElem_cons_zero, List.setIfInBounds_toArray, List.set_cons_zero, List.set_cons_succ]
        refine wpAnyH_take (i := 4) (v := .bool long) rfl (by kernel_rfl) (by kernel_rfl) (by kernel_rfl) (fun _ _ _ h => h) (Or.inl ⟨by rfl, fun W _ => by kernel_rfl⟩) hHeld ?_
        try simp only [Act.put, List.getElem_toArray, List.getElem_cons_succ, List.getElem_cons_zero, List.setIfInBounds_toArray, List.set_cons_zero, List.set_cons_succ]
        refine wpAnyH_take (i := 6) (v := .slice (some ⟨ib, io, none⟩) n cap) rfl (by kernel_rfl) (by kernel_rfl) (by kernel_rfl) (fun _ _ _ h => h) (Or.inl ⟨by rfl, fun W _ => by kernel_rfl⟩) hHeld ?_
        try simp only [Act.put, List.getElem_toArray, List.getElem_cons_succ, List.getElem_cons_zero, List.setIfInBounds_toArray, List.set_cons_zero, List.set_cons_succ]
        refine wpAnyH_take (i := 7) (v := .int .i64 k) rfl (by kernel_rfl) (by kernel_rfl) (by kernel_rfl) (fun _ _ _ h => h) (Or.inl ⟨by rfl, fun W _ => by kernel_rfl⟩) hHeld ?_
        try simp only [Act.put, List.getElem_toArray, List.getElem_cons_succ, List.getElem_cons_zero, List.setIfInBounds_toArray, List.set_cons_zero, List.set_cons_succ]
        refine wpAnyH_take (i := 8) (v := .pointer (some ⟨ib, io + k * 12, none⟩)) rfl (by kernel_rfl) (by kernel_rfl) (by kernel_rfl) (fun _ _ _ h => h) (Or.inl ⟨by rfl, fun W _ => by go_simp⟩) hHeld ?_
        try simp only [Act.put, List.getElem_toArray, List.getElem_cons_succ, List.getElem_cons_zero, List.setIfInBounds_toArray, List.set_cons_zero, List.set_cons_succ]
        refine wpAnyH_take (i := 9) rfl (by kernel_rfl) (by kernel_rfl) (by kernel_rfl) (fun _ _ _ h => h) (yieldsIf_load_mid (by rfl) _ _ rfl ib (io + k * 12) (by first | rfl | simp) (F k).cells.toList _ (fun W hS => hRk.out W hS) Tryz.underlying29 rfl (item_sz _)) hHeld ?_
        try simp only [Act.put, List.getElem_toArray, List.getElem_cons_succ, List.getElem_cons_zero, List.setIfInBounds_toArray, List.set_cons_zero, List.set_cons_succ]
        refine wpAnyH_take (i := 10) (v := .bool long) rfl (by kernel_rfl) (by kernel_rfl) (by kernel_rfl) (fun _ _ _ h => h) (Or.inl ⟨by rfl, fun W _ => by kernel_rfl⟩) hHeld ?_
        try simp only [Act.put, List.getElem_toArray, List.getElem_cons_succ, List.getElem_cons_zero, List.setIfInBounds_toArray, List.set_cons_zero, List.set_cons_succ]
        refine wpAnyH_ready (rs := [5]) (by kernel_rfl) (by simp) (AllReadyH.cons rfl (fun K hK2 => ?_) AllReadyH.nil)
        rw [if_pos (by rfl)]
        simp only [List.getElem_toArray, List.getElem_cons_succ, List.getElem_cons_zero]
        go_wp2_with (go_at_call 27; refine (hS1.out _ hHeld).mono ?_; rintro e w6 ⟨rfl, hb6⟩)
        refine hK2.out _ _ (hHeld.trans (hb6.mono hHeld.size)) (fun hHeld2 => ?_)
        clear hK2 K hHeld
        have hHeld := hHeld2
        clear hHeld2 hb6
        try simp only [Act.put, List.getElem_toArray, List.getElem_cons_succ, List.getElem_cons_zero, List.setIfInBounds_toArray, List.set_cons_zero, List.set_cons_succ]
        refine wpAnyH_ready (rs := [11]) (by kernel_rfl) (by simp) (AllReadyH.cons rfl (fun K hK2 => ?_) AllReadyH.nil)
        rw [if_pos (by rfl)]
        simp only [List.getElem_toArray, List.getElem_cons_succ, List.getElem_cons_zero]
        go_wp2_with (go_at_call 32; refine (hS2.out _ hHeld).mono ?_; rintro e w6 ⟨rfl, hb6⟩)
        refine hK2.out _ _ (hHeld.trans (hb6.mono hHeld.size)) (fun hHeld2 => ?_)
        clear hK2 K hHeld
        have hHeld := hHeld2
        clear hHeld2 hb6
        try simp only [Act.put, List.getElem_toArray, List.getElem_cons_succ, List.getElem_cons_zero, List.setIfInBounds_toArray, List.set_cons_zero, List.set_cons_succ]
        refine wpAnyH_take (i := 12) (v := .bool false) rfl (by kernel_rfl) (by kernel_rfl) (by kernel_rfl) (fun _ _ _ h => h) (Or.inl ⟨by rfl, fun W _ => by go_simp⟩) hHeld ?_
        try simp only [Act.put, List.getElem_toArray, List.getElem_cons_succ, List.getElem_cons_zero, List.setIfInBounds_toArray, List.set_cons_zero, List.set_cons_succ]
        refine wpAnyH_done (by kernel_rfl) ?_ _
        go_wp2_with fail
        go_roundw
        case rel => exact ⟨k + 1, by omega, by go_num, hHeld⟩
        case measure => simp [intOf]; omega
    · obtain rfl : n = k := by omega
      clear hSz hRS hI
      have d2 : decide ((n : Int) < (n : Int)) = false := by simp
      go_wp2_with (first | (go_at_call 14; (with_reducible refine (hQ1.out _ hb).mono ?_); rintro e wA ⟨rfl, hbA⟩; replace hb := hb.trans (hbA.mono hb.size); clear hbA) | (go_at_call 16; (with_reducible refine (hQ2.out _ hb).mono ?_); rintro e wA ⟨rfl, hbA⟩; replace hb := hb.trans (hbA.mono hb.size); clear hbA) | (go_at_call 33; (with_reducible refine (hQ3.out _ hb).mono ?_); rintro e wA ⟨rfl, hbA⟩; replace hb := hb.trans (hbA.mono hb.size); clear hbA) | (go_at_call 34; (with_reducible refine (hQ4.out _ hb).mono ?_); rintro e wA ⟨rfl, hbA⟩; replace hb := hb.trans (hbA.mono hb.size); clear hbA) | (go_at_call 28; (with_reducible refine (hCk.out _ (hb8.trans (hb.mono hb8.size))).mono ?_); rintro e wA ⟨rfl, hbA⟩; replace hb := hb.trans (hbA.mono hb.size); clear hbA) | (go_at_call 35; (with_reducible refine (hRC.out _ (hb8.trans (hb.mono hb8.size))).mono ?_); rintro e wA ⟨rfl, hbA⟩; replace hb := hb.trans (hbA.mono hb.size); clear hbA) | (go_at_call 26; (with_reducible refine (hT.out _).mono ?_); rintro e wA ⟨rfl, hbA⟩; replace hb := hb.trans (hbA.mono hb.size); clear hbA) | (go_at_call 36; (with_reducible refine (hRT.out _).mono ?_); rintro e wA ⟨rfl, hbA⟩; replace hb := hb.trans (hbA.mono hb.size); clear hbA))
      go_ret
      exact ⟨rfl, hb8.trans (hb.mono hb8.size)⟩
end
/-- AsmCalls, whatever comes. -/
theorem AsmCalls_any (ao : Option Addr) (n cap : Nat) (F : Nat → ItemV) (rd : Int) (x : BitVec 64) (op : Int) (long : Bool) (w : World) (hI : ItemsAt w ao n F) (hF : FitF F n) (hlo : ∀ k, k < n → -9223372036854775808 ≤ (F k).insn.op) (ht : Tabs w) (hfl : Flds w) :
    Calls Tryz.prog 7 #[.slice ao n cap, .int .i64 rd, .int .u64 (un x), .int .i64 op, .bool long] w fun e w' => e = .returned (.bool true) ∧ Below w.heap.size w w' := by
  by_cases hn : 60 < n
  · exact AsmCalls_far ao n cap rd x op long w ht hfl hn
  · exact AsmCalls_go ao n cap F rd x op long w hI hF hlo ht hfl (by omega)
end Go.Proofs.YtcgflnkgekkidaaGreatDoor
