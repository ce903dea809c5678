/- The walk of the document's Text. The walk of the document's Text, form by form. The walk of the document's Text, form by form. The walk of the document's Text, form by form. The walk of the document's Text, form by form. The document's Text of whatever instruction. Conditions: as each theorem says. -/
import Derived.Test.YtcgflnkgekkidaaGreatDoorTextAB
import Derived.Test.YtcgflnkgekkidaaGreatDoorInsnDf
import Derived.Test.YtcgflnkgekkidaaGreatDoorRefCheck
import Derived.Test.YtcgflnkgekkidaaGreatDoorRefFC
import Derived.Deep.MidRow
import Derived.Deep.RegionHeld
import Derived.Deep.DeepCutAuto
set_option linter.unusedVariables false
set_option linter.unusedSimpArgs false
namespace Go.Proofs.YtcgflnkgekkidaaGreatDoor
open Go.RowKit
/-- '+' on two texts yields their text. -/
theorem yieldsIf_cat {P : Program} {ops : Array Oper} {S : World → Prop} {op : Oper} {a : Act} (hw : Region.wanted op (yielded ops a.tmps) = true) (x y : Operand) (ty t : TypeId) (ho : op.op = .binOp .add ty x y t) (l m : List UInt8)
    (hx : a.eval x = .string ⟨l.toArray⟩) (hy : a.eval y = .string ⟨m.toArray⟩) (hl : l.length + m.length ≤ 8388608) : YieldsIf P ops S op (.string ⟨(l ++ m).toArray⟩) a :=
  .inl ⟨hw, fun w _ => by
    have hq : ∀ w, (binOp .add ty (.string ⟨l.toArray⟩) (.string ⟨m.toArray⟩)).run P w = .ok (.string ⟨(l ++ m).toArray⟩) w := fun w => by
      rw [binOp_string_add]; exact run_string_add_lists w l m (by omega) (by omega)
    unfold execOp
    simp only [ho, hx, hy, Sem.run_bind, hq, Sem.run_pure]
    rfl⟩
/-- An instruction's box. -/
structure TB (w : World) (cs : List Value) (W : World) : Prop where
  c : W.rangeAt w.heap.size 0 cs
  bl : Below w.heap.size w W
  lt : w.heap.size < W.heap.size
theorem TB.start (w : World) (cs : List Value) (t : TypeId) : TB w cs (w.alloc (.cells cs.toArray t)) :=
  ⟨fun j v hv => by rw [World.cell?_alloc_new, Nat.zero_add]; simpa using hv, (Below.refl _ _).alloc (Nat.le_refl _) _, by simp⟩
theorem TB.keep {w W W' : World} {cs : List Value} (h : TB w cs W) (hb : Below W.heap.size W W') : TB w cs W' :=
  ⟨fun j v hv => by rw [hb.cell (p := ⟨w.heap.size, 0 + j, none⟩) h.lt]; exact h.c j v hv, h.bl.trans (hb.mono (Nat.le_of_lt h.lt)), Nat.lt_of_lt_of_le h.lt hb.size⟩
theorem TB.at {w W : World} {cs : List Value} (h : TB w cs W) (j : Nat) (v : Value) (hv : cs[j]? = some v) : W.cell? ⟨w.heap.size, j, none⟩ = some v := by
  have := h.c j v hv; rw [Nat.zero_add] at this; exact this
theorem TB.drewN {w W : World} {cs : List Value} (h : TB w cs W) (n : Nat) : TB w cs (W.drewN n) := h.keep ⟨rfl, rfl, rfl, Nat.le_refl _, fun _ _ => rfl⟩
theorem regT_len (n : Int) : (regT n).length ≤ 22 := by unfold regT; have := digN_len n.toNat; simp; omega
theorem signL_len (n : Int) : (signL n).length ≤ 22 := by
  unfold signL; have := digN_len n.natAbs
  split
  · simp; omega
  · omega
theorem partT_len (n : Nat) : (partT n).length ≤ 4 := by
  unfold partT; have := partK_len n 4
  split
  · simp
  · omega
theorem names_short : ((List.range 88).all fun n => decide ((opOf (n : Int)).name.length ≤ 12)) = true := by decide +kernel
theorem nameT_len (n : Int) : (opOf n).name.length ≤ 12 := by
  by_cases h : n < 1 ∨ 87 < n
  · rw [name_none n h]; decide
  · obtain ⟨m, rfl⟩ := Int.eq_ofNat_of_zero_le (show 0 ≤ n by omega)
    have := List.all_eq_true.1 names_short m (List.mem_range.2 (by omega))
    simpa using this
section
variable {op rd r1 r2 imm pred succ f : Int} {aq rl : Bool} {nm l1 l2 l3 l4 r : List UInt8} {w : World}
theorem TB.all9 {W : World} (h : TB w (InsnV.cells ⟨op, rd, r1, r2, imm, aq, rl, pred, succ⟩).toList W) : W.cell? ⟨w.heap.size, 0, none⟩ = some (.int .i64 op) ∧ W.cell? ⟨w.heap.size, 1, none⟩ = some (.int .i64 rd) ∧ W.cell? ⟨w.heap.size, 2, none⟩ = some (.int .i64 r1) ∧ W.cell? ⟨w.heap.size, 3, none⟩ = some (.int .i64 r2) ∧ W.cell? ⟨w.heap.size, 4, none⟩ = some (.int .i64 imm) ∧ W.cell? ⟨w.heap.size, 5, none⟩ = some (.bool aq) ∧ W.cell? ⟨w.heap.size, 6, none⟩ = some (.bool rl) ∧ W.cell? ⟨w.heap.size, 7, none⟩ = some (.int .i64 pred) ∧ W.cell? ⟨w.heap.size, 8, none⟩ = some (.int .i64 succ) :=
  ⟨h.at 0 _ rfl, h.at 1 _ rfl, h.at 2 _ rfl, h.at 3 _ rfl, h.at 4 _ rfl, h.at 5 _ rfl, h.at 6 _ rfl, h.at 7 _ rfl, h.at 8 _ rfl⟩
/-- Text returns r. -/
def TextG (op rd r1 r2 imm : Int) (aq rl : Bool) (pred succ : Int) (r : List UInt8) (w : World) : Prop := Calls Tryz.prog 87 #[.agg #[.int .i64 op, .int .i64 rd, .int .i64 r1, .int .i64 r2, .int .i64 imm, .bool aq, .bool rl, .int .i64 pred, .int .i64 succ]] w fun e w' => e = .returned (.tuple #[.string ⟨r.toArray⟩, .int .i64 0]) ∧ Below w.heap.size w w'
/-- What the walk is told of an instruction: its name, its parts' texts, and what the functions return that it calls. -/
structure TH (op rd r1 r2 imm : Int) (aq rl : Bool) (pred succ f : Int) (nm l1 l2 l3 l4 : List UInt8) : Prop where
  n : nm.length ≤ 12 ∧ l1.length ≤ 22 ∧ l2.length ≤ 22 ∧ l3.length ≤ 22 ∧ l4.length ≤ 22
  hN : ∀ W, Calls Tryz.prog 84 #[.int .i64 op] W fun e w' => e = .returned (strV nm) ∧ Below W.heap.size W w'
  h1 : ∀ W, Calls Tryz.prog 113 #[.int .i64 rd] W fun e w' => e = .returned (.string ⟨l1.toArray⟩) ∧ W = w'
  h2 : ∀ W, Calls Tryz.prog 113 #[.int .i64 r1] W fun e w' => e = .returned (.string ⟨l2.toArray⟩) ∧ W = w'
  h3 : ∀ W, Calls Tryz.prog 113 #[.int .i64 r2] W fun e w' => e = .returned (.string ⟨l3.toArray⟩) ∧ W = w'
  h4 : ∀ W, Calls Tryz.prog 114 #[.int .i64 imm] W fun e w' => e = .returned (.string ⟨l4.toArray⟩) ∧ W = w'
  hF : ∀ W, Calls Tryz.prog 46 #[.int .i64 op] W fun e w' => e = .returned (.int .i64 f) ∧ W = w'
  hK : ∀ W, Calls Tryz.prog 65 #[.agg (InsnV.cells ⟨op, rd, r1, r2, imm, aq, rl, pred, succ⟩)] W fun e w' => e = .returned (.int .i64 0) ∧ Below W.heap.size W w'
theorem TH_of (hc : checkE ⟨op, rd, r1, r2, imm, aq, rl, pred, succ⟩ = 0) (hf : (opOf op).form = f) (him : -9223372036854775808 ≤ imm ∧ imm ≤ 9223372036854775807) : TH op rd r1 r2 imm aq rl pred succ f (opOf op).name (regT rd) (regT r1) (regT r2) (signL imm) := by
  obtain ⟨g1, g2, g3, -⟩ := ok_facts ⟨op, rd, r1, r2, imm, aq, rl, pred, succ⟩ hc
  simp only at g1 g2 g3
  exact ⟨⟨nameT_len op, regT_len rd, regT_len r1, regT_len r2, signL_len imm⟩, fun W => R2Name_any op W, fun W => X_any rd g1.1 (by omega) W, fun W => X_any r1 g2.1 (by omega) W, fun W => X_any r2 g3.1 (by omega) W, fun W => Signed_any imm him.1 him.2 W,
    fun W => by rw [← hf, rform_eq]; exact R2Form_any op W, fun W => by rw [← hc]; exact R2Check_any ⟨op, rd, r1, r2, imm, aq, rl, pred, succ⟩ W⟩
theorem cells_9 : (Tryz.prog.info? 26).map (·.size) = some (InsnV.cells ⟨op, rd, r1, r2, imm, aq, rl, pred, succ⟩).toList.length := by kernel_rfl
theorem TB.new (op rd r1 r2 imm : Int) (aq rl : Bool) (pred succ : Int) (w : World) : TB w (InsnV.cells ⟨op, rd, r1, r2, imm, aq, rl, pred, succ⟩).toList (w.alloc (.cells (InsnV.cells ⟨op, rd, r1, r2, imm, aq, rl, pred, succ⟩) 26)) := by
  have h := TB.start w (InsnV.cells ⟨op, rd, r1, r2, imm, aq, rl, pred, succ⟩).toList 26
  rwa [Array.toArray_toList] at h
end
set_option maxRecDepth 100000 in
set_option maxHeartbeats 8000000 in
theorem Text_no (op rd r1 r2 imm : Int) (aq rl : Bool) (pred succ : Int) (w : World) (hc : checkE ⟨op, rd, r1, r2, imm, aq, rl, pred, succ⟩ ≠ 0) :
    Calls Tryz.prog 87 #[.agg #[.int .i64 op, .int .i64 rd, .int .i64 r1, .int .i64 r2, .int .i64 imm, .bool aq, .bool rl, .int .i64 pred, .int .i64 succ]] w fun e w' => e = .returned (.tuple #[.string ⟨([] : List UInt8).toArray⟩, .int .i64 2]) ∧ Below w.heap.size w w' := by
  have hB := TB.new op rd r1 r2 imm aq rl pred succ w
  have hu := Tryz.underlying26
  have hK := Lib.hid (fun W => R2Check_any ⟨op, rd, r1, r2, imm, aq, rl, pred, succ⟩ W)
  obtain ⟨c0, c1, c2, c3, c4, c5, c6, c7, c8⟩ := hB.all9
  have tc : (checkE ⟨op, rd, r1, r2, imm, aq, rl, pred, succ⟩ != 0) = true := by simpa using hc
  clear hc
  go_enter Tryz.func87, Tryz.ntmps87
  go_wp2_with (first | (refine wpList_load_mid rfl 26 _ rfl w.heap.size 0 rfl (InsnV.cells ⟨op, rd, r1, r2, imm, aq, rl, pred, succ⟩).toList _ hB.c hu rfl cells_9 ?_) | (go_at_call 65; refine (hK.out _).mono ?_; rintro e w1 ⟨rfl, hb1⟩; replace hB := hB.keep hb1; clear hb1 c0 c1 c2 c3 c4 c5 c6 c7 c8; obtain ⟨c0, c1, c2, c3, c4, c5, c6, c7, c8⟩ := hB.all9))
  go_ret2
  exact ⟨rfl, hB.bl⟩
end Go.Proofs.YtcgflnkgekkidaaGreatDoor
namespace Go.Proofs.YtcgflnkgekkidaaGreatDoor
open Go.RowKit
section
variable {op rd r1 r2 imm pred succ : Int} {nm l1 l2 l3 l4 r : List UInt8} {w : World}
set_option maxRecDepth 100000 in
set_option maxHeartbeats 8000000 in
theorem Text_1 (H : TH op rd r1 r2 imm false false pred succ 1 nm l1 l2 l3 l4) (hb : Hid (r = nm ++ [32] ++ l1 ++ [44, 32] ++ l4)) : TextG op rd r1 r2 imm false false pred succ r w := by
  obtain ⟨n0, n1, n2, n3, n4⟩ := H.n
  have hB := TB.new op rd r1 r2 imm false false pred succ w
  have hu := Tryz.underlying26
  obtain ⟨c0, c1, c2, c3, c4, c5, c6, c7, c8⟩ := hB.all9
  unfold TextG
  go_enter Tryz.func87, Tryz.ntmps87
  go_upto_region 10 with (first | (refine wpList_load_mid rfl 26 _ rfl w.heap.size 0 rfl (InsnV.cells ⟨op, rd, r1, r2, imm, false, false, pred, succ⟩).toList _ hB.c hu rfl cells_9 ?_) | (go_at_call 65; refine (H.hK _).mono ?_; rintro e w1 ⟨rfl, hb1⟩; replace hB := hB.keep hb1; clear hb1 c0 c1 c2 c3 c4 c5 c6 c7 c8; obtain ⟨c0, c1, c2, c3, c4, c5, c6, c7, c8⟩ := hB.all9) | (go_at_call 84; refine (H.hN _).mono ?_; rintro e w1 ⟨rfl, hb1⟩; replace hB := hB.keep hb1; clear hb1 c0 c1 c2 c3 c4 c5 c6 c7 c8; obtain ⟨c0, c1, c2, c3, c4, c5, c6, c7, c8⟩ := hB.all9) | (refine wpList_cat (by rfl) _ _ _ _ rfl _ _ rfl rfl (by simp only [List.length_append, List.length_cons, List.length_nil]; omega) ?_))
  go_quiet ((first | (go_at_call 113; with_reducible exact quiet_same (H.h1 _)) | (go_at_call 113; with_reducible exact quiet_same (H.h2 _)) | (go_at_call 113; with_reducible exact quiet_same (H.h3 _)) | (go_at_call 114; with_reducible exact quiet_same (H.h4 _))))
  go_wp2_with (first | (go_at_call 46; refine (H.hF _).mono ?_; rintro e w1 ⟨rfl, rfl⟩) | (go_at_call 84; refine (H.hN _).mono ?_; rintro e w1 ⟨rfl, hb1⟩; replace hB := hB.keep hb1; clear hb1 c0 c1 c2 c3 c4 c5 c6 c7 c8; obtain ⟨c0, c1, c2, c3, c4, c5, c6, c7, c8⟩ := hB.all9) | (refine wpList_cat (by rfl) _ _ _ _ rfl _ _ rfl rfl (by simp only [List.length_append, List.length_cons, List.length_nil]; omega) ?_))
  go_ret2
  have hb2 := hb.out
  try simp only [List.append_assoc, List.cons_append, List.nil_append] at hb2
  exact ⟨by rw [hb2]; rfl, (hB.drewN _).bl⟩
set_option maxRecDepth 100000 in
set_option maxHeartbeats 8000000 in
theorem Text_2 (H : TH op rd r1 r2 imm false false pred succ 2 nm l1 l2 l3 l4) (hb : Hid (r = nm ++ [32] ++ l1 ++ [44, 32] ++ l4)) : TextG op rd r1 r2 imm false false pred succ r w := by
  obtain ⟨n0, n1, n2, n3, n4⟩ := H.n
  have hB := TB.new op rd r1 r2 imm false false pred succ w
  have hu := Tryz.underlying26
  obtain ⟨c0, c1, c2, c3, c4, c5, c6, c7, c8⟩ := hB.all9
  unfold TextG
  go_enter Tryz.func87, Tryz.ntmps87
  go_upto_region 10 with (first | (refine wpList_load_mid rfl 26 _ rfl w.heap.size 0 rfl (InsnV.cells ⟨op, rd, r1, r2, imm, false, false, pred, succ⟩).toList _ hB.c hu rfl cells_9 ?_) | (go_at_call 65; refine (H.hK _).mono ?_; rintro e w1 ⟨rfl, hb1⟩; replace hB := hB.keep hb1; clear hb1 c0 c1 c2 c3 c4 c5 c6 c7 c8; obtain ⟨c0, c1, c2, c3, c4, c5, c6, c7, c8⟩ := hB.all9) | (go_at_call 84; refine (H.hN _).mono ?_; rintro e w1 ⟨rfl, hb1⟩; replace hB := hB.keep hb1; clear hb1 c0 c1 c2 c3 c4 c5 c6 c7 c8; obtain ⟨c0, c1, c2, c3, c4, c5, c6, c7, c8⟩ := hB.all9) | (refine wpList_cat (by rfl) _ _ _ _ rfl _ _ rfl rfl (by simp only [List.length_append, List.length_cons, List.length_nil]; omega) ?_))
  go_quiet ((first | (go_at_call 113; with_reducible exact quiet_same (H.h1 _)) | (go_at_call 113; with_reducible exact quiet_same (H.h2 _)) | (go_at_call 113; with_reducible exact quiet_same (H.h3 _)) | (go_at_call 114; with_reducible exact quiet_same (H.h4 _))))
  go_wp2_with (first | (go_at_call 46; refine (H.hF _).mono ?_; rintro e w1 ⟨rfl, rfl⟩) | (go_at_call 84; refine (H.hN _).mono ?_; rintro e w1 ⟨rfl, hb1⟩; replace hB := hB.keep hb1; clear hb1 c0 c1 c2 c3 c4 c5 c6 c7 c8; obtain ⟨c0, c1, c2, c3, c4, c5, c6, c7, c8⟩ := hB.all9) | (refine wpList_cat (by rfl) _ _ _ _ rfl _ _ rfl rfl (by simp only [List.length_append, List.length_cons, List.length_nil]; omega) ?_))
  go_ret2
  have hb2 := hb.out
  try simp only [List.append_assoc, List.cons_append, List.nil_append] at hb2
  exact ⟨by rw [hb2]; rfl, (hB.drewN _).bl⟩
set_option maxRecDepth 100000 in
set_option maxHeartbeats 8000000 in
theorem Text_3j (H : TH op rd r1 r2 imm false false pred succ 3 nm l1 l2 l3 l4) (hb : Hid (r = nm ++ [32] ++ l1 ++ [44, 32] ++ l4 ++ [40] ++ l2 ++ [41])) (tj : (op == 4) = true) : TextG op rd r1 r2 imm false false pred succ r w := by
  obtain ⟨n0, n1, n2, n3, n4⟩ := H.n
  have hB := TB.new op rd r1 r2 imm false false pred succ w
  have hu := Tryz.underlying26
  obtain ⟨c0, c1, c2, c3, c4, c5, c6, c7, c8⟩ := hB.all9
  unfold TextG
  go_enter Tryz.func87, Tryz.ntmps87
  go_upto_region 10 with (first | (refine wpList_load_mid rfl 26 _ rfl w.heap.size 0 rfl (InsnV.cells ⟨op, rd, r1, r2, imm, false, false, pred, succ⟩).toList _ hB.c hu rfl cells_9 ?_) | (go_at_call 65; refine (H.hK _).mono ?_; rintro e w1 ⟨rfl, hb1⟩; replace hB := hB.keep hb1; clear hb1 c0 c1 c2 c3 c4 c5 c6 c7 c8; obtain ⟨c0, c1, c2, c3, c4, c5, c6, c7, c8⟩ := hB.all9) | (go_at_call 84; refine (H.hN _).mono ?_; rintro e w1 ⟨rfl, hb1⟩; replace hB := hB.keep hb1; clear hb1 c0 c1 c2 c3 c4 c5 c6 c7 c8; obtain ⟨c0, c1, c2, c3, c4, c5, c6, c7, c8⟩ := hB.all9) | (refine wpList_cat (by rfl) _ _ _ _ rfl _ _ rfl rfl (by simp only [List.length_append, List.length_cons, List.length_nil]; omega) ?_))
  go_quiet ((first | (go_at_call 113; with_reducible exact quiet_same (H.h1 _)) | (go_at_call 113; with_reducible exact quiet_same (H.h2 _)) | (go_at_call 113; with_reducible exact quiet_same (H.h3 _)) | (go_at_call 114; with_reducible exact quiet_same (H.h4 _))))
  go_wp2_with (first | (go_at_call 46; refine (H.hF _).mono ?_; rintro e w1 ⟨rfl, rfl⟩) | (go_at_call 84; refine (H.hN _).mono ?_; rintro e w1 ⟨rfl, hb1⟩; replace hB := (hB.drewN _).keep hb1; clear hb1 c0 c1 c2 c3 c4 c5 c6 c7 c8; obtain ⟨c0, c1, c2, c3, c4, c5, c6, c7, c8⟩ := hB.all9) | (refine wpList_cat (by rfl) _ _ _ _ rfl _ _ rfl rfl (by simp only [List.length_append, List.length_cons, List.length_nil]; omega) ?_))
  go_ret2
  have hb2 := hb.out
  try simp only [List.append_assoc, List.cons_append, List.nil_append] at hb2
  exact ⟨by rw [hb2]; rfl, hB.bl⟩
set_option maxRecDepth 100000 in
set_option maxHeartbeats 8000000 in
theorem Text_3n (H : TH op rd r1 r2 imm false false pred succ 3 nm l1 l2 l3 l4) (hb : Hid (r = nm ++ [32] ++ l1 ++ [44, 32] ++ l2 ++ [44, 32] ++ l4)) (tj : (op == 4) = false) : TextG op rd r1 r2 imm false false pred succ r w := by
  obtain ⟨n0, n1, n2, n3, n4⟩ := H.n
  have hB := TB.new op rd r1 r2 imm false false pred succ w
  have hu := Tryz.underlying26
  obtain ⟨c0, c1, c2, c3, c4, c5, c6, c7, c8⟩ := hB.all9
  unfold TextG
  go_enter Tryz.func87, Tryz.ntmps87
  go_upto_region 10 with (first | (refine wpList_load_mid rfl 26 _ rfl w.heap.size 0 rfl (InsnV.cells ⟨op, rd, r1, r2, imm, false, false, pred, succ⟩).toList _ hB.c hu rfl cells_9 ?_) | (go_at_call 65; refine (H.hK _).mono ?_; rintro e w1 ⟨rfl, hb1⟩; replace hB := hB.keep hb1; clear hb1 c0 c1 c2 c3 c4 c5 c6 c7 c8; obtain ⟨c0, c1, c2, c3, c4, c5, c6, c7, c8⟩ := hB.all9) | (go_at_call 84; refine (H.hN _).mono ?_; rintro e w1 ⟨rfl, hb1⟩; replace hB := hB.keep hb1; clear hb1 c0 c1 c2 c3 c4 c5 c6 c7 c8; obtain ⟨c0, c1, c2, c3, c4, c5, c6, c7, c8⟩ := hB.all9) | (refine wpList_cat (by rfl) _ _ _ _ rfl _ _ rfl rfl (by simp only [List.length_append, List.length_cons, List.length_nil]; omega) ?_))
  go_quiet ((first | (go_at_call 113; with_reducible exact quiet_same (H.h1 _)) | (go_at_call 113; with_reducible exact quiet_same (H.h2 _)) | (go_at_call 113; with_reducible exact quiet_same (H.h3 _)) | (go_at_call 114; with_reducible exact quiet_same (H.h4 _))))
  go_wp2_with (first | (go_at_call 46; refine (H.hF _).mono ?_; rintro e w1 ⟨rfl, rfl⟩) | (go_at_call 84; refine (H.hN _).mono ?_; rintro e w1 ⟨rfl, hb1⟩; replace hB := hB.keep hb1; clear hb1 c0 c1 c2 c3 c4 c5 c6 c7 c8; obtain ⟨c0, c1, c2, c3, c4, c5, c6, c7, c8⟩ := hB.all9) | (refine wpList_cat (by rfl) _ _ _ _ rfl _ _ rfl rfl (by simp only [List.length_append, List.length_cons, List.length_nil]; omega) ?_))
  go_ret2
  have hb2 := hb.out
  try simp only [List.append_assoc, List.cons_append, List.nil_append] at hb2
  exact ⟨by rw [hb2]; rfl, (hB.drewN _).bl⟩
end
end Go.Proofs.YtcgflnkgekkidaaGreatDoor
namespace Go.Proofs.YtcgflnkgekkidaaGreatDoor
open Go.RowKit
section
variable {op rd r1 r2 imm pred succ : Int} {nm l1 l2 l3 l4 r : List UInt8} {w : World}
set_option maxRecDepth 100000 in
set_option maxHeartbeats 8000000 in
theorem Text_4 (H : TH op rd r1 r2 imm false false pred succ 4 nm l1 l2 l3 l4) (hb : Hid (r = nm ++ [32] ++ l1 ++ [44, 32] ++ l4 ++ [40] ++ l2 ++ [41])) : TextG op rd r1 r2 imm false false pred succ r w := by
  obtain ⟨n0, n1, n2, n3, n4⟩ := H.n
  have hB := TB.new op rd r1 r2 imm false false pred succ w
  have hu := Tryz.underlying26
  obtain ⟨c0, c1, c2, c3, c4, c5, c6, c7, c8⟩ := hB.all9
  unfold TextG
  go_enter Tryz.func87, Tryz.ntmps87
  go_upto_region 10 with (first | (refine wpList_load_mid rfl 26 _ rfl w.heap.size 0 rfl (InsnV.cells ⟨op, rd, r1, r2, imm, false, false, pred, succ⟩).toList _ hB.c hu rfl cells_9 ?_) | (go_at_call 65; refine (H.hK _).mono ?_; rintro e w1 ⟨rfl, hb1⟩; replace hB := hB.keep hb1; clear hb1 c0 c1 c2 c3 c4 c5 c6 c7 c8; obtain ⟨c0, c1, c2, c3, c4, c5, c6, c7, c8⟩ := hB.all9) | (go_at_call 84; refine (H.hN _).mono ?_; rintro e w1 ⟨rfl, hb1⟩; replace hB := hB.keep hb1; clear hb1 c0 c1 c2 c3 c4 c5 c6 c7 c8; obtain ⟨c0, c1, c2, c3, c4, c5, c6, c7, c8⟩ := hB.all9) | (refine wpList_cat (by rfl) _ _ _ _ rfl _ _ rfl rfl (by simp only [List.length_append, List.length_cons, List.length_nil]; omega) ?_))
  go_quiet ((first | (go_at_call 113; with_reducible exact quiet_same (H.h1 _)) | (go_at_call 113; with_reducible exact quiet_same (H.h2 _)) | (go_at_call 113; with_reducible exact quiet_same (H.h3 _)) | (go_at_call 114; with_reducible exact quiet_same (H.h4 _))))
  go_wp2_with (first | (go_at_call 46; refine (H.hF _).mono ?_; rintro e w1 ⟨rfl, rfl⟩) | (go_at_call 84; refine (H.hN _).mono ?_; rintro e w1 ⟨rfl, hb1⟩; replace hB := hB.keep hb1; clear hb1 c0 c1 c2 c3 c4 c5 c6 c7 c8; obtain ⟨c0, c1, c2, c3, c4, c5, c6, c7, c8⟩ := hB.all9) | (refine wpList_cat (by rfl) _ _ _ _ rfl _ _ rfl rfl (by simp only [List.length_append, List.length_cons, List.length_nil]; omega) ?_))
  go_ret2
  have hb2 := hb.out
  try simp only [List.append_assoc, List.cons_append, List.nil_append] at hb2
  exact ⟨by rw [hb2]; rfl, (hB.drewN _).bl⟩
set_option maxRecDepth 100000 in
set_option maxHeartbeats 8000000 in
theorem Text_5 (H : TH op rd r1 r2 imm false false pred succ 5 nm l1 l2 l3 l4) (hb : Hid (r = nm ++ [32] ++ l3 ++ [44, 32] ++ l4 ++ [40] ++ l2 ++ [41])) : TextG op rd r1 r2 imm false false pred succ r w := by
  obtain ⟨n0, n1, n2, n3, n4⟩ := H.n
  have hB := TB.new op rd r1 r2 imm false false pred succ w
  have hu := Tryz.underlying26
  obtain ⟨c0, c1, c2, c3, c4, c5, c6, c7, c8⟩ := hB.all9
  unfold TextG
  go_enter Tryz.func87, Tryz.ntmps87
  go_upto_region 10 with (first | (refine wpList_load_mid rfl 26 _ rfl w.heap.size 0 rfl (InsnV.cells ⟨op, rd, r1, r2, imm, false, false, pred, succ⟩).toList _ hB.c hu rfl cells_9 ?_) | (go_at_call 65; refine (H.hK _).mono ?_; rintro e w1 ⟨rfl, hb1⟩; replace hB := hB.keep hb1; clear hb1 c0 c1 c2 c3 c4 c5 c6 c7 c8; obtain ⟨c0, c1, c2, c3, c4, c5, c6, c7, c8⟩ := hB.all9) | (go_at_call 84; refine (H.hN _).mono ?_; rintro e w1 ⟨rfl, hb1⟩; replace hB := hB.keep hb1; clear hb1 c0 c1 c2 c3 c4 c5 c6 c7 c8; obtain ⟨c0, c1, c2, c3, c4, c5, c6, c7, c8⟩ := hB.all9) | (refine wpList_cat (by rfl) _ _ _ _ rfl _ _ rfl rfl (by simp only [List.length_append, List.length_cons, List.length_nil]; omega) ?_))
  go_quiet ((first | (go_at_call 113; with_reducible exact quiet_same (H.h1 _)) | (go_at_call 113; with_reducible exact quiet_same (H.h2 _)) | (go_at_call 113; with_reducible exact quiet_same (H.h3 _)) | (go_at_call 114; with_reducible exact quiet_same (H.h4 _))))
  go_wp2_with (first | (go_at_call 46; refine (H.hF _).mono ?_; rintro e w1 ⟨rfl, rfl⟩) | (go_at_call 84; refine (H.hN _).mono ?_; rintro e w1 ⟨rfl, hb1⟩; replace hB := hB.keep hb1; clear hb1 c0 c1 c2 c3 c4 c5 c6 c7 c8; obtain ⟨c0, c1, c2, c3, c4, c5, c6, c7, c8⟩ := hB.all9) | (refine wpList_cat (by rfl) _ _ _ _ rfl _ _ rfl rfl (by simp only [List.length_append, List.length_cons, List.length_nil]; omega) ?_))
  go_ret2
  have hb2 := hb.out
  try simp only [List.append_assoc, List.cons_append, List.nil_append] at hb2
  exact ⟨by rw [hb2]; rfl, (hB.drewN _).bl⟩
set_option maxRecDepth 100000 in
set_option maxHeartbeats 8000000 in
theorem Text_6 (H : TH op rd r1 r2 imm false false pred succ 6 nm l1 l2 l3 l4) (hb : Hid (r = nm ++ [32] ++ l2 ++ [44, 32] ++ l3 ++ [44, 32] ++ l4)) : TextG op rd r1 r2 imm false false pred succ r w := by
  obtain ⟨n0, n1, n2, n3, n4⟩ := H.n
  have hB := TB.new op rd r1 r2 imm false false pred succ w
  have hu := Tryz.underlying26
  obtain ⟨c0, c1, c2, c3, c4, c5, c6, c7, c8⟩ := hB.all9
  unfold TextG
  go_enter Tryz.func87, Tryz.ntmps87
  go_upto_region 10 with (first | (refine wpList_load_mid rfl 26 _ rfl w.heap.size 0 rfl (InsnV.cells ⟨op, rd, r1, r2, imm, false, false, pred, succ⟩).toList _ hB.c hu rfl cells_9 ?_) | (go_at_call 65; refine (H.hK _).mono ?_; rintro e w1 ⟨rfl, hb1⟩; replace hB := hB.keep hb1; clear hb1 c0 c1 c2 c3 c4 c5 c6 c7 c8; obtain ⟨c0, c1, c2, c3, c4, c5, c6, c7, c8⟩ := hB.all9) | (go_at_call 84; refine (H.hN _).mono ?_; rintro e w1 ⟨rfl, hb1⟩; replace hB := hB.keep hb1; clear hb1 c0 c1 c2 c3 c4 c5 c6 c7 c8; obtain ⟨c0, c1, c2, c3, c4, c5, c6, c7, c8⟩ := hB.all9) | (refine wpList_cat (by rfl) _ _ _ _ rfl _ _ rfl rfl (by simp only [List.length_append, List.length_cons, List.length_nil]; omega) ?_))
  go_quiet ((first | (go_at_call 113; with_reducible exact quiet_same (H.h1 _)) | (go_at_call 113; with_reducible exact quiet_same (H.h2 _)) | (go_at_call 113; with_reducible exact quiet_same (H.h3 _)) | (go_at_call 114; with_reducible exact quiet_same (H.h4 _))))
  go_wp2_with (first | (go_at_call 46; refine (H.hF _).mono ?_; rintro e w1 ⟨rfl, rfl⟩) | (go_at_call 84; refine (H.hN _).mono ?_; rintro e w1 ⟨rfl, hb1⟩; replace hB := hB.keep hb1; clear hb1 c0 c1 c2 c3 c4 c5 c6 c7 c8; obtain ⟨c0, c1, c2, c3, c4, c5, c6, c7, c8⟩ := hB.all9) | (refine wpList_cat (by rfl) _ _ _ _ rfl _ _ rfl rfl (by simp only [List.length_append, List.length_cons, List.length_nil]; omega) ?_))
  go_ret2
  have hb2 := hb.out
  try simp only [List.append_assoc, List.cons_append, List.nil_append] at hb2
  exact ⟨by rw [hb2]; rfl, (hB.drewN _).bl⟩
set_option maxRecDepth 100000 in
set_option maxHeartbeats 8000000 in
theorem Text_7n (H : TH op rd r1 r2 imm false false pred succ 7 nm l1 l2 l3 l4) (hb : Hid (r = nm ++ [32] ++ l1 ++ [44, 32] ++ l2 ++ [44, 32] ++ l4)) (tj : (op == 4) = false) : TextG op rd r1 r2 imm false false pred succ r w := by
  obtain ⟨n0, n1, n2, n3, n4⟩ := H.n
  have hB := TB.new op rd r1 r2 imm false false pred succ w
  have hu := Tryz.underlying26
  obtain ⟨c0, c1, c2, c3, c4, c5, c6, c7, c8⟩ := hB.all9
  unfold TextG
  go_enter Tryz.func87, Tryz.ntmps87
  go_upto_region 10 with (first | (refine wpList_load_mid rfl 26 _ rfl w.heap.size 0 rfl (InsnV.cells ⟨op, rd, r1, r2, imm, false, false, pred, succ⟩).toList _ hB.c hu rfl cells_9 ?_) | (go_at_call 65; refine (H.hK _).mono ?_; rintro e w1 ⟨rfl, hb1⟩; replace hB := hB.keep hb1; clear hb1 c0 c1 c2 c3 c4 c5 c6 c7 c8; obtain ⟨c0, c1, c2, c3, c4, c5, c6, c7, c8⟩ := hB.all9) | (go_at_call 84; refine (H.hN _).mono ?_; rintro e w1 ⟨rfl, hb1⟩; replace hB := hB.keep hb1; clear hb1 c0 c1 c2 c3 c4 c5 c6 c7 c8; obtain ⟨c0, c1, c2, c3, c4, c5, c6, c7, c8⟩ := hB.all9) | (refine wpList_cat (by rfl) _ _ _ _ rfl _ _ rfl rfl (by simp only [List.length_append, List.length_cons, List.length_nil]; omega) ?_))
  go_quiet ((first | (go_at_call 113; with_reducible exact quiet_same (H.h1 _)) | (go_at_call 113; with_reducible exact quiet_same (H.h2 _)) | (go_at_call 113; with_reducible exact quiet_same (H.h3 _)) | (go_at_call 114; with_reducible exact quiet_same (H.h4 _))))
  go_wp2_with (first | (go_at_call 46; refine (H.hF _).mono ?_; rintro e w1 ⟨rfl, rfl⟩) | (go_at_call 84; refine (H.hN _).mono ?_; rintro e w1 ⟨rfl, hb1⟩; replace hB := hB.keep hb1; clear hb1 c0 c1 c2 c3 c4 c5 c6 c7 c8; obtain ⟨c0, c1, c2, c3, c4, c5, c6, c7, c8⟩ := hB.all9) | (refine wpList_cat (by rfl) _ _ _ _ rfl _ _ rfl rfl (by simp only [List.length_append, List.length_cons, List.length_nil]; omega) ?_))
  go_ret2
  have hb2 := hb.out
  try simp only [List.append_assoc, List.cons_append, List.nil_append] at hb2
  exact ⟨by rw [hb2]; rfl, (hB.drewN _).bl⟩
end
end Go.Proofs.YtcgflnkgekkidaaGreatDoor
namespace Go.Proofs.YtcgflnkgekkidaaGreatDoor
open Go.RowKit
section
variable {op rd r1 r2 imm pred succ : Int} {nm l1 l2 l3 l4 r : List UInt8} {w : World}
set_option maxRecDepth 100000 in
set_option maxHeartbeats 8000000 in
theorem Text_8 (H : TH op rd r1 r2 imm false false pred succ 8 nm l1 l2 l3 l4) (hb : Hid (r = nm ++ [32] ++ l1 ++ [44, 32] ++ l2 ++ [44, 32] ++ l3)) : TextG op rd r1 r2 imm false false pred succ r w := by
  obtain ⟨n0, n1, n2, n3, n4⟩ := H.n
  have hB := TB.new op rd r1 r2 imm false false pred succ w
  have hu := Tryz.underlying26
  obtain ⟨c0, c1, c2, c3, c4, c5, c6, c7, c8⟩ := hB.all9
  unfold TextG
  go_enter Tryz.func87, Tryz.ntmps87
  go_upto_region 10 with (first | (refine wpList_load_mid rfl 26 _ rfl w.heap.size 0 rfl (InsnV.cells ⟨op, rd, r1, r2, imm, false, false, pred, succ⟩).toList _ hB.c hu rfl cells_9 ?_) | (go_at_call 65; refine (H.hK _).mono ?_; rintro e w1 ⟨rfl, hb1⟩; replace hB := hB.keep hb1; clear hb1 c0 c1 c2 c3 c4 c5 c6 c7 c8; obtain ⟨c0, c1, c2, c3, c4, c5, c6, c7, c8⟩ := hB.all9) | (go_at_call 84; refine (H.hN _).mono ?_; rintro e w1 ⟨rfl, hb1⟩; replace hB := hB.keep hb1; clear hb1 c0 c1 c2 c3 c4 c5 c6 c7 c8; obtain ⟨c0, c1, c2, c3, c4, c5, c6, c7, c8⟩ := hB.all9) | (refine wpList_cat (by rfl) _ _ _ _ rfl _ _ rfl rfl (by simp only [List.length_append, List.length_cons, List.length_nil]; omega) ?_))
  go_quiet ((first | (go_at_call 113; with_reducible exact quiet_same (H.h1 _)) | (go_at_call 113; with_reducible exact quiet_same (H.h2 _)) | (go_at_call 113; with_reducible exact quiet_same (H.h3 _)) | (go_at_call 114; with_reducible exact quiet_same (H.h4 _))))
  go_wp2_with (first | (go_at_call 46; refine (H.hF _).mono ?_; rintro e w1 ⟨rfl, rfl⟩) | (go_at_call 84; refine (H.hN _).mono ?_; rintro e w1 ⟨rfl, hb1⟩; replace hB := hB.keep hb1; clear hb1 c0 c1 c2 c3 c4 c5 c6 c7 c8; obtain ⟨c0, c1, c2, c3, c4, c5, c6, c7, c8⟩ := hB.all9) | (refine wpList_cat (by rfl) _ _ _ _ rfl _ _ rfl rfl (by simp only [List.length_append, List.length_cons, List.length_nil]; omega) ?_))
  go_ret2
  have hb2 := hb.out
  try simp only [List.append_assoc, List.cons_append, List.nil_append] at hb2
  exact ⟨by rw [hb2]; rfl, (hB.drewN _).bl⟩
set_option maxRecDepth 100000 in
set_option maxHeartbeats 8000000 in
theorem Text_9 (a b : Nat) (l5 l6 : List UInt8) (H : TH op rd r1 r2 imm false false (a : Int) (b : Int) 9 nm l1 l2 l3 l4) (hb : Hid (r = nm ++ [32] ++ l5 ++ [44, 32] ++ l6)) (n5 : l5.length ≤ 4) (n6 : l6.length ≤ 4) (h5 : Hid (∀ W, Calls Tryz.prog 115 #[.int .i64 (a : Int)] W fun e w' => e = .returned (.string ⟨l5.toArray⟩) ∧ W = w')) (h6 : Hid (∀ W, Calls Tryz.prog 115 #[.int .i64 (b : Int)] W fun e w' => e = .returned (.string ⟨l6.toArray⟩) ∧ W = w')) : TextG op rd r1 r2 imm false false (a : Int) (b : Int) r w := by
  obtain ⟨n0, n1, n2, n3, n4⟩ := H.n
  have hB := TB.new op rd r1 r2 imm false false (a : Int) (b : Int) w
  have hu := Tryz.underlying26
  obtain ⟨c0, c1, c2, c3, c4, c5, c6, c7, c8⟩ := hB.all9
  unfold TextG
  go_enter Tryz.func87, Tryz.ntmps87
  go_upto_region 10 with (first | (refine wpList_load_mid rfl 26 _ rfl w.heap.size 0 rfl (InsnV.cells ⟨op, rd, r1, r2, imm, false, false, (a : Int), (b : Int)⟩).toList _ hB.c hu rfl cells_9 ?_) | (go_at_call 65; refine (H.hK _).mono ?_; rintro e w1 ⟨rfl, hb1⟩; replace hB := hB.keep hb1; clear hb1 c0 c1 c2 c3 c4 c5 c6 c7 c8; obtain ⟨c0, c1, c2, c3, c4, c5, c6, c7, c8⟩ := hB.all9) | (go_at_call 84; refine (H.hN _).mono ?_; rintro e w1 ⟨rfl, hb1⟩; replace hB := hB.keep hb1; clear hb1 c0 c1 c2 c3 c4 c5 c6 c7 c8; obtain ⟨c0, c1, c2, c3, c4, c5, c6, c7, c8⟩ := hB.all9) | (refine wpList_cat (by rfl) _ _ _ _ rfl _ _ rfl rfl (by simp only [List.length_append, List.length_cons, List.length_nil]; omega) ?_))
  go_quiet ((first | (go_at_call 113; with_reducible exact quiet_same (H.h1 _)) | (go_at_call 113; with_reducible exact quiet_same (H.h2 _)) | (go_at_call 113; with_reducible exact quiet_same (H.h3 _)) | (go_at_call 114; with_reducible exact quiet_same (H.h4 _))))
  go_upto_region 29 with (first | (go_at_call 46; refine (H.hF _).mono ?_; rintro e w1 ⟨rfl, rfl⟩))
  refine wp_region_held_drew (S := fun W => TB w (InsnV.cells ⟨op, rd, r1, r2, imm, false, false, (a : Int), (b : Int)⟩).toList W) (by kernel_rfl) ((hB.drewN _).keep (Below.refl _ _).drew) (fun hHeld => ?_)
  refine tkS 0 (.string ⟨nm.toArray⟩) hHeld ?_
  try simp only [Act.put, List.getElem_toArray, List.getElem_cons_zero, List.setIfInBounds_toArray, List.set_cons_zero, List.set_cons_succ]
  refine wpAnyH_take (i := 1) rfl (by kernel_rfl) (by kernel_rfl) (by kernel_rfl) (fun _ _ _ h => h) (yieldsIf_cat (by rfl) _ _ _ _ rfl _ _ rfl rfl (by simp only [List.length_append, List.length_cons, List.length_nil]; omega)) hHeld ?_
  try simp only [Act.put, List.getElem_toArray, List.getElem_cons_succ, List.getElem_cons_zero, List.setIfInBounds_toArray, List.set_cons_zero, List.set_cons_succ]
  refine tkS 2 (.pointer (some ⟨w.heap.size, 7, none⟩)) hHeld ?_
  try simp only [Act.put, List.getElem_toArray, List.getElem_cons_succ, List.getElem_cons_zero, List.setIfInBounds_toArray, List.set_cons_zero, List.set_cons_succ]
  refine wpAnyH_take (i := 3) (v := .int .i64 a) rfl (by kernel_rfl) (by kernel_rfl) (by kernel_rfl) (fun _ _ _ h => h) (Or.inl ⟨by rfl, fun W hS => by (have k : W.cell? ⟨w.heap.size, 7, none⟩ = some (.int .i64 a) := hS.at 7 _ rfl); go_simp⟩) hHeld ?_
  try simp only [Act.put, List.getElem_toArray, List.getElem_cons_succ, List.getElem_cons_zero, List.setIfInBounds_toArray, List.set_cons_zero, List.set_cons_succ]
  refine tkS 7 (.pointer (some ⟨w.heap.size, 8, none⟩)) hHeld ?_
  try simp only [Act.put, List.getElem_toArray, List.getElem_cons_succ, List.getElem_cons_zero, List.setIfInBounds_toArray, List.set_cons_zero, List.set_cons_succ]
  refine wpAnyH_take (i := 8) (v := .int .i64 b) rfl (by kernel_rfl) (by kernel_rfl) (by kernel_rfl) (fun _ _ _ h => h) (Or.inl ⟨by rfl, fun W hS => by (have k : W.cell? ⟨w.heap.size, 8, none⟩ = some (.int .i64 b) := hS.at 8 _ rfl); go_simp⟩) hHeld ?_
  try simp only [Act.put, List.getElem_toArray, List.getElem_cons_succ, List.getElem_cons_zero, List.setIfInBounds_toArray, List.set_cons_zero, List.set_cons_succ]
  refine wpAnyH_ready (rs := [4]) (by kernel_rfl) (by simp) (AllReadyH.cons rfl (fun K hK2 => ?_) AllReadyH.nil)
  rw [if_pos (by rfl)]
  simp only [List.getElem_toArray, List.getElem_cons_succ, List.getElem_cons_zero]
  go_wp2_with (go_at_call 115; refine (h5.out _).mono ?_; rintro e w4 ⟨rfl, rfl⟩)
  refine hK2.out _ _ (hHeld) (fun hHeld2 => ?_)
  clear hK2 K hHeld
  have hHeld := hHeld2
  clear hHeld2
  try simp only [Act.put, List.getElem_toArray, List.getElem_cons_succ, List.getElem_cons_zero, List.setIfInBounds_toArray, List.set_cons_zero, List.set_cons_succ]
  refine wpAnyH_take (i := 5) rfl (by kernel_rfl) (by kernel_rfl) (by kernel_rfl) (fun _ _ _ h => h) (yieldsIf_cat (by rfl) _ _ _ _ rfl _ _ rfl rfl (by simp only [List.length_append, List.length_cons, List.length_nil]; omega)) hHeld ?_
  try simp only [Act.put, List.getElem_toArray, List.getElem_cons_succ, List.getElem_cons_zero, List.setIfInBounds_toArray, List.set_cons_zero, List.set_cons_succ]
  refine wpAnyH_take (i := 6) rfl (by kernel_rfl) (by kernel_rfl) (by kernel_rfl) (fun _ _ _ h => h) (yieldsIf_cat (by rfl) _ _ _ _ rfl _ _ rfl rfl (by simp only [List.length_append, List.length_cons, List.length_nil]; omega)) hHeld ?_
  try simp only [Act.put, List.getElem_toArray, List.getElem_cons_succ, List.getElem_cons_zero, List.setIfInBounds_toArray, List.set_cons_zero, List.set_cons_succ]
  refine wpAnyH_ready (rs := [9]) (by kernel_rfl) (by simp) (AllReadyH.cons rfl (fun K hK2 => ?_) AllReadyH.nil)
  rw [if_pos (by rfl)]
  simp only [List.getElem_toArray, List.getElem_cons_succ, List.getElem_cons_zero]
  go_wp2_with (go_at_call 115; refine (h6.out _).mono ?_; rintro e w4 ⟨rfl, rfl⟩)
  refine hK2.out _ _ (hHeld) (fun hHeld2 => ?_)
  clear hK2 K hHeld
  have hHeld := hHeld2
  clear hHeld2
  try simp only [Act.put, List.getElem_toArray, List.getElem_cons_succ, List.getElem_cons_zero, List.setIfInBounds_toArray, List.set_cons_zero, List.set_cons_succ]
  refine wpAnyH_take (i := 10) rfl (by kernel_rfl) (by kernel_rfl) (by kernel_rfl) (fun _ _ _ h => h) (yieldsIf_cat (by rfl) _ _ _ _ rfl _ _ rfl rfl (by simp only [List.length_append, List.length_cons, List.length_nil]; omega)) hHeld ?_
  try simp only [Act.put, List.getElem_toArray, List.getElem_cons_succ, List.getElem_cons_zero, List.setIfInBounds_toArray, List.set_cons_zero, List.set_cons_succ]
  refine tkS 11 (.string ⟨(nm ++ 32 :: (l5 ++ [44, 32]) ++ l6).toArray⟩) hHeld ?_
  try simp only [Act.put, List.getElem_toArray, List.getElem_cons_succ, List.getElem_cons_zero, List.setIfInBounds_toArray, List.set_cons_zero, List.set_cons_succ]
  refine wpAnyH_done (by kernel_rfl) ?_ _
  have hB := hHeld
  go_wp2_with fail
  go_ret2
  have hb2 := hb.out
  try simp only [List.append_assoc, List.cons_append, List.nil_append] at hb2 ⊢
  exact ⟨by rw [hb2]; first | rfl | simp, hB.bl⟩
set_option maxRecDepth 100000 in
set_option maxHeartbeats 8000000 in
theorem Text_10 (H : TH op rd r1 r2 imm false false pred succ 10 nm l1 l2 l3 l4) (hb : Hid (r = nm)) : TextG op rd r1 r2 imm false false pred succ r w := by
  obtain ⟨n0, n1, n2, n3, n4⟩ := H.n
  have hB := TB.new op rd r1 r2 imm false false pred succ w
  have hu := Tryz.underlying26
  obtain ⟨c0, c1, c2, c3, c4, c5, c6, c7, c8⟩ := hB.all9
  unfold TextG
  go_enter Tryz.func87, Tryz.ntmps87
  go_upto_region 10 with (first | (refine wpList_load_mid rfl 26 _ rfl w.heap.size 0 rfl (InsnV.cells ⟨op, rd, r1, r2, imm, false, false, pred, succ⟩).toList _ hB.c hu rfl cells_9 ?_) | (go_at_call 65; refine (H.hK _).mono ?_; rintro e w1 ⟨rfl, hb1⟩; replace hB := hB.keep hb1; clear hb1 c0 c1 c2 c3 c4 c5 c6 c7 c8; obtain ⟨c0, c1, c2, c3, c4, c5, c6, c7, c8⟩ := hB.all9) | (go_at_call 84; refine (H.hN _).mono ?_; rintro e w1 ⟨rfl, hb1⟩; replace hB := hB.keep hb1; clear hb1 c0 c1 c2 c3 c4 c5 c6 c7 c8; obtain ⟨c0, c1, c2, c3, c4, c5, c6, c7, c8⟩ := hB.all9) | (refine wpList_cat (by rfl) _ _ _ _ rfl _ _ rfl rfl (by simp only [List.length_append, List.length_cons, List.length_nil]; omega) ?_))
  go_quiet ((first | (go_at_call 113; with_reducible exact quiet_same (H.h1 _)) | (go_at_call 113; with_reducible exact quiet_same (H.h2 _)) | (go_at_call 113; with_reducible exact quiet_same (H.h3 _)) | (go_at_call 114; with_reducible exact quiet_same (H.h4 _))))
  go_wp2_with (first | (go_at_call 46; refine (H.hF _).mono ?_; rintro e w1 ⟨rfl, rfl⟩) | (go_at_call 84; refine (H.hN _).mono ?_; rintro e w1 ⟨rfl, hb1⟩; replace hB := hB.keep hb1; clear hb1 c0 c1 c2 c3 c4 c5 c6 c7 c8; obtain ⟨c0, c1, c2, c3, c4, c5, c6, c7, c8⟩ := hB.all9) | (refine wpList_cat (by rfl) _ _ _ _ rfl _ _ rfl rfl (by simp only [List.length_append, List.length_cons, List.length_nil]; omega) ?_))
  go_ret2
  have hb2 := hb.out
  try simp only [List.append_assoc, List.cons_append, List.nil_append] at hb2
  exact ⟨by rw [hb2]; rfl, (hB.drewN _).bl⟩
set_option maxRecDepth 100000 in
set_option maxHeartbeats 8000000 in
theorem Text_11_tt (H : TH op rd r1 r2 imm true true pred succ 11 nm l1 l2 l3 l4) (hb : Hid (r = nm ++ [46] ++ [97, 113] ++ [114, 108] ++ [32] ++ l1 ++ [44, 32, 40] ++ l2 ++ [41])) : TextG op rd r1 r2 imm true true pred succ r w := by
  obtain ⟨n0, n1, n2, n3, n4⟩ := H.n
  have hB := TB.new op rd r1 r2 imm true true pred succ w
  have hu := Tryz.underlying26
  obtain ⟨c0, c1, c2, c3, c4, c5, c6, c7, c8⟩ := hB.all9
  unfold TextG
  go_enter Tryz.func87, Tryz.ntmps87
  go_upto_region 10 with (first | (refine wpList_load_mid rfl 26 _ rfl w.heap.size 0 rfl (InsnV.cells ⟨op, rd, r1, r2, imm, true, true, pred, succ⟩).toList _ hB.c hu rfl cells_9 ?_) | (go_at_call 65; refine (H.hK _).mono ?_; rintro e w1 ⟨rfl, hb1⟩; replace hB := hB.keep hb1; clear hb1 c0 c1 c2 c3 c4 c5 c6 c7 c8; obtain ⟨c0, c1, c2, c3, c4, c5, c6, c7, c8⟩ := hB.all9) | (go_at_call 84; refine (H.hN _).mono ?_; rintro e w1 ⟨rfl, hb1⟩; replace hB := hB.keep hb1; clear hb1 c0 c1 c2 c3 c4 c5 c6 c7 c8; obtain ⟨c0, c1, c2, c3, c4, c5, c6, c7, c8⟩ := hB.all9) | (refine wpList_cat (by rfl) _ _ _ _ rfl _ _ rfl rfl (by simp only [List.length_append, List.length_cons, List.length_nil]; omega) ?_))
  go_quiet ((first | (go_at_call 113; with_reducible exact quiet_same (H.h1 _)) | (go_at_call 113; with_reducible exact quiet_same (H.h2 _)) | (go_at_call 113; with_reducible exact quiet_same (H.h3 _)) | (go_at_call 114; with_reducible exact quiet_same (H.h4 _))))
  go_wp2_with (first | (go_at_call 46; refine (H.hF _).mono ?_; rintro e w1 ⟨rfl, rfl⟩) | (go_at_call 84; refine (H.hN _).mono ?_; rintro e w1 ⟨rfl, hb1⟩; replace hB := hB.keep hb1; clear hb1 c0 c1 c2 c3 c4 c5 c6 c7 c8; obtain ⟨c0, c1, c2, c3, c4, c5, c6, c7, c8⟩ := hB.all9) | (refine wpList_cat (by rfl) _ _ _ _ rfl _ _ rfl rfl (by simp only [List.length_append, List.length_cons, List.length_nil]; omega) ?_))
  go_ret2
  have hb2 := hb.out
  try simp only [List.append_assoc, List.cons_append, List.nil_append] at hb2
  exact ⟨by rw [hb2]; rfl, (hB.drewN _).bl⟩
set_option maxRecDepth 100000 in
set_option maxHeartbeats 8000000 in
theorem Text_11_tf (H : TH op rd r1 r2 imm true false pred succ 11 nm l1 l2 l3 l4) (hb : Hid (r = nm ++ [46] ++ [97, 113] ++ [32] ++ l1 ++ [44, 32, 40] ++ l2 ++ [41])) : TextG op rd r1 r2 imm true false pred succ r w := by
  obtain ⟨n0, n1, n2, n3, n4⟩ := H.n
  have hB := TB.new op rd r1 r2 imm true false pred succ w
  have hu := Tryz.underlying26
  obtain ⟨c0, c1, c2, c3, c4, c5, c6, c7, c8⟩ := hB.all9
  unfold TextG
  go_enter Tryz.func87, Tryz.ntmps87
  go_upto_region 10 with (first | (refine wpList_load_mid rfl 26 _ rfl w.heap.size 0 rfl (InsnV.cells ⟨op, rd, r1, r2, imm, true, false, pred, succ⟩).toList _ hB.c hu rfl cells_9 ?_) | (go_at_call 65; refine (H.hK _).mono ?_; rintro e w1 ⟨rfl, hb1⟩; replace hB := hB.keep hb1; clear hb1 c0 c1 c2 c3 c4 c5 c6 c7 c8; obtain ⟨c0, c1, c2, c3, c4, c5, c6, c7, c8⟩ := hB.all9) | (go_at_call 84; refine (H.hN _).mono ?_; rintro e w1 ⟨rfl, hb1⟩; replace hB := hB.keep hb1; clear hb1 c0 c1 c2 c3 c4 c5 c6 c7 c8; obtain ⟨c0, c1, c2, c3, c4, c5, c6, c7, c8⟩ := hB.all9) | (refine wpList_cat (by rfl) _ _ _ _ rfl _ _ rfl rfl (by simp only [List.length_append, List.length_cons, List.length_nil]; omega) ?_))
  go_quiet ((first | (go_at_call 113; with_reducible exact quiet_same (H.h1 _)) | (go_at_call 113; with_reducible exact quiet_same (H.h2 _)) | (go_at_call 113; with_reducible exact quiet_same (H.h3 _)) | (go_at_call 114; with_reducible exact quiet_same (H.h4 _))))
  go_wp2_with (first | (go_at_call 46; refine (H.hF _).mono ?_; rintro e w1 ⟨rfl, rfl⟩) | (go_at_call 84; refine (H.hN _).mono ?_; rintro e w1 ⟨rfl, hb1⟩; replace hB := hB.keep hb1; clear hb1 c0 c1 c2 c3 c4 c5 c6 c7 c8; obtain ⟨c0, c1, c2, c3, c4, c5, c6, c7, c8⟩ := hB.all9) | (refine wpList_cat (by rfl) _ _ _ _ rfl _ _ rfl rfl (by simp only [List.length_append, List.length_cons, List.length_nil]; omega) ?_))
  go_ret2
  have hb2 := hb.out
  try simp only [List.append_assoc, List.cons_append, List.nil_append] at hb2
  exact ⟨by rw [hb2]; rfl, (hB.drewN _).bl⟩
set_option maxRecDepth 100000 in
set_option maxHeartbeats 8000000 in
theorem Text_11_ft (H : TH op rd r1 r2 imm false true pred succ 11 nm l1 l2 l3 l4) (hb : Hid (r = nm ++ [46] ++ [114, 108] ++ [32] ++ l1 ++ [44, 32, 40] ++ l2 ++ [41])) : TextG op rd r1 r2 imm false true pred succ r w := by
  obtain ⟨n0, n1, n2, n3, n4⟩ := H.n
  have hB := TB.new op rd r1 r2 imm false true pred succ w
  have hu := Tryz.underlying26
  obtain ⟨c0, c1, c2, c3, c4, c5, c6, c7, c8⟩ := hB.all9
  unfold TextG
  go_enter Tryz.func87, Tryz.ntmps87
  go_upto_region 10 with (first | (refine wpList_load_mid rfl 26 _ rfl w.heap.size 0 rfl (InsnV.cells ⟨op, rd, r1, r2, imm, false, true, pred, succ⟩).toList _ hB.c hu rfl cells_9 ?_) | (go_at_call 65; refine (H.hK _).mono ?_; rintro e w1 ⟨rfl, hb1⟩; replace hB := hB.keep hb1; clear hb1 c0 c1 c2 c3 c4 c5 c6 c7 c8; obtain ⟨c0, c1, c2, c3, c4, c5, c6, c7, c8⟩ := hB.all9) | (go_at_call 84; refine (H.hN _).mono ?_; rintro e w1 ⟨rfl, hb1⟩; replace hB := hB.keep hb1; clear hb1 c0 c1 c2 c3 c4 c5 c6 c7 c8; obtain ⟨c0, c1, c2, c3, c4, c5, c6, c7, c8⟩ := hB.all9) | (refine wpList_cat (by rfl) _ _ _ _ rfl _ _ rfl rfl (by simp only [List.length_append, List.length_cons, List.length_nil]; omega) ?_))
  go_quiet ((first | (go_at_call 113; with_reducible exact quiet_same (H.h1 _)) | (go_at_call 113; with_reducible exact quiet_same (H.h2 _)) | (go_at_call 113; with_reducible exact quiet_same (H.h3 _)) | (go_at_call 114; with_reducible exact quiet_same (H.h4 _))))
  go_wp2_with (first | (go_at_call 46; refine (H.hF _).mono ?_; rintro e w1 ⟨rfl, rfl⟩) | (go_at_call 84; refine (H.hN _).mono ?_; rintro e w1 ⟨rfl, hb1⟩; replace hB := hB.keep hb1; clear hb1 c0 c1 c2 c3 c4 c5 c6 c7 c8; obtain ⟨c0, c1, c2, c3, c4, c5, c6, c7, c8⟩ := hB.all9) | (refine wpList_cat (by rfl) _ _ _ _ rfl _ _ rfl rfl (by simp only [List.length_append, List.length_cons, List.length_nil]; omega) ?_))
  go_ret2
  have hb2 := hb.out
  try simp only [List.append_assoc, List.cons_append, List.nil_append] at hb2
  exact ⟨by rw [hb2]; rfl, (hB.drewN _).bl⟩
set_option maxRecDepth 100000 in
set_option maxHeartbeats 8000000 in
theorem Text_11_ff (H : TH op rd r1 r2 imm false false pred succ 11 nm l1 l2 l3 l4) (hb : Hid (r = nm ++ [32] ++ l1 ++ [44, 32, 40] ++ l2 ++ [41])) : TextG op rd r1 r2 imm false false pred succ r w := by
  obtain ⟨n0, n1, n2, n3, n4⟩ := H.n
  have hB := TB.new op rd r1 r2 imm false false pred succ w
  have hu := Tryz.underlying26
  obtain ⟨c0, c1, c2, c3, c4, c5, c6, c7, c8⟩ := hB.all9
  unfold TextG
  go_enter Tryz.func87, Tryz.ntmps87
  go_upto_region 10 with (first | (refine wpList_load_mid rfl 26 _ rfl w.heap.size 0 rfl (InsnV.cells ⟨op, rd, r1, r2, imm, false, false, pred, succ⟩).toList _ hB.c hu rfl cells_9 ?_) | (go_at_call 65; refine (H.hK _).mono ?_; rintro e w1 ⟨rfl, hb1⟩; replace hB := hB.keep hb1; clear hb1 c0 c1 c2 c3 c4 c5 c6 c7 c8; obtain ⟨c0, c1, c2, c3, c4, c5, c6, c7, c8⟩ := hB.all9) | (go_at_call 84; refine (H.hN _).mono ?_; rintro e w1 ⟨rfl, hb1⟩; replace hB := hB.keep hb1; clear hb1 c0 c1 c2 c3 c4 c5 c6 c7 c8; obtain ⟨c0, c1, c2, c3, c4, c5, c6, c7, c8⟩ := hB.all9) | (refine wpList_cat (by rfl) _ _ _ _ rfl _ _ rfl rfl (by simp only [List.length_append, List.length_cons, List.length_nil]; omega) ?_))
  go_quiet ((first | (go_at_call 113; with_reducible exact quiet_same (H.h1 _)) | (go_at_call 113; with_reducible exact quiet_same (H.h2 _)) | (go_at_call 113; with_reducible exact quiet_same (H.h3 _)) | (go_at_call 114; with_reducible exact quiet_same (H.h4 _))))
  go_wp2_with (first | (go_at_call 46; refine (H.hF _).mono ?_; rintro e w1 ⟨rfl, rfl⟩) | (go_at_call 84; refine (H.hN _).mono ?_; rintro e w1 ⟨rfl, hb1⟩; replace hB := hB.keep hb1; clear hb1 c0 c1 c2 c3 c4 c5 c6 c7 c8; obtain ⟨c0, c1, c2, c3, c4, c5, c6, c7, c8⟩ := hB.all9) | (refine wpList_cat (by rfl) _ _ _ _ rfl _ _ rfl rfl (by simp only [List.length_append, List.length_cons, List.length_nil]; omega) ?_))
  go_ret2
  have hb2 := hb.out
  try simp only [List.append_assoc, List.cons_append, List.nil_append] at hb2
  exact ⟨by rw [hb2]; rfl, (hB.drewN _).bl⟩
end
end Go.Proofs.YtcgflnkgekkidaaGreatDoor
namespace Go.Proofs.YtcgflnkgekkidaaGreatDoor
open Go.RowKit
section
variable {op rd r1 r2 imm pred succ : Int} {nm l1 l2 l3 l4 r : List UInt8} {w : World}
set_option maxRecDepth 100000 in
set_option maxHeartbeats 8000000 in
theorem Text_12_tt (H : TH op rd r1 r2 imm true true pred succ 12 nm l1 l2 l3 l4) (hb : Hid (r = nm ++ [46] ++ [97, 113] ++ [114, 108] ++ [32] ++ l1 ++ [44, 32] ++ l3 ++ [44, 32, 40] ++ l2 ++ [41])) : TextG op rd r1 r2 imm true true pred succ r w := by
  obtain ⟨n0, n1, n2, n3, n4⟩ := H.n
  have hB := TB.new op rd r1 r2 imm true true pred succ w
  have hu := Tryz.underlying26
  obtain ⟨c0, c1, c2, c3, c4, c5, c6, c7, c8⟩ := hB.all9
  unfold TextG
  go_enter Tryz.func87, Tryz.ntmps87
  go_upto_region 10 with (first | (refine wpList_load_mid rfl 26 _ rfl w.heap.size 0 rfl (InsnV.cells ⟨op, rd, r1, r2, imm, true, true, pred, succ⟩).toList _ hB.c hu rfl cells_9 ?_) | (go_at_call 65; refine (H.hK _).mono ?_; rintro e w1 ⟨rfl, hb1⟩; replace hB := hB.keep hb1; clear hb1 c0 c1 c2 c3 c4 c5 c6 c7 c8; obtain ⟨c0, c1, c2, c3, c4, c5, c6, c7, c8⟩ := hB.all9) | (go_at_call 84; refine (H.hN _).mono ?_; rintro e w1 ⟨rfl, hb1⟩; replace hB := hB.keep hb1; clear hb1 c0 c1 c2 c3 c4 c5 c6 c7 c8; obtain ⟨c0, c1, c2, c3, c4, c5, c6, c7, c8⟩ := hB.all9) | (refine wpList_cat (by rfl) _ _ _ _ rfl _ _ rfl rfl (by simp only [List.length_append, List.length_cons, List.length_nil]; omega) ?_))
  go_quiet ((first | (go_at_call 113; with_reducible exact quiet_same (H.h1 _)) | (go_at_call 113; with_reducible exact quiet_same (H.h2 _)) | (go_at_call 113; with_reducible exact quiet_same (H.h3 _)) | (go_at_call 114; with_reducible exact quiet_same (H.h4 _))))
  go_wp2_with (first | (go_at_call 46; refine (H.hF _).mono ?_; rintro e w1 ⟨rfl, rfl⟩) | (go_at_call 84; refine (H.hN _).mono ?_; rintro e w1 ⟨rfl, hb1⟩; replace hB := hB.keep hb1; clear hb1 c0 c1 c2 c3 c4 c5 c6 c7 c8; obtain ⟨c0, c1, c2, c3, c4, c5, c6, c7, c8⟩ := hB.all9) | (refine wpList_cat (by rfl) _ _ _ _ rfl _ _ rfl rfl (by simp only [List.length_append, List.length_cons, List.length_nil]; omega) ?_))
  go_ret2
  have hb2 := hb.out
  try simp only [List.append_assoc, List.cons_append, List.nil_append] at hb2
  exact ⟨by rw [hb2]; rfl, (hB.drewN _).bl⟩
set_option maxRecDepth 100000 in
set_option maxHeartbeats 8000000 in
theorem Text_12_tf (H : TH op rd r1 r2 imm true false pred succ 12 nm l1 l2 l3 l4) (hb : Hid (r = nm ++ [46] ++ [97, 113] ++ [32] ++ l1 ++ [44, 32] ++ l3 ++ [44, 32, 40] ++ l2 ++ [41])) : TextG op rd r1 r2 imm true false pred succ r w := by
  obtain ⟨n0, n1, n2, n3, n4⟩ := H.n
  have hB := TB.new op rd r1 r2 imm true false pred succ w
  have hu := Tryz.underlying26
  obtain ⟨c0, c1, c2, c3, c4, c5, c6, c7, c8⟩ := hB.all9
  unfold TextG
  go_enter Tryz.func87, Tryz.ntmps87
  go_upto_region 10 with (first | (refine wpList_load_mid rfl 26 _ rfl w.heap.size 0 rfl (InsnV.cells ⟨op, rd, r1, r2, imm, true, false, pred, succ⟩).toList _ hB.c hu rfl cells_9 ?_) | (go_at_call 65; refine (H.hK _).mono ?_; rintro e w1 ⟨rfl, hb1⟩; replace hB := hB.keep hb1; clear hb1 c0 c1 c2 c3 c4 c5 c6 c7 c8; obtain ⟨c0, c1, c2, c3, c4, c5, c6, c7, c8⟩ := hB.all9) | (go_at_call 84; refine (H.hN _).mono ?_; rintro e w1 ⟨rfl, hb1⟩; replace hB := hB.keep hb1; clear hb1 c0 c1 c2 c3 c4 c5 c6 c7 c8; obtain ⟨c0, c1, c2, c3, c4, c5, c6, c7, c8⟩ := hB.all9) | (refine wpList_cat (by rfl) _ _ _ _ rfl _ _ rfl rfl (by simp only [List.length_append, List.length_cons, List.length_nil]; omega) ?_))
  go_quiet ((first | (go_at_call 113; with_reducible exact quiet_same (H.h1 _)) | (go_at_call 113; with_reducible exact quiet_same (H.h2 _)) | (go_at_call 113; with_reducible exact quiet_same (H.h3 _)) | (go_at_call 114; with_reducible exact quiet_same (H.h4 _))))
  go_wp2_with (first | (go_at_call 46; refine (H.hF _).mono ?_; rintro e w1 ⟨rfl, rfl⟩) | (go_at_call 84; refine (H.hN _).mono ?_; rintro e w1 ⟨rfl, hb1⟩; replace hB := hB.keep hb1; clear hb1 c0 c1 c2 c3 c4 c5 c6 c7 c8; obtain ⟨c0, c1, c2, c3, c4, c5, c6, c7, c8⟩ := hB.all9) | (refine wpList_cat (by rfl) _ _ _ _ rfl _ _ rfl rfl (by simp only [List.length_append, List.length_cons, List.length_nil]; omega) ?_))
  go_ret2
  have hb2 := hb.out
  try simp only [List.append_assoc, List.cons_append, List.nil_append] at hb2
  exact ⟨by rw [hb2]; rfl, (hB.drewN _).bl⟩
set_option maxRecDepth 100000 in
set_option maxHeartbeats 8000000 in
theorem Text_12_ft (H : TH op rd r1 r2 imm false true pred succ 12 nm l1 l2 l3 l4) (hb : Hid (r = nm ++ [46] ++ [114, 108] ++ [32] ++ l1 ++ [44, 32] ++ l3 ++ [44, 32, 40] ++ l2 ++ [41])) : TextG op rd r1 r2 imm false true pred succ r w := by
  obtain ⟨n0, n1, n2, n3, n4⟩ := H.n
  have hB := TB.new op rd r1 r2 imm false true pred succ w
  have hu := Tryz.underlying26
  obtain ⟨c0, c1, c2, c3, c4, c5, c6, c7, c8⟩ := hB.all9
  unfold TextG
  go_enter Tryz.func87, Tryz.ntmps87
  go_upto_region 10 with (first | (refine wpList_load_mid rfl 26 _ rfl w.heap.size 0 rfl (InsnV.cells ⟨op, rd, r1, r2, imm, false, true, pred, succ⟩).toList _ hB.c hu rfl cells_9 ?_) | (go_at_call 65; refine (H.hK _).mono ?_; rintro e w1 ⟨rfl, hb1⟩; replace hB := hB.keep hb1; clear hb1 c0 c1 c2 c3 c4 c5 c6 c7 c8; obtain ⟨c0, c1, c2, c3, c4, c5, c6, c7, c8⟩ := hB.all9) | (go_at_call 84; refine (H.hN _).mono ?_; rintro e w1 ⟨rfl, hb1⟩; replace hB := hB.keep hb1; clear hb1 c0 c1 c2 c3 c4 c5 c6 c7 c8; obtain ⟨c0, c1, c2, c3, c4, c5, c6, c7, c8⟩ := hB.all9) | (refine wpList_cat (by rfl) _ _ _ _ rfl _ _ rfl rfl (by simp only [List.length_append, List.length_cons, List.length_nil]; omega) ?_))
  go_quiet ((first | (go_at_call 113; with_reducible exact quiet_same (H.h1 _)) | (go_at_call 113; with_reducible exact quiet_same (H.h2 _)) | (go_at_call 113; with_reducible exact quiet_same (H.h3 _)) | (go_at_call 114; with_reducible exact quiet_same (H.h4 _))))
  go_wp2_with (first | (go_at_call 46; refine (H.hF _).mono ?_; rintro e w1 ⟨rfl, rfl⟩) | (go_at_call 84; refine (H.hN _).mono ?_; rintro e w1 ⟨rfl, hb1⟩; replace hB := hB.keep hb1; clear hb1 c0 c1 c2 c3 c4 c5 c6 c7 c8; obtain ⟨c0, c1, c2, c3, c4, c5, c6, c7, c8⟩ := hB.all9) | (refine wpList_cat (by rfl) _ _ _ _ rfl _ _ rfl rfl (by simp only [List.length_append, List.length_cons, List.length_nil]; omega) ?_))
  go_ret2
  have hb2 := hb.out
  try simp only [List.append_assoc, List.cons_append, List.nil_append] at hb2
  exact ⟨by rw [hb2]; rfl, (hB.drewN _).bl⟩
set_option maxRecDepth 100000 in
set_option maxHeartbeats 8000000 in
theorem Text_12_ff (H : TH op rd r1 r2 imm false false pred succ 12 nm l1 l2 l3 l4) (hb : Hid (r = nm ++ [32] ++ l1 ++ [44, 32] ++ l3 ++ [44, 32, 40] ++ l2 ++ [41])) : TextG op rd r1 r2 imm false false pred succ r w := by
  obtain ⟨n0, n1, n2, n3, n4⟩ := H.n
  have hB := TB.new op rd r1 r2 imm false false pred succ w
  have hu := Tryz.underlying26
  obtain ⟨c0, c1, c2, c3, c4, c5, c6, c7, c8⟩ := hB.all9
  unfold TextG
  go_enter Tryz.func87, Tryz.ntmps87
  go_upto_region 10 with (first | (refine wpList_load_mid rfl 26 _ rfl w.heap.size 0 rfl (InsnV.cells ⟨op, rd, r1, r2, imm, false, false, pred, succ⟩).toList _ hB.c hu rfl cells_9 ?_) | (go_at_call 65; refine (H.hK _).mono ?_; rintro e w1 ⟨rfl, hb1⟩; replace hB := hB.keep hb1; clear hb1 c0 c1 c2 c3 c4 c5 c6 c7 c8; obtain ⟨c0, c1, c2, c3, c4, c5, c6, c7, c8⟩ := hB.all9) | (go_at_call 84; refine (H.hN _).mono ?_; rintro e w1 ⟨rfl, hb1⟩; replace hB := hB.keep hb1; clear hb1 c0 c1 c2 c3 c4 c5 c6 c7 c8; obtain ⟨c0, c1, c2, c3, c4, c5, c6, c7, c8⟩ := hB.all9) | (refine wpList_cat (by rfl) _ _ _ _ rfl _ _ rfl rfl (by simp only [List.length_append, List.length_cons, List.length_nil]; omega) ?_))
  go_quiet ((first | (go_at_call 113; with_reducible exact quiet_same (H.h1 _)) | (go_at_call 113; with_reducible exact quiet_same (H.h2 _)) | (go_at_call 113; with_reducible exact quiet_same (H.h3 _)) | (go_at_call 114; with_reducible exact quiet_same (H.h4 _))))
  go_wp2_with (first | (go_at_call 46; refine (H.hF _).mono ?_; rintro e w1 ⟨rfl, rfl⟩) | (go_at_call 84; refine (H.hN _).mono ?_; rintro e w1 ⟨rfl, hb1⟩; replace hB := hB.keep hb1; clear hb1 c0 c1 c2 c3 c4 c5 c6 c7 c8; obtain ⟨c0, c1, c2, c3, c4, c5, c6, c7, c8⟩ := hB.all9) | (refine wpList_cat (by rfl) _ _ _ _ rfl _ _ rfl rfl (by simp only [List.length_append, List.length_cons, List.length_nil]; omega) ?_))
  go_ret2
  have hb2 := hb.out
  try simp only [List.append_assoc, List.cons_append, List.nil_append] at hb2
  exact ⟨by rw [hb2]; rfl, (hB.drewN _).bl⟩
end
end Go.Proofs.YtcgflnkgekkidaaGreatDoor
namespace Go.Proofs.YtcgflnkgekkidaaGreatDoor
open Go.RowKit
theorem R2Text_any (i : InsnV) (him : -9223372036854775808 ≤ i.imm ∧ i.imm ≤ 9223372036854775807) (w : World) :
    Calls Tryz.prog 87 #[.agg i.cells] w fun e w' => e = .returned (.tuple #[.string ⟨(textT i).toArray⟩, .int .i64 (checkE i)]) ∧ Below w.heap.size w w' := by
  by_cases hc : checkE i = 0
  · have ht : textT i = bodyT i := if_pos hc
    rw [ht, hc]
    obtain ⟨-, -, -, g4, g5, g6, h1, h2⟩ := ok_facts i hc
    obtain ⟨op, rd, r1, r2, imm, aq, rl, pred, succ⟩ := i
    simp only at him h1 h2 g4 g5 g6
    show TextG op rd r1 r2 imm aq rl pred succ (bodyT ⟨op, rd, r1, r2, imm, aq, rl, pred, succ⟩) w
    have hno : (opOf op).form ≠ 11 → (opOf op).form ≠ 12 → aq = false ∧ rl = false := fun a b => (g6.resolve_left a).resolve_left b
    rcases (show (opOf op).form = 1 ∨ (opOf op).form = 2 ∨ (opOf op).form = 3 ∨ (opOf op).form = 4 ∨ (opOf op).form = 5 ∨ (opOf op).form = 6 ∨ (opOf op).form = 7 ∨ (opOf op).form = 8 ∨ (opOf op).form = 9 ∨ (opOf op).form = 10 ∨ (opOf op).form = 11 ∨ (opOf op).form = 12 by omega) with hf | hf | hf | hf | hf | hf | hf | hf | hf | hf | hf | hf
    · obtain ⟨rfl, rfl⟩ := hno (by omega) (by omega)
      exact Text_1 (TH_of hc hf him) (Lib.hid (by unfold bodyT; simp only [hf]; rfl))
    · obtain ⟨rfl, rfl⟩ := hno (by omega) (by omega)
      exact Text_2 (TH_of hc hf him) (Lib.hid (by unfold bodyT; simp only [hf]; rfl))
    · obtain ⟨rfl, rfl⟩ := hno (by omega) (by omega)
      by_cases hj : op = 4
      · exact Text_3j (TH_of hc hf him) (Lib.hid (by unfold bodyT; simp only [hf]; simp only [hj]; rfl)) (by simpa using hj)
      · exact Text_3n (TH_of hc hf him) (Lib.hid (by unfold bodyT; simp only [hf]; simp only [if_neg hj]; rfl)) (by simpa using hj)
    · obtain ⟨rfl, rfl⟩ := hno (by omega) (by omega)
      exact Text_4 (TH_of hc hf him) (Lib.hid (by unfold bodyT; simp only [hf]; rfl))
    · obtain ⟨rfl, rfl⟩ := hno (by omega) (by omega)
      exact Text_5 (TH_of hc hf him) (Lib.hid (by unfold bodyT; simp only [hf]; rfl))
    · obtain ⟨rfl, rfl⟩ := hno (by omega) (by omega)
      exact Text_6 (TH_of hc hf him) (Lib.hid (by unfold bodyT; simp only [hf]; rfl))
    · obtain ⟨rfl, rfl⟩ := hno (by omega) (by omega)
      have hj : op ≠ 4 := fun e => by rw [e] at hf; revert hf; decide +kernel
      exact Text_7n (TH_of hc hf him) (Lib.hid (by unfold bodyT; simp only [hf]; simp only [if_neg hj]; rfl)) (by simpa using hj)
    · obtain ⟨rfl, rfl⟩ := hno (by omega) (by omega)
      exact Text_8 (TH_of hc hf him) (Lib.hid (by unfold bodyT; simp only [hf]; rfl))
    · obtain ⟨rfl, rfl⟩ := hno (by omega) (by omega)
      obtain ⟨a, rfl⟩ := Int.eq_ofNat_of_zero_le g4.1
      obtain ⟨b, rfl⟩ := Int.eq_ofNat_of_zero_le g5.1
      exact Text_9 a b _ _ (TH_of hc hf him) (Lib.hid (by unfold bodyT; simp only [hf]; rfl)) (partT_len a) (partT_len b) (Lib.hid fun W => Parts_any a (by omega) W) (Lib.hid fun W => Parts_any b (by omega) W)
    · obtain ⟨rfl, rfl⟩ := hno (by omega) (by omega)
      exact Text_10 (TH_of hc hf him) (Lib.hid (by unfold bodyT; simp only [hf]; rfl))
    · cases aq <;> cases rl
      · exact Text_11_ff (TH_of hc hf him) (Lib.hid (by unfold bodyT; simp only [hf]; rfl))
      · exact Text_11_ft (TH_of hc hf him) (Lib.hid (by unfold bodyT; simp only [hf]; rfl))
      · exact Text_11_tf (TH_of hc hf him) (Lib.hid (by unfold bodyT; simp only [hf]; rfl))
      · exact Text_11_tt (TH_of hc hf him) (Lib.hid (by unfold bodyT; simp only [hf]; rfl))
    · cases aq <;> cases rl
      · exact Text_12_ff (TH_of hc hf him) (Lib.hid (by unfold bodyT; simp only [hf]; rfl))
      · exact Text_12_ft (TH_of hc hf him) (Lib.hid (by unfold bodyT; simp only [hf]; rfl))
      · exact Text_12_tf (TH_of hc hf him) (Lib.hid (by unfold bodyT; simp only [hf]; rfl))
      · exact Text_12_tt (TH_of hc hf him) (Lib.hid (by unfold bodyT; simp only [hf]; rfl))
  · have ht : textT i = [] := if_neg hc
    have h2 : checkE i = 2 := by unfold checkE at hc ⊢; cases hk : checkOk i <;> simp_all
    rw [ht, h2]
    obtain ⟨op, rd, r1, r2, imm, aq, rl, pred, succ⟩ := i
    exact Text_no op rd r1 r2 imm aq rl pred succ w hc
end Go.Proofs.YtcgflnkgekkidaaGreatDoor
