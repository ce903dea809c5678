/- The walks of package code's takes: each puts a part of a word into an instruction's place. Conditions: the fields' places lie as their initialisers lay them; the pointer is an instruction's. -/
import Derived.Test.YtdbpnbmaineniaaGreatDoorCodeB
import Derived.Test.YtdbpnbmaineniaaGreatDoorCodeA
import Derived.Test.YtdbpnbmaineniaaGreatDoorInsnKn
import Derived.Deep.MidRow
import Derived.Deep.RegionHeld
set_option linter.unusedSimpArgs false
namespace Go.Proofs.YtdbpnbmaineniaaGreatDoor
open Go.RowKit
attribute [local go_sem] wrap_u64_bv bv_un bv_sn wrap_i64_un un_beq
theorem Fget_any (a n : Int) (x : BitVec 64) (w : World) : Calls Tryz.prog 148 #[.agg #[.int .i64 a, .int .i64 n], .int .u64 (un x)] w fun e w' => e = .returned (.int .i64 (sn (Part x a n))) ∧ Below w.heap.size w w' := by
  go_enter Tryz.func148, Tryz.ntmps148
  go_wp2_with (go_at_call 115; refine (Part_any _ _ _ _).mono ?_; rintro e w' ⟨rfl, rfl⟩)
  go_ret
  exact ⟨rfl, (Below.refl _ _).alloc (Nat.le_refl _) _⟩
theorem far_cell {w w' : World} {row : Option Nat} (hg : w.grownBy w' row) (a : Addr) (hlt : a.block < w.heap.size) (hne : some a.block ≠ row) : w'.cell? a = w.cell? a := World.cell?_of_block (hg.block a.block hlt hne)
theorem far_frozen {w w' : World} {row : Option Nat} (hg : w.grownBy w' row) (a : Addr) (hlt : a.block < w.heap.size) (hne : some a.block ≠ row) : w'.frozen? a = w.frozen? a := by
  unfold World.frozen?; rw [hg.block a.block hlt hne]
/-- Block B is an instruction's, and may be written. -/
structure Bx (w : World) (B : Nat) (i : InsnV) : Prop where
  c0 : w.cell? ⟨B, 0, none⟩ = some (.int .i64 i.op)
  c1 : w.cell? ⟨B, 1, none⟩ = some (.int .i64 i.rd)
  c2 : w.cell? ⟨B, 2, none⟩ = some (.int .i64 i.rs1)
  c3 : w.cell? ⟨B, 3, none⟩ = some (.int .i64 i.rs2)
  c4 : w.cell? ⟨B, 4, none⟩ = some (.int .i64 i.imm)
  c5 : w.cell? ⟨B, 5, none⟩ = some (.bool i.aq)
  c6 : w.cell? ⟨B, 6, none⟩ = some (.bool i.rl)
  c7 : w.cell? ⟨B, 7, none⟩ = some (.int .i64 i.pred)
  c8 : w.cell? ⟨B, 8, none⟩ = some (.int .i64 i.succ)
  f0 : w.frozen? ⟨B, 0, none⟩ = false
  f1 : w.frozen? ⟨B, 1, none⟩ = false
  f2 : w.frozen? ⟨B, 2, none⟩ = false
  f3 : w.frozen? ⟨B, 3, none⟩ = false
  f4 : w.frozen? ⟨B, 4, none⟩ = false
  f5 : w.frozen? ⟨B, 5, none⟩ = false
  f6 : w.frozen? ⟨B, 6, none⟩ = false
  f7 : w.frozen? ⟨B, 7, none⟩ = false
  f8 : w.frozen? ⟨B, 8, none⟩ = false
  lt : B < w.heap.size
theorem Bx.grown {w w' : World} {B : Nat} {i : InsnV} {row : Option Nat} (h : Bx w B i) (hg : w.grownBy w' row) (hne : some B ≠ row) : Bx w' B i :=
  ⟨(far_cell hg ⟨B, 0, none⟩ h.lt hne).trans h.c0, (far_cell hg ⟨B, 1, none⟩ h.lt hne).trans h.c1, (far_cell hg ⟨B, 2, none⟩ h.lt hne).trans h.c2, (far_cell hg ⟨B, 3, none⟩ h.lt hne).trans h.c3, (far_cell hg ⟨B, 4, none⟩ h.lt hne).trans h.c4, (far_cell hg ⟨B, 5, none⟩ h.lt hne).trans h.c5, (far_cell hg ⟨B, 6, none⟩ h.lt hne).trans h.c6, (far_cell hg ⟨B, 7, none⟩ h.lt hne).trans h.c7, (far_cell hg ⟨B, 8, none⟩ h.lt hne).trans h.c8, (far_frozen hg ⟨B, 0, none⟩ h.lt hne).trans h.f0, (far_frozen hg ⟨B, 1, none⟩ h.lt hne).trans h.f1, (far_frozen hg ⟨B, 2, none⟩ h.lt hne).trans h.f2, (far_frozen hg ⟨B, 3, none⟩ h.lt hne).trans h.f3, (far_frozen hg ⟨B, 4, none⟩ h.lt hne).trans h.f4, (far_frozen hg ⟨B, 5, none⟩ h.lt hne).trans h.f5, (far_frozen hg ⟨B, 6, none⟩ h.lt hne).trans h.f6, (far_frozen hg ⟨B, 7, none⟩ h.lt hne).trans h.f7, (far_frozen hg ⟨B, 8, none⟩ h.lt hne).trans h.f8, Nat.lt_of_lt_of_le h.lt hg.size⟩
theorem Bx.keep {w w' : World} {B : Nat} {i : InsnV} (h : Bx w B i) (hb : Below w.heap.size w w') : Bx w' B i := h.grown (grown_below hb none) (by simp)
theorem Flds.grown {w w' : World} {B : Nat} (h : Flds w) (hg : w.grownBy w' (some B)) (hF3 : 0 ≠ B) (hRd : 1 ≠ B) (hRs1 : 2 ≠ B) (hRs2 : 3 ≠ B) (hF7 : 4 ≠ B) (hSix : 5 ≠ B) (hPred : 6 ≠ B) (hSucc : 7 ≠ B) : Flds w' :=
  ⟨Nat.lt_of_lt_of_le h.lF3 hg.size, (far_cell hg ⟨0, 0, none⟩ h.lF3 (fun e => hF3 (Option.some.inj e))).trans h.aF3, (far_cell hg ⟨0, 1, none⟩ h.lF3 (fun e => hF3 (Option.some.inj e))).trans h.nF3, Nat.lt_of_lt_of_le h.lRd hg.size, (far_cell hg ⟨1, 0, none⟩ h.lRd (fun e => hRd (Option.some.inj e))).trans h.aRd, (far_cell hg ⟨1, 1, none⟩ h.lRd (fun e => hRd (Option.some.inj e))).trans h.nRd, Nat.lt_of_lt_of_le h.lRs1 hg.size, (far_cell hg ⟨2, 0, none⟩ h.lRs1 (fun e => hRs1 (Option.some.inj e))).trans h.aRs1, (far_cell hg ⟨2, 1, none⟩ h.lRs1 (fun e => hRs1 (Option.some.inj e))).trans h.nRs1, Nat.lt_of_lt_of_le h.lRs2 hg.size, (far_cell hg ⟨3, 0, none⟩ h.lRs2 (fun e => hRs2 (Option.some.inj e))).trans h.aRs2, (far_cell hg ⟨3, 1, none⟩ h.lRs2 (fun e => hRs2 (Option.some.inj e))).trans h.nRs2, Nat.lt_of_lt_of_le h.lF7 hg.size, (far_cell hg ⟨4, 0, none⟩ h.lF7 (fun e => hF7 (Option.some.inj e))).trans h.aF7, (far_cell hg ⟨4, 1, none⟩ h.lF7 (fun e => hF7 (Option.some.inj e))).trans h.nF7, Nat.lt_of_lt_of_le h.lSix hg.size, (far_cell hg ⟨5, 0, none⟩ h.lSix (fun e => hSix (Option.some.inj e))).trans h.aSix, (far_cell hg ⟨5, 1, none⟩ h.lSix (fun e => hSix (Option.some.inj e))).trans h.nSix, Nat.lt_of_lt_of_le h.lPred hg.size, (far_cell hg ⟨6, 0, none⟩ h.lPred (fun e => hPred (Option.some.inj e))).trans h.aPred, (far_cell hg ⟨6, 1, none⟩ h.lPred (fun e => hPred (Option.some.inj e))).trans h.nPred, Nat.lt_of_lt_of_le h.lSucc hg.size, (far_cell hg ⟨7, 0, none⟩ h.lSucc (fun e => hSucc (Option.some.inj e))).trans h.aSucc, (far_cell hg ⟨7, 1, none⟩ h.lSucc (fun e => hSucc (Option.some.inj e))).trans h.nSucc⟩
theorem grown_set (w : World) (B o : Nat) (v : Value) : w.grownBy (w.setCell ⟨B, o, none⟩ v) (some B) := by
  exact ⟨rfl, rfl, rfl, by simp [World.setCell], fun k hk hne => Below.heap_setCell _ _ _ _ (fun e => hne (congrArg some e))⟩
theorem Bx.put0 {w : World} {B : Nat} {i : InsnV} (h : Bx w B i) (v : Int) : Bx (w.setCell ⟨B, 0, none⟩ (.int .i64 v)) B { i with op := v } :=
  ⟨World.cell?_setCell_same _ _ _ h.c0, (World.cell?_setCell_other _ _ _ _ (by simp)).trans h.c1, (World.cell?_setCell_other _ _ _ _ (by simp)).trans h.c2, (World.cell?_setCell_other _ _ _ _ (by simp)).trans h.c3, (World.cell?_setCell_other _ _ _ _ (by simp)).trans h.c4, (World.cell?_setCell_other _ _ _ _ (by simp)).trans h.c5, (World.cell?_setCell_other _ _ _ _ (by simp)).trans h.c6, (World.cell?_setCell_other _ _ _ _ (by simp)).trans h.c7, (World.cell?_setCell_other _ _ _ _ (by simp)).trans h.c8, (by simpa using h.f0), (by simpa using h.f1), (by simpa using h.f2), (by simpa using h.f3), (by simpa using h.f4), (by simpa using h.f5), (by simpa using h.f6), (by simpa using h.f7), (by simpa using h.f8), by simpa using h.lt⟩
theorem Bx.put1 {w : World} {B : Nat} {i : InsnV} (h : Bx w B i) (v : Int) : Bx (w.setCell ⟨B, 1, none⟩ (.int .i64 v)) B { i with rd := v } :=
  ⟨(World.cell?_setCell_other _ _ _ _ (by simp)).trans h.c0, World.cell?_setCell_same _ _ _ h.c1, (World.cell?_setCell_other _ _ _ _ (by simp)).trans h.c2, (World.cell?_setCell_other _ _ _ _ (by simp)).trans h.c3, (World.cell?_setCell_other _ _ _ _ (by simp)).trans h.c4, (World.cell?_setCell_other _ _ _ _ (by simp)).trans h.c5, (World.cell?_setCell_other _ _ _ _ (by simp)).trans h.c6, (World.cell?_setCell_other _ _ _ _ (by simp)).trans h.c7, (World.cell?_setCell_other _ _ _ _ (by simp)).trans h.c8, (by simpa using h.f0), (by simpa using h.f1), (by simpa using h.f2), (by simpa using h.f3), (by simpa using h.f4), (by simpa using h.f5), (by simpa using h.f6), (by simpa using h.f7), (by simpa using h.f8), by simpa using h.lt⟩
theorem Bx.put2 {w : World} {B : Nat} {i : InsnV} (h : Bx w B i) (v : Int) : Bx (w.setCell ⟨B, 2, none⟩ (.int .i64 v)) B { i with rs1 := v } :=
  ⟨(World.cell?_setCell_other _ _ _ _ (by simp)).trans h.c0, (World.cell?_setCell_other _ _ _ _ (by simp)).trans h.c1, World.cell?_setCell_same _ _ _ h.c2, (World.cell?_setCell_other _ _ _ _ (by simp)).trans h.c3, (World.cell?_setCell_other _ _ _ _ (by simp)).trans h.c4, (World.cell?_setCell_other _ _ _ _ (by simp)).trans h.c5, (World.cell?_setCell_other _ _ _ _ (by simp)).trans h.c6, (World.cell?_setCell_other _ _ _ _ (by simp)).trans h.c7, (World.cell?_setCell_other _ _ _ _ (by simp)).trans h.c8, (by simpa using h.f0), (by simpa using h.f1), (by simpa using h.f2), (by simpa using h.f3), (by simpa using h.f4), (by simpa using h.f5), (by simpa using h.f6), (by simpa using h.f7), (by simpa using h.f8), by simpa using h.lt⟩
theorem Bx.put3 {w : World} {B : Nat} {i : InsnV} (h : Bx w B i) (v : Int) : Bx (w.setCell ⟨B, 3, none⟩ (.int .i64 v)) B { i with rs2 := v } :=
  ⟨(World.cell?_setCell_other _ _ _ _ (by simp)).trans h.c0, (World.cell?_setCell_other _ _ _ _ (by simp)).trans h.c1, (World.cell?_setCell_other _ _ _ _ (by simp)).trans h.c2, World.cell?_setCell_same _ _ _ h.c3, (World.cell?_setCell_other _ _ _ _ (by simp)).trans h.c4, (World.cell?_setCell_other _ _ _ _ (by simp)).trans h.c5, (World.cell?_setCell_other _ _ _ _ (by simp)).trans h.c6, (World.cell?_setCell_other _ _ _ _ (by simp)).trans h.c7, (World.cell?_setCell_other _ _ _ _ (by simp)).trans h.c8, (by simpa using h.f0), (by simpa using h.f1), (by simpa using h.f2), (by simpa using h.f3), (by simpa using h.f4), (by simpa using h.f5), (by simpa using h.f6), (by simpa using h.f7), (by simpa using h.f8), by simpa using h.lt⟩
theorem Bx.put4 {w : World} {B : Nat} {i : InsnV} (h : Bx w B i) (v : Int) : Bx (w.setCell ⟨B, 4, none⟩ (.int .i64 v)) B { i with imm := v } :=
  ⟨(World.cell?_setCell_other _ _ _ _ (by simp)).trans h.c0, (World.cell?_setCell_other _ _ _ _ (by simp)).trans h.c1, (World.cell?_setCell_other _ _ _ _ (by simp)).trans h.c2, (World.cell?_setCell_other _ _ _ _ (by simp)).trans h.c3, World.cell?_setCell_same _ _ _ h.c4, (World.cell?_setCell_other _ _ _ _ (by simp)).trans h.c5, (World.cell?_setCell_other _ _ _ _ (by simp)).trans h.c6, (World.cell?_setCell_other _ _ _ _ (by simp)).trans h.c7, (World.cell?_setCell_other _ _ _ _ (by simp)).trans h.c8, (by simpa using h.f0), (by simpa using h.f1), (by simpa using h.f2), (by simpa using h.f3), (by simpa using h.f4), (by simpa using h.f5), (by simpa using h.f6), (by simpa using h.f7), (by simpa using h.f8), by simpa using h.lt⟩
theorem Bx.put5 {w : World} {B : Nat} {i : InsnV} (h : Bx w B i) (v : Bool) : Bx (w.setCell ⟨B, 5, none⟩ (.bool v)) B { i with aq := v } :=
  ⟨(World.cell?_setCell_other _ _ _ _ (by simp)).trans h.c0, (World.cell?_setCell_other _ _ _ _ (by simp)).trans h.c1, (World.cell?_setCell_other _ _ _ _ (by simp)).trans h.c2, (World.cell?_setCell_other _ _ _ _ (by simp)).trans h.c3, (World.cell?_setCell_other _ _ _ _ (by simp)).trans h.c4, World.cell?_setCell_same _ _ _ h.c5, (World.cell?_setCell_other _ _ _ _ (by simp)).trans h.c6, (World.cell?_setCell_other _ _ _ _ (by simp)).trans h.c7, (World.cell?_setCell_other _ _ _ _ (by simp)).trans h.c8, (by simpa using h.f0), (by simpa using h.f1), (by simpa using h.f2), (by simpa using h.f3), (by simpa using h.f4), (by simpa using h.f5), (by simpa using h.f6), (by simpa using h.f7), (by simpa using h.f8), by simpa using h.lt⟩
theorem Bx.put6 {w : World} {B : Nat} {i : InsnV} (h : Bx w B i) (v : Bool) : Bx (w.setCell ⟨B, 6, none⟩ (.bool v)) B { i with rl := v } :=
  ⟨(World.cell?_setCell_other _ _ _ _ (by simp)).trans h.c0, (World.cell?_setCell_other _ _ _ _ (by simp)).trans h.c1, (World.cell?_setCell_other _ _ _ _ (by simp)).trans h.c2, (World.cell?_setCell_other _ _ _ _ (by simp)).trans h.c3, (World.cell?_setCell_other _ _ _ _ (by simp)).trans h.c4, (World.cell?_setCell_other _ _ _ _ (by simp)).trans h.c5, World.cell?_setCell_same _ _ _ h.c6, (World.cell?_setCell_other _ _ _ _ (by simp)).trans h.c7, (World.cell?_setCell_other _ _ _ _ (by simp)).trans h.c8, (by simpa using h.f0), (by simpa using h.f1), (by simpa using h.f2), (by simpa using h.f3), (by simpa using h.f4), (by simpa using h.f5), (by simpa using h.f6), (by simpa using h.f7), (by simpa using h.f8), by simpa using h.lt⟩
theorem Bx.put7 {w : World} {B : Nat} {i : InsnV} (h : Bx w B i) (v : Int) : Bx (w.setCell ⟨B, 7, none⟩ (.int .i64 v)) B { i with pred := v } :=
  ⟨(World.cell?_setCell_other _ _ _ _ (by simp)).trans h.c0, (World.cell?_setCell_other _ _ _ _ (by simp)).trans h.c1, (World.cell?_setCell_other _ _ _ _ (by simp)).trans h.c2, (World.cell?_setCell_other _ _ _ _ (by simp)).trans h.c3, (World.cell?_setCell_other _ _ _ _ (by simp)).trans h.c4, (World.cell?_setCell_other _ _ _ _ (by simp)).trans h.c5, (World.cell?_setCell_other _ _ _ _ (by simp)).trans h.c6, World.cell?_setCell_same _ _ _ h.c7, (World.cell?_setCell_other _ _ _ _ (by simp)).trans h.c8, (by simpa using h.f0), (by simpa using h.f1), (by simpa using h.f2), (by simpa using h.f3), (by simpa using h.f4), (by simpa using h.f5), (by simpa using h.f6), (by simpa using h.f7), (by simpa using h.f8), by simpa using h.lt⟩
theorem Bx.put8 {w : World} {B : Nat} {i : InsnV} (h : Bx w B i) (v : Int) : Bx (w.setCell ⟨B, 8, none⟩ (.int .i64 v)) B { i with succ := v } :=
  ⟨(World.cell?_setCell_other _ _ _ _ (by simp)).trans h.c0, (World.cell?_setCell_other _ _ _ _ (by simp)).trans h.c1, (World.cell?_setCell_other _ _ _ _ (by simp)).trans h.c2, (World.cell?_setCell_other _ _ _ _ (by simp)).trans h.c3, (World.cell?_setCell_other _ _ _ _ (by simp)).trans h.c4, (World.cell?_setCell_other _ _ _ _ (by simp)).trans h.c5, (World.cell?_setCell_other _ _ _ _ (by simp)).trans h.c6, (World.cell?_setCell_other _ _ _ _ (by simp)).trans h.c7, World.cell?_setCell_same _ _ _ h.c8, (by simpa using h.f0), (by simpa using h.f1), (by simpa using h.f2), (by simpa using h.f3), (by simpa using h.f4), (by simpa using h.f5), (by simpa using h.f6), (by simpa using h.f7), (by simpa using h.f8), by simpa using h.lt⟩
theorem TakeRd_any (x : BitVec 64) (B : Nat) (i : InsnV) (w : World) (hfl : Flds w) (hB : Bx w B i) : Calls Tryz.prog 106 #[.int .u64 (un x), .pointer (some ⟨B, 0, none⟩)] w fun e w' => e = .returned (.tuple #[]) ∧ Bx w' B { i with rd := sn (Part x 7 5) } ∧ w.grownBy w' (some B) := by
  have ha := hfl.aRd
  have hn := hfl.nRd
  go_enter Tryz.func106, Tryz.ntmps106
  go_wp2_with (go_at_call 148; refine (Fget_any 7 5 x _).mono ?_; rintro e w1 ⟨rfl, hb1⟩; have hB1 := hB.keep hb1; have c1 := hB1.c1; have f1 := hB1.f1)
  go_end0
  exact ⟨rfl, hB1.put1 _, grown_trans (grown_below hb1 _) (grown_set _ _ _ _)⟩
theorem TakeRs1_any (x : BitVec 64) (B : Nat) (i : InsnV) (w : World) (hfl : Flds w) (hB : Bx w B i) : Calls Tryz.prog 108 #[.int .u64 (un x), .pointer (some ⟨B, 0, none⟩)] w fun e w' => e = .returned (.tuple #[]) ∧ Bx w' B { i with rs1 := sn (Part x 15 5) } ∧ w.grownBy w' (some B) := by
  have ha := hfl.aRs1
  have hn := hfl.nRs1
  go_enter Tryz.func108, Tryz.ntmps108
  go_wp2_with (go_at_call 148; refine (Fget_any 15 5 x _).mono ?_; rintro e w1 ⟨rfl, hb1⟩; have hB1 := hB.keep hb1; have c1 := hB1.c2; have f1 := hB1.f2)
  go_end0
  exact ⟨rfl, hB1.put2 _, grown_trans (grown_below hb1 _) (grown_set _ _ _ _)⟩
theorem TakeRs2_any (x : BitVec 64) (B : Nat) (i : InsnV) (w : World) (hfl : Flds w) (hB : Bx w B i) : Calls Tryz.prog 110 #[.int .u64 (un x), .pointer (some ⟨B, 0, none⟩)] w fun e w' => e = .returned (.tuple #[]) ∧ Bx w' B { i with rs2 := sn (Part x 20 5) } ∧ w.grownBy w' (some B) := by
  have ha := hfl.aRs2
  have hn := hfl.nRs2
  go_enter Tryz.func110, Tryz.ntmps110
  go_wp2_with (go_at_call 148; refine (Fget_any 20 5 x _).mono ?_; rintro e w1 ⟨rfl, hb1⟩; have hB1 := hB.keep hb1; have c1 := hB1.c3; have f1 := hB1.f3)
  go_end0
  exact ⟨rfl, hB1.put3 _, grown_trans (grown_below hb1 _) (grown_set _ _ _ _)⟩
theorem TakeSix_any (x : BitVec 64) (B : Nat) (i : InsnV) (w : World) (hfl : Flds w) (hB : Bx w B i) : Calls Tryz.prog 109 #[.int .u64 (un x), .pointer (some ⟨B, 0, none⟩)] w fun e w' => e = .returned (.tuple #[]) ∧ Bx w' B { i with imm := sn (Part x 20 6) } ∧ w.grownBy w' (some B) := by
  have ha := hfl.aSix
  have hn := hfl.nSix
  go_enter Tryz.func109, Tryz.ntmps109
  go_wp2_with (go_at_call 148; refine (Fget_any 20 6 x _).mono ?_; rintro e w1 ⟨rfl, hb1⟩; have hB1 := hB.keep hb1; have c1 := hB1.c4; have f1 := hB1.f4)
  go_end0
  exact ⟨rfl, hB1.put4 _, grown_trans (grown_below hb1 _) (grown_set _ _ _ _)⟩
theorem TakeMarks_any (x : BitVec 64) (B : Nat) (i : InsnV) (w : World) (hB : Bx w B i) : Calls Tryz.prog 112 #[.int .u64 (un x), .pointer (some ⟨B, 0, none⟩)] w fun e w' => e = .returned (.tuple #[]) ∧ Bx w' B { i with aq := un (Part x 26 1) == 1, rl := un (Part x 25 1) == 1 } ∧ w.grownBy w' (some B) := by
  have c5 := hB.c5
  have f5 := hB.f5
  have c6 := (hB.put5 (un (Part x 26 1) == 1)).c6
  have f6 := hB.f6
  go_enter Tryz.func112, Tryz.ntmps112
  go_wp2_with (go_at_call 115; refine (Part_any _ _ _ _).mono ?_; rintro e w' ⟨rfl, rfl⟩)
  go_end0
  exact ⟨rfl, (hB.put5 _).put6 _, grown_trans (grown_set _ _ _ _) (grown_set _ _ _ _)⟩
/-- takeFence's frame. -/
structure TF (w0 : World) (B : Nat) (i : InsnV) (W : World) : Prop where
  fl : Flds W
  bx : ∃ p s, Bx W B { i with pred := p, succ := s }
  gr : w0.grownBy W (some B)
theorem TF.keep {w0 W W' : World} {B : Nat} {i : InsnV} (h : TF w0 B i W) (hb : Below W.heap.size W W') : TF w0 B i W' := by
  obtain ⟨p, s, hx⟩ := h.bx
  exact ⟨h.fl.later hb, ⟨p, s, hx.keep hb⟩, grown_trans h.gr (grown_below hb _)⟩
theorem TF.set7 {w0 W : World} {B : Nat} {i : InsnV} (h : TF w0 B i W) (hF : 0 ≠ B ∧ 1 ≠ B ∧ 2 ≠ B ∧ 3 ≠ B ∧ 4 ≠ B ∧ 5 ≠ B ∧ 6 ≠ B ∧ 7 ≠ B) (v : Int) : TF w0 B i (W.setCell ⟨B, 7, none⟩ (.int .i64 v)) := by
  obtain ⟨p, s, hx⟩ := h.bx
  exact ⟨h.fl.grown (grown_set _ _ _ _) hF.1 hF.2.1 hF.2.2.1 hF.2.2.2.1 hF.2.2.2.2.1 hF.2.2.2.2.2.1 hF.2.2.2.2.2.2.1 hF.2.2.2.2.2.2.2, ⟨v, s, hx.put7 v⟩, grown_trans h.gr (grown_set _ _ _ _)⟩
theorem TF.set8 {w0 W : World} {B : Nat} {i : InsnV} (h : TF w0 B i W) (hF : 0 ≠ B ∧ 1 ≠ B ∧ 2 ≠ B ∧ 3 ≠ B ∧ 4 ≠ B ∧ 5 ≠ B ∧ 6 ≠ B ∧ 7 ≠ B) (v : Int) : TF w0 B i (W.setCell ⟨B, 8, none⟩ (.int .i64 v)) := by
  obtain ⟨p, s, hx⟩ := h.bx
  exact ⟨h.fl.grown (grown_set _ _ _ _) hF.1 hF.2.1 hF.2.2.1 hF.2.2.2.1 hF.2.2.2.2.1 hF.2.2.2.2.2.1 hF.2.2.2.2.2.2.1 hF.2.2.2.2.2.2.2, ⟨p, v, hx.put8 v⟩, grown_trans h.gr (grown_set _ _ _ _)⟩
theorem Flds.range {w : World} (h : Flds w) : w.rangeAt 6 0 [.int .i64 24, .int .i64 4] ∧ w.rangeAt 7 0 [.int .i64 20, .int .i64 4] := by
  constructor
  · intro j v hj
    rw [Nat.zero_add]
    rcases j with _ | _ | j
    · cases hj; exact h.aPred
    · cases hj; exact h.nPred
    · cases hj
  · intro j v hj
    rw [Nat.zero_add]
    rcases j with _ | _ | j
    · cases hj; exact h.aSucc
    · cases hj; exact h.nSucc
    · cases hj
section
attribute [local irreducible] un sn Part
set_option maxRecDepth 100000 in
set_option maxHeartbeats 4000000 in
theorem TakeFence_any (x : BitVec 64) (B : Nat) (i : InsnV) (w : World) (hfl : Flds w) (hB : Bx w B i) (hne : 0 ≠ B ∧ 1 ≠ B ∧ 2 ≠ B ∧ 3 ≠ B ∧ 4 ≠ B ∧ 5 ≠ B ∧ 6 ≠ B ∧ 7 ≠ B) : Calls Tryz.prog 111 #[.int .u64 (un x), .pointer (some ⟨B, 0, none⟩)] w fun e w' => e = .returned (.tuple #[]) ∧ Bx w' B { i with pred := sn (Part x 24 4), succ := sn (Part x 20 4) } ∧ w.grownBy w' (some B) := by
  go_enter Tryz.func111, Tryz.ntmps111
  go_upto_region 0 with fail
  refine wp_region_held_drew (S := fun W => TF w B i W) (by kernel_rfl) ⟨hfl.later ((Below.refl _ _).drew), ⟨i.pred, i.succ, hB.keep ((Below.refl _ _).drew)⟩, grown_below ((Below.refl _ _).drew) _⟩ (fun hHeld => ?_)
  refine wpAnyH_take (i := 0) (v := .pointer (some ⟨B, 0, none⟩)) rfl (by kernel_rfl) (by kernel_rfl) (by kernel_rfl) (fun _ _ _ h => h) (Or.inl ⟨by rfl, fun W _ => by kernel_rfl⟩) hHeld ?_
  try simp only [Act.put, List.getElem_toArray, List.getElem_cons_zero, List.setIfInBounds_toArray, List.set_cons_zero, List.set_cons_succ]
  have hB0 : Bx _ B i := hB.keep ((Below.refl w.heap.size w).drew)
  generalize World.drew _ = W0 at hHeld hB0 ⊢
  refine wpAnyH_take (i := 1) (v := .pointer (some ⟨B, 0, none⟩)) rfl (by kernel_rfl) (by kernel_rfl) (by kernel_rfl) (fun _ _ _ h => h) (Or.inl ⟨by rfl, fun W _ => by kernel_rfl⟩) hHeld ?_
  try simp only [Act.put, List.getElem_toArray, List.getElem_cons_succ, List.getElem_cons_zero, List.setIfInBounds_toArray, List.set_cons_zero, List.set_cons_succ]
  refine wpAnyH_take (i := 2) rfl (by kernel_rfl) (by kernel_rfl) (by kernel_rfl) (fun _ _ _ h => h) (yieldsIf_load_mid (by rfl) _ _ rfl 6 0 rfl [.int .i64 24, .int .i64 4] _ (fun W hS => hS.fl.range.1) Tryz.underlying143 rfl (by kernel_rfl)) hHeld ?_
  try simp only [Act.put, List.getElem_toArray, List.getElem_cons_succ, List.getElem_cons_zero, List.setIfInBounds_toArray, List.set_cons_zero, List.set_cons_succ]
  refine wpAnyH_take (i := 3) (v := .int .u64 (un x)) rfl (by kernel_rfl) (by kernel_rfl) (by kernel_rfl) (fun _ _ _ h => h) (Or.inl ⟨by rfl, fun W _ => by kernel_rfl⟩) hHeld ?_
  try simp only [Act.put, List.getElem_toArray, List.getElem_cons_succ, List.getElem_cons_zero, List.setIfInBounds_toArray, List.set_cons_zero, List.set_cons_succ]
  refine wpAnyH_take (i := 5) rfl (by kernel_rfl) (by kernel_rfl) (by kernel_rfl) (fun _ _ _ h => h) (yieldsIf_load_mid (by rfl) _ _ rfl 7 0 rfl [.int .i64 20, .int .i64 4] _ (fun W hS => hS.fl.range.2) Tryz.underlying143 rfl (by kernel_rfl)) hHeld ?_
  try simp only [Act.put, List.getElem_toArray, List.getElem_cons_succ, List.getElem_cons_zero, List.setIfInBounds_toArray, List.set_cons_zero, List.set_cons_succ]
  refine wpAnyH_take (i := 6) (v := .int .u64 (un x)) rfl (by kernel_rfl) (by kernel_rfl) (by kernel_rfl) (fun _ _ _ h => h) (Or.inl ⟨by rfl, fun W _ => by kernel_rfl⟩) hHeld ?_
  try simp only [Act.put, List.getElem_toArray, List.getElem_cons_succ, List.getElem_cons_zero, List.setIfInBounds_toArray, List.set_cons_zero, List.set_cons_succ]
  refine wpAnyH_ready (rs := [4]) (by kernel_rfl) (by simp) ?_
  refine AllReadyH.cons rfl (fun K hK2 => ?_) ?_
  · rw [if_pos (by rfl)]
    simp only [List.getElem_toArray, List.getElem_cons_succ, List.getElem_cons_zero]
    go_wp2_with (go_at_call 148; refine (Fget_any 24 4 x _).mono ?_; rintro e w1 ⟨rfl, hb1⟩)
    refine hK2.out _ _ (hHeld.keep hb1) (fun hHeld2 => ?_)
    clear hK2 K hHeld
    have hHeld := hHeld2
    clear hHeld2
    try simp only [Act.put, List.getElem_toArray, List.getElem_cons_succ, List.getElem_cons_zero, List.setIfInBounds_toArray, List.set_cons_zero, List.set_cons_succ]
    have hB1 := hB0.keep hb1
    refine wpAnyH_ready (rs := [7]) (by kernel_rfl) (by simp) ?_
    refine AllReadyH.cons rfl (fun K hK2 => ?_) ?_
    · rw [if_pos (by rfl)]
      simp only [List.getElem_toArray, List.getElem_cons_succ, List.getElem_cons_zero]
      go_wp2_with (go_at_call 148; refine (Fget_any 20 4 x _).mono ?_; rintro e w2 ⟨rfl, hb2⟩)
      refine hK2.out _ _ (hHeld.keep hb2) (fun hHeld2 => ?_)
      clear hK2 K hHeld
      have hHeld := hHeld2
      clear hHeld2
      try simp only [Act.put, List.getElem_toArray, List.getElem_cons_succ, List.getElem_cons_zero, List.setIfInBounds_toArray, List.set_cons_zero, List.set_cons_succ]
      have hB2 := hB1.keep hb2
      have c7 := hB2.c7
      have f7 := hB2.f7
      refine wpAnyH_take (i := 8) (v := .pointer (some ⟨B, 0, none⟩)) rfl (by kernel_rfl) (by kernel_rfl) (by kernel_rfl) (fun _ _ _ h => h) (Or.inl ⟨by rfl, fun W _ => by kernel_rfl⟩) hHeld ?_
      try simp only [Act.put, List.getElem_toArray, List.getElem_cons_succ, List.getElem_cons_zero, List.setIfInBounds_toArray, List.set_cons_zero, List.set_cons_succ]
      refine wpAnyH_take (i := 9) (v := .pointer (some ⟨B, 7, none⟩)) rfl (by kernel_rfl) (by kernel_rfl) (by kernel_rfl) (fun _ _ _ h => h) (Or.inl ⟨by rfl, fun W _ => by kernel_rfl⟩) hHeld ?_
      try simp only [Act.put, List.getElem_toArray, List.getElem_cons_succ, List.getElem_cons_zero, List.setIfInBounds_toArray, List.set_cons_zero, List.set_cons_succ]
      refine wpAnyH_ready (rs := [10]) (by kernel_rfl) (by simp) ?_
      refine AllReadyH.cons rfl (fun K hK2 => ?_) ?_
      · rw [if_pos (by rfl)]
        simp only [List.getElem_toArray, List.getElem_cons_succ, List.getElem_cons_zero]
        go_wp2_with fail
        refine hK2.out _ _ (hHeld.set7 hne _) (fun hHeld2 => ?_)
        clear hK2 K hHeld
        have hHeld := hHeld2
        clear hHeld2
        try simp only [Act.put, List.getElem_toArray, List.getElem_cons_succ, List.getElem_cons_zero, List.setIfInBounds_toArray, List.set_cons_zero, List.set_cons_succ]
        have hB3 := hB2.put7 (sn (Part x 24 4))
        have c8 := hB3.c8
        have f8 := hB3.f8
        refine wpAnyH_take (i := 11) (v := .pointer (some ⟨B, 0, none⟩)) rfl (by kernel_rfl) (by kernel_rfl) (by kernel_rfl) (fun _ _ _ h => h) (Or.inl ⟨by rfl, fun W _ => by kernel_rfl⟩) hHeld ?_
        try simp only [Act.put, List.getElem_toArray, List.getElem_cons_succ, List.getElem_cons_zero, List.setIfInBounds_toArray, List.set_cons_zero, List.set_cons_succ]
        refine wpAnyH_take (i := 12) (v := .pointer (some ⟨B, 8, none⟩)) rfl (by kernel_rfl) (by kernel_rfl) (by kernel_rfl) (fun _ _ _ h => h) (Or.inl ⟨by rfl, fun W _ => by kernel_rfl⟩) hHeld ?_
        try simp only [Act.put, List.getElem_toArray, List.getElem_cons_succ, List.getElem_cons_zero, List.setIfInBounds_toArray, List.set_cons_zero, List.set_cons_succ]
        refine wpAnyH_ready (rs := [13]) (by kernel_rfl) (by simp) ?_
        refine AllReadyH.cons rfl (fun K hK2 => ?_) ?_
        · rw [if_pos (by rfl)]
          simp only [List.getElem_toArray, List.getElem_cons_succ, List.getElem_cons_zero]
          go_wp2_with fail
          refine hK2.out _ _ (hHeld.set8 hne _) (fun hHeld2 => ?_)
          clear hK2 K hHeld
          have hHeld := hHeld2
          clear hHeld2
          try simp only [Act.put, List.getElem_toArray, List.getElem_cons_succ, List.getElem_cons_zero, List.setIfInBounds_toArray, List.set_cons_zero, List.set_cons_succ]
          have hB4 := hB3.put8 (sn (Part x 20 4))
          refine wpAnyH_done (by kernel_rfl) ?_ _
          go_wp2_with fail
          go_end0
          exact ⟨rfl, hB4, hHeld.gr⟩
        exact AllReadyH.nil
      exact AllReadyH.nil
    exact AllReadyH.nil
  exact AllReadyH.nil
end
theorem un_zeroT : (0 : Int) = un 0#64 := rfl
attribute [local go_sem] bits_u64_or mul_bvpow shl_min bv_0 bv_1
section
attribute [local irreducible] un sn Part Sign
set_option maxRecDepth 100000 in
set_option maxHeartbeats 4000000 in
theorem TakeImm_any (x : BitVec 64) (B : Nat) (i : InsnV) (hop : i.op ≤ 9223372036854775807) (w : World) (ht : Tabs w) (hB : Bx w B i) : Calls Tryz.prog 107 #[.int .u64 (un x), .pointer (some ⟨B, 0, none⟩)] w fun e w' => e = .returned (.tuple #[]) ∧ Bx w' B { i with imm := sn (Sign (immGet x (pieces (opOf i.op).form) (pieces (opOf i.op).form).length) (pieceBits (opOf i.op).form)) } ∧ w.grownBy w' (some B) := by
  have c0 := hB.c0
  have hF := Lib.hid (fun W hT => Form_any i.op hop W hT)
  have hL := Lib.hid (fun f W => Layout_any f W)
  generalize (opOf i.op).form = f at hF ⊢
  obtain ⟨L, hLd⟩ : ∃ L, L = pieces f := ⟨_, rfl⟩
  obtain ⟨pb, hpb⟩ : ∃ q, q = pieceBits f := ⟨_, rfl⟩
  have hLb := pieces_bd f
  have hLn : (pieces f).length ≤ 4 := by unfold pieces; (repeat' split) <;> simp
  rw [← hLd, ← hpb]
  rw [← hLd] at hLb hLn
  replace hLd := Lib.hid hLd
  replace hpb := Lib.hid hpb
  replace hLb := Lib.hid hLb
  have hI0 : Hid (immGet x L 0 = 0#64) := Lib.hid rfl
  have hIs : Hid (∀ k : Nat, immGet x L (k + 1) = immGet x L k ||| Part x (L.getD k (0, 0, 0)).2.2 (L.getD k (0, 0, 0)).2.1 <<< (L.getD k (0, 0, 0)).1.toNat) := Lib.hid fun _ => rfl
  generalize immGet x L = R at hI0 hIs ⊢
  go_enter Tryz.func107, Tryz.ntmps107
  go_wp2_with (first | (go_at_call 33; refine (hF.out _ ht).mono ?_; rintro e w1 ⟨rfl, hb1⟩) | (go_at_call 113; refine (hL.out _ _).mono ?_; rintro e w3 ⟨⟨v, rfl, hown⟩, hb3⟩; rw [← hLd.out] at hown; rw [← hpb.out]; obtain ⟨ao, cap, rfl⟩ := own_slice3 hown))
  have hb13 : Below w.heap.size w w3 := hb1.trans (hb3.mono hb1.size)
  have hB3 := hB.keep hb13
  clear c0 hF hL hb1 hB
  go_loopw [6, 20] (fun s k' wr => ∃ k : Nat, k ≤ L.length ∧ k' = .int .i64 k ∧ s = .int .u64 (un (R k)) ∧ Below w3.heap.size w3 wr) (fun _ k' _ => L.length - (intOf k').toNat)
  case atStart => exact ⟨0, Nat.zero_le _, rfl, by rw [hI0.out, ← un_zeroT], Below.refl _ _⟩
  case round =>
    obtain ⟨k, hk, rfl, rfl, hb⟩ := hrel
    by_cases hlt : k < L.length
    · obtain ⟨g, rfl, c0, c1, c2⟩ := own_row3 (ownsRow_keep hown hb) rfl k hlt
      have hnx := Lib.hid (hIs.out k)
      have he0 : 0 ≤ (L.getD k (0, 0, 0)).1 ∧ (L.getD k (0, 0, 0)).1 ≤ 64 := by
        have := hLb.out (L.getD k (0, 0, 0)) (by rw [List.getD_eq_getElem?_getD, List.getElem?_eq_getElem hlt]; exact List.getElem_mem hlt)
        exact ⟨this.1, this.2.1⟩
      generalize (L.getD k (0, 0, 0)).1 = e0 at c0 hnx he0
      generalize (L.getD k (0, 0, 0)).2.1 = e1 at c1 hnx
      generalize (L.getD k (0, 0, 0)).2.2 = e2 at c2 hnx
      obtain ⟨n0, rfl⟩ := Int.eq_ofNat_of_zero_le he0.1
      have hn0 : (0 : Int) ≤ (n0 : Int) := Int.natCast_nonneg _
      rw [Int.toNat_natCast] at hnx
      have hbn : Below wr.heap.size wr (wr.alloc (.cells #[.int .i64 n0, .int .i64 e1, .int .i64 e2] 139)) := (Below.refl wr.heap.size wr).alloc (Nat.le_refl _) _
      go_wp2_with fail
      go_quiet ((go_at_call 115; exact quiet_same (Part_any _ _ _ _)))
      go_wp2_with fail
      go_roundw
      case rel => exact ⟨k + 1, by omega, by go_num, by rw [hnx.out, bv_shl, bv_un], (hb.trans (hbn.mono hb.size)).trans ⟨rfl, rfl, rfl, Nat.le_refl _, fun _ _ => rfl⟩⟩
      case measure => simp [intOf]; omega
    · obtain rfl : k = L.length := by omega
      have hBr := hB3.keep hb
      have c4 := hBr.c4
      have f4 := hBr.f4
      go_wp2_with (go_at_call 138; refine (Sign_any _ _ _).mono ?_; rintro e w' ⟨rfl, rfl⟩)
      go_end0
      exact ⟨rfl, hBr.put4 _, grown_trans (grown_below (hb13.trans (hb.mono hb13.size)) _) (grown_set _ _ _ _)⟩
end
end Go.Proofs.YtdbpnbmaineniaaGreatDoor
