/- The walks of what insn.Check is made of: its closures, its search among registers. The walks of insn.Check's closures, of short, of the search among registers. The frame of insn.Check. The walk of insn.Check at form 0. Conditions: as each theorem says. -/
import Derived.Test.YtcgflnkgekkidaaGreatDoorInsnKn
import Derived.Test.YtcgflnkgekkidaaGreatDoorRefDf
import Derived.Test.YtcgflnkgekkidaaGreatDoorInsnDf
import Derived.WalkSpells
import Derived.Deep.RegionWith
namespace Go.Proofs.YtcgflnkgekkidaaGreatDoor
open Go.RowKit
theorem Tryz.info_int : (Tryz.prog.info? 3).map (fun i => (i.zero, i.size, i.bytes)) = some (some (.int .i64 0), 1, 8) := by kernel_rfl
/-- What insn.Check's frame holds: the instruction's box at B, what is known of its op at O, what is wanted behind it, how many bits, whether even, the registers so far. -/
structure CK (w0 : World) (B O : Nat) (ic oc kc : Nat → Value) (bits : Int) (even : Bool) (xs : List Int) (w : World) : Prop where
  lo : B < O
  hB : w0.heap.size ≤ B
  i : ∀ j, j < 9 → w.cell? ⟨B, j, none⟩ = some (ic j)
  o : ∀ j, j < 5 → w.cell? ⟨O, j, none⟩ = some (oc j)
  k : ∀ j, j < 9 → w.cell? ⟨O + 1, j, none⟩ = some (kc j)
  kf : ∀ j, j < 9 → w.frozen? ⟨O + 1, j, none⟩ = false
  b : w.cell? ⟨O + 2, 0, none⟩ = some (.int .i64 bits)
  bf : w.frozen? ⟨O + 2, 0, none⟩ = false
  e : w.cell? ⟨O + 3, 0, none⟩ = some (.bool even)
  ef : w.frozen? ⟨O + 3, 0, none⟩ = false
  r : ∃ v, w.cell? ⟨O + 4, 0, none⟩ = some v ∧ w.ownsRow (O + 5) 3 1 v xs.length (xs.map (Value.int .i64))
  rf : w.frozen? ⟨O + 4, 0, none⟩ = false
  bl : Below w0.heap.size w0 w
  sz : O + 5 ≤ w.heap.size
section
variable {w0 w : World} {B O : Nat} {ic oc kc kc' : Nat → Value} {bits : Int} {even : Bool} {xs : List Int}
theorem block_ne {b b' i j : Nat} (h : b ≠ b') : (⟨b, i, none⟩ : Addr) ≠ ⟨b', j, none⟩ := fun e => h (congrArg Addr.block e)
/-- A store into what is wanted. -/
theorem CK.setK (h : CK w0 B O ic oc kc bits even xs w) (c : Nat) (hc : c < 9) (v : Value) (hk : ∀ j, kc' j = if j = c then v else kc j) : CK w0 B O ic oc kc' bits even xs (w.setCell ⟨O + 1, c, none⟩ v) := by
  have lo := h.lo
  obtain ⟨u, h1, h2⟩ := h.r
  refine ⟨lo, h.hB, fun j hj => ?_, fun j hj => ?_, fun j hj => ?_, fun j hj => ?_, ?_, ?_, ?_, ?_, ⟨u, ?_, ?_⟩, ?_, h.bl.setCell (by have := h.hB; show _ ≤ O + 1; omega) _, by simpa using h.sz⟩
  · rw [World.cell?_setCell_other (h := block_ne (by omega))]; exact h.i j hj
  · rw [World.cell?_setCell_other (h := block_ne (by omega))]; exact h.o j hj
  · rw [hk]
    by_cases e : j = c
    · subst e; rw [if_pos rfl]; exact World.cell?_setCell_same w _ _ (h.k j hj)
    · rw [if_neg e, World.cell?_setCell_other (h := fun e' => e (congrArg Addr.off e').symm)]; exact h.k j hj
  · rw [World.frozen?_setCell]; exact h.kf j hj
  · rw [World.cell?_setCell_other (h := block_ne (by omega))]; exact h.b
  · rw [World.frozen?_setCell]; exact h.bf
  · rw [World.cell?_setCell_other (h := block_ne (by omega))]; exact h.e
  · rw [World.frozen?_setCell]; exact h.ef
  · rw [World.cell?_setCell_other (h := block_ne (by omega))]; exact h1
  · exact ownsRow_setCell_below h2 (by show O + 1 < O + 5; omega) _
  · rw [World.frozen?_setCell]; exact h.rf
/-- The registers grow by one: new memory, then the slice's cell. -/
theorem CK.appended (h : CK w0 B O ic oc kc bits even xs w) {w' : World} (hb : Below (O + 5) w w') {v : Value} {ys : List Int} (h2 : w'.ownsRow (O + 5) 3 1 v ys.length (ys.map (Value.int .i64))) : CK w0 B O ic oc kc bits even ys (w'.setCell ⟨O + 4, 0, none⟩ v) := by
  have lo := h.lo
  obtain ⟨u, hu, _⟩ := h.r
  have c : ∀ b j, b < O + 4 → (w'.setCell ⟨O + 4, 0, none⟩ v).cell? ⟨b, j, none⟩ = w.cell? ⟨b, j, none⟩ := fun b j hbj => by
    rw [World.cell?_setCell_other (h := block_ne (by omega))]; exact hb.cell (p := ⟨b, j, none⟩) (by show b < O + 5; omega)
  have f : ∀ b j, b < O + 5 → (w'.setCell ⟨O + 4, 0, none⟩ v).frozen? ⟨b, j, none⟩ = w.frozen? ⟨b, j, none⟩ := fun b j hbj => by
    rw [World.frozen?_setCell]; exact hb.frozen (p := ⟨b, j, none⟩) hbj
  have c4 : w'.cell? ⟨O + 4, 0, none⟩ = some u := by rw [hb.cell (p := ⟨O + 4, 0, none⟩) (by show O + 4 < O + 5; omega)]; exact hu
  exact ⟨lo, h.hB, fun j hj => by rw [c _ _ (by omega)]; exact h.i j hj, fun j hj => by rw [c _ _ (by omega)]; exact h.o j hj, fun j hj => by rw [c _ _ (by omega)]; exact h.k j hj, fun j hj => by rw [f _ _ (by omega)]; exact h.kf j hj,
    by rw [c _ _ (by omega)]; exact h.b, by rw [f _ _ (by omega)]; exact h.bf, by rw [c _ _ (by omega)]; exact h.e, by rw [f _ _ (by omega)]; exact h.ef,
    ⟨v, World.cell?_setCell_same w' _ _ c4, ownsRow_setCell_below h2 (by show O + 4 < O + 5; omega) _⟩, by rw [f _ _ (by omega)]; exact h.rf, (h.bl.trans (hb.mono (by have := h.hB; omega))).setCell (by have := h.hB; show _ ≤ O + 4; omega) _, by have := h.sz; have := hb.size; simp; omega⟩
/-- Stores of the bits and of whether it is even. -/
theorem CK.setB (h : CK w0 B O ic oc kc bits even xs w) (n : Int) : CK w0 B O ic oc kc n even xs (w.setCell ⟨O + 2, 0, none⟩ (.int .i64 n)) := by
  have lo := h.lo
  obtain ⟨u, h1, h2⟩ := h.r
  have c : ∀ b j, b ≠ O + 2 → (w.setCell ⟨O + 2, 0, none⟩ (.int .i64 n)).cell? ⟨b, j, none⟩ = w.cell? ⟨b, j, none⟩ := fun b j hbj => World.cell?_setCell_other _ _ _ _ (block_ne (Ne.symm hbj))
  exact ⟨lo, h.hB, fun j hj => by rw [c _ _ (by omega)]; exact h.i j hj, fun j hj => by rw [c _ _ (by omega)]; exact h.o j hj, fun j hj => by rw [c _ _ (by omega)]; exact h.k j hj, fun j hj => by rw [World.frozen?_setCell]; exact h.kf j hj,
    World.cell?_setCell_same w _ _ h.b, by rw [World.frozen?_setCell]; exact h.bf, by rw [c _ _ (by omega)]; exact h.e, by rw [World.frozen?_setCell]; exact h.ef,
    ⟨u, by rw [c _ _ (by omega)]; exact h1, ownsRow_setCell_below h2 (by show O + 2 < O + 5; omega) _⟩, by rw [World.frozen?_setCell]; exact h.rf, h.bl.setCell (by have := h.hB; show _ ≤ O + 2; omega) _, by simpa using h.sz⟩
theorem CK.setE (h : CK w0 B O ic oc kc bits even xs w) (n : Bool) : CK w0 B O ic oc kc bits n xs (w.setCell ⟨O + 3, 0, none⟩ (.bool n)) := by
  have lo := h.lo
  obtain ⟨u, h1, h2⟩ := h.r
  have c : ∀ b j, b ≠ O + 3 → (w.setCell ⟨O + 3, 0, none⟩ (.bool n)).cell? ⟨b, j, none⟩ = w.cell? ⟨b, j, none⟩ := fun b j hbj => World.cell?_setCell_other _ _ _ _ (block_ne (Ne.symm hbj))
  exact ⟨lo, h.hB, fun j hj => by rw [c _ _ (by omega)]; exact h.i j hj, fun j hj => by rw [c _ _ (by omega)]; exact h.o j hj, fun j hj => by rw [c _ _ (by omega)]; exact h.k j hj, fun j hj => by rw [World.frozen?_setCell]; exact h.kf j hj,
    by rw [c _ _ (by omega)]; exact h.b, by rw [World.frozen?_setCell]; exact h.bf, World.cell?_setCell_same w _ _ h.e, by rw [World.frozen?_setCell]; exact h.ef,
    ⟨u, by rw [c _ _ (by omega)]; exact h1, ownsRow_setCell_below h2 (by show O + 3 < O + 5; omega) _⟩, by rw [World.frozen?_setCell]; exact h.rf, h.bl.setCell (by have := h.hB; show _ ≤ O + 3; omega) _, by simpa using h.sz⟩
theorem CK.drew (h : CK w0 B O ic oc kc bits even xs w) : CK w0 B O ic oc kc bits even xs w.drew :=
  ⟨h.lo, h.hB, h.i, h.o, h.k, h.kf, h.b, h.bf, h.e, h.ef, h.r, h.rf, h.bl.drew, h.sz⟩
theorem CK.drewN (h : CK w0 B O ic oc kc bits even xs w) (n : Nat) : CK w0 B O ic oc kc bits even xs (w.drewN n) :=
  ⟨h.lo, h.hB, h.i, h.o, h.k, h.kf, h.b, h.bf, h.e, h.ef, h.r, h.rf, h.bl.trans ⟨rfl, rfl, rfl, Nat.le_refl _, fun _ _ => rfl⟩, h.sz⟩
end
end Go.Proofs.YtcgflnkgekkidaaGreatDoor
namespace Go.Proofs.YtcgflnkgekkidaaGreatDoor
open Go.RowKit
set_option maxRecDepth 100000 in
theorem Check_reg1 {w0 w : World} {B O : Nat} {ic oc kc : Nat → Value} {bits : Int} {even : Bool} {xs : List Int} (h : CK w0 B O ic oc kc bits even xs w) (r : Int) (hr : ic 1 = .int .i64 r) (hx : xs.length ≤ 10) :
    Calls Tryz.prog 117 #[.pointer (some ⟨B, 0, none⟩), .pointer (some ⟨O + 1, 0, none⟩), .pointer (some ⟨O + 4, 0, none⟩)] w fun e w' => e = .returned (.tuple #[]) ∧ CK w0 B O ic oc (fun j => if j = 1 then .int .i64 r else kc j) bits even (xs ++ [r]) w' := by
  obtain ⟨i0, hi, hz0, hz1, hz2⟩ := info_parts Tryz.info_int
  have hi' := Lib.hid hi; have hz0' := Lib.hid hz0; have hz1' := Lib.hid hz1; have hz2' := Lib.hid hz2; clear hi hz0 hz1 hz2
  have h2 : CK w0 B O ic oc (fun j => if j = 1 then .int .i64 r else kc j) bits even xs (w.setCell ⟨O + 1, 1, none⟩ (.int .i64 r)) := h.setK 1 (by decide) _ (fun j => rfl)
  obtain ⟨v, hv, hown⟩ := h2.r
  have a1 := h.i 1 (by decide)
  have a2 := h.k 1 (by decide)
  have a3 := h.kf 1 (by decide)
  have a4 := h2.i 1 (by decide)
  rw [hr] at a1 a4
  have hsz := h2.sz
  have hrf := h2.rf
  have h2' := Lib.hid h2
  clear h h2 hr
  go_enter Tryz.func117, Tryz.ntmps117
  go_wp2_with (at_builtin; refine wpList_append_own _ rfl _ _ 32 rfl (O + 5) 3 i0 (.int .i64 0) 1 8 Tryz.underlying32 hi'.out hz0'.out hz1'.out hz2'.out rfl (by decide) _ xs.length _ rfl (hown.alloc _) ⟨w.heap.size, 0, none⟩ 1 1 [.int .i64 r] rfl rfl ?c1 ?c2 ?c3 ?c4 ?c5 ?_)
  case c1 => simpa using cell_one_new (w.setCell ⟨O + 1, 1, none⟩ (.int .i64 r)) _ _
  case c2 => simp [Value.oneCell']
  case c3 => unfold maxLen; omega
  case c4 => omega
  case c5 => simp at hsz ⊢; omega
  intro v' w1 hown' hgrow _
  obtain ⟨g', cap', rfl⟩ : ∃ g cap, v' = .slice (some ⟨g, 0, none⟩) (xs.length + 1) cap := by
    rcases hown'.2 with ⟨rfl, h0⟩ | ⟨g, cap, cur, rfl, _⟩
    · simp at h0
    · exact ⟨g, cap, rfl⟩
  have hb1 : Below (O + 5) (w.setCell ⟨O + 1, 1, none⟩ (.int .i64 r)) w1 := ((Below.refl _ _).alloc hsz _).grown hgrow (by simp at hsz ⊢; omega) (fun j hj => (World.ownsRow.lt hown j hj).1)
  have b1 : w1.cell? ⟨O + 4, 0, none⟩ = some v := by rw [hb1.cell (p := ⟨O + 4, 0, none⟩) (by show O + 4 < O + 5; omega)]; exact hv
  have b2 : w1.frozen? ⟨O + 4, 0, none⟩ = false := by rw [hb1.frozen (p := ⟨O + 4, 0, none⟩) (by show O + 4 < O + 5; omega)]; exact hrf
  have hown2 : w1.ownsRow (O + 5) 3 1 (.slice (some ⟨g', 0, none⟩) (xs.length + 1) cap') (xs ++ [r]).length ((xs ++ [r]).map (Value.int .i64)) := by simpa using hown'
  have hend := Lib.hid (h2'.out.appended hb1 hown2)
  clear hown hown' hown2 hgrow hb1
  go_wp2
  go_end0
  exact ⟨rfl, hend.out⟩
set_option maxRecDepth 100000 in
theorem Check_reg2 {w0 w : World} {B O : Nat} {ic oc kc : Nat → Value} {bits : Int} {even : Bool} {xs : List Int} (h : CK w0 B O ic oc kc bits even xs w) (r : Int) (hr : ic 2 = .int .i64 r) (hx : xs.length ≤ 10) :
    Calls Tryz.prog 118 #[.pointer (some ⟨B, 0, none⟩), .pointer (some ⟨O + 1, 0, none⟩), .pointer (some ⟨O + 4, 0, none⟩)] w fun e w' => e = .returned (.tuple #[]) ∧ CK w0 B O ic oc (fun j => if j = 2 then .int .i64 r else kc j) bits even (xs ++ [r]) w' := by
  obtain ⟨i0, hi, hz0, hz1, hz2⟩ := info_parts Tryz.info_int
  have hi' := Lib.hid hi; have hz0' := Lib.hid hz0; have hz1' := Lib.hid hz1; have hz2' := Lib.hid hz2; clear hi hz0 hz1 hz2
  have h2 : CK w0 B O ic oc (fun j => if j = 2 then .int .i64 r else kc j) bits even xs (w.setCell ⟨O + 1, 2, none⟩ (.int .i64 r)) := h.setK 2 (by decide) _ (fun j => rfl)
  obtain ⟨v, hv, hown⟩ := h2.r
  have a1 := h.i 2 (by decide)
  have a2 := h.k 2 (by decide)
  have a3 := h.kf 2 (by decide)
  have a4 := h2.i 2 (by decide)
  rw [hr] at a1 a4
  have hsz := h2.sz
  have hrf := h2.rf
  have h2' := Lib.hid h2
  clear h h2 hr
  go_enter Tryz.func118, Tryz.ntmps118
  go_wp2_with (at_builtin; refine wpList_append_own _ rfl _ _ 32 rfl (O + 5) 3 i0 (.int .i64 0) 1 8 Tryz.underlying32 hi'.out hz0'.out hz1'.out hz2'.out rfl (by decide) _ xs.length _ rfl (hown.alloc _) ⟨w.heap.size, 0, none⟩ 1 1 [.int .i64 r] rfl rfl ?c1 ?c2 ?c3 ?c4 ?c5 ?_)
  case c1 => simpa using cell_one_new (w.setCell ⟨O + 1, 2, none⟩ (.int .i64 r)) _ _
  case c2 => simp [Value.oneCell']
  case c3 => unfold maxLen; omega
  case c4 => omega
  case c5 => simp at hsz ⊢; omega
  intro v' w1 hown' hgrow _
  obtain ⟨g', cap', rfl⟩ : ∃ g cap, v' = .slice (some ⟨g, 0, none⟩) (xs.length + 1) cap := by
    rcases hown'.2 with ⟨rfl, h0⟩ | ⟨g, cap, cur, rfl, _⟩
    · simp at h0
    · exact ⟨g, cap, rfl⟩
  have hb1 : Below (O + 5) (w.setCell ⟨O + 1, 2, none⟩ (.int .i64 r)) w1 := ((Below.refl _ _).alloc hsz _).grown hgrow (by simp at hsz ⊢; omega) (fun j hj => (World.ownsRow.lt hown j hj).1)
  have b1 : w1.cell? ⟨O + 4, 0, none⟩ = some v := by rw [hb1.cell (p := ⟨O + 4, 0, none⟩) (by show O + 4 < O + 5; omega)]; exact hv
  have b2 : w1.frozen? ⟨O + 4, 0, none⟩ = false := by rw [hb1.frozen (p := ⟨O + 4, 0, none⟩) (by show O + 4 < O + 5; omega)]; exact hrf
  have hown2 : w1.ownsRow (O + 5) 3 1 (.slice (some ⟨g', 0, none⟩) (xs.length + 1) cap') (xs ++ [r]).length ((xs ++ [r]).map (Value.int .i64)) := by simpa using hown'
  have hend := Lib.hid (h2'.out.appended hb1 hown2)
  clear hown hown' hown2 hgrow hb1
  go_wp2
  go_end0
  exact ⟨rfl, hend.out⟩
set_option maxRecDepth 100000 in
theorem Check_reg3 {w0 w : World} {B O : Nat} {ic oc kc : Nat → Value} {bits : Int} {even : Bool} {xs : List Int} (h : CK w0 B O ic oc kc bits even xs w) (r : Int) (hr : ic 3 = .int .i64 r) (hx : xs.length ≤ 10) :
    Calls Tryz.prog 119 #[.pointer (some ⟨B, 0, none⟩), .pointer (some ⟨O + 1, 0, none⟩), .pointer (some ⟨O + 4, 0, none⟩)] w fun e w' => e = .returned (.tuple #[]) ∧ CK w0 B O ic oc (fun j => if j = 3 then .int .i64 r else kc j) bits even (xs ++ [r]) w' := by
  obtain ⟨i0, hi, hz0, hz1, hz2⟩ := info_parts Tryz.info_int
  have hi' := Lib.hid hi; have hz0' := Lib.hid hz0; have hz1' := Lib.hid hz1; have hz2' := Lib.hid hz2; clear hi hz0 hz1 hz2
  have h2 : CK w0 B O ic oc (fun j => if j = 3 then .int .i64 r else kc j) bits even xs (w.setCell ⟨O + 1, 3, none⟩ (.int .i64 r)) := h.setK 3 (by decide) _ (fun j => rfl)
  obtain ⟨v, hv, hown⟩ := h2.r
  have a1 := h.i 3 (by decide)
  have a2 := h.k 3 (by decide)
  have a3 := h.kf 3 (by decide)
  have a4 := h2.i 3 (by decide)
  rw [hr] at a1 a4
  have hsz := h2.sz
  have hrf := h2.rf
  have h2' := Lib.hid h2
  clear h h2 hr
  go_enter Tryz.func119, Tryz.ntmps119
  go_wp2_with (at_builtin; refine wpList_append_own _ rfl _ _ 32 rfl (O + 5) 3 i0 (.int .i64 0) 1 8 Tryz.underlying32 hi'.out hz0'.out hz1'.out hz2'.out rfl (by decide) _ xs.length _ rfl (hown.alloc _) ⟨w.heap.size, 0, none⟩ 1 1 [.int .i64 r] rfl rfl ?c1 ?c2 ?c3 ?c4 ?c5 ?_)
  case c1 => simpa using cell_one_new (w.setCell ⟨O + 1, 3, none⟩ (.int .i64 r)) _ _
  case c2 => simp [Value.oneCell']
  case c3 => unfold maxLen; omega
  case c4 => omega
  case c5 => simp at hsz ⊢; omega
  intro v' w1 hown' hgrow _
  obtain ⟨g', cap', rfl⟩ : ∃ g cap, v' = .slice (some ⟨g, 0, none⟩) (xs.length + 1) cap := by
    rcases hown'.2 with ⟨rfl, h0⟩ | ⟨g, cap, cur, rfl, _⟩
    · simp at h0
    · exact ⟨g, cap, rfl⟩
  have hb1 : Below (O + 5) (w.setCell ⟨O + 1, 3, none⟩ (.int .i64 r)) w1 := ((Below.refl _ _).alloc hsz _).grown hgrow (by simp at hsz ⊢; omega) (fun j hj => (World.ownsRow.lt hown j hj).1)
  have b1 : w1.cell? ⟨O + 4, 0, none⟩ = some v := by rw [hb1.cell (p := ⟨O + 4, 0, none⟩) (by show O + 4 < O + 5; omega)]; exact hv
  have b2 : w1.frozen? ⟨O + 4, 0, none⟩ = false := by rw [hb1.frozen (p := ⟨O + 4, 0, none⟩) (by show O + 4 < O + 5; omega)]; exact hrf
  have hown2 : w1.ownsRow (O + 5) 3 1 (.slice (some ⟨g', 0, none⟩) (xs.length + 1) cap') (xs ++ [r]).length ((xs ++ [r]).map (Value.int .i64)) := by simpa using hown'
  have hend := Lib.hid (h2'.out.appended hb1 hown2)
  clear hown hown' hown2 hgrow hb1
  go_wp2
  go_end0
  exact ⟨rfl, hend.out⟩
set_option maxRecDepth 100000 in
theorem Check_imm {w0 w : World} {B O : Nat} {ic oc kc : Nat → Value} {bits : Int} {even : Bool} {xs : List Int} (h : CK w0 B O ic oc kc bits even xs w) (m : Int) (hm : ic 4 = .int .i64 m) (n : Int) (e : Bool) :
    Calls Tryz.prog 120 #[.int .i64 n, .bool e, .pointer (some ⟨B, 0, none⟩), .pointer (some ⟨O + 1, 0, none⟩), .pointer (some ⟨O + 2, 0, none⟩), .pointer (some ⟨O + 3, 0, none⟩)] w fun e' w' => e' = .returned (.tuple #[]) ∧ CK w0 B O ic oc (fun j => if j = 4 then .int .i64 m else kc j) n e xs w' := by
  have h2 : CK w0 B O ic oc (fun j => if j = 4 then .int .i64 m else kc j) bits even xs (w.setCell ⟨O + 1, 4, none⟩ (.int .i64 m)) := h.setK 4 (by decide) _ (fun j => rfl)
  have h3 := h2.setB n
  have h4 := h3.setE e
  have a1 := h.i 4 (by decide)
  have a2 := h.k 4 (by decide)
  have a3 := h.kf 4 (by decide)
  rw [hm] at a1
  have b1 := h2.b
  have b2 := h2.bf
  have c1 := h3.e
  have c2 := h3.ef
  have h4 := Lib.hid h4
  clear h h2 h3 hm
  go_enter Tryz.func120, Tryz.ntmps120
  go_wp2_with fail
  go_end0
  exact ⟨rfl, h4.out⟩
theorem Check_bad (r : Int) (w : World) :
    Calls Tryz.prog 123 #[.int .i64 r] w fun e w' => e = .returned (.bool (regBad r)) ∧ w = w' := by
  have hR : Hid (regBad r = (decide (r < 0) || decide (32 ≤ r))) := Lib.hid rfl
  rcases (show r < 0 ∨ (0 ≤ r ∧ r < 32) ∨ 32 ≤ r by omega) with h | ⟨h, h'⟩ | h
  all_goals
    go_enter Tryz.func123, Tryz.ntmps123
    go_wp2_with fail
    go_ret
    refine ⟨ret_bool ?_, rfl⟩
    first | (rw [hR.out]; done) | (rw [hR.out, Bool.eq_iff_iff]; simp; done) | (rw [hR.out, Bool.eq_iff_iff]; simp; omega)
set_option maxRecDepth 100000 in
theorem insn_short (s : List UInt8) (hs : s.length ≤ 1000) (f z : Int) (l t : Bool) (w : World) :
    Calls Tryz.prog 121 #[.agg #[.string ⟨s.toArray⟩, .int .i64 f, .bool l, .bool t, .int .i64 z]] w fun e w' => e = .returned (.bool (shortName s)) ∧ Below w.heap.size w w' := by
  cases s with
  | nil =>
    go_enter Tryz.func121, Tryz.ntmps121
    go_wp2_with fail
    go_ret
    exact ⟨rfl, (Below.refl _ _).alloc (Nat.le_refl _) _⟩
  | cons a s =>
    have hw : wrap64 (s.length : Int) = s.length := by rw [← IntWalk.i64_left]; exact IntWalk.i64_in _ (by simp at hs; omega)
    have hr : Hid (∀ h, (((⟨(a :: s).toArray⟩ : ByteArray)[s.length]'h).toNat == 119) = shortName (a :: s)) := Lib.hid fun h => by
      have e : (⟨(a :: s).toArray⟩ : ByteArray)[s.length]'h = lastLetter (a :: s) := by
        show (a :: s).toArray[s.length]'_ = _
        simp [lastLetter, List.getLastD, List.getLast_eq_getElem]
      rw [e]
      unfold shortName
      rw [Bool.eq_iff_iff]
      simp
      constructor
      · intro h; exact UInt8.toNat_inj.1 h
      · intro h; rw [h]; rfl
    clear hs
    go_enter Tryz.func121, Tryz.ntmps121
    go_wp2_with fail
    go_ret
    refine ⟨ret_bool ?_, (Below.refl _ _).alloc (Nat.le_refl _) _⟩
    rw [← hr.out (by show s.length < (a :: s).toArray.size; simp)]
    rw [Bool.eq_iff_iff]
    simp
    omega
theorem IndexFunc_any (base : Nat) (v : Value) (xs : List Int) (w : World) (h : w.ownsRow base 3 1 v xs.length (xs.map (Value.int .i64))) (hx : xs.length ≤ 100) :
    Calls Tryz.prog 132 #[v, .func (.func 123) #[] #[]] w fun e w' => (∃ k : Int, e = .returned (.int .i64 k) ∧ decide (0 ≤ k) = xs.any regBad) ∧ w = w' := by
  rcases h.2 with ⟨rfl, h0⟩ | ⟨g, cap, cur, rfl, hb, hg, hn, hm, hs, ht⟩
  · have hnil : Hid (xs = []) := Lib.hid (List.length_eq_zero_iff.1 h0)
    clear h h0
    go_enter Tryz.func132, Tryz.ntmps132
    go_wp2_with fail
    go_loop [8] (fun i => i = .int .i64 0) (fun _ => 0)
    case atStart => rfl
    case round =>
      obtain rfl := hrel
      go_wp2_with fail
      go_ret
      exact ⟨⟨-1, rfl, by rw [hnil.out]; rfl⟩, rfl⟩
  · have hcell : Hid (∀ k (hk : k < xs.length), w.cell? ⟨g, k, none⟩ = some (.int .i64 xs[k])) := Lib.hid fun k hk => by
      rw [h.cellAt k (by omega)]; simp [hk]
    have hany : Hid (∀ k, (xs.take k).any regBad = false → ∀ (hk : k < xs.length), (xs.take (k + 1)).any regBad = regBad xs[k]) := Lib.hid fun k hk hlt => by
      rw [List.take_succ_eq_append_getElem hlt, List.any_append, hk]; simp
    have hall : Hid (∀ k (hk : k < xs.length), regBad xs[k] = true → xs.any regBad = true) := Lib.hid fun k hk hr => List.any_eq_true.2 ⟨_, List.getElem_mem hk, hr⟩
    clear h hb hg hm hs ht
    go_enter Tryz.func132, Tryz.ntmps132
    go_wp2_with fail
    go_loop [8] (fun i => ∃ k : Nat, k ≤ xs.length ∧ i = .int .i64 k ∧ Hid ((xs.take k).any regBad = false)) (fun i => xs.length - (intOf i).toNat)
    case atStart => exact ⟨0, Nat.zero_le _, rfl, Lib.hid rfl⟩
    case round =>
      obtain ⟨k, hk, rfl, hno⟩ := hrel
      by_cases hlt : k < xs.length
      · obtain ⟨x, hx'⟩ : ∃ x, xs[k] = x := ⟨_, rfl⟩
        have hc := hcell.out k hlt
        rw [hx'] at hc
        have ha := hany.out k hno.out hlt
        rw [hx'] at ha
        cases hb : regBad x with
        | true =>
          have hX := Lib.hid (hall.out k hlt (by rw [hx']; exact hb))
          clear hx' ha
          go_wp2_with (go_at_call 123; (with_reducible refine (Check_bad _ _).mono ?_); rintro e w' ⟨rfl, rfl⟩)
          go_ret
          exact ⟨⟨k, rfl, by rw [hX.out]; simp⟩, rfl⟩
        | false =>
          rw [hb] at ha
          have ha := Lib.hid ha
          clear hx'
          go_wp2_with (go_at_call 123; (with_reducible refine (Check_bad _ _).mono ?_); rintro e w' ⟨rfl, rfl⟩)
          go_round
          case rel => exact ⟨k + 1, by omega, by go_num, ha⟩
          case measure => simp [intOf]; omega
      · obtain rfl : k = xs.length := by omega
        have hno' : Hid (xs.any regBad = false) := Lib.hid (by have := hno.out; rwa [List.take_length] at this)
        go_wp2_with fail
        go_ret
        exact ⟨⟨-1, rfl, by rw [hno'.out]; rfl⟩, rfl⟩
theorem ContainsFunc_any (base : Nat) (v : Value) (xs : List Int) (w : World) (h : w.ownsRow base 3 1 v xs.length (xs.map (Value.int .i64))) (hx : xs.length ≤ 100) :
    Calls Tryz.prog 122 #[v, .func (.func 123) #[] #[]] w fun e w' => e = .returned (.bool (badIn xs)) ∧ w = w' := by
  have hI := Lib.hid (IndexFunc_any base v xs w h hx)
  clear h
  go_enter Tryz.func122, Tryz.ntmps122
  go_wp2_with (go_at_call 132; refine hI.out.mono ?_; rintro e w' ⟨⟨k, rfl, hk⟩, rfl⟩)
  go_ret
  exact ⟨ret_bool rfl, rfl⟩
end Go.Proofs.YtcgflnkgekkidaaGreatDoor
namespace Go.Proofs.YtcgflnkgekkidaaGreatDoor
open Go.RowKit
theorem op_cell {w w2 : World} {cs ds : Array Value} {t t' : TypeId} (hb2 : Below (w.alloc (.cells cs t)).heap.size (w.alloc (.cells cs t)) w2) (j : Nat) : (w2.alloc (.cells ds t')).cell? ⟨w.heap.size, j, none⟩ = cs[j]? := by
  have hs : w.heap.size < (w.alloc (.cells cs t)).heap.size := by simp
  rw [((Below.refl _ _).alloc (Nat.le_refl _) _ : Below w2.heap.size w2 (w2.alloc (.cells ds t'))).cell (p := ⟨w.heap.size, j, none⟩) (Nat.lt_of_lt_of_le hs hb2.size), hb2.cell (p := ⟨w.heap.size, j, none⟩) hs]
  exact World.cell?_alloc_new ..
/-- The frame when all its variables have been made. -/
theorem CK.start {w w2 : World} {op rd rs1 rs2 imm : Int} {aq rl : Bool} {pred succ : Int} {t : TypeId} (hb2 : Below (w.alloc (.cells #[.int .i64 op, .int .i64 rd, .int .i64 rs1, .int .i64 rs2, .int .i64 imm, .bool aq, .bool rl, .int .i64 pred, .int .i64 succ] t)).heap.size (w.alloc (.cells #[.int .i64 op, .int .i64 rd, .int .i64 rs1, .int .i64 rs2, .int .i64 imm, .bool aq, .bool rl, .int .i64 pred, .int .i64 succ] t)) w2)
    (ds : Array Value) (hds : ds.size = 5) (t1 t2 t3 t4 t5 : TypeId) :
    CK w w.heap.size w2.heap.size (fun j => (#[.int .i64 op, .int .i64 rd, .int .i64 rs1, .int .i64 rs2, .int .i64 imm, .bool aq, .bool rl, .int .i64 pred, .int .i64 succ] : Array Value).getD j undef) (fun j => ds.getD j undef) (fun j => (#[.int .i64 op, .int .i64 0, .int .i64 0, .int .i64 0, .int .i64 0, .bool false, .bool false, .int .i64 0, .int .i64 0] : Array Value).getD j undef) 0 false []
      (((((w2.alloc (.cells ds t1)).alloc (.cells #[.int .i64 op, .int .i64 0, .int .i64 0, .int .i64 0, .int .i64 0, .bool false, .bool false, .int .i64 0, .int .i64 0] t2)).alloc (.cells #[.int .i64 0] t3)).alloc (.cells #[.bool false] t4)).alloc (.cells #[.slice none 0 0] t5)) := by
  have hs0 : w.heap.size < (w.alloc (.cells #[.int .i64 op, .int .i64 rd, .int .i64 rs1, .int .i64 rs2, .int .i64 imm, .bool aq, .bool rl, .int .i64 pred, .int .i64 succ] t)).heap.size := by simp
  have hlt : w.heap.size < w2.heap.size := Nat.lt_of_lt_of_le hs0 hb2.size
  have cB : ∀ j, w2.cell? ⟨w.heap.size, j, none⟩ = (#[.int .i64 op, .int .i64 rd, .int .i64 rs1, .int .i64 rs2, .int .i64 imm, .bool aq, .bool rl, .int .i64 pred, .int .i64 succ] : Array Value)[j]? := fun j => by
    rw [hb2.cell (p := ⟨w.heap.size, j, none⟩) hs0]; exact World.cell?_alloc_new ..
  have hbw : Below w.heap.size w w2 := ((Below.refl _ _).alloc (Nat.le_refl _) _).trans (hb2.mono (Nat.le_of_lt hs0))
  clear hb2 hs0
  obtain ⟨W1, hW1⟩ : ∃ W, w2.alloc (.cells ds t1) = W := ⟨_, rfl⟩
  have s1 : W1.heap.size = w2.heap.size + 1 := by rw [← hW1]; simp
  have b1 : Below w2.heap.size w2 W1 := by rw [← hW1]; exact (Below.refl _ _).alloc (Nat.le_refl _) _
  have c1 : ∀ j, W1.cell? ⟨w2.heap.size, j, none⟩ = ds[j]? := fun j => by rw [← hW1]; exact World.cell?_alloc_new ..
  rw [hW1]
  obtain ⟨W2, hW2⟩ : ∃ W, W1.alloc (.cells #[.int .i64 op, .int .i64 0, .int .i64 0, .int .i64 0, .int .i64 0, .bool false, .bool false, .int .i64 0, .int .i64 0] t2) = W := ⟨_, rfl⟩
  have s2 : W2.heap.size = w2.heap.size + 2 := by rw [← hW2]; simp [s1]
  have b2 : Below (w2.heap.size + 1) W1 W2 := by rw [← hW2, ← s1]; exact (Below.refl _ _).alloc (Nat.le_refl _) _
  have c2 : ∀ j, W2.cell? ⟨w2.heap.size + 1, j, none⟩ = (#[.int .i64 op, .int .i64 0, .int .i64 0, .int .i64 0, .int .i64 0, .bool false, .bool false, .int .i64 0, .int .i64 0] : Array Value)[j]? := fun j => by rw [← hW2, ← s1]; exact World.cell?_alloc_new ..
  have f2 : ∀ j, W2.frozen? ⟨w2.heap.size + 1, j, none⟩ = false := fun j => by
    rw [← hW2, frozen?_alloc_cells]; unfold World.frozen?; rw [Array.getElem?_eq_none (Nat.le_of_eq s1)]
  rw [hW2]
  obtain ⟨W3, hW3⟩ : ∃ W, W2.alloc (.cells #[.int .i64 0] t3) = W := ⟨_, rfl⟩
  have s3 : W3.heap.size = w2.heap.size + 3 := by rw [← hW3]; simp [s2]
  have b3 : Below (w2.heap.size + 2) W2 W3 := by rw [← hW3, ← s2]; exact (Below.refl _ _).alloc (Nat.le_refl _) _
  have c3 : ∀ j, W3.cell? ⟨w2.heap.size + 2, j, none⟩ = (#[.int .i64 0] : Array Value)[j]? := fun j => by rw [← hW3, ← s2]; exact World.cell?_alloc_new ..
  have f3 : ∀ j, W3.frozen? ⟨w2.heap.size + 2, j, none⟩ = false := fun j => by
    rw [← hW3, frozen?_alloc_cells]; unfold World.frozen?; rw [Array.getElem?_eq_none (Nat.le_of_eq s2)]
  rw [hW3]
  obtain ⟨W4, hW4⟩ : ∃ W, W3.alloc (.cells #[.bool false] t4) = W := ⟨_, rfl⟩
  have s4 : W4.heap.size = w2.heap.size + 4 := by rw [← hW4]; simp [s3]
  have b4 : Below (w2.heap.size + 3) W3 W4 := by rw [← hW4, ← s3]; exact (Below.refl _ _).alloc (Nat.le_refl _) _
  have c4 : ∀ j, W4.cell? ⟨w2.heap.size + 3, j, none⟩ = (#[.bool false] : Array Value)[j]? := fun j => by rw [← hW4, ← s3]; exact World.cell?_alloc_new ..
  have f4 : ∀ j, W4.frozen? ⟨w2.heap.size + 3, j, none⟩ = false := fun j => by
    rw [← hW4, frozen?_alloc_cells]; unfold World.frozen?; rw [Array.getElem?_eq_none (Nat.le_of_eq s3)]
  rw [hW4]
  obtain ⟨W5, hW5⟩ : ∃ W, W4.alloc (.cells #[.slice none 0 0] t5) = W := ⟨_, rfl⟩
  have s5 : W5.heap.size = w2.heap.size + 5 := by rw [← hW5]; simp [s4]
  have b5 : Below (w2.heap.size + 4) W4 W5 := by rw [← hW5, ← s4]; exact (Below.refl _ _).alloc (Nat.le_refl _) _
  have c5 : ∀ j, W5.cell? ⟨w2.heap.size + 4, j, none⟩ = (#[.slice none 0 0] : Array Value)[j]? := fun j => by rw [← hW5, ← s4]; exact World.cell?_alloc_new ..
  have f5 : ∀ j, W5.frozen? ⟨w2.heap.size + 4, j, none⟩ = false := fun j => by
    rw [← hW5, frozen?_alloc_cells]; unfold World.frozen?; rw [Array.getElem?_eq_none (Nat.le_of_eq s4)]
  rw [hW5]
  clear hW1 hW2 hW3 hW4 hW5
  have b35 : Below (w2.heap.size + 3) W3 W5 := b4.trans (b5.mono (by omega))
  have b25 : Below (w2.heap.size + 2) W2 W5 := b3.trans (b35.mono (by omega))
  have b15 : Below (w2.heap.size + 1) W1 W5 := b2.trans (b25.mono (by omega))
  have b05 : Below w2.heap.size w2 W5 := b1.trans (b15.mono (by omega))
  refine ⟨hlt, Nat.le_refl _, fun j hj => ?_, fun j hj => ?_, fun j hj => ?_, fun j hj => ?_, ?_, ?_, ?_, ?_, ⟨.slice none 0 0, ?_, World.ownsRow_nil _ _ _ _⟩, ?_, hbw.trans (b05.mono (Nat.le_of_lt hlt)), Nat.le_of_eq s5.symm⟩
  · rw [b05.cell (p := ⟨w.heap.size, j, none⟩) hlt, cB]
    rcases (show j = 0 ∨ j = 1 ∨ j = 2 ∨ j = 3 ∨ j = 4 ∨ j = 5 ∨ j = 6 ∨ j = 7 ∨ j = 8 by omega) with rfl | rfl | rfl | rfl | rfl | rfl | rfl | rfl | rfl <;> rfl
  · rw [b15.cell (p := ⟨w2.heap.size, j, none⟩) (Nat.lt_succ_self _), c1]
    simp [show j < ds.size by omega]
  · rw [b25.cell (p := ⟨w2.heap.size + 1, j, none⟩) (Nat.lt_succ_self _), c2]
    rcases (show j = 0 ∨ j = 1 ∨ j = 2 ∨ j = 3 ∨ j = 4 ∨ j = 5 ∨ j = 6 ∨ j = 7 ∨ j = 8 by omega) with rfl | rfl | rfl | rfl | rfl | rfl | rfl | rfl | rfl <;> rfl
  · rw [b25.frozen (p := ⟨w2.heap.size + 1, j, none⟩) (Nat.lt_succ_self _)]; exact f2 j
  · rw [b35.cell (p := ⟨w2.heap.size + 2, 0, none⟩) (Nat.lt_succ_self _), c3]; rfl
  · rw [b35.frozen (p := ⟨w2.heap.size + 2, 0, none⟩) (Nat.lt_succ_self _)]; exact f3 0
  · rw [b5.cell (p := ⟨w2.heap.size + 3, 0, none⟩) (Nat.lt_succ_self _), c4]; rfl
  · rw [b5.frozen (p := ⟨w2.heap.size + 3, 0, none⟩) (Nat.lt_succ_self _)]; exact f4 0
  · rw [c5]; rfl
  · exact f5 0
theorem checkE_form {op f z : Int} {nm : List UInt8} {l s : Bool} (hO : opOf op = ⟨nm, f, l, s, z⟩) (rd rs1 rs2 imm : Int) (aq rl : Bool) (pred succ : Int) :
    checkE ⟨op, rd, rs1, rs2, imm, aq, rl, pred, succ⟩ = if formOk f (shortName nm) ⟨op, rd, rs1, rs2, imm, aq, rl, pred, succ⟩ then 0 else 2 := by
  unfold checkE checkOk; rw [hO]
end Go.Proofs.YtcgflnkgekkidaaGreatDoor
namespace Go.Proofs.YtcgflnkgekkidaaGreatDoor
open Go.RowKit
set_option maxRecDepth 100000 in
set_option maxHeartbeats 8000000 in
theorem Check_0 (op rd rs1 rs2 imm : Int) (aq rl : Bool) (pred succ : Int) (hop : op ≤ 9223372036854775807) (nm : List UInt8) (z : Int) (l s : Bool) (hO : Hid (opOf op = ⟨nm, 0, l, s, z⟩)) (w : World) (ht : Tabs w) :
    Calls Tryz.prog 90 #[.agg #[.int .i64 op, .int .i64 rd, .int .i64 rs1, .int .i64 rs2, .int .i64 imm, .bool aq, .bool rl, .int .i64 pred, .int .i64 succ]] w fun e w' => e = .returned (.int .i64 (checkE ⟨op, rd, rs1, rs2, imm, aq, rl, pred, succ⟩)) ∧ Below w.heap.size w w' := by
  have hmf : ∀ (fn : Fn) (first cap : Array Value) (w : World), (Instr.makeFunc fn first cap).run Tryz.prog w = .ok (.func fn first cap) w := fun _ _ _ _ => rfl
  have hof := Lib.hid (fun W (hW : Tabs W) => of_any op hop W hW)
  rw [hO.out] at hof
  have hE0 : Hid (∀ rd rs1 rs2 imm aq rl pred succ, checkE ⟨op, rd, rs1, rs2, imm, aq, rl, pred, succ⟩ = if formOk 0 (shortName nm) ⟨op, rd, rs1, rs2, imm, aq, rl, pred, succ⟩ then 0 else 2) := Lib.hid (checkE_form hO.out)
  clear hO hop
  go_enter Tryz.func90, Tryz.ntmps90
  go_wp2_with (first | (go_at_call 116; refine (hof.out _ (ht.later ((Below.refl _ _).alloc (Nat.le_refl _) _) (Nat.le_refl _))).mono ?_; rintro e w2 ⟨rfl, hb2⟩; have g0 := op_cell (t' := 158) (ds := #[.string ⟨nm.toArray⟩, .int .i64 0, .bool l, .bool s, .int .i64 z]) hb2 0; have hC := CK.start hb2 #[.string ⟨nm.toArray⟩, .int .i64 0, .bool l, .bool s, .int .i64 z] rfl 158 26 3 4 32) | (go_at_call 117; refine (Check_reg1 hC rd rfl (by simp)).mono ?_; rintro e w' ⟨rfl, hC⟩) | (go_at_call 118; refine (Check_reg2 hC rs1 rfl (by simp)).mono ?_; rintro e w' ⟨rfl, hC⟩) | (go_at_call 119; refine (Check_reg3 hC rs2 rfl (by simp)).mono ?_; rintro e w' ⟨rfl, hC⟩) | (go_at_call 120; refine (Check_imm hC imm rfl _ _).mono ?_; rintro e w' ⟨rfl, hC⟩))
  have hbl := hC.bl
  have hE : Hid (_ = (2 : Int)) := Lib.hid ((hE0.out rd rs1 rs2 imm aq rl pred succ).trans (by simp [formOk]))
  go_ret
  exact ⟨ret_int (by rw [hE.out]), hbl⟩
end Go.Proofs.YtcgflnkgekkidaaGreatDoor
