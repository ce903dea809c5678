/- An instruction that lies in a box of its own. The walks of the library's strings.Builder where it lies in package insn's writer. The walks of the methods of package insn's writer: what they write is what the document says. The walk of the writer's set: the letters of a fence. The frame of insn.Text: the instruction, its operation, the writer. Conditions: as each theorem says. -/
import Derived.Test.YtdbpnbmaineniaaGreatDoorInsnDf
import Derived.Deep.MidRow
import Derived.WalkKit
import Derived.Test.YtdbpnbmaineniaaGreatDoorProg
import Derived.Test.YtdbpnbmaineniaaGreatDoorBase
import Derived.ProofKit
import Derived.Lib.Hide
import Derived.Shelf.Strings.BuilderK
import Derived.Lib.OthersKept
import Derived.Test.YtdbpnbmaineniaaGreatDoorTks
import Derived.Test.YtdbpnbmaineniaaGreatDoorShelf
import Derived.Test.YtdbpnbmaineniaaGreatDoorShapePl
import Derived.Deep.RegionHeld
import Derived.Lib.LaidTab
import Derived.Lib.AppendIntMem
import Derived.BigCall
import Derived.Test.YtdbpnbmaineniaaGreatDoorInsnCheck
set_option linter.unusedVariables false
set_option linter.unusedSimpArgs false
namespace Go.Proofs.YtdbpnbmaineniaaGreatDoor
open Go.RowKit
/-- An instruction's box. -/
structure XB (w : World) (cs : List Value) (W : World) : Prop where
  c : W.rangeAt w.heap.size 0 cs
  bl : Below w.heap.size w W
  lt : w.heap.size < W.heap.size
theorem XB.start (w : World) (cs : List Value) (t : TypeId) : XB w cs (w.alloc (.cells cs.toArray t)) :=
  ⟨fun j v hv => by rw [World.cell?_alloc_new, Nat.zero_add]; simpa using hv, (Below.refl _ _).alloc (Nat.le_refl _) _, by simp⟩
theorem XB.keep {w W W' : World} {cs : List Value} (h : XB w cs W) (hb : Below W.heap.size W W') : XB w cs W' :=
  ⟨fun j v hv => by rw [hb.cell (p := ⟨w.heap.size, 0 + j, none⟩) h.lt]; exact h.c j v hv, h.bl.trans (hb.mono (Nat.le_of_lt h.lt)), Nat.lt_of_lt_of_le h.lt hb.size⟩
theorem XB.at {w W : World} {cs : List Value} (h : XB w cs W) (j : Nat) (v : Value) (hv : cs[j]? = some v) : W.cell? ⟨w.heap.size, j, none⟩ = some v := by
  have := h.c j v hv; rw [Nat.zero_add] at this; exact this
end Go.Proofs.YtdbpnbmaineniaaGreatDoor
namespace Go.Proofs.YtdbpnbmaineniaaGreatDoor
open Go.RowKit
theorem sizeBd : (Tryz.prog.info? 77).map (·.size) = some 2 := by kernel_rfl
theorem liesBd : liesAt Tryz.prog Tryz.prog.depth 115 (2 / Tryz.prog.cellsOf 115) 0 77 1 = true := by kernel_rfl
theorem byteBd : (Tryz.prog.info? 5).map (fun i => (i.zero, i.size, i.bytes)) = some (some (.int .u8 0), 1, 1) := by kernel_rfl
/-- The writer in block b, one of the call's own (from B on): it holds these bytes. -/
abbrev IsW (B b : Nat) (bs : List Value) (w : World) : Prop := Lib.IsBuilderF 115 5 B b bs w
abbrev WAt (B b : Nat) (p : Value) (bs : List Value) (w : World) : Prop := Lib.BuilderAtF 115 5 B b p bs w
set_option maxHeartbeats 1000000 in
set_option maxRecDepth 100000 in
theorem WCopy_fresh (b : Nat) (w : World) (h0 : w.cell? ⟨b, 0, none⟩ = some (.pointer none)) (hsh : w.shape? b = some (115, 2)) (hfz : w.frozen? ⟨b, 0, none⟩ = false) :
    Calls Tryz.prog 119 #[.pointer (some ⟨b, 0, none⟩)] w fun e w' => e = .returned (.tuple #[]) ∧ w' = w.setCell ⟨b, 0, none⟩ (.pointer (some ⟨b, 0, none⟩)) := by
  obtain ⟨j, hj, hjs⟩ := Option.map_eq_some_iff.1 sizeBd
  go_enter Tryz.func119, Tryz.ntmps119
  go_wp2
  rw [Lib.run_to_unsafe w ⟨b, 0, none⟩ Tryz.underlying75 Tryz.underlying170 hj (by rw [hjs]; decide) hsh (Nat.zero_lt_succ 1)]
  simp only [Result.andThen]
  rw [Oper.upon_value]
  go_wp2
  rw [run_callFunc_extern Tryz.func149 (by kernel_rfl) (by kernel_rfl) (by kernel_rfl) (e := Extern.AbiNoEscape.same) (by kernel_rfl)]
  rw [Lib.run_noEscape]
  simp only [Result.andThen]
  rw [Oper.upon_value]
  go_wp2
  rw [Lib.run_from_unsafe w ⟨b, 0, none⟩ Tryz.underlying170 Tryz.underlying75 hj hsh liesBd]
  simp only [Result.andThen]
  rw [Oper.upon_value]
  go_wp2
  go_end0
  exact ⟨rfl, rfl⟩
set_option maxHeartbeats 1000000 in
set_option maxRecDepth 100000 in
theorem WCopy_used (b : Nat) (w : World) (h0 : w.cell? ⟨b, 0, none⟩ = some (.pointer (some ⟨b, 0, none⟩))) :
    Calls Tryz.prog 119 #[.pointer (some ⟨b, 0, none⟩)] w fun e w' => e = .returned (.tuple #[]) ∧ w' = w := by
  obtain ⟨j, hj, _⟩ := Option.map_eq_some_iff.1 sizeBd
  go_enter Tryz.func119, Tryz.ntmps119
  go_wp2
  rw [Lib.run_neq_ptr_same w _ Tryz.underlying75 hj]
  go_wp2
  go_end0
  exact ⟨rfl, rfl⟩
theorem WCopy_any (B b : Nat) (bs : List Value) (w : World) (h : IsW B b bs w) :
    Calls Tryz.prog 119 #[.pointer (some ⟨b, 0, none⟩)] w fun e w' => e = .returned (.tuple #[]) ∧ WAt B b (.pointer (some ⟨b, 0, none⟩)) bs w' ∧ Below B w w' ∧ Lib.OthersKept 5 (some b) w w' := by
  rcases h with h | h
  · refine (WCopy_fresh b w h.cell0 h.shape h.frozen0).mono ?_
    rintro e w' ⟨rfl, rfl⟩
    exact ⟨rfl, h.used _, (Below.refl B w).setCell (p := ⟨b, 0, none⟩) h.1 _, (Lib.OthersKept.refl _ _ w).setCell ⟨b, 0, none⟩ rfl _⟩
  · refine (WCopy_used b w h.cell0).mono ?_
    rintro e w' ⟨rfl, rfl⟩
    exact ⟨rfl, h, Below.refl B _, Lib.OthersKept.refl _ _ _⟩
theorem WAt.here {B b : Nat} {p : Value} {bs : List Value} {w : World} (h : WAt B b p bs w) : b < w.heap.size := by
  obtain ⟨_, v, hbk, _⟩ := h
  rcases Nat.lt_or_ge b w.heap.size with h' | h'
  · exact h'
  · simp [Array.getElem?_eq_none h'] at hbk
set_option maxHeartbeats 2000000 in
set_option maxRecDepth 100000 in
theorem WStr_any (B b : Nat) (bs : List Value) (s : ByteArray) (w : World) (h : IsW B b bs w) (hlen : bs.length + s.size ≤ 1000000) (hBw : B ≤ w.heap.size) :
    Calls Tryz.prog 84 #[.pointer (some ⟨b, 0, none⟩), .string s] w fun e w' => e = .returned (.tuple #[.int .i64 s.size, .nilIface]) ∧ IsW B b (bs ++ Lib.strCells s) w' ∧ Below B w w' ∧ Lib.OthersKept 5 (some b) w w' := by
  obtain ⟨i0, hi, hz0, hz1, hz2⟩ := info_parts byteBd
  have hcc := Lib.hid (fun w h => WCopy_any B b bs w h)
  go_enter Tryz.func84, Tryz.ntmps84
  go_wp2_with (go_at_call 119; refine (hcc.out _ h).mono ?_)
  rintro e w1 ⟨rfl, h1, hb1, hk1⟩
  have hlt := WAt.here h1
  obtain ⟨hB, v, hbk, hown, hne⟩ := h1
  have c0 : w1.cell? ⟨b, 0, none⟩ = some (.pointer (some ⟨b, 0, none⟩)) := by rw [Lib.cell_of_heap hbk]; rfl
  have c1 : w1.cell? ⟨b, 1, none⟩ = some v := by rw [Lib.cell_of_heap hbk]; rfl
  go_wp2_with (at_builtin; refine Lib.wpList_append_own_stringF _ rfl _ _ 31 9 rfl B 5 i0 Tryz.underlying31 Tryz.underlying9 hi hz0 hz1 hz2 _ _ _ rfl hown s rfl ?c3 ?c4 ?c5 ?_)
  case c3 => unfold maxLen; omega
  case c4 => omega
  case c5 => have := hb1.size; omega
  intro v' w2 hown' hgrow _
  have hb2 : w2.heap[b]? = some (.cells #[.pointer (some ⟨b, 0, none⟩), v] 115 (0, 0)) := by
    rw [hgrow.block b hlt (fun e => hne e.symm)]
    exact hbk
  have d0 : w2.cell? ⟨b, 0, none⟩ = some (.pointer (some ⟨b, 0, none⟩)) := by rw [Lib.cell_of_heap hb2]; rfl
  have d1 : w2.cell? ⟨b, 1, none⟩ = some v := by rw [Lib.cell_of_heap hb2]; rfl
  have f1 : w2.frozen? ⟨b, 1, none⟩ = false := Lib.frozen_of_heap hb2 1
  obtain ⟨ao, n', cap, rfl⟩ : ∃ ao n' cap, v' = .slice ao n' cap := by
    rcases hown'.2 with ⟨hv, _⟩ | ⟨g, cap, cur, fz, hv, _⟩
    · exact ⟨_, _, _, hv⟩
    · exact ⟨_, _, _, hv⟩
  go_wp2
  go_ret2
  refine ⟨rfl, .inr ?_, ?_, (hk1.grown hgrow (Lib.ownsRowF_kind hown)).setCell ⟨b, 1, none⟩ rfl _⟩
  · exact Lib.BuilderAtF.put (T := 115) (e := 5) hB hb2 (bs' := bs ++ Lib.strCells s) (by simpa [Lib.strCells_length] using hown') (by decide)
  · exact (hb1.grown hgrow (by have := hb1.size; omega) (fun k hk => (hown.lt k hk).1)).setCell (p := ⟨b, 1, none⟩) hB _
set_option maxHeartbeats 2000000 in
set_option maxRecDepth 100000 in
theorem WByte_any (B b : Nat) (bs : List Value) (c : Int) (w : World) (h : IsW B b bs w) (hlen : bs.length + 1 ≤ 1000000) (hBw : B ≤ w.heap.size) :
    Calls Tryz.prog 50 #[.pointer (some ⟨b, 0, none⟩), .int .u8 c] w fun e w' => e = .returned .nilIface ∧ IsW B b (bs ++ [.int .u8 c]) w' ∧ Below B w w' ∧ Lib.OthersKept 5 (some b) w w' := by
  obtain ⟨i0, hi, hz0, hz1, hz2⟩ := info_parts byteBd
  have hcc := Lib.hid (fun w h => WCopy_any B b bs w h)
  go_enter Tryz.func50, Tryz.ntmps50
  go_wp2_with (go_at_call 119; refine (hcc.out _ h).mono ?_)
  rintro e w1 ⟨rfl, h1, hb1, hk1⟩
  have hlt := WAt.here h1
  obtain ⟨hB, v, hbk, hown, hne⟩ := h1
  have c0 : w1.cell? ⟨b, 0, none⟩ = some (.pointer (some ⟨b, 0, none⟩)) := by rw [Lib.cell_of_heap hbk]; rfl
  have c1 : w1.cell? ⟨b, 1, none⟩ = some v := by rw [Lib.cell_of_heap hbk]; rfl
  go_wp2_with (at_builtin; refine wpList_append_ownF _ rfl _ _ 31 rfl B 5 i0 (.int .u8 0) 1 1 Tryz.underlying31 hi hz0 hz1 hz2 rfl (by decide) _ _ _ rfl (hown.alloc _) ⟨w1.heap.size, 0, none⟩ 1 1 [.int .u8 c] rfl rfl ?c1 ?c2 ?c3 ?c4 ?c5 ?_)
  case c1 =>
    intro j u hj
    match j, hj with
    | 0, hj => simp at hj; subst hj; simp [Addr.add]
  case c2 => intro u hu; simp at hu; subst hu; rfl
  case c3 => unfold maxLen; omega
  case c4 => omega
  case c5 => have := hb1.size; simp; omega
  intro v' w2 hown' hgrow _
  have hb2 : w2.heap[b]? = some (.cells #[.pointer (some ⟨b, 0, none⟩), v] 115 (0, 0)) := by
    rw [hgrow.block b (by simp; omega) (fun e => hne e.symm), Lib.alloc_old w1 _ b hlt]
    exact hbk
  have d0 : w2.cell? ⟨b, 0, none⟩ = some (.pointer (some ⟨b, 0, none⟩)) := by rw [Lib.cell_of_heap hb2]; rfl
  have d1 : w2.cell? ⟨b, 1, none⟩ = some v := by rw [Lib.cell_of_heap hb2]; rfl
  have f1 : w2.frozen? ⟨b, 1, none⟩ = false := Lib.frozen_of_heap hb2 1
  obtain ⟨g, cap, rfl⟩ : ∃ g cap, v' = .slice (some ⟨g, 0, none⟩) (bs.length + 1) cap := by
    rcases hown'.2 with ⟨_, h0⟩ | ⟨g, cap, cur, fz, hv, _⟩
    · omega
    · exact ⟨g, cap, hv⟩
  go_wp2
  go_ret
  refine ⟨rfl, .inr ?_, ?_, ((hk1.alloc _).grown hgrow (Lib.ownsRowF_kind (hown.alloc _))).setCell ⟨b, 1, none⟩ rfl _⟩
  · exact Lib.BuilderAtF.put (T := 115) (e := 5) hB hb2 (bs' := bs ++ [.int .u8 c]) (by simpa using hown') (by decide)
  · exact ((hb1.alloc (by have := hb1.size; omega) _).grown hgrow (by have := hb1.size; simp; omega) (fun k hk => (hown.lt k hk).1)).setCell (p := ⟨b, 1, none⟩) hB _
set_option maxHeartbeats 2000000 in
set_option maxRecDepth 100000 in
theorem WAppend_any (B : Nat) (v : Value) (n : Nat) (xs : List Value) (r : Int) (h0 : 0 ≤ r) (h1 : r ≤ 127) (w : World) (hown : w.ownsRowF B 5 1 v n xs) (hlen : n + 4 ≤ 1000000) (hBw : B ≤ w.heap.size) :
    Calls Tryz.prog 163 #[v, .int .i32 r] w fun e w' => ∃ v', e = .returned v' ∧ w'.ownsRowF B 5 1 v' (n + 1) (xs ++ [.int .u8 r]) ∧ ∃ o, (w.alloc o).grownBy w' v.ownBlock := by
  obtain ⟨i0, hi, hz0, hz1, hz2⟩ := info_parts byteBd
  go_enter Tryz.func163, Tryz.ntmps163
  go_wp2_with (at_builtin; refine wpList_append_ownF _ rfl _ _ 31 rfl B 5 i0 (.int .u8 0) 1 1 Tryz.underlying31 hi hz0 hz1 hz2 rfl (by decide) _ _ _ rfl (hown.alloc _) ⟨w.heap.size, 0, none⟩ 1 1 [.int .u8 r] rfl rfl ?c1 ?c2 ?c3 ?c4 ?c5 ?_)
  case c1 =>
    intro j u hj
    match j, hj with
    | 0, hj => simp at hj; subst hj; simp [Addr.add]
  case c2 => intro u hu; simp at hu; subst hu; rfl
  case c3 => unfold maxLen; omega
  case c4 => omega
  case c5 => simp; omega
  intro v' w2 hown' hgrow _
  go_wp2
  go_ret
  exact ⟨_, rfl, hown', _, hgrow⟩
set_option maxHeartbeats 2000000 in
set_option maxRecDepth 100000 in
theorem WRune_any (B b : Nat) (bs : List Value) (r : Int) (h0 : 0 ≤ r) (h1 : r ≤ 127) (w : World) (h : IsW B b bs w) (hlen : bs.length + 4 ≤ 1000000) (hBw : B ≤ w.heap.size) :
    Calls Tryz.prog 142 #[.pointer (some ⟨b, 0, none⟩), .int .i32 r] w fun e w' => (∃ v, e = .returned v) ∧ IsW B b (bs ++ [.int .u8 r]) w' ∧ Below B w w' ∧ Lib.OthersKept 5 (some b) w w' := by
  have hcc := Lib.hid (fun w h => WCopy_any B b bs w h)
  have hap := Lib.hid (fun v w hown hBw => WAppend_any B v bs.length bs r h0 h1 w hown hlen hBw)
  go_enter Tryz.func142, Tryz.ntmps142
  go_wp2_with (go_at_call 119; refine (hcc.out _ h).mono ?_)
  rintro e w1 ⟨rfl, h1, hb1, hk1⟩
  have hlt := WAt.here h1
  obtain ⟨hB, v, hbk, hown, hne⟩ := h1
  obtain ⟨ao, cap, rfl⟩ : ∃ ao cap, v = .slice ao bs.length cap := by
    rcases hown.2 with ⟨hv, h0⟩ | ⟨g, cap, cur, fz, hv, _⟩
    · exact ⟨none, 0, by rw [hv, h0]⟩
    · exact ⟨_, _, hv⟩
  have c0 : w1.cell? ⟨b, 0, none⟩ = some (.pointer (some ⟨b, 0, none⟩)) := by rw [Lib.cell_of_heap hbk]; rfl
  have c1 : w1.cell? ⟨b, 1, none⟩ = some (.slice ao bs.length cap) := by rw [Lib.cell_of_heap hbk]; rfl
  go_wp2_with (go_at_call 163; refine (hap.out _ _ hown (by have := hb1.size; omega)).mono ?_)
  rintro e w2 ⟨v', rfl, hown', o, hgrow⟩
  have hb2 : w2.heap[b]? = some (.cells #[.pointer (some ⟨b, 0, none⟩), .slice ao bs.length cap] 115 (0, 0)) := by
    rw [hgrow.block b (by simp; omega) (fun e => hne e.symm), Lib.alloc_old w1 _ b hlt]
    exact hbk
  have d0 : w2.cell? ⟨b, 0, none⟩ = some (.pointer (some ⟨b, 0, none⟩)) := by rw [Lib.cell_of_heap hb2]; rfl
  have d1 : w2.cell? ⟨b, 1, none⟩ = some (.slice ao bs.length cap) := by rw [Lib.cell_of_heap hb2]; rfl
  have f1 : w2.frozen? ⟨b, 1, none⟩ = false := Lib.frozen_of_heap hb2 1
  obtain ⟨g, cap', rfl⟩ : ∃ g cap', v' = .slice (some ⟨g, 0, none⟩) (bs.length + 1) cap' := by
    rcases hown'.2 with ⟨_, h0⟩ | ⟨g, cap', cur, fz, hv, _⟩
    · omega
    · exact ⟨g, cap', hv⟩
  go_wp2
  go_ret2
  refine ⟨⟨_, rfl⟩, .inr ?_, ?_, ((hk1.alloc _).grown hgrow (Lib.ownsRowF_kind (hown.alloc _))).setCell ⟨b, 1, none⟩ rfl _⟩
  · exact Lib.BuilderAtF.put (T := 115) (e := 5) hB hb2 (bs' := bs ++ [.int .u8 r]) (by simpa using hown') (by decide)
  · exact ((hb1.alloc (by have := hb1.size; omega) _).grown hgrow (by have := hb1.size; simp; omega) (fun k hk => (hown.lt k hk).1)).setCell (p := ⟨b, 1, none⟩) hB _
set_option maxHeartbeats 1000000 in
set_option maxRecDepth 100000 in
theorem WString_any (B b : Nat) (l : List UInt8) (w : World) (h : IsW B b (Lib.byteCells l) w) (h0 : l ≠ []) :
    Calls Tryz.prog 51 #[.pointer (some ⟨b, 0, none⟩)] w fun e w' => e = .returned (.string ⟨l.toArray⟩) ∧ Below B w w' := by
  obtain ⟨p, hAt⟩ : ∃ p, WAt B b p (Lib.byteCells l) w := by
    rcases h with h | h
    · exact ⟨_, h⟩
    · exact ⟨_, h⟩
  obtain ⟨hB, v, hbk, hown, hne⟩ := hAt
  have hl0 : l.length ≠ 0 := by simpa using h0
  rw [Lib.byteCells_length] at hown
  obtain ⟨g, cap, cur, fz, rfl, hbg, hg, hnc, hcm, hcs⟩ : ∃ g cap cur fz, v = .slice (some ⟨g, 0, none⟩) l.length cap ∧ B ≤ g ∧ w.heap[g]? = some (.cells cur 5 fz) ∧ l.length ≤ cap ∧ cap ≤ maxLen ∧ cur.size = cap * 1 := by
    rcases hown.2 with ⟨_, hz⟩ | ⟨g, cap, cur, fz, hv, r⟩
    · exact absurd hz hl0
    · exact ⟨g, cap, cur, fz, hv, r.1, r.2.1, r.2.2.2.1, r.2.2.2.2.1, r.2.2.2.2.2.1⟩
  have c1 : w.drew.cell? ⟨b, 1, none⟩ = some (.slice (some ⟨g, 0, none⟩) l.length cap) := by
    have : w.drew.heap[b]? = some (.cells #[p, .slice (some ⟨g, 0, none⟩) l.length cap] 115 (0, 0)) := hbk
    rw [Lib.cell_of_heap this]; rfl
  have hSD : (Builtin.unsafeSliceData_ #[31] 145 #[.slice (some ⟨g, 0, none⟩) l.length cap]).run Tryz.prog w.drew = .ok (.pointer (some ⟨g, 0, none⟩)) w.drew :=
    Lib.run_unsafeSliceData_row _ _ _ _ _ _ (by omega)
  have hUS : (Builtin.unsafeString_ #[145, 3] 9 #[.pointer (some ⟨g, 0, none⟩), .int .i64 l.length]).run Tryz.prog w.drew = .ok (.string ⟨l.toArray⟩) (w.drew.freeze ⟨g, 0, none⟩ l.length) := by
    refine Lib.run_unsafeString_row w.drew 145 3 9 5 Tryz.underlying145 (by kernel_rfl) g cur.size (by have hg' : w.drew.heap[g]? = some (.cells cur 5 fz) := hg; simp [World.shape?, hg']) l h0 (by omega) (by unfold maxLen at hcm; omega) ?_
    intro j x hx
    exact hown.cells (g := g) rfl j (.int .u8 x.toNat) (by simp [Lib.byteCells, hx])
  have mixed : Tryz.prog.follows Departure.mixedOrders = true := by kernel_rfl
  go_enter Tryz.func51, Tryz.ntmps51
  go_wp2
  go_region_o
  all_goals (go_wp2; go_ret; exact ⟨rfl, Lib.below_freeze (Below.drew (Below.refl B w)) (p := ⟨g, 0, none⟩) hbg _⟩)
end Go.Proofs.YtdbpnbmaineniaaGreatDoor
namespace Go.Proofs.YtdbpnbmaineniaaGreatDoor
open Go.RowKit
abbrev WL (b : Nat) (l : List UInt8) (w : World) : Prop := IsW b b (Lib.byteCells l) w
/-- The writer then holds these bytes; what lay before it, and what is no row of bytes, is as it was. -/
structure WP (b : Nat) (l : List UInt8) (w w' : World) : Prop where
  iw : WL b l w'
  bl : Below b w w'
  ok : Lib.OthersKept 5 (some b) w w'
theorem WP.trans {b : Nat} {l m : List UInt8} {w w' w'' : World} (h : WP b l w w') (k : WP b m w' w'') : WP b m w w'' := ⟨k.iw, h.bl.trans k.bl, h.ok.trans k.ok⟩
theorem WP.start {b : Nat} {l : List UInt8} {w : World} (h : WL b l w) : WP b l w w := ⟨h, Below.refl _ _, Lib.OthersKept.refl _ _ _⟩
theorem IsW.lt {B b : Nat} {bs : List Value} {w : World} (h : IsW B b bs w) : b < w.heap.size := h.elim WAt.here WAt.here
theorem WAt.keep {B b : Nat} {p : Value} {bs : List Value} {w w' : World} (h : WAt B b p bs w) (hb : Below w.heap.size w w') : WAt B b p bs w' := by
  have hl := WAt.here h
  obtain ⟨hB, v, hbk, hown, hne⟩ := h
  refine ⟨hB, v, (hb.block b hl).trans hbk, ⟨hown.1, ?_⟩, hne⟩
  rcases hown.2 with h0 | ⟨g, cap, cur, fz, hv, hbg, hg, r⟩
  · exact .inl h0
  · exact .inr ⟨g, cap, cur, fz, hv, hbg, (hb.block g (Array.getElem?_eq_some_iff.1 hg).1).trans hg, r⟩
theorem IsW.keep {B b : Nat} {bs : List Value} {w w' : World} (h : IsW B b bs w) (hb : Below w.heap.size w w') : IsW B b bs w' := h.elim (fun x => .inl (WAt.keep x hb)) (fun x => .inr (WAt.keep x hb))
theorem kept_below {b : Nat} {w w' : World} (hb : Below w.heap.size w w') : Lib.OthersKept 5 (some b) w w' := fun k o hk _ _ => (hb.block k (Array.getElem?_eq_some_iff.1 hk).1).trans hk
theorem WP.keep {b : Nat} {l : List UInt8} {w w' w'' : World} (h : WP b l w w') (hb : Below w'.heap.size w' w'') : WP b l w w'' := ⟨h.iw.keep hb, h.bl.trans (hb.mono (Nat.le_of_lt h.iw.lt)), h.ok.trans (kept_below hb)⟩
theorem bytes_app (l m : List UInt8) : Lib.byteCells (l ++ m) = Lib.byteCells l ++ Lib.byteCells m := by simp [Lib.byteCells]
theorem WStrL (b : Nat) (l : List UInt8) (s : ByteArray) (w : World) (h : WL b l w) (hlen : l.length + s.size ≤ 100000) :
    Calls Tryz.prog 84 #[.pointer (some ⟨b, 0, none⟩), .string s] w fun e w' => (∃ v, e = .returned v) ∧ WP b (l ++ s.data.toList) w w' := by
  refine (WStr_any b b _ s w h (by rw [Lib.byteCells_length]; omega) (Nat.le_of_lt h.lt)).mono ?_
  rintro e w' ⟨rfl, h1, h2, h3⟩
  rw [Lib.strCells_eq, ← bytes_app] at h1
  exact ⟨⟨_, rfl⟩, h1, h2, h3⟩
theorem WByteL (b : Nat) (l : List UInt8) (c : UInt8) (w : World) (h : WL b l w) (hlen : l.length + 1 ≤ 100000) :
    Calls Tryz.prog 50 #[.pointer (some ⟨b, 0, none⟩), .int .u8 c.toNat] w fun e w' => (∃ v, e = .returned v) ∧ WP b (l ++ [c]) w w' := by
  refine (WByte_any b b _ c.toNat w h (by rw [Lib.byteCells_length]; omega) (Nat.le_of_lt h.lt)).mono ?_
  rintro e w' ⟨rfl, h1, h2, h3⟩
  exact ⟨⟨_, rfl⟩, by show IsW b b (Lib.byteCells (l ++ [c])) w'; rw [bytes_app]; exact h1, h2, h3⟩
theorem WRuneL (b : Nat) (l : List UInt8) (c : UInt8) (hc : c.toNat ≤ 127) (w : World) (h : WL b l w) (hlen : l.length + 4 ≤ 100000) :
    Calls Tryz.prog 142 #[.pointer (some ⟨b, 0, none⟩), .int .i32 c.toNat] w fun e w' => (∃ v, e = .returned v) ∧ WP b (l ++ [c]) w w' := by
  refine (WRune_any b b _ c.toNat (by omega) (by omega) w h (by rw [Lib.byteCells_length]; omega) (Nat.le_of_lt h.lt)).mono ?_
  rintro e w' ⟨he, h1, h2, h3⟩
  exact ⟨he, by show IsW b b (Lib.byteCells (l ++ [c])) w'; rw [bytes_app]; exact h1, h2, h3⟩
/-- The library's table of powers of ten. -/
structure P10 (w : World) : Prop where
  tab : Lib.TabIs Tryz.prog w "internal/strconv.uint64pow10" .u64 Lib.pow10Tab
  lt : 11 < w.heap.size
theorem Tryz.gPow : Tryz.prog.globalNamed "internal/strconv.uint64pow10" = some 11 := by kernel_rfl
theorem P10.later {w w' : World} {B : Nat} (h : P10 w) (hb : Below B w w') (hB : w.heap.size ≤ B) : P10 w' :=
  ⟨var?_below hb Tryz.gPow (Nat.lt_of_lt_of_le h.lt hB) h.tab, Nat.lt_of_lt_of_le h.lt hb.size⟩
theorem P10.low {w w' : World} {B : Nat} (h : P10 w) (hb : Below B w w') (hB : 11 < B) : P10 w' :=
  ⟨var?_below hb Tryz.gPow hB h.tab, Nat.lt_of_lt_of_le h.lt hb.size⟩
/-- '+' on two texts yields their text. -/
theorem yieldsIf_catW {P : Program} {ops : Array Oper} {S : World → Prop} {op : Oper} {a : Act} (hw : Region.wanted op (yielded ops a.tmps) = true) (x y : Operand) (ty t : TypeId) (ho : op.op = .binOp .add ty x y t) (l m : List UInt8)
    (hx : a.eval x = .string ⟨l.toArray⟩) (hy : a.eval y = .string ⟨m.toArray⟩) (hl : l.length + m.length ≤ 8388608) : YieldsIf P ops S op (.string ⟨(l ++ m).toArray⟩) a :=
  .inl ⟨hw, fun w _ => by
    have hq : ∀ w, (binOp .add ty (.string ⟨l.toArray⟩) (.string ⟨m.toArray⟩)).run P w = .ok (.string ⟨(l ++ m).toArray⟩) w := fun w => by
      rw [binOp_string_add]; exact run_string_add_lists w l m (by omega) (by omega)
    unfold execOp
    simp only [ho, hx, hy, Sem.run_bind, hq, Sem.run_pure]
    rfl⟩
theorem Comma_any (b : Nat) (l : List UInt8) (w : World) (h : WL b l w) (hlen : l.length ≤ 1000) :
    Calls Tryz.prog 86 #[.pointer (some ⟨b, 0, none⟩)] w fun e w' => e = .returned (.tuple #[]) ∧ WP b (l ++ [44, 32]) w w' := by
  have hS := Lib.hid (fun s hs => WStrL b l s w h hs)
  clear h
  go_enter Tryz.func86, Tryz.ntmps86
  go_wp2_with (go_at_call 84; refine (hS.out _ (by show l.length + 2 ≤ 100000; omega)).mono ?_; rintro e w1 ⟨⟨v, rfl⟩, h1⟩)
  go_end0
  exact ⟨rfl, h1⟩
theorem FormatInt_any (n : Int) (h0 : -9223372036854775808 ≤ n) (h1 : n ≤ 9223372036854775807) (w : World) (ht : P10 w) :
    Calls Tryz.prog 141 #[.int .i64 n, .int .i64 10] w fun e w' => e = .returned (.string ⟨(signL n).toArray⟩) ∧ Below w.heap.size w w' := by
  refine (Tryz.strconv_FormatInt_10 n h0 h1 w ht.tab).mono ?_
  rintro e w' ⟨rfl, k, os, rfl⟩
  exact ⟨by rw [signL_itoa n h0 h1], Lib.below_grow _ w (Nat.le_refl _) k os⟩
theorem Itoa_any (n : Int) (h0 : 0 ≤ n) (h1 : n ≤ 31) (w : World) :
    Calls Tryz.prog 161 #[.int .i64 n] w fun e w' => e = .returned (.string ⟨(Lib.itoa n).toArray⟩) ∧ w = w' := by
  obtain ⟨m, rfl⟩ := Int.eq_ofNat_of_zero_le h0
  refine (Tryz.strconv_Itoa_small m (by omega) w).mono ?_
  rintro e w' ⟨rfl, rfl⟩
  refine ⟨?_, rfl⟩
  unfold Lib.itoa
  rw [if_neg (by omega), Int.toNat_natCast]
set_option maxRecDepth 100000 in
set_option maxHeartbeats 2000000 in
theorem Reg_w (b : Nat) (l : List UInt8) (n : Int) (h0 : 0 ≤ n) (h1 : n ≤ 31) (w : World) (h : WL b l w) (hlen : l.length ≤ 1000) :
    Calls Tryz.prog 140 #[.pointer (some ⟨b, 0, none⟩), .int .i64 n] w fun e w' => e = .returned (.tuple #[]) ∧ WP b (l ++ regT n) w w' := by
  have hI := Lib.hid (fun w => Itoa_any n h0 h1 w)
  have hR := Lib.hid (regT_itoa n h0 h1)
  have ht3 : (120 :: Lib.itoa n).length ≤ 3 := by rw [← hR.out]; exact regT_lenS n h0 h1
  generalize Lib.itoa n = t at hI hR ht3
  have htl : Hid ([120].length + t.length ≤ 8388608) := Lib.hid (by simp only [List.length_cons, List.length_nil] at ht3 ⊢; omega)
  have hS : Hid (∀ W, WL b l W → Calls Tryz.prog 84 #[.pointer (some ⟨b, 0, none⟩), .string ⟨(120 :: t).toArray⟩] W fun e w' => (∃ v, e = .returned v) ∧ WP b (l ++ (120 :: t)) W w') := Lib.hid fun W hW => by
    have := WStrL b l ⟨(120 :: t).toArray⟩ W hW (by show l.length + (120 :: t).toArray.size ≤ _; rw [List.size_toArray]; omega)
    rw [show (⟨(120 :: t).toArray⟩ : ByteArray).data.toList = 120 :: t from List.toList_toArray] at this; exact this
  clear h0 h1 ht3 hlen
  go_enter Tryz.func140, Tryz.ntmps140
  go_upto_region 0 with fail
  refine wp_region_held_drew (S := fun W => True) (by kernel_rfl) trivial (fun hHeld => ?_)
  refine tkS 0 (.pointer (some ⟨b, 0, none⟩)) hHeld ?_
  try simp only [Act.put, List.getElem_toArray, List.getElem_cons_zero, List.setIfInBounds_toArray, List.set_cons_zero, List.set_cons_succ]
  have hW0 : WL b l _ := h.keep (Below.refl w.heap.size w).drew
  have hb0 : Below w.heap.size w _ := (Below.refl w.heap.size w).drew
  generalize World.drew _ = W0 at hW0 hb0 ⊢
  refine tkS 1 (.pointer (some ⟨b, 0, none⟩)) hHeld ?_
  try simp only [Act.put, List.getElem_toArray, List.getElem_cons_succ, List.getElem_cons_zero, List.setIfInBounds_toArray, List.set_cons_zero, List.set_cons_succ]
  refine tkS 2 (.pointer (some ⟨b, 0, none⟩)) hHeld ?_
  try simp only [Act.put, List.getElem_toArray, List.getElem_cons_succ, List.getElem_cons_zero, List.setIfInBounds_toArray, List.set_cons_zero, List.set_cons_succ]
  refine tkS 3 (.int .i64 n) hHeld ?_
  try simp only [Act.put, List.getElem_toArray, List.getElem_cons_succ, List.getElem_cons_zero, List.setIfInBounds_toArray, List.set_cons_zero, List.set_cons_succ]
  refine wpAnyH_ready (rs := [4]) (by kernel_rfl) (by simp) (AllReadyH.cons rfl (fun K hK2 => ?_) AllReadyH.nil)
  rw [if_pos (by rfl)]
  simp only [List.getElem_toArray, List.getElem_cons_succ, List.getElem_cons_zero]
  go_wp2_with (go_at_call 161; refine (hI.out _).mono ?_; rintro e w1 ⟨rfl, rfl⟩)
  refine hK2.out _ _ (trivial) (fun hHeld2 => ?_)
  clear hK2 K hHeld
  have hHeld := hHeld2
  clear hHeld2
  try simp only [Act.put, List.getElem_toArray, List.getElem_cons_succ, List.getElem_cons_zero, List.setIfInBounds_toArray, List.set_cons_zero, List.set_cons_succ]
  refine wpAnyH_take (i := 5) (v := .string ⟨(120 :: t).toArray⟩) rfl (by kernel_rfl) (by kernel_rfl) (by kernel_rfl) (fun _ _ _ h => h) (yieldsIf_catW (by rfl) _ _ 9 _ rfl [120] t rfl rfl htl.out) hHeld ?_
  try simp only [Act.put, List.getElem_toArray, List.getElem_cons_succ, List.getElem_cons_zero, List.setIfInBounds_toArray, List.set_cons_zero, List.set_cons_succ]
  refine wpAnyH_ready (rs := [6]) (by kernel_rfl) (by simp) (AllReadyH.cons rfl (fun K hK2 => ?_) AllReadyH.nil)
  rw [if_pos (by rfl)]
  simp only [List.getElem_toArray, List.getElem_cons_succ, List.getElem_cons_zero]
  go_wp2_with (go_at_call 84; refine (hS.out _ hW0).mono ?_; rintro e w2 ⟨⟨v, rfl⟩, h2⟩)
  refine hK2.out _ _ (trivial) (fun hHeld2 => ?_)
  clear hK2 K hHeld
  have hHeld := hHeld2
  clear hHeld2
  try simp only [Act.put, List.getElem_toArray, List.getElem_cons_succ, List.getElem_cons_zero, List.setIfInBounds_toArray, List.set_cons_zero, List.set_cons_succ]
  refine wpAnyH_done (by kernel_rfl) ?_ _
  go_wp2_with fail
  go_end0
  exact ⟨rfl, (WP.start h).keep hb0 |>.trans (by rw [hR.out]; exact h2)⟩
set_option maxRecDepth 100000 in
set_option maxHeartbeats 2000000 in
theorem Num_w (b : Nat) (l : List UInt8) (n : Int) (h0 : -9223372036854775808 ≤ n) (h1 : n ≤ 9223372036854775807) (w : World) (ht : P10 w) (hgb : 11 < b) (h : WL b l w) (hlen : l.length ≤ 1000) :
    Calls Tryz.prog 87 #[.pointer (some ⟨b, 0, none⟩), .int .i64 n] w fun e w' => e = .returned (.tuple #[]) ∧ WP b (l ++ signL n) w w' := by
  have hI := Lib.hid (fun w ht => FormatInt_any n h0 h1 w ht)
  have hl := signL_lenS n
  generalize signL n = t at hI hl ⊢
  have hS : Hid (∀ W, WL b l W → Calls Tryz.prog 84 #[.pointer (some ⟨b, 0, none⟩), .string ⟨t.toArray⟩] W fun e w' => (∃ v, e = .returned v) ∧ WP b (l ++ t) W w') := Lib.hid fun W hW => by
    have := WStrL b l ⟨t.toArray⟩ W hW (by show l.length + t.toArray.size ≤ _; rw [List.size_toArray]; omega)
    rw [show (⟨t.toArray⟩ : ByteArray).data.toList = t from List.toList_toArray] at this; exact this
  clear h0 h1 hl hlen
  go_enter Tryz.func87, Tryz.ntmps87
  go_upto_region 0 with fail
  refine wp_region_held_drew (S := fun W => P10 W) (by kernel_rfl) (ht.later ((Below.refl w.heap.size w).drew) (Nat.le_refl _)) (fun hHeld => ?_)
  refine tkS 0 (.pointer (some ⟨b, 0, none⟩)) hHeld ?_
  try simp only [Act.put, List.getElem_toArray, List.getElem_cons_zero, List.setIfInBounds_toArray, List.set_cons_zero, List.set_cons_succ]
  have hW0 : WL b l _ := h.keep (Below.refl w.heap.size w).drew
  have hb0 : Below w.heap.size w _ := (Below.refl w.heap.size w).drew
  generalize World.drew _ = W0 at hHeld hW0 hb0 ⊢
  refine tkS 1 (.pointer (some ⟨b, 0, none⟩)) hHeld ?_
  try simp only [Act.put, List.getElem_toArray, List.getElem_cons_succ, List.getElem_cons_zero, List.setIfInBounds_toArray, List.set_cons_zero, List.set_cons_succ]
  refine tkS 2 (.pointer (some ⟨b, 0, none⟩)) hHeld ?_
  try simp only [Act.put, List.getElem_toArray, List.getElem_cons_succ, List.getElem_cons_zero, List.setIfInBounds_toArray, List.set_cons_zero, List.set_cons_succ]
  refine tkS 3 (.int .i64 n) hHeld ?_
  try simp only [Act.put, List.getElem_toArray, List.getElem_cons_succ, List.getElem_cons_zero, List.setIfInBounds_toArray, List.set_cons_zero, List.set_cons_succ]
  refine wpAnyH_ready (rs := [4]) (by kernel_rfl) (by simp) (AllReadyH.cons rfl (fun K hK2 => ?_) AllReadyH.nil)
  rw [if_pos (by rfl)]
  simp only [List.getElem_toArray, List.getElem_cons_succ, List.getElem_cons_zero]
  go_wp2_with (go_at_call 141; refine (hI.out _ hHeld).mono ?_; rintro e w1 ⟨rfl, hb1⟩)
  refine hK2.out _ _ ((hHeld.later hb1 (Nat.le_refl _))) (fun hHeld2 => ?_)
  clear hK2 K hHeld
  have hHeld := hHeld2
  clear hHeld2
  try simp only [Act.put, List.getElem_toArray, List.getElem_cons_succ, List.getElem_cons_zero, List.setIfInBounds_toArray, List.set_cons_zero, List.set_cons_succ]
  have hW1 := hW0.keep hb1
  refine wpAnyH_ready (rs := [5]) (by kernel_rfl) (by simp) (AllReadyH.cons rfl (fun K hK2 => ?_) AllReadyH.nil)
  rw [if_pos (by rfl)]
  simp only [List.getElem_toArray, List.getElem_cons_succ, List.getElem_cons_zero]
  go_wp2_with (go_at_call 84; refine (hS.out _ hW1).mono ?_; rintro e w2 ⟨⟨v, rfl⟩, h2⟩)
  refine hK2.out _ _ ((hHeld.low h2.bl hgb)) (fun hHeld2 => ?_)
  clear hK2 K hHeld
  have hHeld := hHeld2
  clear hHeld2
  try simp only [Act.put, List.getElem_toArray, List.getElem_cons_succ, List.getElem_cons_zero, List.setIfInBounds_toArray, List.set_cons_zero, List.set_cons_succ]
  refine wpAnyH_done (by kernel_rfl) ?_ _
  go_wp2_with fail
  go_end0
  exact ⟨rfl, (((WP.start h).keep hb0).keep hb1).trans h2⟩
theorem At_w (b : Nat) (l : List UInt8) (n : Int) (h0 : 0 ≤ n) (h1 : n ≤ 31) (w : World) (h : WL b l w) (hlen : l.length ≤ 900) :
    Calls Tryz.prog 88 #[.pointer (some ⟨b, 0, none⟩), .int .i64 n] w fun e w' => e = .returned (.tuple #[]) ∧ WP b (l ++ [40] ++ regT n ++ [41]) w w' := by
  have hl := regT_lenS n h0 h1
  have hA := Lib.hid (fun W hW => WByteL b l 40 W hW (by omega))
  have hB := Lib.hid (fun W hW => Reg_w b (l ++ [40]) n h0 h1 W hW (by simp; omega))
  have hC := Lib.hid (fun W hW => WByteL b (l ++ [40] ++ regT n) 41 W hW (by simp; omega))
  generalize regT n = t at hB hC hl ⊢
  clear h0 h1 hl
  go_enter Tryz.func88, Tryz.ntmps88
  go_upto_region 1 with (go_at_call 50; refine (hA.out _ h).mono ?_; rintro e w1 ⟨⟨v, rfl⟩, h1⟩)
  go_upto_region 2 with (go_at_call 140; refine (hB.out _ h1.iw).mono ?_; rintro e w2 ⟨rfl, h2⟩)
  go_wp2_with (go_at_call 50; refine (hC.out _ h2.iw).mono ?_; rintro e w3 ⟨⟨v3, rfl⟩, h3⟩)
  go_end0
  exact ⟨rfl, (h1.trans h2).trans h3⟩
/-- Registers, a comma between. -/
def regsK (ns : List Int) : Nat → List UInt8
  | 0 => []
  | k + 1 => regsK ns k ++ (if 0 < k then [44, 32] else []) ++ regT (ns.getD k 0)
theorem regsK_len (ns : List Int) (hn : ∀ k, 0 ≤ ns.getD k 0 ∧ ns.getD k 0 ≤ 31) : ∀ k, (regsK ns k).length ≤ 5 * k
  | 0 => Nat.le_refl 0
  | k + 1 => by
    have h1 := regsK_len ns hn k
    have h2 := regT_lenS (ns.getD k 0) (hn k).1 (hn k).2
    unfold regsK
    generalize regT (ns.getD k 0) = t at h2 ⊢
    split <;> simp <;> omega
set_option maxRecDepth 100000 in
set_option maxHeartbeats 2000000 in
theorem Regs_w (b g : Nat) (l : List UInt8) (ns : List Int) (hn : ∀ k, 0 ≤ ns.getD k 0 ∧ ns.getD k 0 ≤ 31) (hs : ns.length ≤ 3) (fz : Nat × Nat) (w : World) (h : WL b l w) (hg : w.heap[g]? = some (.cells (ns.map (Value.int .i64)).toArray 3 fz)) (hgb : g ≠ b) (hlen : l.length ≤ 800) :
    Calls Tryz.prog 85 #[.pointer (some ⟨b, 0, none⟩), .slice (some ⟨g, 0, none⟩) ns.length ns.length] w fun e w' => e = .returned (.tuple #[]) ∧ WP b (l ++ regsK ns ns.length) w w' := by
  have hcell : Hid (∀ (m : List UInt8) (W : World), WP b m w W → ∀ k, k < ns.length → W.cell? ⟨g, k, none⟩ = some (.int .i64 (ns.getD k 0))) := Lib.hid fun m W hW k hk => by
    have := hW.ok g _ hg (fun e => hgb (Option.some.inj e)) (fun c z e => by cases e)
    rw [Lib.cell_of_heap this]
    simp [hk]
  have hK := Lib.hid (regsK_len ns hn)
  have hR := Lib.hid (fun k m W hW hl => Reg_w b m (ns.getD k 0) (hn k).1 (hn k).2 W hW hl)
  have hC := Lib.hid (fun m W hW hl => Comma_any b m W hW hl)
  clear hg hn
  go_enter Tryz.func85, Tryz.ntmps85
  go_wp2_with fail
  go_loopw [8] (fun i wr => ∃ k : Nat, k ≤ ns.length ∧ i = .int .i64 k ∧ WP b (l ++ regsK ns k) w wr) (fun i _ => ns.length - (intOf i).toNat)
  case atStart => exact ⟨0, Nat.zero_le _, rfl, by rw [show regsK ns 0 = [] from rfl, List.append_nil]; exact WP.start h⟩
  case round =>
    obtain ⟨k, hk, rfl, hW⟩ := hrel
    by_cases hlt : k < ns.length
    · have ck := hcell.out _ _ hW k hlt
      have hkl := hK.out k
      have hRk := Lib.hid (hR.out k)
      have hnx : Hid (regsK ns (k + 1) = regsK ns k ++ (if 0 < k then [44, 32] else []) ++ regT (ns.getD k 0)) := Lib.hid rfl
      generalize regT (ns.getD k 0) = t at hRk hnx
      generalize ns.getD k 0 = n at ck hRk
      by_cases h0 : 0 < k
      · have d1 : decide ((0 : Int) < (k : Int)) = true := by simp; omega
        have d2 : decide (0 < k) = true := by simp; omega
        have hnx2 : Hid (l ++ regsK ns (k + 1) = l ++ regsK ns k ++ [44, 32] ++ t) := Lib.hid (by rw [hnx.out, if_pos h0]; simp [List.append_assoc])
        go_wp2_with (first | (go_at_call 86; refine (hC.out _ _ hW.iw (by simp; omega)).mono ?_; rintro e w2 ⟨rfl, h2⟩) | (go_at_call 140; refine (hRk.out _ _ h2.iw (by simp; omega)).mono ?_; rintro e w3 ⟨rfl, h3⟩))
        go_roundw
        case rel => exact ⟨k + 1, by omega, by go_num, by rw [hnx2.out]; exact (hW.trans h2).trans h3⟩
        case measure => simp [intOf]; omega
      · have d1 : decide ((0 : Int) < (k : Int)) = false := by simp; omega
        have d2 : decide (0 < k) = false := by simp; omega
        have hnx2 : Hid (l ++ regsK ns (k + 1) = l ++ regsK ns k ++ t) := Lib.hid (by rw [hnx.out, if_neg h0]; simp [List.append_assoc])
        go_wp2_with (go_at_call 140; refine (hRk.out _ _ hW.iw (by simp; omega)).mono ?_; rintro e w3 ⟨rfl, h3⟩)
        go_roundw
        case rel => exact ⟨k + 1, by omega, by go_num, by rw [hnx2.out]; exact hW.trans h3⟩
        case measure => simp [intOf]; omega
    · obtain rfl : k = ns.length := by omega
      go_wp2_with fail
      go_end0
      exact ⟨rfl, hW⟩
end Go.Proofs.YtdbpnbmaineniaaGreatDoor
namespace Go.Proofs.YtdbpnbmaineniaaGreatDoor
open Go.RowKit
abbrev iorwB : ByteArray := { data := #[105, 111, 114, 119] }
theorem iorw_at : ∀ k : Nat, ∀ h : k < iorwB.size, (iorwB[k]'h) = [105, 111, 114, 119].getD k 0 := by
  have : ∀ b : Fin 4, iorwB[b.1]'b.2 = [105, 111, 114, 119].getD b.1 0 := by decide +kernel
  intro k hk
  exact this ⟨k, hk⟩
theorem iorw_low : ∀ k : Nat, (([105, 111, 114, 119] : List UInt8).getD k 0).toNat ≤ 127
  | 0 => by decide
  | 1 => by decide
  | 2 => by decide
  | 3 => by decide
  | k + 4 => by simp
theorem set_bit : ∀ n : Nat, n < 16 → ∀ k : Nat, k < 4 → (bits BinOp.and IntKind.i64 ((n : Int) / 2 ^ (3 - k)) 1 == 1) = n.testBit (3 - k) := by
  intro n hn k hk
  have : ∀ a : Fin 16, ∀ b : Fin 4, (bits BinOp.and IntKind.i64 ((a.1 : Int) / 2 ^ (3 - b.1)) 1 == 1) = a.1.testBit (3 - b.1) := by decide +kernel
  exact this ⟨n, hn⟩ ⟨k, hk⟩
theorem part_nz (m : Nat) (hm : m < 16) (h : ¬ m = 0) : partT m = partK m 4 := by
  have : ∀ a : Fin 16, ¬ a.1 = 0 → partT a.1 = partK a.1 4 := by decide +kernel
  exact this ⟨m, hm⟩ h
theorem WP.iterAt {b k : Nat} {l : List UInt8} {w w' : World} {s : ByteArray} {p : Nat} (h : WP b l w w') (hk : w'.heap[k]? = some (.stringIter s p)) (hw : w.heap.size ≤ k) (hb : b ≤ k) (p' : Nat) : WP b l w (w'.iterAt k s p') :=
  ⟨Lib.IsBuilderF.iterAt h.iw hk p', Lib.below_iterAt h.bl hb s p', fun j o hj h1 h2 => (Lib.iterAt_other w' k j s p' (by have := (Array.getElem?_eq_some_iff.1 hj).1; omega)).trans (h.ok j o hj h1 h2)⟩
theorem WP.size {b : Nat} {l : List UInt8} {w w' : World} (h : WP b l w w') : w.heap.size ≤ w'.heap.size := h.bl.size
theorem WP.iter {b : Nat} {l : List UInt8} {w w' : World} (h : WP b l w w') (s : ByteArray) (p : Nat) : WP b l w (w'.iter s p) :=
  h.keep (((Below.refl w'.heap.size w').alloc (Nat.le_refl _) _))
set_option maxRecDepth 100000 in
set_option maxHeartbeats 2000000 in
theorem Set_w (b : Nat) (l : List UInt8) (n : Int) (h0 : 0 ≤ n) (h1 : n ≤ 15) (w : World) (h : WL b l w) (hlen : l.length ≤ 900) :
    Calls Tryz.prog 89 #[.pointer (some ⟨b, 0, none⟩), .int .i64 n] w fun e w' => e = .returned (.tuple #[]) ∧ WP b (l ++ partT n.toNat) w w' := by
  have hS := Lib.hid (fun m W hW hl => WByteL b m 48 W hW hl)
  have hR := Lib.hid (fun m c hc W hW hl => WRuneL b m c hc W hW hl)
  obtain ⟨m, rfl⟩ := Int.eq_ofNat_of_zero_le h0
  have hm : m < 16 := by omega
  have hK := Lib.hid (partK_len m)
  have hB := Lib.hid (set_bit m hm)
  have hbw : b < w.heap.size := IsW.lt h
  go_enter Tryz.func89, Tryz.ntmps89
  by_cases hz : m = 0
  · subst hz
    go_upto_region 3 with (go_at_call 50; refine (hS.out _ _ h (by omega)).mono ?_; rintro e w1 ⟨⟨v, rfl⟩, h1⟩)
    go_loopw [] (fun wr => ∃ k : Nat, k ≤ 4 ∧ wr.heap[w1.heap.size]? = some (.stringIter iorwB k) ∧ WP b (l ++ [48] ++ partK 0 k) w wr) (fun wr => 4 - wr.iterPos w1.heap.size)
    case atStart => exact ⟨0, Nat.zero_le _, World.iter_heap w1 iorwB 0, by rw [show partK 0 0 = [] from rfl, List.append_nil]; exact h1.iter _ _⟩
    case round =>
      obtain ⟨k, hk, hit, hW⟩ := hrel
      have hws : w.heap.size ≤ w1.heap.size := WP.size h1
      have hmeas : Hid (∀ W2 : World, W2.heap[w1.heap.size]? = some (.stringIter iorwB (k + 1)) → k < 4 → 4 - W2.iterPos w1.heap.size < 4 - wr.iterPos w1.heap.size) := Lib.hid fun W2 h2 h => by
        simp only [World.iterPos, h2, hit]; omega
      have hsz : w1.heap.size < wr.heap.size := (Array.getElem?_eq_some_iff.1 hit).1
      by_cases hlt : k < 4
      · have hp : k < iorwB.size := hlt
        have ha : (iorwB[k]'hp).toNat < 128 := by rw [iorw_at k hp]; have := iorw_low k; omega
        have hnx : ∀ ty, (Instr.next (.pointer (some ⟨w1.heap.size, 0, none⟩)) true ty).run Tryz.prog wr = _ := fun ty => Lib.run_next_ascii_at wr w1.heap.size iorwB k ty hit hp ha
        have hI2 := hW.iterAt hit hws (by omega) (k + 1)
        have hit2 := Lib.iterAt_heap wr w1.heap.size iorwB k (k + 1) hit
        rw [iorw_at k hp] at hnx
        have hcl := Lib.hid (iorw_low k)
        have hl := hK.out k
        have h3 := hB.out k hlt
        have hs : Hid (partK 0 (k + 1) = if Nat.testBit 0 (3 - k) then partK 0 k ++ [[105, 111, 114, 119].getD k 0] else partK 0 k) := Lib.hid rfl
        generalize wr.iterAt w1.heap.size iorwB (k + 1) = w2 at hnx hI2 hit2
        generalize partK 0 k = l1 at *
        generalize ([105, 111, 114, 119] : List UInt8).getD k 0 = c at *
        have hlk : (k : Int) < 4 := by omega
        have hk3 : (0 : Int) ≤ 3 - (k : Int) := by omega
        have hkn : ((3 : Int) - (k : Int)).toNat = 3 - k := by omega
        cases hb : Nat.testBit 0 (3 - k)
        · rw [hb] at h3 hs
          go_wp2_with fail
          go_roundw
          case rel => exact ⟨k + 1, by omega, hit2, by rw [hs.out]; exact hI2⟩
          case measure => exact hmeas.out _ hit2 hlt
        · exact absurd hb (by simp)
      · obtain rfl : k = 4 := by omega
        have hnx : ∀ ty, (Instr.next (.pointer (some ⟨w1.heap.size, 0, none⟩)) true ty).run Tryz.prog wr = _ := fun ty => Lib.run_next_end_at wr w1.heap.size iorwB 4 ty hit (by decide)
        clear hlt hk
        go_wp2_with fail
        go_end0
        exact ⟨rfl, by simpa [partK, partT] using hW⟩
  · have hz2 : ((m : Int) == 0) = false := by rw [beq_eq_false_iff_ne]; omega
    have hpt := Lib.hid (part_nz m hm hz)
    go_upto_region 3 with fail
    go_loopw [] (fun wr => ∃ k : Nat, k ≤ 4 ∧ wr.heap[w.heap.size]? = some (.stringIter iorwB k) ∧ WP b (l ++ ([] : List UInt8) ++ partK m k) w wr) (fun wr => 4 - wr.iterPos w.heap.size)
    case atStart => exact ⟨0, Nat.zero_le _, World.iter_heap w iorwB 0, by rw [show partK m 0 = [] from rfl, List.append_nil]; exact (by rw [List.append_nil]; exact WP.start h : WP b (l ++ []) w w).iter _ _⟩
    case round =>
      obtain ⟨k, hk, hit, hW⟩ := hrel
      have hws : w.heap.size ≤ w.heap.size := Nat.le_refl _
      have hmeas : Hid (∀ W2 : World, W2.heap[w.heap.size]? = some (.stringIter iorwB (k + 1)) → k < 4 → 4 - W2.iterPos w.heap.size < 4 - wr.iterPos w.heap.size) := Lib.hid fun W2 h2 h => by
        simp only [World.iterPos, h2, hit]; omega
      have hsz : w.heap.size < wr.heap.size := (Array.getElem?_eq_some_iff.1 hit).1
      by_cases hlt : k < 4
      · have hp : k < iorwB.size := hlt
        have ha : (iorwB[k]'hp).toNat < 128 := by rw [iorw_at k hp]; have := iorw_low k; omega
        have hnx : ∀ ty, (Instr.next (.pointer (some ⟨w.heap.size, 0, none⟩)) true ty).run Tryz.prog wr = _ := fun ty => Lib.run_next_ascii_at wr w.heap.size iorwB k ty hit hp ha
        have hI2 := hW.iterAt hit hws (by omega) (k + 1)
        have hit2 := Lib.iterAt_heap wr w.heap.size iorwB k (k + 1) hit
        rw [iorw_at k hp] at hnx
        have hcl := Lib.hid (iorw_low k)
        have hl := hK.out k
        have h3 := hB.out k hlt
        have hs : Hid (partK m (k + 1) = if m.testBit (3 - k) then partK m k ++ [[105, 111, 114, 119].getD k 0] else partK m k) := Lib.hid rfl
        generalize wr.iterAt w.heap.size iorwB (k + 1) = w2 at hnx hI2 hit2
        generalize partK m k = l1 at *
        generalize ([105, 111, 114, 119] : List UInt8).getD k 0 = c at *
        have hlk : (k : Int) < 4 := by omega
        have hk3 : (0 : Int) ≤ 3 - (k : Int) := by omega
        have hkn : ((3 : Int) - (k : Int)).toNat = 3 - k := by omega
        cases hb : m.testBit (3 - k)
        · rw [hb] at h3 hs
          go_wp2_with fail
          go_roundw
          case rel => exact ⟨k + 1, by omega, hit2, by rw [hs.out]; exact hI2⟩
          case measure => exact hmeas.out _ hit2 hlt
        · rw [hb] at h3 hs
          have hlen2 : (l ++ ([] : List UInt8) ++ l1).length + 4 ≤ 100000 := by simp; omega
          go_wp2_with (go_at_call 142; refine (hR.out _ c hcl.out _ hI2.iw hlen2).mono ?_; rintro e w3 ⟨⟨v3, rfl⟩, h3w⟩)
          have hit3 := h3w.ok.iter hit2 (by omega)
          go_roundw
          case rel => exact ⟨k + 1, by omega, hit3, by rw [hs.out]; exact (by simpa using hI2.trans h3w)⟩
          case measure => exact hmeas.out _ hit3 hlt
      · obtain rfl : k = 4 := by omega
        have hnx : ∀ ty, (Instr.next (.pointer (some ⟨w.heap.size, 0, none⟩)) true ty).run Tryz.prog wr = _ := fun ty => Lib.run_next_end_at wr w.heap.size iorwB 4 ty hit (by decide)
        clear hlt hk
        go_wp2_with fail
        go_end0
        exact ⟨rfl, by rw [Int.toNat_natCast, hpt.out]; simpa using hW⟩
end Go.Proofs.YtdbpnbmaineniaaGreatDoor
namespace Go.Proofs.YtdbpnbmaineniaaGreatDoor
open Go.RowKit
/-- The instruction's box, its operation's, the writer with its text. -/
structure TX (w : World) (cs os : List Value) (q b : Nat) (l : List UInt8) (W : World) : Prop where
  c : W.rangeAt w.heap.size 0 cs
  d : W.rangeAt q 0 os
  iw : WL b l W
  p : P10 W
  bl : Below w.heap.size w W
  lt : w.heap.size < b
  qt : q < b
  gp : 11 < b
section
variable {w W W' : World} {cs os : List Value} {q b : Nat} {l m : List UInt8}
theorem TX.step (h : TX w cs os q b l W) (k : WP b m W W') : TX w cs os q b m W' :=
  ⟨fun j v hv => by rw [k.bl.cell (p := ⟨w.heap.size, 0 + j, none⟩) h.lt]; exact h.c j v hv, fun j v hv => by rw [k.bl.cell (p := ⟨q, 0 + j, none⟩) h.qt]; exact h.d j v hv, k.iw, h.p.low k.bl h.gp, h.bl.trans (k.bl.mono (Nat.le_of_lt h.lt)), h.lt, h.qt, h.gp⟩
theorem TX.keep (h : TX w cs os q b l W) (hb : Below W.heap.size W W') : TX w cs os q b l W' := h.step ((WP.start h.iw).keep hb)
theorem TX.at (h : TX w cs os q b l W) (j : Nat) (v : Value) (hv : cs[j]? = some v) : W.cell? ⟨w.heap.size, j, none⟩ = some v := by
  have := h.c j v hv; rw [Nat.zero_add] at this; exact this
theorem TX.op (h : TX w cs os q b l W) (j : Nat) (v : Value) (hv : os[j]? = some v) : W.cell? ⟨q, j, none⟩ = some v := by
  have := h.d j v hv; rw [Nat.zero_add] at this; exact this
theorem TX.start (h : XB w cs W) (hp : P10 W) (os : List Value) (t t' : TypeId) (h' : t' = 115) : TX w cs os W.heap.size (W.heap.size + 1) [] ((W.alloc (.cells os.toArray t)).alloc (.cells #[.pointer none, .slice none 0 0] t')) := by
  subst h'
  have h2 : XB w cs (W.alloc (.cells os.toArray t)) := h.keep ((Below.refl _ _).alloc (Nat.le_refl _) _)
  have h3 : XB w cs ((W.alloc (.cells os.toArray t)).alloc (.cells #[.pointer none, .slice none 0 0] 115)) := h2.keep ((Below.refl _ _).alloc (Nat.le_refl _) _)
  have hs : (W.alloc (.cells os.toArray t)).heap.size = W.heap.size + 1 := by simp
  refine ⟨h3.c, fun j v hv => ?_, ?_, ?_, h3.bl, by have := h.lt; omega, by omega, by have := hp.lt; omega⟩
  · rw [((Below.refl (W.alloc (.cells os.toArray t)).heap.size _).alloc (Nat.le_refl _) _).cell (p := ⟨W.heap.size, 0 + j, none⟩) (by show W.heap.size < _; omega), World.cell?_alloc_new, Nat.zero_add]; simpa using hv
  · have := Lib.IsBuilderF.of (Lib.fresh_isBuilder 115 5 (W.alloc (.cells os.toArray t)))
    rw [hs] at this
    exact this
  · exact (hp.later ((Below.refl _ W).alloc (Nat.le_refl _) (.cells os.toArray t)) (Nat.le_refl _)).later ((Below.refl _ _).alloc (Nat.le_refl _) _) (Nat.le_refl _)
theorem TX.str (h : TX w cs os q b l W) (s : ByteArray) (hl : l.length + s.size ≤ 100000) : Calls Tryz.prog 84 #[.pointer (some ⟨b, 0, none⟩), .string s] W fun e w' => (∃ v, e = .returned v) ∧ TX w cs os q b (l ++ s.data.toList) w' :=
  (WStrL b l s W h.iw hl).mono (by rintro e w' ⟨h1, h2⟩; exact ⟨h1, h.step h2⟩)
theorem TX.strL (h : TX w cs os q b l W) (m : List UInt8) (hl : l.length ≤ 800) (hm : m.length ≤ 800) : Calls Tryz.prog 84 #[.pointer (some ⟨b, 0, none⟩), .string ⟨m.toArray⟩] W fun e w' => (∃ v, e = .returned v) ∧ TX w cs os q b (l ++ m) w' := by
  have := h.str ⟨m.toArray⟩ (by show l.length + m.toArray.size ≤ _; rw [List.size_toArray]; omega)
  rw [show (⟨m.toArray⟩ : ByteArray).data.toList = m from List.toList_toArray] at this; exact this
theorem TX.byte (h : TX w cs os q b l W) (c : UInt8) (hl : l.length ≤ 800) : Calls Tryz.prog 50 #[.pointer (some ⟨b, 0, none⟩), .int .u8 c.toNat] W fun e w' => (∃ v, e = .returned v) ∧ TX w cs os q b (l ++ [c]) w' :=
  (WByteL b l c W h.iw (by omega)).mono (by rintro e w' ⟨h1, h2⟩; exact ⟨h1, h.step h2⟩)
theorem TX.comma (h : TX w cs os q b l W) (hl : l.length ≤ 800) : Calls Tryz.prog 86 #[.pointer (some ⟨b, 0, none⟩)] W fun e w' => e = .returned (.tuple #[]) ∧ TX w cs os q b (l ++ [44, 32]) w' :=
  (Comma_any b l W h.iw (by omega)).mono (by rintro e w' ⟨h1, h2⟩; exact ⟨h1, h.step h2⟩)
theorem TX.num (h : TX w cs os q b l W) (n : Int) (h0 : -9223372036854775808 ≤ n) (h1 : n ≤ 9223372036854775807) (hl : l.length ≤ 800) : Calls Tryz.prog 87 #[.pointer (some ⟨b, 0, none⟩), .int .i64 n] W fun e w' => e = .returned (.tuple #[]) ∧ TX w cs os q b (l ++ signL n) w' :=
  (Num_w b l n h0 h1 W h.p h.gp h.iw (by omega)).mono (by rintro e w' ⟨h1, h2⟩; exact ⟨h1, h.step h2⟩)
theorem TX.att (h : TX w cs os q b l W) (n : Int) (h0 : 0 ≤ n) (h1 : n ≤ 31) (hl : l.length ≤ 800) : Calls Tryz.prog 88 #[.pointer (some ⟨b, 0, none⟩), .int .i64 n] W fun e w' => e = .returned (.tuple #[]) ∧ TX w cs os q b (l ++ [40] ++ regT n ++ [41]) w' :=
  (At_w b l n h0 h1 W h.iw (by omega)).mono (by rintro e w' ⟨h1, h2⟩; exact ⟨h1, h.step h2⟩)
theorem TX.set (h : TX w cs os q b l W) (n : Int) (h0 : 0 ≤ n) (h1 : n ≤ 15) (hl : l.length ≤ 800) : Calls Tryz.prog 89 #[.pointer (some ⟨b, 0, none⟩), .int .i64 n] W fun e w' => e = .returned (.tuple #[]) ∧ TX w cs os q b (l ++ partT n.toNat) w' :=
  (Set_w b l n h0 h1 W h.iw (by omega)).mono (by rintro e w' ⟨h1, h2⟩; exact ⟨h1, h.step h2⟩)
theorem TX.regs (h : TX w cs os q b l W) (ns : List Int) (hn : ∀ k, 0 ≤ ns.getD k 0 ∧ ns.getD k 0 ≤ 31) (hs : ns.length ≤ 3) (hl : l.length ≤ 800) :
    Calls Tryz.prog 85 #[.pointer (some ⟨b, 0, none⟩), .slice (some ⟨W.heap.size, 0, none⟩) ns.length ns.length] (W.alloc (.cells (ns.map (Value.int .i64)).toArray 3)) fun e w' => e = .returned (.tuple #[]) ∧ TX w cs os q b (l ++ regsK ns ns.length) w' := by
  have hb : b < W.heap.size := IsW.lt h.iw
  have h2 := h.keep ((Below.refl _ W).alloc (Nat.le_refl _) (.cells (ns.map (Value.int .i64)).toArray 3))
  refine (Regs_w b W.heap.size l ns hn hs (0, 0) _ h2.iw (heap_alloc_new W _) (by omega) hl).mono ?_
  rintro e w' ⟨h3, h4⟩
  exact ⟨h3, h2.step h4⟩
theorem TX.regs1 (h : TX w cs os q b l W) (n : Int) (hn : 0 ≤ n ∧ n ≤ 31) (hl : l.length ≤ 800) (t : TypeId) (ht : t = 3) :
    Calls Tryz.prog 85 #[.pointer (some ⟨b, 0, none⟩), .slice (some ⟨W.heap.size, 0, none⟩) 1 1] (W.alloc (.cells #[.int .i64 n] t)) fun e w' => e = .returned (.tuple #[]) ∧ TX w cs os q b (l ++ regT n) w' := by
  subst ht
  exact h.regs [n] (fun k => by rcases k with _ | k <;> simp [hn]) (by simp) hl
theorem TX.regs2 (h : TX w cs os q b l W) (n m : Int) (hn : 0 ≤ n ∧ n ≤ 31) (hm : 0 ≤ m ∧ m ≤ 31) (hl : l.length ≤ 800) (t : TypeId) (ht : t = 3) :
    Calls Tryz.prog 85 #[.pointer (some ⟨b, 0, none⟩), .slice (some ⟨W.heap.size, 0, none⟩) 2 2] (W.alloc (.cells #[.int .i64 n, .int .i64 m] t)) fun e w' => e = .returned (.tuple #[]) ∧ TX w cs os q b (l ++ regT n ++ [44, 32] ++ regT m) w' := by
  subst ht
  have := h.regs [n, m] (fun k => by rcases k with _ | _ | k <;> simp [hn, hm]) (by simp) hl
  simpa [regsK, List.append_assoc] using this
theorem TX.regs3 (h : TX w cs os q b l W) (n m k : Int) (hn : 0 ≤ n ∧ n ≤ 31) (hm : 0 ≤ m ∧ m ≤ 31) (hk : 0 ≤ k ∧ k ≤ 31) (hl : l.length ≤ 800) (t : TypeId) (ht : t = 3) :
    Calls Tryz.prog 85 #[.pointer (some ⟨b, 0, none⟩), .slice (some ⟨W.heap.size, 0, none⟩) 3 3] (W.alloc (.cells #[.int .i64 n, .int .i64 m, .int .i64 k] t)) fun e w' => e = .returned (.tuple #[]) ∧ TX w cs os q b (l ++ regT n ++ [44, 32] ++ regT m ++ [44, 32] ++ regT k) w' := by
  subst ht
  have := h.regs [n, m, k] (fun k => by rcases k with _ | _ | _ | k <;> simp [hn, hm, hk]) (by simp) hl
  simpa [regsK, List.append_assoc] using this
theorem TX.string (h : TX w cs os q b l W) (h0 : l ≠ []) : Calls Tryz.prog 51 #[.pointer (some ⟨b, 0, none⟩)] W fun e w' => e = .returned (.string ⟨l.toArray⟩) ∧ Below w.heap.size w w' :=
  (WString_any b b l W h.iw h0).mono (by rintro e w' ⟨h1, h2⟩; exact ⟨h1, h.bl.trans (h2.mono (Nat.le_of_lt h.lt))⟩)
end
theorem XB.all9 {w W : World} {op rd r1 r2 imm : Int} {aq rl : Bool} {pred succ : Int} (h : XB w (InsnV.cells ⟨op, rd, r1, r2, imm, aq, rl, pred, succ⟩).toList W) : W.cell? ⟨w.heap.size, 0, none⟩ = some (.int .i64 op) ∧ W.cell? ⟨w.heap.size, 1, none⟩ = some (.int .i64 rd) ∧ W.cell? ⟨w.heap.size, 2, none⟩ = some (.int .i64 r1) ∧ W.cell? ⟨w.heap.size, 3, none⟩ = some (.int .i64 r2) ∧ W.cell? ⟨w.heap.size, 4, none⟩ = some (.int .i64 imm) ∧ W.cell? ⟨w.heap.size, 5, none⟩ = some (.bool aq) ∧ W.cell? ⟨w.heap.size, 6, none⟩ = some (.bool rl) ∧ W.cell? ⟨w.heap.size, 7, none⟩ = some (.int .i64 pred) ∧ W.cell? ⟨w.heap.size, 8, none⟩ = some (.int .i64 succ) :=
  ⟨h.at 0 _ rfl, h.at 1 _ rfl, h.at 2 _ rfl, h.at 3 _ rfl, h.at 4 _ rfl, h.at 5 _ rfl, h.at 6 _ rfl, h.at 7 _ rfl, h.at 8 _ rfl⟩
theorem TX.all10 {w W : World} {op rd r1 r2 imm : Int} {aq rl : Bool} {pred succ f : Int} {x : Value} {os : List Value} {q b : Nat} {l : List UInt8} (h : TX w (InsnV.cells ⟨op, rd, r1, r2, imm, aq, rl, pred, succ⟩).toList (x :: .int .i64 f :: os) q b l W) : W.cell? ⟨w.heap.size, 0, none⟩ = some (.int .i64 op) ∧ W.cell? ⟨w.heap.size, 1, none⟩ = some (.int .i64 rd) ∧ W.cell? ⟨w.heap.size, 2, none⟩ = some (.int .i64 r1) ∧ W.cell? ⟨w.heap.size, 3, none⟩ = some (.int .i64 r2) ∧ W.cell? ⟨w.heap.size, 4, none⟩ = some (.int .i64 imm) ∧ W.cell? ⟨w.heap.size, 5, none⟩ = some (.bool aq) ∧ W.cell? ⟨w.heap.size, 6, none⟩ = some (.bool rl) ∧ W.cell? ⟨w.heap.size, 7, none⟩ = some (.int .i64 pred) ∧ W.cell? ⟨w.heap.size, 8, none⟩ = some (.int .i64 succ) ∧ W.cell? ⟨q, 1, none⟩ = some (.int .i64 f) :=
  ⟨h.at 0 _ rfl, h.at 1 _ rfl, h.at 2 _ rfl, h.at 3 _ rfl, h.at 4 _ rfl, h.at 5 _ rfl, h.at 6 _ rfl, h.at 7 _ rfl, h.at 8 _ rfl, h.op 1 _ rfl⟩
theorem names_full : ((List.range 88).all fun n => decide ((opOf (n : Int)).form = 0) || !(opOf (n : Int)).name.isEmpty) = true := by decide +kernel
theorem name_full (n : Int) (h : (opOf n).form ≠ 0) : (opOf n).name ≠ [] := by
  by_cases h0 : n < 1
  · exact absurd (by unfold opOf; rw [if_pos h0]; rfl) h
  · by_cases h1 : 87 < n
    · exact absurd (by rw [opOf_big n h1]; rfl) h
    · obtain ⟨m, rfl⟩ := Int.eq_ofNat_of_zero_le (show 0 ≤ n by omega)
      have := List.all_eq_true.1 names_full m (List.mem_range.2 (by omega))
      intro he
      rw [he] at this
      simp [h] at this
end Go.Proofs.YtdbpnbmaineniaaGreatDoor
