/- Plain: what a hart is behind a valid instruction, as to where it goes. No program in sight. The walk of hart.Ask at a running hart and a valid instruction. Plain: a step depends only on what the instruction reads. No program in sight. The walks of the document's Reads and Writes at a valid instruction. Conditions: as each theorem says. -/
import Derived.Test.YtbglinhglnbfmaaGreatDoorHartJ
import Derived.Test.YtbglinhglnbfmaaGreatDoorHartK
import Derived.Test.YtbglinhglnbfmaaGreatDoorRefCheck
import Derived.Test.YtbglinhglnbfmaaGreatDoorOwn
import Derived.BigQuiet
import Derived.WalkSpells
set_option linter.unusedVariables false
namespace Go.Proofs.YtbglinhglnbfmaaGreatDoor
/-- forms of ops: which are jumps and branches -/
theorem form26 : ((List.range 88).all fun n => (decide ((opOf (n : Int)).form = 2) == decide (n = 3)) && (decide ((opOf (n : Int)).form = 6) == (decide (5 ≤ n) && decide (n ≤ 10)))) = true := by decide +kernel
theorem form_26 (n : Int) : ((opOf n).form = 2 ↔ n = 3) ∧ ((opOf n).form = 6 ↔ 5 ≤ n ∧ n ≤ 10) := by
  by_cases h0 : n < 1
  · unfold opOf; rw [if_pos h0]
    exact ⟨⟨fun h => absurd h (by decide), fun h => by omega⟩, ⟨fun h => absurd h (by decide), fun h => by omega⟩⟩
  · by_cases h1 : 87 < n
    · rw [opOf_big n h1]
      exact ⟨⟨fun h => absurd h (by decide), fun h => by omega⟩, ⟨fun h => absurd h (by decide), fun h => by omega⟩⟩
    · obtain ⟨m, rfl⟩ := Int.eq_ofNat_of_zero_le (show 0 ≤ n by omega)
      have := List.all_eq_true.1 form26 m (List.mem_range.2 (by omega))
      rw [Bool.and_eq_true, beq_iff_eq, beq_iff_eq] at this
      obtain ⟨e1, e2⟩ := this
      constructor
      · rw [show ((m : Int) = 3 ↔ m = 3) by omega]
        exact decide_eq_decide.1 e1
      · rw [show (5 ≤ (m : Int) ∧ (m : Int) ≤ 10 ↔ 5 ≤ m ∧ m ≤ 10) by omega]
        rw [← Bool.decide_and] at e2
        exact decide_eq_decide.1 e2
theorem placeR_some {v : BitVec 64} (h : (un v).tmod 4 = 0) : placeR v = some v := by unfold placeR; rw [← un_tmod4, if_pos h]
theorem placeR_none {v : BitVec 64} (h : (un v).tmod 4 ≠ 0) : placeR v = none := by unfold placeR; rw [← un_tmod4, if_neg h]
theorem goneV_pc (h : HartV) (i : InsnV) (n found : BitVec 64) (won : Bool) : (goneV h i n found won).pc = n := by unfold goneV; split <;> rfl
theorem goneV_fin (h : HartV) (i : InsnV) (n found : BitVec 64) (won : Bool) : (goneV h i n found won).fin = h.fin := by unfold goneV; split <;> rfl
theorem goneV_at (h : HartV) (i : InsnV) (n found : BitVec 64) (won : Bool) (d : Nat) (hd : i.rd = d) (hz : d ≠ 0) : (goneV h i n found won).x d = answerV h i (askV h i) found won := by
  unfold goneV
  rw [if_neg (by rw [hd]; omega), hd]
  show (if d = (d : Int).toNat then _ else _) = _
  exact if_pos (Int.toNat_natCast d).symm
theorem endedV_pc (h : HartV) (k : Int) : (endedV h k).pc = h.pc := by unfold endedV; split <;> rfl
theorem endedV_fin (h : HartV) (k : Int) : (endedV h k).fin = k := by unfold endedV; split <;> rfl
theorem endedV_x (h : HartV) (k : Int) : (endedV h k).x = h.x := by unfold endedV; split <;> rfl
theorem stepV_none {h : HartV} {i : InsnV} (found : BitVec 64) (won : Bool) (hn : nextR h i = none) : stepV h i found won = endedV h 6 := by
  have e : askE h i = 6 := by unfold askE; rw [if_pos hn]
  unfold stepV; rw [e]; exact if_neg (by decide)
theorem stepV_gone {h : HartV} {i : InsnV} (found : BitVec 64) (won : Bool) {n : BitVec 64} (hn : nextR h i = some n) (ha : askE h i = 0) : stepV h i found won = goneV h i n found won := by
  unfold stepV; rw [if_pos ha, hn]; rfl
theorem askE_plain {h : HartV} {i : InsnV} {n : BitVec 64} (hn : nextR h i = some n) (hf : (opOf i.op).form ≠ 4 ∧ (opOf i.op).form ≠ 5 ∧ (opOf i.op).form ≠ 10 ∧ (opOf i.op).form ≠ 11 ∧ (opOf i.op).form ≠ 12) : askE h i = 0 := by
  unfold askE
  rw [if_neg (by rw [hn]; exact fun h => by cases h), if_neg (fun hh => by omega), if_neg (by omega)]
theorem askE_six {h : HartV} {i : InsnV} {n : BitVec 64} (hn : nextR h i = some n) : askE h i ≠ 6 := by
  unfold askE addrE
  rw [if_neg (by rw [hn]; exact fun h => by cases h)]
  split
  · split
    · decide
    · split <;> decide
  · split
    · split
      · decide
      · split
        · decide
        · split <;> decide
    · decide
theorem askV_plain {h : HartV} {i : InsnV} (hf : (opOf i.op).form ≠ 4 ∧ (opOf i.op).form ≠ 5 ∧ (opOf i.op).form ≠ 9 ∧ (opOf i.op).form ≠ 10 ∧ (opOf i.op).form ≠ 11 ∧ (opOf i.op).form ≠ 12) (h22 : i.op ≠ 22) : (askV h i).kind = 0 := by
  unfold askV
  rw [if_neg (by omega), if_neg (by omega), if_neg (by omega), if_neg (by omega), if_neg (by omega), if_neg (by omega), if_neg (fun hh => h22 hh.1)]
theorem answerV_link {h : HartV} {i : InsnV} (found : BitVec 64) (won : Bool) (hk : (askV h i).kind = 0) (ho : i.op = 3 ∨ i.op = 4) : answerV h i (askV h i) found won = h.pc + 4#64 := by
  unfold answerV
  rw [if_neg (by omega), if_neg (by omega), if_pos ho]
end Go.Proofs.YtbglinhglnbfmaaGreatDoor
namespace Go.Proofs.YtbglinhglnbfmaaGreatDoor
open Go.RowKit
def noAsk : AskV := ⟨0, 0#64, 0#64, 0, false, false, 0, 0⟩
/-- What a hart's instruction asks for; nothing, if it ends by it. -/
def askR (h : HartV) (i : InsnV) : AskV := if askE h i = 0 then askV h i else noAsk
theorem ask_size (a : AskV) : (Tryz.prog.info? 42).map (·.size) = some a.cells.size := by kernel_rfl
theorem ask_sizeL (a : AskV) : (Tryz.prog.info? 42).map (·.size) = some a.cells.toList.length := by kernel_rfl
theorem ask_one (a : AskV) : a.cells.all (·.oneCell') = true := by
  obtain ⟨k, a1, v, o, b1, b2, p, s⟩ := a
  simp [AskV.cells, Value.oneCell']
theorem ask_there {W : World} {r : Nat} (hz : W.there r 0 8) (a : AskV) : W.there r 0 a.cells.size := hz
theorem Keeps.setCells {n b : Nat} {u w : World} (h : Keeps n b u w) (hn : n ≤ b) : ∀ (vs : List Value) (o : Nat), Keeps n b u (w.setCells b o vs)
  | vs, o => by
    induction vs generalizing w o with
    | nil => exact h
    | cons v vs ih => exact ih (h.setCell hn o v) (o + 1)
theorem Keeps.there {n b : Nat} {w w' : World} (h : Keeps n b w w') {x k : Nat} (hx : x < w.heap.size) (hb : x ≠ b) (hz : w.there x 0 k) : w'.there x 0 k := fun j hj => by
  rw [h.cell _ hx hb, h.frozen _ hx hb]; exact hz j hj
section
attribute [local irreducible] un sn
set_option maxRecDepth 100000 in
theorem Ask1_thrown (p r b : Nat) (h : HartV) (op : Int) (d r1 r2 : Nat) (imm : Int) (aq rl : Bool) (pred succ : Int) (n0 : Nat) (W : World) (hW : WK b h ⟨op, d, r1, r2, imm, aq, rl, pred, succ⟩ W) (hp : W.cell? ⟨p, 0, none⟩ = some (.pointer (some ⟨b, 0, none⟩))) (hz : W.there r 0 8) (hr0 : n0 ≤ r) (hrl : r < W.heap.size) (ht : Tabs W) (hop : op ≤ 9223372036854775807) (hr1 : r1 < 32) (hr2 : r2 < 32) (k : Int) (hk : k ≠ 0) (ha : askE h ⟨op, d, r1, r2, imm, aq, rl, pred, succ⟩ = k) :
    Calls Tryz.prog 27 #[.pointer (some ⟨p, 0, none⟩), .pointer (some ⟨r, 0, none⟩)] W fun e w' => e = .panicked (thrown k) ∧ Below W.heap.size W w' := by
  have hAsk := Lib.hid (fun W (hW : WK b h ⟨op, d, r1, r2, imm, aq, rl, pred, succ⟩ W) (hT : Tabs W) => ask_any b h op d r1 r2 imm aq rl pred succ W hW hT hop hr1 hr2)
  rw [ha, if_neg hk] at hAsk
  clear ha
  go_enter Tryz.func27, Tryz.ntmps27
  go_wp2_with (go_at_call 24; refine (hAsk.out _ hW ht).mono ?_; rintro e w4 ⟨rfl, hb4⟩)
  exact ⟨rfl, rfl, hb4⟩
set_option maxRecDepth 100000 in
theorem Ask1_go (p r b : Nat) (h : HartV) (op : Int) (d r1 r2 : Nat) (imm : Int) (aq rl : Bool) (pred succ : Int) (n0 : Nat) (W : World) (hW : WK b h ⟨op, d, r1, r2, imm, aq, rl, pred, succ⟩ W) (hp : W.cell? ⟨p, 0, none⟩ = some (.pointer (some ⟨b, 0, none⟩))) (hz : W.there r 0 8) (hr0 : n0 ≤ r) (hrl : r < W.heap.size) (ht : Tabs W) (hop : op ≤ 9223372036854775807) (hr1 : r1 < 32) (hr2 : r2 < 32) (ha : askE h ⟨op, d, r1, r2, imm, aq, rl, pred, succ⟩ = 0) :
    Calls Tryz.prog 27 #[.pointer (some ⟨p, 0, none⟩), .pointer (some ⟨r, 0, none⟩)] W fun e w' => e = .returned (.tuple #[]) ∧ w'.rangeAt r 0 (askV h ⟨op, d, r1, r2, imm, aq, rl, pred, succ⟩).cells.toList ∧ w'.there r 0 8 ∧ Keeps n0 r W w' := by
  have hAsk := Lib.hid (fun W (hW : WK b h ⟨op, d, r1, r2, imm, aq, rl, pred, succ⟩ W) (hT : Tabs W) => ask_any b h op d r1 r2 imm aq rl pred succ W hW hT hop hr1 hr2)
  rw [ha, if_pos rfl] at hAsk
  generalize askV h ⟨op, d, r1, r2, imm, aq, rl, pred, succ⟩ = a at hAsk ⊢
  clear ha
  have hn0 : n0 ≤ W.heap.size := by omega
  go_enter Tryz.func27, Tryz.ntmps27
  go_wp2_with (first | (go_at_call 24; refine (hAsk.out _ hW ht).mono ?_; rintro e w4 ⟨rfl, hb4⟩; have hz4 : w4.there r 0 8 := (Keeps.of_below (n := 0) (b := W.heap.size) hb4 (Nat.zero_le _)).there hrl (Nat.ne_of_lt hrl) hz) | (refine wpList_store_mid rfl 42 _ _ rfl r 0 a.cells rfl rfl (ask_there hz4 a) (ask_size a) (ask_one a) ?_))
  have hra := World.rangeAt_setCells_same w4 r 0 a.cells.toList hz4
  have hth := World.there_setCells hz4 r 0 a.cells.toList
  have hk := (Keeps.of_below (b := r) hb4 hn0).setCells hr0 a.cells.toList 0
  exact ⟨rfl, .tuple #[], by simp [results, Tryz.results27], rfl, hra, hth, hk⟩
end
theorem tryAsk_off (p r b : Nat) (h : HartV) (op : Int) (d r1 r2 : Nat) (imm : Int) (aq rl : Bool) (pred succ : Int) (n0 : Nat) (W : World) (hW : WK b h ⟨op, d, r1, r2, imm, aq, rl, pred, succ⟩ W) (hp : W.cell? ⟨p, 0, none⟩ = some (.pointer (some ⟨b, 0, none⟩))) (hz : W.there r 0 8) (hr0 : n0 ≤ r) (hrl : r < W.heap.size) (ht : Tabs W) (hop : op ≤ 9223372036854775807) (hr1 : r1 < 32) (hr2 : r2 < 32) (k : Int) (hk : k ≠ 0) (ha : askE h ⟨op, d, r1, r2, imm, aq, rl, pred, succ⟩ = k) :
    Calls Tryz.prog 21 #[.func (Fn.func 27) #[] #[.pointer (some ⟨p, 0, none⟩), .pointer (some ⟨r, 0, none⟩)]] W fun e w' => e = .returned (.int .i64 k) ∧ w'.there r 0 8 ∧ Below n0 W w' := by
  have hb0 : Below W.heap.size W (W.alloc (.cells #[.int .i64 0] 3)) := (Below.refl _ _).alloc (Nat.le_refl _) _
  have hp0 : (W.alloc (.cells #[.int .i64 0] 3)).cell? ⟨p, 0, none⟩ = some (.pointer (some ⟨b, 0, none⟩)) := by rw [hb0.cell (p := ⟨p, 0, none⟩) (World.block_lt_of_cell? W _ hp)]; exact hp
  have hz0 : (W.alloc (.cells #[.int .i64 0] 3)).there r 0 8 := (Keeps.of_below (n := 0) (b := W.heap.size) hb0 (Nat.zero_le _)).there hrl (Nat.ne_of_lt hrl) hz
  have c0 : (W.alloc (.cells #[.int .i64 0] 3)).cell? ⟨W.heap.size, 0, none⟩ = some (.int .i64 0) := World.cell?_alloc_new _ _ _ 0
  have z0 := fresh_thaw W #[.int .i64 0] 3 0
  have lt0 : W.heap.size < (W.alloc (.cells #[.int .i64 0] 3)).heap.size := by simp
  have hrl0 : r < (W.alloc (.cells #[.int .i64 0] 3)).heap.size := Nat.lt_trans hrl lt0
  have D : Does 27 #[.pointer (some ⟨p, 0, none⟩), .pointer (some ⟨r, 0, none⟩)] W (fun _ => False) (fun k' w' => k' = k ∧ Below W.heap.size W w') := ⟨by
    refine (Ask1_thrown p r b h op d r1 r2 imm aq rl pred succ n0 _ (hW.keep hb0) hp0 hz0 hr0 hrl0 (ht.later hb0 (Nat.le_refl _)) hop hr1 hr2 k hk ha).mono ?_
    rintro e w' ⟨rfl, hb⟩
    exact ⟨.inr ⟨k, rfl, rfl, hb0.trans (hb.mono (Nat.le_of_lt lt0))⟩, by rw [hb.cell (p := ⟨W.heap.size, 0, none⟩) lt0]; exact c0, by rw [hb.frozen (p := ⟨W.heap.size, 0, none⟩) lt0]; exact z0⟩⟩
  refine (try_ask _ W _ _ D).mono ?_
  rintro e w' ⟨w1, ⟨-, h1, -⟩ | ⟨k', rfl, ⟨rfl, hb1⟩, rfl⟩⟩
  · exact h1.elim
  · have hset : Below W.heap.size w1 (w1.setCell ⟨W.heap.size, 0, none⟩ (.int .i64 k')) := (Below.refl W.heap.size _).setCell (p := ⟨W.heap.size, 0, none⟩) (Nat.le_refl W.heap.size) _
    have hbb := hb1.trans hset
    exact ⟨rfl, (Keeps.of_below (n := 0) (b := W.heap.size) hbb (Nat.zero_le _)).there hrl (Nat.ne_of_lt hrl) hz, hbb.mono (by omega)⟩
theorem tryAsk_go (p r b : Nat) (h : HartV) (op : Int) (d r1 r2 : Nat) (imm : Int) (aq rl : Bool) (pred succ : Int) (n0 : Nat) (W : World) (hW : WK b h ⟨op, d, r1, r2, imm, aq, rl, pred, succ⟩ W) (hp : W.cell? ⟨p, 0, none⟩ = some (.pointer (some ⟨b, 0, none⟩))) (hz : W.there r 0 8) (hr0 : n0 ≤ r) (hrl : r < W.heap.size) (ht : Tabs W) (hop : op ≤ 9223372036854775807) (hr1 : r1 < 32) (hr2 : r2 < 32) (ha : askE h ⟨op, d, r1, r2, imm, aq, rl, pred, succ⟩ = 0) :
    Calls Tryz.prog 21 #[.func (Fn.func 27) #[] #[.pointer (some ⟨p, 0, none⟩), .pointer (some ⟨r, 0, none⟩)]] W fun e w' => e = .returned (.int .i64 0) ∧ w'.rangeAt r 0 (askV h ⟨op, d, r1, r2, imm, aq, rl, pred, succ⟩).cells.toList ∧ w'.there r 0 8 ∧ Below n0 W w' := by
  have hb0 : Below W.heap.size W (W.alloc (.cells #[.int .i64 0] 3)) := (Below.refl _ _).alloc (Nat.le_refl _) _
  have hp0 : (W.alloc (.cells #[.int .i64 0] 3)).cell? ⟨p, 0, none⟩ = some (.pointer (some ⟨b, 0, none⟩)) := by rw [hb0.cell (p := ⟨p, 0, none⟩) (World.block_lt_of_cell? W _ hp)]; exact hp
  have hz0 : (W.alloc (.cells #[.int .i64 0] 3)).there r 0 8 := (Keeps.of_below (n := 0) (b := W.heap.size) hb0 (Nat.zero_le _)).there hrl (Nat.ne_of_lt hrl) hz
  have c0 : (W.alloc (.cells #[.int .i64 0] 3)).cell? ⟨W.heap.size, 0, none⟩ = some (.int .i64 0) := World.cell?_alloc_new _ _ _ 0
  have z0 := fresh_thaw W #[.int .i64 0] 3 0
  have lt0 : W.heap.size < (W.alloc (.cells #[.int .i64 0] 3)).heap.size := by simp
  have hrl0 : r < (W.alloc (.cells #[.int .i64 0] 3)).heap.size := Nat.lt_trans hrl lt0
  have D : Does 27 #[.pointer (some ⟨p, 0, none⟩), .pointer (some ⟨r, 0, none⟩)] W (fun w' => w'.rangeAt r 0 (askV h ⟨op, d, r1, r2, imm, aq, rl, pred, succ⟩).cells.toList ∧ w'.there r 0 8 ∧ Keeps n0 r W w') (fun _ _ => False) := ⟨by
    refine (Ask1_go p r b h op d r1 r2 imm aq rl pred succ n0 _ (hW.keep hb0) hp0 hz0 hr0 hrl0 (ht.later hb0 (Nat.le_refl _)) hop hr1 hr2 ha).mono ?_
    rintro e w' ⟨rfl, hr, hz', hk⟩
    exact ⟨.inl ⟨rfl, hr, hz', (Keeps.of_below hb0 (by omega)).trans hk⟩, by rw [hk.cell 0 lt0 (by omega)]; exact c0, by rw [hk.frozen 0 lt0 (by omega)]; exact z0⟩⟩
  refine (try_ask _ W _ _ D).mono ?_
  rintro e w' ⟨w1, ⟨rfl, ⟨hr, hz', hk⟩, rfl⟩ | ⟨k', -, h1, -⟩⟩
  · have hset : Below W.heap.size w1 (w1.setCell ⟨W.heap.size, 0, none⟩ (.int .i64 0)) := (Below.refl W.heap.size _).setCell (p := ⟨W.heap.size, 0, none⟩) (Nat.le_refl W.heap.size) _
    exact ⟨rfl, fun j v hv => by rw [hset.cell (p := ⟨r, 0 + j, none⟩) hrl]; exact hr j v hv, fun j hj => by rw [hset.cell (p := ⟨r, 0 + j, none⟩) hrl, hset.frozen (p := ⟨r, 0 + j, none⟩) hrl]; exact hz' j hj, hk.bl.trans (hset.mono (by omega))⟩
  · exact h1.elim
/-- What Ask's frame holds, begun in world w. -/
structure QK (w : World) (h : HartV) (i : InsnV) (W : World) : Prop where
  h : HC w.heap.size h W
  c : ∀ j, j < 9 → W.cell? ⟨w.heap.size + 1, j, none⟩ = some (insnCell i j)
  z : W.there (w.heap.size + 2) 0 8
  bl : Below w.heap.size w W
  sz : w.heap.size + 3 ≤ W.heap.size
theorem QK.keep {w W W' : World} {h : HartV} {i : InsnV} (hQ : QK w h i W) (hb : Below W.heap.size W W') : QK w h i W' := by
  have sz := hQ.sz
  exact ⟨fun j hj => by rw [hb.cell (p := ⟨w.heap.size, j, none⟩) (by show w.heap.size < _; omega)]; exact hQ.h j hj,
    fun j hj => by rw [hb.cell (p := ⟨w.heap.size + 1, j, none⟩) (by show w.heap.size + 1 < _; omega)]; exact hQ.c j hj,
    fun j hj => by rw [hb.cell (p := ⟨w.heap.size + 2, 0 + j, none⟩) (by show w.heap.size + 2 < _; omega), hb.frozen (p := ⟨w.heap.size + 2, 0 + j, none⟩) (by show w.heap.size + 2 < _; omega)]; exact hQ.z j hj, hQ.bl.trans (hb.mono (by omega)), Nat.le_trans sz hb.size⟩
theorem QK.start (w : World) (h : HartV) (i : InsnV) (t1 t2 t3 : TypeId) : QK w h i (((w.alloc (.cells (hartArr h) t1)).alloc (.cells i.cells t2)).alloc (.cells #[.int .i64 0, .int .u64 0, .int .u64 0, .int .i64 0, .bool false, .bool false, .int .i64 0, .int .i64 0] t3)) := by
  have hB := BK.start w h i t1 t2
  have n2 : ((w.alloc (.cells (hartArr h) t1)).alloc (.cells i.cells t2)).heap.size = w.heap.size + 2 := by simp
  have hal : Below ((w.alloc (.cells (hartArr h) t1)).alloc (.cells i.cells t2)).heap.size ((w.alloc (.cells (hartArr h) t1)).alloc (.cells i.cells t2)) (((w.alloc (.cells (hartArr h) t1)).alloc (.cells i.cells t2)).alloc (.cells #[.int .i64 0, .int .u64 0, .int .u64 0, .int .i64 0, .bool false, .bool false, .int .i64 0, .int .i64 0] t3)) := (Below.refl _ _).alloc (Nat.le_refl _) _
  have hB := hB.keep hal
  exact ⟨hB.h, hB.c, by rw [← n2]; exact there_fresh _ _ _ 8 (by decide), hB.bl, by simp⟩
theorem result_ask (W : World) (r : Nat) (a : AskV) (hr : W.rangeAt r 0 a.cells.toList) : (loadVar 42 ⟨r, 0, none⟩).run Tryz.prog W = .ok (.agg a.cells) W := run_loadVar_mid W r 0 42 a.cells.toList _ hr Tryz.underlying42 rfl (ask_sizeL a)
section
attribute [local irreducible] un sn
set_option maxRecDepth 100000 in
set_option maxHeartbeats 8000000 in
theorem Ask_go (h : HartV) (op : Int) (d r1 r2 : Nat) (imm : Int) (aq rl : Bool) (pred succ : Int) (w : World) (ht : Tabs w) (hop : op ≤ 9223372036854775807) (hr1 : r1 < 32) (hr2 : r2 < 32) (hb : hartE h = 0) (hf : h.fin = 0) (hck : checkE ⟨op, d, r1, r2, imm, aq, rl, pred, succ⟩ = 0) (ha : askE h ⟨op, d, r1, r2, imm, aq, rl, pred, succ⟩ = 0) (a : AskV) (haV : askV h ⟨op, d, r1, r2, imm, aq, rl, pred, succ⟩ = a) :
    Calls Tryz.prog 14 #[.agg (hartArr h), .agg #[.int .i64 op, .int .i64 d, .int .i64 r1, .int .i64 r2, .int .i64 imm, .bool aq, .bool rl, .int .i64 pred, .int .i64 succ]] w fun e w' => e = .returned (.tuple #[.agg (a).cells, .int .i64 0]) ∧ Below w.heap.size w w' := by
  have hQ0 := QK.start w h ⟨op, d, r1, r2, imm, aq, rl, pred, succ⟩ 25 27 42
  have k0 : _ = some (Value.int .i64 op) := hQ0.c 0 (by decide)
  have k1 : _ = some (Value.int .i64 d) := hQ0.c 1 (by decide)
  have k2 : _ = some (Value.int .i64 r1) := hQ0.c 2 (by decide)
  have k3 : _ = some (Value.int .i64 r2) := hQ0.c 3 (by decide)
  have k4 : _ = some (Value.int .i64 imm) := hQ0.c 4 (by decide)
  have k5 : _ = some (Value.bool aq) := hQ0.c 5 (by decide)
  have k6 : _ = some (Value.bool rl) := hQ0.c 6 (by decide)
  have k7 : _ = some (Value.int .i64 pred) := hQ0.c 7 (by decide)
  have k8 : _ = some (Value.int .i64 succ) := hQ0.c 8 (by decide)
  have hu := Tryz.underlying25
  have hua := Tryz.underlying42
  have hBg := Lib.hid (fun W (hT : Tabs W) => begin_ok h op d r1 r2 imm aq rl pred succ W hT hop hb hf)
  rw [hck] at hBg
  go_enter Tryz.func14, Tryz.ntmps14
  go_wp2_with (first | (refine wpList_load_mid rfl 25 _ rfl w.heap.size 0 rfl (hartL h) _ (hart_range hQ0.h) hu rfl (size_hart _) ?_) | (go_at_call 20; refine (hBg.out _ (ht.later hQ0.bl (Nat.le_refl _))).mono ?_; rintro e w2 ⟨b, rfl, hbn, hwk, hb2⟩; have hQ2 := hQ0.keep hb2; have hal : Below w2.heap.size w2 (w2.alloc (.cells #[.pointer (some ⟨b, 0, none⟩)] 55)) := (Below.refl _ _).alloc (Nat.le_refl _) _; have hQ3 := hQ2.keep hal; have hW3 := hwk.keep hal; have hp3 : _ = some (Value.pointer (some ⟨b, 0, none⟩)) := World.cell?_alloc_new w2 #[.pointer (some ⟨b, 0, none⟩)] 55 0) | (go_at_call 21; refine (tryAsk_go w2.heap.size (w.heap.size + 2) b h op d r1 r2 imm aq rl pred succ w.heap.size _ hW3 hp3 hQ3.z (by omega) (Nat.lt_of_lt_of_le (by omega) hQ3.sz) (ht.later hQ3.bl (Nat.le_refl _)) hop hr1 hr2 ha).mono ?_; rw [haV]; rintro e w4 ⟨rfl, hr4, hz4, hb4⟩) | (refine wpList_load_mid rfl 42 _ rfl (w.heap.size + 2) 0 rfl a.cells.toList _ hr4 hua rfl (ask_sizeL a) ?_) | (refine wpList_store_mid rfl 42 _ _ rfl (w.heap.size + 2) 0 a.cells rfl rfl (ask_there hz4 a) (ask_size a) (ask_one a) ?_))
  have hr5 := World.rangeAt_setCells_same w4 (w.heap.size + 2) 0 a.cells.toList hz4
  have hbl := below_setCells (Nat.le_add_right w.heap.size 2) a.cells.toList 0 w4 (hQ3.bl.trans hb4)
  have hlv := result_ask _ (w.heap.size + 2) a hr5
  generalize World.setCells w4 (w.heap.size + 2) 0 a.cells.toList = W5 at hlv hbl ⊢
  exact bodyPost_ret (v := .tuple #[.agg a.cells, .int .i64 0]) (by simp [results, Tryz.results14, asAddr, hlv]) rfl ⟨rfl, hbl⟩
end
set_option maxRecDepth 100000 in
set_option maxHeartbeats 8000000 in
theorem Ask_off (h : HartV) (op : Int) (d r1 r2 : Nat) (imm : Int) (aq rl : Bool) (pred succ : Int) (w : World) (ht : Tabs w) (hop : op ≤ 9223372036854775807) (hr1 : r1 < 32) (hr2 : r2 < 32) (hb : hartE h = 0) (hf : h.fin = 0) (hck : checkE ⟨op, d, r1, r2, imm, aq, rl, pred, succ⟩ = 0) (k : Int) (hk : k ≠ 0) (ha : askE h ⟨op, d, r1, r2, imm, aq, rl, pred, succ⟩ = k) :
    Calls Tryz.prog 14 #[.agg (hartArr h), .agg #[.int .i64 op, .int .i64 d, .int .i64 r1, .int .i64 r2, .int .i64 imm, .bool aq, .bool rl, .int .i64 pred, .int .i64 succ]] w fun e w' => e = .returned (.tuple #[.agg (noAsk).cells, .int .i64 0]) ∧ Below w.heap.size w w' := by
  have hQ0 := QK.start w h ⟨op, d, r1, r2, imm, aq, rl, pred, succ⟩ 25 27 42
  have k0 : _ = some (Value.int .i64 op) := hQ0.c 0 (by decide)
  have k1 : _ = some (Value.int .i64 d) := hQ0.c 1 (by decide)
  have k2 : _ = some (Value.int .i64 r1) := hQ0.c 2 (by decide)
  have k3 : _ = some (Value.int .i64 r2) := hQ0.c 3 (by decide)
  have k4 : _ = some (Value.int .i64 imm) := hQ0.c 4 (by decide)
  have k5 : _ = some (Value.bool aq) := hQ0.c 5 (by decide)
  have k6 : _ = some (Value.bool rl) := hQ0.c 6 (by decide)
  have k7 : _ = some (Value.int .i64 pred) := hQ0.c 7 (by decide)
  have k8 : _ = some (Value.int .i64 succ) := hQ0.c 8 (by decide)
  have hu := Tryz.underlying25
  have hua := Tryz.underlying42
  have hBg := Lib.hid (fun W (hT : Tabs W) => begin_ok h op d r1 r2 imm aq rl pred succ W hT hop hb hf)
  rw [hck] at hBg
  have tk : (k != 0) = true := by simpa using hk
  go_enter Tryz.func14, Tryz.ntmps14
  go_wp2_with (first | (refine wpList_load_mid rfl 25 _ rfl w.heap.size 0 rfl (hartL h) _ (hart_range hQ0.h) hu rfl (size_hart _) ?_) | (go_at_call 20; refine (hBg.out _ (ht.later hQ0.bl (Nat.le_refl _))).mono ?_; rintro e w2 ⟨b, rfl, hbn, hwk, hb2⟩; have hQ2 := hQ0.keep hb2; have hal : Below w2.heap.size w2 (w2.alloc (.cells #[.pointer (some ⟨b, 0, none⟩)] 55)) := (Below.refl _ _).alloc (Nat.le_refl _) _; have hQ3 := hQ2.keep hal; have hW3 := hwk.keep hal; have hp3 : _ = some (Value.pointer (some ⟨b, 0, none⟩)) := World.cell?_alloc_new w2 #[.pointer (some ⟨b, 0, none⟩)] 55 0) | (go_at_call 21; refine (tryAsk_off w2.heap.size (w.heap.size + 2) b h op d r1 r2 imm aq rl pred succ w.heap.size _ hW3 hp3 hQ3.z (by omega) (Nat.lt_of_lt_of_le (by omega) hQ3.sz) (ht.later hQ3.bl (Nat.le_refl _)) hop hr1 hr2 k hk ha).mono ?_; rintro e w4 ⟨rfl, hz4, hb4⟩) | (refine wpList_store_mid rfl 42 _ _ rfl (w.heap.size + 2) 0 noAsk.cells rfl rfl (ask_there hz4 noAsk) (ask_size noAsk) (ask_one noAsk) ?_))
  have hr5 := World.rangeAt_setCells_same w4 (w.heap.size + 2) 0 noAsk.cells.toList hz4
  have hbl := below_setCells (Nat.le_add_right w.heap.size 2) noAsk.cells.toList 0 w4 (hQ3.bl.trans hb4)
  have hlv := result_ask _ (w.heap.size + 2) noAsk hr5
  generalize World.setCells w4 (w.heap.size + 2) 0 noAsk.cells.toList = W5 at hlv hbl ⊢
  exact bodyPost_ret (v := .tuple #[.agg noAsk.cells, .int .i64 0]) (by simp [results, Tryz.results14, asAddr, hlv]) rfl ⟨rfl, hbl⟩
theorem HAsk_any (h : HartV) (i : InsnV) (w : World) (ht : Tabs w) (hop : i.op ≤ 9223372036854775807) (hb : hartE h = 0) (hf : h.fin = 0) (hck : checkE i = 0) :
    Calls Tryz.prog 14 #[.agg (hartArr h), .agg i.cells] w fun e w' => e = .returned (.tuple #[.agg (askR h i).cells, .int .i64 0]) ∧ Below w.heap.size w w' := by
  have hok : checkOk i = true := by
    unfold checkE at hck
    cases hc : checkOk i with
    | true => rfl
    | false => rw [hc] at hck; cases hck
  have hregs := checkOk_regs i hok
  obtain ⟨op, rd, rs1, rs2, imm, aq, rl, pred, succ⟩ := i
  obtain ⟨h1, h2, h3, h4, h5, h6⟩ := hregs
  simp only at h1 h2 h3 h4 h5 h6
  obtain ⟨d, rfl⟩ := Int.eq_ofNat_of_zero_le h1
  obtain ⟨r1, rfl⟩ := Int.eq_ofNat_of_zero_le h3
  obtain ⟨r2, rfl⟩ := Int.eq_ofNat_of_zero_le h5
  by_cases ha : askE h ⟨op, d, r1, r2, imm, aq, rl, pred, succ⟩ = 0
  · rw [show askR h ⟨op, d, r1, r2, imm, aq, rl, pred, succ⟩ = askV h ⟨op, d, r1, r2, imm, aq, rl, pred, succ⟩ from if_pos ha]
    exact Ask_go h op d r1 r2 imm aq rl pred succ w ht hop (by omega) (by omega) hb hf hck ha _ rfl
  · rw [show askR h ⟨op, d, r1, r2, imm, aq, rl, pred, succ⟩ = noAsk from if_neg ha]
    exact Ask_off h op d r1 r2 imm aq rl pred succ w ht hop (by omega) (by omega) hb hf hck _ ha rfl
end Go.Proofs.YtbglinhglnbfmaaGreatDoor
namespace Go.Proofs.YtbglinhglnbfmaaGreatDoor
theorem form10 : ((List.range 88).all fun n => (decide ((opOf (n : Int)).form = 10) == (decide (n = 64) || decide (n = 65)))) = true := by decide +kernel
theorem form_10 (n : Int) (h : (opOf n).form = 10) : n = 64 ∨ n = 65 := by
  by_cases h0 : n < 1
  · unfold opOf at h; rw [if_pos h0] at h; exact absurd h (by decide)
  · by_cases h1 : 87 < n
    · rw [opOf_big n h1] at h; exact absurd h (by decide)
    · obtain ⟨m, rfl⟩ := Int.eq_ofNat_of_zero_le (show 0 ≤ n by omega)
      have := List.all_eq_true.1 form10 m (List.mem_range.2 (by omega))
      rw [beq_iff_eq, decide_eq_true h] at this
      have := this.symm
      simp at this
      omega
/-- Register r is not among what an instruction reads. -/
def unread (i : InsnV) (r : Nat) : Prop := i.rs1.toNat ≠ r ∧ i.rs2.toNat ≠ r ∧ (i.op = 64 → r ≠ 10 ∧ r ≠ 17)
theorem set_x {h : HartV} {r q : Nat} (v : BitVec 64) (hq : q ≠ r) : (h.set r v).x q = h.x q := if_neg hq
theorem set_at (h : HartV) (r : Nat) (v : BitVec 64) : (h.set r v).x r = v := if_pos rfl
theorem nextR_set {h : HartV} {i : InsnV} {r : Nat} (v : BitVec 64) (hu : unread i r) : nextR (h.set r v) i = nextR h i := by
  unfold nextR; rw [set_x v hu.1, set_x v hu.2.1]; rfl
theorem addrE_set {h : HartV} {i : InsnV} {r : Nat} (v : BitVec 64) (hu : unread i r) : addrE (h.set r v) i = addrE h i := by
  unfold addrE; rw [set_x v hu.1]
theorem askE_set {h : HartV} {i : InsnV} {r : Nat} (v : BitVec 64) (hu : unread i r) : askE (h.set r v) i = askE h i := by
  unfold askE
  rw [nextR_set v hu, addrE_set v hu]
  by_cases hf : (opOf i.op).form = 10
  · rcases form_10 _ hf with ho | ho
    · rw [set_x v (fun e => (hu.2.2 ho).2 e.symm)]
    · rw [if_pos ho, if_pos ho]
  · rw [if_neg hf, if_neg hf]
theorem askE_65 {h : HartV} {i : InsnV} (hf : (opOf i.op).form = 10) (ho : i.op = 65) : askE h i = 6 ∨ askE h i = 2 := by
  unfold askE
  by_cases hn : nextR h i = none
  · left; rw [if_pos hn]
  · right; rw [if_neg hn, if_neg (by omega), if_pos hf, if_pos ho]
theorem askE_not1 {h : HartV} {i : InsnV} (hf : (opOf i.op).form ≠ 10) : askE h i ≠ 1 := by
  unfold askE addrE
  by_cases hn : nextR h i = none
  · rw [if_pos hn]; decide
  · rw [if_neg hn]
    by_cases hm : (opOf i.op).form = 4 ∨ (opOf i.op).form = 5 ∨ (opOf i.op).form = 11 ∨ (opOf i.op).form = 12
    · rw [if_pos hm]
      split
      · decide
      · split <;> decide
    · rw [if_neg hm, if_neg hf]; decide
theorem askV_set {h : HartV} {i : InsnV} {r : Nat} (v : BitVec 64) (hu : unread i r) (ha : askE h i = 0) : askV (h.set r v) i = askV h i := by
  unfold askV
  rw [set_x v hu.1, set_x v hu.2.1]
  by_cases hf : (opOf i.op).form = 10
  · rcases form_10 _ hf with ho | ho
    · rw [set_x v (fun e => (hu.2.2 ho).1 e.symm)]
    · exfalso
      rcases askE_65 (h := h) hf ho with e | e <;> rw [e] at ha <;> exact absurd ha (by decide)
  · rw [if_neg hf, if_neg hf]
theorem askR_set {h : HartV} {i : InsnV} {r : Nat} (v : BitVec 64) (hu : unread i r) : askR (h.set r v) i = askR h i := by
  unfold askR; rw [askE_set v hu]
  by_cases ha : askE h i = 0
  · rw [if_pos ha, if_pos ha, askV_set v hu ha]
  · rw [if_neg ha, if_neg ha]
theorem answerV_set {h : HartV} {i : InsnV} {r : Nat} (v : BitVec 64) (hu : unread i r) (a : AskV) (found : BitVec 64) (won : Bool) : answerV (h.set r v) i a found won = answerV h i a found won := by
  unfold answerV; rw [set_x v hu.1, set_x v hu.2.1]; rfl
/-- What a step writes, and where it leaves the hart, as to its registers. -/
theorem stepV_x {h : HartV} {i : InsnV} (found : BitVec 64) (won : Bool) (q : Nat) (hq : (q : Int) ≠ i.rd ∨ (stepV h i found won).fin ≠ 0) (hf : h.fin = 0) (hrd : 0 ≤ i.rd) : (stepV h i found won).x q = h.x q := by
  unfold stepV at *
  by_cases ha : askE h i = 0
  · rw [if_pos ha] at hq ⊢
    rw [goneV_fin] at hq
    have hq : (q : Int) ≠ i.rd := hq.elim id (fun hh => absurd hf hh)
    unfold goneV
    split
    · rfl
    · show (if q = i.rd.toNat then _ else h.x q) = h.x q
      rw [if_neg (by omega)]
  · rw [if_neg ha, endedV_x]
theorem stepV_zero {h : HartV} {i : InsnV} (found : BitVec 64) (won : Bool) (h0 : un (h.x 0) = 0) (hrd : 0 ≤ i.rd) : un ((stepV h i found won).x 0) = 0 := by
  unfold stepV
  by_cases ha : askE h i = 0
  · rw [if_pos ha]; unfold goneV
    split
    · exact h0
    · show un (if 0 = i.rd.toNat then _ else h.x 0) = 0
      rw [if_neg (by omega)]; exact h0
  · rw [if_neg ha, endedV_x]; exact h0
theorem askE_range (h : HartV) (i : InsnV) : 0 ≤ askE h i ∧ askE h i ≤ 6 := by
  unfold askE addrE
  repeat' split
  all_goals decide
theorem stepV_ok {h : HartV} {i : InsnV} (found : BitVec 64) (won : Bool) (hb : hartE h = 0) (hf : h.fin = 0) (hrd : 0 ≤ i.rd) : hartE (stepV h i found won) = 0 := by
  have hh : un (h.x 0) = 0 ∧ un h.code = 0 := by
    unfold hartE at hb
    split at hb
    · rename_i k; exact ⟨k.1, k.2.2.2.elim (fun e => by omega) id⟩
    · cases hb
  unfold hartE
  refine if_pos ⟨stepV_zero found won hh.1 hrd, ?_⟩
  have hr := askE_range h i
  unfold stepV
  by_cases ha : askE h i = 0
  · rw [if_pos ha, goneV_fin, hf]
    refine ⟨by decide, by decide, .inr ?_⟩
    unfold goneV; split <;> exact hh.2
  · rw [if_neg ha, endedV_fin]
    refine ⟨hr.1, hr.2, ?_⟩
    by_cases h1 : askE h i = 1
    · exact .inl h1
    · refine .inr ?_; unfold endedV; rw [if_neg h1]; exact hh.2
theorem step_same {h : HartV} {i : InsnV} {r : Nat} (v found : BitVec 64) (won : Bool) (hu : unread i r) (hrd : 0 ≤ i.rd) :
    (stepV (h.set r v) i found won).pc = (stepV h i found won).pc ∧ (stepV (h.set r v) i found won).fin = (stepV h i found won).fin ∧ (stepV (h.set r v) i found won).code = (stepV h i found won).code ∧
    (∀ q : Nat, q ≠ r → (stepV (h.set r v) i found won).x q = (stepV h i found won).x q) ∧
    ((stepV (h.set r v) i found won).fin = h.fin → (r : Int) = i.rd → r ≠ 0 → h.fin = 0 → (stepV (h.set r v) i found won).x r = (stepV h i found won).x r) ∧
    ((r : Int) ≠ i.rd ∨ (stepV (h.set r v) i found won).fin ≠ 0 → h.fin = 0 → (stepV (h.set r v) i found won).x r = v) := by
  have e1 : stepV (h.set r v) i found won = if askE h i = 0 then goneV (h.set r v) i ((nextR h i).getD 0#64) found won else endedV (h.set r v) (askE h i) := by
    unfold stepV; rw [askE_set v hu, nextR_set v hu]
  rw [e1]
  unfold stepV
  by_cases ha : askE h i = 0
  · rw [if_pos ha, if_pos ha]
    have hv : answerV (h.set r v) i (askV (h.set r v) i) found won = answerV h i (askV h i) found won := by rw [askV_set v hu ha, answerV_set v hu]
    unfold goneV
    rw [hv]
    by_cases hz : i.rd = 0
    · rw [if_pos hz, if_pos hz]
      refine ⟨rfl, rfl, rfl, fun q hq => if_neg hq, fun _ hr hr0 _ => absurd (hr.trans hz) (by omega), fun _ _ => if_pos rfl⟩
    · rw [if_neg hz, if_neg hz]
      refine ⟨rfl, rfl, rfl, fun q hq => ?_, fun _ hr _ _ => ?_, fun hr hf => ?_⟩
      · show (if q = i.rd.toNat then _ else (if q = r then v else h.x q)) = (if q = i.rd.toNat then _ else h.x q)
        rw [if_neg hq]
      · show (if r = i.rd.toNat then _ else (if r = r then v else h.x r)) = (if r = i.rd.toNat then _ else h.x r)
        rw [if_pos (by omega), if_pos (by omega)]
      · have hr : (r : Int) ≠ i.rd := hr.elim id (fun hh => absurd hf hh)
        show (if r = i.rd.toNat then _ else (if r = r then v else h.x r)) = v
        rw [if_neg (by omega), if_pos rfl]
  · rw [if_neg ha, if_neg ha]
    have hc : askE h i = 1 → r ≠ 10 := fun h1 => by
      have hf : (opOf i.op).form = 10 := by
        exact Classical.byContradiction fun hn => askE_not1 hn h1
      rcases form_10 _ hf with ho | ho
      · exact (hu.2.2 ho).1
      · exfalso
        rcases askE_65 (h := h) hf ho with e | e <;> rw [e] at h1 <;> exact absurd h1 (by decide)
    refine ⟨by rw [endedV_pc, endedV_pc]; rfl, by rw [endedV_fin, endedV_fin], ?_, fun q hq => by rw [endedV_x, endedV_x]; exact if_neg hq, fun hfin _ _ hf => ?_, fun _ _ => by rw [endedV_x]; exact if_pos rfl⟩
    · unfold endedV
      by_cases h1 : askE h i = 1
      · rw [if_pos h1, if_pos h1]; exact if_neg (fun e => hc h1 e.symm)
      · rw [if_neg h1, if_neg h1]; rfl
    · rw [endedV_fin, hf] at hfin; exact absurd hfin ha
end Go.Proofs.YtbglinhglnbfmaaGreatDoor
namespace Go.Proofs.YtbglinhglnbfmaaGreatDoor
open Go.RowKit
/-- Which of the first k registers from 1 on an instruction reads, an ecall left out. -/
def readsK (i : InsnV) (k : Nat) : List Int := ((List.range k).filter fun q : Nat => decide (i.rs1 = (q : Int) + 1) || decide (i.rs2 = (q : Int) + 1)).map fun q : Nat => (q : Int) + 1
def readsL (i : InsnV) : List Int := if i.op = 64 then [10, 17] else readsK i 31
theorem readsK_succ (i : InsnV) (k : Nat) : readsK i (k + 1) = if i.rs1 = (k : Int) + 1 ∨ i.rs2 = (k : Int) + 1 then readsK i k ++ [(k : Int) + 1] else readsK i k := by
  unfold readsK
  rw [List.range_succ, List.filter_append, List.map_append]
  by_cases h : i.rs1 = (k : Int) + 1 ∨ i.rs2 = (k : Int) + 1
  · rw [if_pos h, List.filter_cons_of_pos (by simpa using h)]; rfl
  · rw [if_neg h, List.filter_cons_of_neg (by simpa using h)]; simp
theorem readsK_len (i : InsnV) (k : Nat) : (readsK i k).length ≤ k := by
  unfold readsK
  rw [List.length_map]
  exact Nat.le_trans (List.length_filter_le _ _) (by simp)
theorem Tryz.info_intS : (Tryz.prog.info? 3).map (fun i => (i.zero, i.size, i.bytes)) = some (some (.int .i64 0), 1, 8) := by kernel_rfl
section
attribute [local irreducible] un sn
set_option maxRecDepth 100000 in
theorem R2Writes_ok (i : InsnV) (hc : checkE i = 0) (w : World) :
    Calls Tryz.prog 13 #[.agg i.cells] w fun e w' => e = .returned (.int .i64 i.rd) ∧ Below w.heap.size w w' := by
  have hK := Lib.hid (fun W => R2Check_any i W)
  rw [hc] at hK
  clear hc
  obtain ⟨op, rd, r1, r2, imm, aq, rl, pred, succ⟩ := i
  have hz : ∀ w4, Below (w.alloc (.cells (InsnV.cells ⟨op, rd, r1, r2, imm, aq, rl, pred, succ⟩) 27)).heap.size (w.alloc (.cells (InsnV.cells ⟨op, rd, r1, r2, imm, aq, rl, pred, succ⟩) 27)) w4 → w4.cell? ⟨w.heap.size, 1, none⟩ = some (.int .i64 rd) := fun w4 hb => by
    rw [hb.cell (p := ⟨w.heap.size, 1, none⟩) (by simp), World.cell?_alloc_new]; rfl
  have hz := Lib.hid hz
  unfold InsnV.cells at *
  go_enter Tryz.func13, Tryz.ntmps13
  go_wp2_with (go_at_call 8; refine (hK.out _).mono ?_; rintro e w4 ⟨rfl, hb4⟩; have k1 := hz.out w4 hb4)
  go_ret
  exact ⟨rfl, ((Below.refl _ _).alloc (Nat.le_refl _) _).trans (hb4.mono (by simp))⟩
set_option maxRecDepth 100000 in
theorem Reads_call (op rd r1 r2 imm : Int) (aq rl : Bool) (pred succ : Int) (hc : checkE ⟨op, rd, r1, r2, imm, aq, rl, pred, succ⟩ = 0) (h64 : op = 64) (w : World) :
    Calls Tryz.prog 12 #[.agg (InsnV.cells ⟨op, rd, r1, r2, imm, aq, rl, pred, succ⟩)] w (NewInts w [10, 17]) := by
  have hK := Lib.hid (fun W => R2Check_any ⟨op, rd, r1, r2, imm, aq, rl, pred, succ⟩ W)
  rw [hc] at hK
  clear hc
  have t64 : (op == 64) = true := by rw [h64]; rfl
  clear h64
  have hz : ∀ w4, Below (w.alloc (.cells (InsnV.cells ⟨op, rd, r1, r2, imm, aq, rl, pred, succ⟩) 27)).heap.size (w.alloc (.cells (InsnV.cells ⟨op, rd, r1, r2, imm, aq, rl, pred, succ⟩) 27)) w4 → w4.cell? ⟨w.heap.size, 0, none⟩ = some (.int .i64 op) := fun w4 hb => by
    rw [hb.cell (p := ⟨w.heap.size, 0, none⟩) (by simp), World.cell?_alloc_new]; rfl
  have hz := Lib.hid hz
  unfold InsnV.cells at *
  go_enter Tryz.func12, Tryz.ntmps12
  go_wp2_with (go_at_call 8; refine (hK.out _).mono ?_; rintro e w4 ⟨rfl, hb4⟩; have k0 := hz.out w4 hb4)
  go_ret
  have hb : Below w.heap.size w w4 := ((Below.refl _ _).alloc (Nat.le_refl _) _).trans (hb4.mono (by simp))
  refine ⟨⟨_, rfl, ?_⟩, hb.alloc hb.size _⟩
  have := World.ownsRow_lit (e := 3) (size := 1) w4 #[.int .i64 10, .int .i64 17] 2 (Nat.le_refl _) (by decide) rfl
  exact ownsRow_low this hb.size
/-- The same from 1 on. -/
def readsQ (i : InsnV) (k : Nat) : List Int := readsK i (k - 1)
theorem readsQ_succ (i : InsnV) (k : Nat) (hk : 1 ≤ k) : readsQ i (k + 1) = if i.rs1 = (k : Int) ∨ i.rs2 = (k : Int) then readsQ i k ++ [(k : Int)] else readsQ i k := by
  obtain ⟨j, rfl⟩ : ∃ j, k = j + 1 := ⟨k - 1, by omega⟩
  unfold readsQ
  rw [show j + 1 + 1 - 1 = j + 1 by omega, show j + 1 - 1 = j by omega, readsK_succ]
  rw [show ((j + 1 : Nat) : Int) = (j : Int) + 1 by omega]
set_option maxRecDepth 100000 in
set_option maxHeartbeats 4000000 in
theorem Reads_plain (op rd r1 r2 imm : Int) (aq rl : Bool) (pred succ : Int) (hc : checkE ⟨op, rd, r1, r2, imm, aq, rl, pred, succ⟩ = 0) (h64 : op ≠ 64) (w : World) :
    Calls Tryz.prog 12 #[.agg (InsnV.cells ⟨op, rd, r1, r2, imm, aq, rl, pred, succ⟩)] w (NewInts w (readsQ ⟨op, rd, r1, r2, imm, aq, rl, pred, succ⟩ 32)) := by
  have hK := Lib.hid (fun W => R2Check_any ⟨op, rd, r1, r2, imm, aq, rl, pred, succ⟩ W)
  rw [hc] at hK
  clear hc
  have t64 : (op == 64) = false := by rw [beq_eq_false_iff_ne]; exact h64
  clear h64
  have hz : ∀ w4, Below (w.alloc (.cells (InsnV.cells ⟨op, rd, r1, r2, imm, aq, rl, pred, succ⟩) 27)).heap.size (w.alloc (.cells (InsnV.cells ⟨op, rd, r1, r2, imm, aq, rl, pred, succ⟩) 27)) w4 → w4.cell? ⟨w.heap.size, 0, none⟩ = some (.int .i64 op) ∧ w4.cell? ⟨w.heap.size, 2, none⟩ = some (.int .i64 r1) ∧ w4.cell? ⟨w.heap.size, 3, none⟩ = some (.int .i64 r2) ∧ Below w.heap.size w w4 := fun w4 hb => by
    refine ⟨?_, ?_, ?_, ((Below.refl _ _).alloc (Nat.le_refl _) _).trans (hb.mono (by simp))⟩
    · rw [hb.cell (p := ⟨w.heap.size, 0, none⟩) (by simp), World.cell?_alloc_new]; rfl
    · rw [hb.cell (p := ⟨w.heap.size, 2, none⟩) (by simp), World.cell?_alloc_new]; rfl
    · rw [hb.cell (p := ⟨w.heap.size, 3, none⟩) (by simp), World.cell?_alloc_new]; rfl
  have hz := Lib.hid hz
  have hrs := Lib.hid (readsQ_succ ⟨op, rd, r1, r2, imm, aq, rl, pred, succ⟩)
  have hrl : ∀ k, (readsQ ⟨op, rd, r1, r2, imm, aq, rl, pred, succ⟩ k).length ≤ k := fun k => Nat.le_trans (readsK_len _ _) (Nat.sub_le _ _)
  have hrl := Lib.hid hrl
  obtain ⟨R, hR⟩ : ∃ R, R = readsQ ⟨op, rd, r1, r2, imm, aq, rl, pred, succ⟩ := ⟨_, rfl⟩
  have hR0 : Hid (R 1 = []) := Lib.hid (by rw [hR]; unfold readsQ readsK; rfl)
  rw [← hR] at hrs hrl ⊢
  simp only at hrs
  clear hR
  obtain ⟨i0, hi, hz0, hz1, hz2⟩ := info_parts Tryz.info_intS
  have hi' := Lib.hid hi; have hz0' := Lib.hid hz0; have hz1' := Lib.hid hz1; have hz2' := Lib.hid hz2; clear hi hz0 hz1 hz2
  unfold InsnV.cells at *
  go_enter Tryz.func12, Tryz.ntmps12
  go_wp2_with (go_at_call 8; refine (hK.out _).mono ?_; rintro e w4 ⟨rfl, hb4⟩; have hz4 := Lib.hid (fun W (hW : Below w4.heap.size w4 W) => hz.out W (hb4.trans (hW.mono hb4.size))); have k0 := (hz.out w4 hb4).1)
  go_loopw [3, 4] (fun v i wr => ∃ k : Nat, 1 ≤ k ∧ k ≤ 32 ∧ i = .int .i64 k ∧ wr.ownsRow w4.heap.size 3 1 v (R k).length ((R k).map (Value.int .i64)) ∧ Below w4.heap.size w4 wr) (fun _ i _ => 32 - (intOf i).toNat)
  case atStart => exact ⟨1, Nat.le_refl _, by decide, rfl, by rw [hR0.out]; exact World.ownsRow_nil _ _ _ _, Below.refl _ _⟩
  case round =>
    obtain ⟨k, hk1, hk, rfl, hown, hb⟩ := hrel
    obtain ⟨-, c2, c3, hbw⟩ := hz4.out _ hb
    have hlen := hrl.out k
    have hnx := Lib.hid (hrs.out k hk1)
    by_cases hlt : k < 32
    · by_cases e1 : r1 = (k : Int)
      · have hq : Hid ((R k).map (Value.int .i64) ++ [Value.int .i64 (k : Int)] = (R (k + 1)).map (Value.int .i64) ∧ (R k).length + 1 = (R (k + 1)).length) := Lib.hid (by rw [hnx.out, if_pos (.inl e1)]; simp)
        have t1 : (r1 == (k : Int)) = true := by rw [e1]; simp
        clear e1
        clear hnx
        go_wp2_with (first | (at_builtin; refine wpList_append_own _ rfl _ _ 38 rfl w4.heap.size 3 i0 (.int .i64 0) 1 8 Tryz.underlying38 hi'.out hz0'.out hz1'.out hz2'.out rfl (by decide) _ (R k).length _ rfl (hown.alloc _) ⟨wr.heap.size, 0, none⟩ 1 1 [.int .i64 (k : Int)] rfl rfl ?c1 ?c2 ?c3 ?c4 ?c5 ?_))
        case c1 => exact cell_new1 _ _ _
        case c2 => simp [Value.oneCell']
        case c3 => unfold maxLen; omega
        case c4 => omega
        case c5 => have := hb.size; simp; omega
        intro v' w1 hown' hgrow _
        rw [hq.out.1, hq.out.2] at hown'
        have hb1 : Below w4.heap.size w4 w1 := (hb.alloc hb.size _).grown hgrow (by have := hb.size; simp; omega) (fun j hj => (World.ownsRow.lt hown j hj).1)
        clear hown hb hgrow
        go_wp2
        go_roundw
        case rel => exact ⟨k + 1, by omega, by omega, by go_num, hown', hb1⟩
        case measure => simp [intOf]; omega
      · by_cases e2 : r2 = (k : Int)
        · have hq : Hid ((R k).map (Value.int .i64) ++ [Value.int .i64 (k : Int)] = (R (k + 1)).map (Value.int .i64) ∧ (R k).length + 1 = (R (k + 1)).length) := Lib.hid (by rw [hnx.out, if_pos (.inr e2)]; simp)
          have t1 : (r1 == (k : Int)) = false := by rw [beq_eq_false_iff_ne]; exact e1
          have t2 : (r2 == (k : Int)) = true := by rw [e2]; simp
          clear e1 e2
          clear hnx
          go_wp2_with (first | (at_builtin; refine wpList_append_own _ rfl _ _ 38 rfl w4.heap.size 3 i0 (.int .i64 0) 1 8 Tryz.underlying38 hi'.out hz0'.out hz1'.out hz2'.out rfl (by decide) _ (R k).length _ rfl (hown.alloc _) ⟨wr.heap.size, 0, none⟩ 1 1 [.int .i64 (k : Int)] rfl rfl ?c1 ?c2 ?c3 ?c4 ?c5 ?_))
          case c1 => exact cell_new1 _ _ _
          case c2 => simp [Value.oneCell']
          case c3 => unfold maxLen; omega
          case c4 => omega
          case c5 => have := hb.size; simp; omega
          intro v' w1 hown' hgrow _
          rw [hq.out.1, hq.out.2] at hown'
          have hb1 : Below w4.heap.size w4 w1 := (hb.alloc hb.size _).grown hgrow (by have := hb.size; simp; omega) (fun j hj => (World.ownsRow.lt hown j hj).1)
          clear hown hb hgrow
          go_wp2
          go_roundw
          case rel => exact ⟨k + 1, by omega, by omega, by go_num, hown', hb1⟩
          case measure => simp [intOf]; omega
        · have hq : Hid (R (k + 1) = R k) := Lib.hid (by rw [hnx.out, if_neg (fun hh => hh.elim e1 e2)])
          have t1 : (r1 == (k : Int)) = false := by rw [beq_eq_false_iff_ne]; exact e1
          have t2 : (r2 == (k : Int)) = false := by rw [beq_eq_false_iff_ne]; exact e2
          clear e1 e2 hnx
          go_wp2_with fail
          go_roundw
          case rel => exact ⟨k + 1, by omega, by omega, by go_num, by rw [hq.out]; exact hown, hb⟩
          case measure => simp [intOf]; omega
    · obtain rfl : k = 32 := by omega
      go_wp2_with fail
      go_ret
      exact ⟨⟨_, rfl, ownsRow_low hown ((hz4.out _ (Below.refl _ _)).2.2.2).size⟩, hbw⟩
end
theorem readsL_eq (i : InsnV) (h : i.op ≠ 64) : readsQ i 32 = readsL i := by unfold readsL readsQ; rw [if_neg h]
theorem Reads_any (i : InsnV) (hc : checkE i = 0) (w : World) : Calls Tryz.prog 12 #[.agg i.cells] w (NewInts w (readsL i)) := by
  obtain ⟨op, rd, r1, r2, imm, aq, rl, pred, succ⟩ := i
  by_cases h : op = 64
  · rw [show readsL ⟨op, rd, r1, r2, imm, aq, rl, pred, succ⟩ = [10, 17] from if_pos h]
    exact Reads_call op rd r1 r2 imm aq rl pred succ hc h w
  · rw [← readsL_eq _ h]
    exact Reads_plain op rd r1 r2 imm aq rl pred succ hc h w
theorem readsL_mem (i : InsnV) (r : Nat) (h1 : 1 ≤ r) (h2 : r < 32) (h : (r : Int) ∉ readsL i) : i.op ≠ 64 ∧ i.rs1 ≠ r ∧ i.rs2 ≠ r ∨ i.op = 64 ∧ r ≠ 10 ∧ r ≠ 17 := by
  unfold readsL at h
  by_cases ho : i.op = 64
  · rw [if_pos ho] at h
    simp at h
    exact .inr ⟨ho, by omega, by omega⟩
  · rw [if_neg ho] at h
    refine .inl ⟨ho, fun e => h ?_, fun e => h ?_⟩
    · unfold readsK
      exact List.mem_map.2 ⟨r - 1, List.mem_filter.2 ⟨List.mem_range.2 (by omega), by simp; left; omega⟩, by omega⟩
    · unfold readsK
      exact List.mem_map.2 ⟨r - 1, List.mem_filter.2 ⟨List.mem_range.2 (by omega), by simp; right; omega⟩, by omega⟩
end Go.Proofs.YtbglinhglnbfmaaGreatDoor
