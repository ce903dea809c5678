/- The walks of asm.Turned, asm.length and asm.goes. Conditions: none. -/
import Derived.Test.YtcgflnkgekkidaaGreatDoorAsmNu
import Derived.LoopN
set_option linter.unusedSimpArgs false
set_option linter.unusedVariables false
namespace Go.Proofs.YtcgflnkgekkidaaGreatDoor
open Go.RowKit
/-- A row's value is a slice of its length. -/
theorem own_sliceN {w : World} {base : Nat} {e : TypeId} {s : Nat} {v : Value} {n : Nat} {xs : List Value} (h : w.ownsRow base e s v n xs) : ∃ (ao : Option Addr) (cap : Nat), v = .slice ao n cap := by
  rcases h.2 with ⟨rfl, h0⟩ | ⟨g, cap, cur, rfl, h2⟩
  · exact ⟨none, 0, by rw [h0]⟩
  · exact ⟨_, cap, rfl⟩
/-- The other branch. -/
def turnedV (op : Int) : Int := if op = 5 then 6 else if op = 6 then 5 else if op = 7 then 8 else if op = 8 then 7 else if op = 9 then 10 else if op = 10 then 9 else 0
section
attribute [local go_sem] run_index_array'
set_option maxRecDepth 100000 in
set_option maxHeartbeats 8000000 in
theorem Turned_any (op : Int) (w : World) : Calls Tryz.prog 26 #[.int .i64 op] w fun e w' => e = .returned (.int .i64 (turnedV op)) ∧ Below w.heap.size w w' := by
  go_enter Tryz.func26, Tryz.ntmps26
  go_wp2_with fail
  go_loopw [11] (fun i wr => ∃ k : Nat, k ≤ 3 ∧ i = .int .i64 k ∧ Below w.heap.size w wr ∧ Hid (∀ j : Nat, j < k → op ≠ 2 * j + 5 ∧ op ≠ 2 * j + 6)) (fun i _ => 3 - (intOf i).toNat)
  case atStart => exact ⟨0, by decide, rfl, (Below.refl _ _).alloc (Nat.le_refl _) _, Lib.hid fun j hj => absurd hj (by omega)⟩
  case round =>
    obtain ⟨k, hk, rfl, hb, hno⟩ := hrel
    rcases (show k = 0 ∨ k = 1 ∨ k = 2 ∨ k = 3 by omega) with rfl | rfl | rfl | rfl
    · by_cases e1 : op = 5
      · subst e1
        go_wp2_with fail
        go_ret
        exact ⟨rfl, hb.alloc hb.size _⟩
      · have t1 : (op == 5) = false := by simpa using e1
        by_cases e2 : op = 6
        · subst e2
          go_wp2_with fail
          go_ret
          exact ⟨rfl, hb.alloc hb.size _⟩
        · have t2 : (op == 6) = false := by simpa using e2
          go_wp2_with fail
          go_roundw
          case rel => exact ⟨1, by decide, by go_num, hb.alloc hb.size _, Lib.hid fun j hj => by
            rcases Nat.lt_or_ge j 0 with h | h
            · exact hno.out j h
            · obtain rfl : j = 0 := by omega
              exact ⟨e1, e2⟩⟩
          case measure => simp [intOf]
    · by_cases e1 : op = 7
      · subst e1
        go_wp2_with fail
        go_ret
        exact ⟨rfl, hb.alloc hb.size _⟩
      · have t1 : (op == 7) = false := by simpa using e1
        by_cases e2 : op = 8
        · subst e2
          go_wp2_with fail
          go_ret
          exact ⟨rfl, hb.alloc hb.size _⟩
        · have t2 : (op == 8) = false := by simpa using e2
          go_wp2_with fail
          go_roundw
          case rel => exact ⟨2, by decide, by go_num, hb.alloc hb.size _, Lib.hid fun j hj => by
            rcases Nat.lt_or_ge j 1 with h | h
            · exact hno.out j h
            · obtain rfl : j = 1 := by omega
              exact ⟨e1, e2⟩⟩
          case measure => simp [intOf]
    · by_cases e1 : op = 9
      · subst e1
        go_wp2_with fail
        go_ret
        exact ⟨rfl, hb.alloc hb.size _⟩
      · have t1 : (op == 9) = false := by simpa using e1
        by_cases e2 : op = 10
        · subst e2
          go_wp2_with fail
          go_ret
          exact ⟨rfl, hb.alloc hb.size _⟩
        · have t2 : (op == 10) = false := by simpa using e2
          go_wp2_with fail
          go_roundw
          case rel => exact ⟨3, by decide, by go_num, hb.alloc hb.size _, Lib.hid fun j hj => by
            rcases Nat.lt_or_ge j 2 with h | h
            · exact hno.out j h
            · obtain rfl : j = 2 := by omega
              exact ⟨e1, e2⟩⟩
          case measure => simp [intOf]
    · have hz : Hid (turnedV op = 0) := Lib.hid (by
        have h0 := hno.out 0 (by decide)
        have h1 := hno.out 1 (by decide)
        have h2 := hno.out 2 (by decide)
        unfold turnedV
        rw [if_neg (by omega), if_neg (by omega), if_neg (by omega), if_neg (by omega), if_neg (by omega), if_neg (by omega)])
      go_wp2_with fail
      go_ret
      exact ⟨by rw [hz.out]; rfl, hb⟩
end
/-- An item's box. -/
structure ItB (b : Nat) (i : ItemV) (W : World) : Prop where
  c : ∀ j v, i.cells[j]? = some v → W.cell? ⟨b, j, none⟩ = some v
  lt : b < W.heap.size
theorem ItB.keep {b : Nat} {i : ItemV} {W W' : World} (h : ItB b i W) (hb : Below W.heap.size W W') : ItB b i W' :=
  ⟨fun j v hv => by rw [hb.cell (p := ⟨b, j, none⟩) h.lt]; exact h.c j v hv, Nat.lt_of_lt_of_le h.lt hb.size⟩
theorem ItB.new (w : World) (i : ItemV) (t : TypeId) : ItB w.heap.size i (w.alloc (.cells i.cells t)) ∧ Below w.heap.size w (w.alloc (.cells i.cells t)) :=
  ⟨⟨fun j v hv => by rw [World.cell?_alloc_new]; exact hv, by simp⟩, (Below.refl _ _).alloc (Nat.le_refl _) _⟩
theorem ItB.all {b : Nat} {W : World} {kind label : Int} {addr : BitVec 64} {op rd r1 r2 imm : Int} {aq rl : Bool} {pred succ : Int} (h : ItB b ⟨kind, ⟨op, rd, r1, r2, imm, aq, rl, pred, succ⟩, label, addr⟩ W) :
    W.cell? ⟨b, 0, none⟩ = some (.int .i64 kind) ∧ W.cell? ⟨b, 1, none⟩ = some (.int .i64 op) ∧ W.cell? ⟨b, 2, none⟩ = some (.int .i64 rd) ∧ W.cell? ⟨b, 3, none⟩ = some (.int .i64 r1) ∧ W.cell? ⟨b, 4, none⟩ = some (.int .i64 r2) ∧ W.cell? ⟨b, 5, none⟩ = some (.int .i64 imm) ∧ W.cell? ⟨b, 6, none⟩ = some (.bool aq) ∧ W.cell? ⟨b, 7, none⟩ = some (.bool rl) ∧ W.cell? ⟨b, 8, none⟩ = some (.int .i64 pred) ∧ W.cell? ⟨b, 9, none⟩ = some (.int .i64 succ) ∧ W.cell? ⟨b, 10, none⟩ = some (.int .i64 label) ∧ W.cell? ⟨b, 11, none⟩ = some (.int .u64 (un addr)) :=
  ⟨h.c 0 _ rfl, h.c 1 _ rfl, h.c 2 _ rfl, h.c 3 _ rfl, h.c 4 _ rfl, h.c 5 _ rfl, h.c 6 _ rfl, h.c 7 _ rfl, h.c 8 _ rfl, h.c 9 _ rfl, h.c 10 _ rfl, h.c 11 _ rfl⟩
/-- How many words an item that may be has. -/
def lenV (i : ItemV) (long : Bool) : Int := if i.kind = 2 then 0 else if i.kind = 5 then ((numV i.insn.rd i.addr).length : Int) else if i.kind = 3 ∧ long = true then 2 else 1
set_option maxRecDepth 100000 in
set_option maxHeartbeats 8000000 in
theorem Length_any (i : ItemV) (long : Bool) (w : World) : Calls Tryz.prog 55 #[.agg i.cells, .bool long] w fun e w' => e = .returned (.int .i64 (lenV i long)) ∧ Below w.heap.size w w' := by
  obtain ⟨hI, hb⟩ := ItB.new w i 29
  have hN := Lib.hid (fun W => ANumber_any i.insn.rd i.addr W)
  have hl : Hid ((numV i.insn.rd i.addr).length ≤ 12) := Lib.hid (numF_len 6 _ _)
  unfold lenV
  obtain ⟨kind, ⟨op, rd, r1, r2, imm, aq, rl, pred, succ⟩, label, addr⟩ := i
  obtain ⟨c0, c1, c2, c3, c4, c5, c6, c7, c8, c9, c10, c11⟩ := hI.all
  simp only at hN hl ⊢
  generalize numV rd addr = L at *
  clear c1 c3 c4 c5 c6 c7 c8 c9 c10 hI
  by_cases k2 : kind = 2
  · rw [if_pos k2]
    subst k2
    go_enter Tryz.func55, Tryz.ntmps55
    go_wp2_with fail
    go_ret
    exact ⟨rfl, hb⟩
  rw [if_neg k2]
  have t2 : (kind == 2) = false := by simpa using k2
  by_cases k5 : kind = 5
  · rw [if_pos k5]
    subst k5
    clear k2 t2
    go_enter Tryz.func55, Tryz.ntmps55
    go_wp2_with (go_at_call 43; (with_reducible refine (hN.out _).mono ?_); rintro e w2 ⟨⟨v, rfl, hown⟩, hb2⟩; obtain ⟨ao, cap, rfl⟩ := own_sliceN hown)
    go_ret
    exact ⟨rfl, hb.trans (hb2.mono hb.size)⟩
  rw [if_neg k5]
  have t5 : (kind == 5) = false := by simpa using k5
  by_cases k3 : kind = 3 ∧ long = true
  · rw [if_pos k3]
    obtain ⟨rfl, rfl⟩ := k3
    go_enter Tryz.func55, Tryz.ntmps55
    go_wp2_with fail
    go_ret
    exact ⟨rfl, hb⟩
  · rw [if_neg k3]
    by_cases k3' : kind = 3
    · subst k3'
      obtain rfl : long = false := by cases long <;> simp_all
      clear k3
      go_enter Tryz.func55, Tryz.ntmps55
      go_wp2_with fail
      go_ret
      exact ⟨rfl, hb⟩
    · have t3 : (kind == 3) = false := by simpa using k3'
      clear k3
      go_enter Tryz.func55, Tryz.ntmps55
      go_wp2_with fail
      go_ret
      exact ⟨rfl, hb⟩
end Go.Proofs.YtcgflnkgekkidaaGreatDoor
