/- Slices that a call itself has made: how they are carried and read. Conditions: none. -/
import Derived.Test.YtcgflnkgekkidaaGreatDoorProg
import Derived.Test.YtcgflnkgekkidaaGreatDoorBase
import Derived.ProofKit
import Derived.OwnWalk
import Derived.Lib.Hide
namespace Go.Proofs.YtcgflnkgekkidaaGreatDoor
open Go.RowKit
theorem ba_loop (b : ByteArray) (i : Nat) (r : List UInt8) : ByteArray.toList.loop b i r = r.reverse ++ b.data.toList.drop i := by
  fun_induction ByteArray.toList.loop b i r with
  | case1 i r h ih =>
    rw [ih]
    have h' : i < b.data.toList.length := by simpa using h
    have h2 : i < b.data.size := h
    have e : b.data[i]! = b.data[i] := getElem!_pos b.data i h2
    rw [List.drop_eq_getElem_cons h']
    simp [ByteArray.get!, e]
  | case2 i r h =>
    have : b.data.toList.length ≤ i := by simpa using h
    rw [List.drop_eq_nil_of_le this]; simp
theorem ba_toList (b : ByteArray) : b.toList = b.data.toList := by
  unfold ByteArray.toList; rw [ba_loop]; simp
theorem ba_empty {b : ByteArray} (h : b.size = 0) : b.toList = [] := by
  rw [ba_toList, ← List.length_eq_zero_iff]; simpa using h
theorem ownsRow_low {w : World} {base base' : Nat} {e : TypeId} {size : Nat} {v : Value} {n : Nat} {xs : List Value} (h : w.ownsRow base e size v n xs) (hb : base' ≤ base) : w.ownsRow base' e size v n xs :=
  ⟨h.1, h.2.imp id (fun ⟨g, cap, cur, h1, h2, h3⟩ => ⟨g, cap, cur, h1, Nat.le_trans hb h2, h3⟩)⟩
theorem ownsRow_keep {w w' : World} {base : Nat} {e : TypeId} {size : Nat} {v : Value} {n : Nat} {xs : List Value} (h : w.ownsRow base e size v n xs) (hb : Below w.heap.size w w') : w'.ownsRow base e size v n xs :=
  h.kept (row := none) ⟨hb.os, hb.tape, hb.output, hb.size, fun k hk _ => hb.block k hk⟩ (by rcases v.ownBlock with _ | b <;> simp)
/-- A slice of ints in new memory. -/
structure NewInts (w : World) (l : List Int) (e : Ending) (w' : World) : Prop where
  ret : ∃ v, e = .returned v ∧ w'.ownsRow w.heap.size 3 1 v l.length (l.map (Value.int .i64))
  below : Below w.heap.size w w'
theorem cell_new1 (w : World) (t : TypeId) (x : Value) : ∀ (j : Nat) (u : Value), [x][j]? = some u → (w.alloc (.cells #[x] t)).cell? ((⟨w.heap.size, 0, none⟩ : Addr).add j) = some u := fun j u h => by
  cases j with
  | zero => have e : (⟨w.heap.size, 0, none⟩ : Addr).add 0 = ⟨w.heap.size, 0, none⟩ := Addr.add_lit _ _ _
            rw [e, World.cell?_alloc_new]; simpa using h
  | succ j => simp at h
theorem own_slice {w : World} {base : Nat} {e : TypeId} {v : Value} {n : Nat} {xs : List Value} (h : w.ownsRow base e 1 v n xs) : ∃ (ao : Option Addr) (cap : Nat), v = .slice ao n cap := by
  rcases h.2 with ⟨rfl, h0⟩ | ⟨g, cap, cur, rfl, h2⟩
  · exact ⟨none, 0, by rw [h0]⟩
  · exact ⟨_, cap, rfl⟩
theorem own_cell {w : World} {base : Nat} {e : TypeId} {ao : Option Addr} {cap n : Nat} {l : List Int} (h : w.ownsRow base e 1 (.slice ao n cap) n (l.map (Value.int .i64))) (j : Nat) (hj : j < n) : ∃ g, ao = some ⟨g, 0, none⟩ ∧ w.cell? ⟨g, j, none⟩ = some (.int .i64 (l.getD j 0)) := by
  have hl : l.length = n := by have := h.1; simpa using this
  rcases h.2 with ⟨h1, h0⟩ | ⟨g, cap', cur, h1, h2⟩
  · omega
  · simp only [Value.slice.injEq] at h1
    obtain ⟨rfl, -, rfl⟩ := h1
    refine ⟨g, rfl, ?_⟩
    rw [h.cellAt j (by omega)]
    simp [List.getD, show j < l.length by omega]
end Go.Proofs.YtcgflnkgekkidaaGreatDoor
