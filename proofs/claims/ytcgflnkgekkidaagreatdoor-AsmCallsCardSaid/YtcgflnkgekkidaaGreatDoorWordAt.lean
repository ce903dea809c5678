/- Slices of words and of bytes that came in; rows of a call's own. Conditions: none. -/
import Derived.Test.YtcgflnkgekkidaaGreatDoorCodeA
import Derived.Test.YtcgflnkgekkidaaGreatDoorOwn
set_option linter.unusedSimpArgs false
set_option linter.unusedVariables false
namespace Go.Proofs.YtcgflnkgekkidaaGreatDoor
open Go.RowKit
/-- A slice of words that came in. -/
def WordsAt (w : World) (ao : Option Addr) (n : Nat) (F : Nat → BitVec 32) : Prop := 0 < n → ∃ b off, ao = some ⟨b, off, none⟩ ∧ b < w.heap.size ∧ ∀ k, k < n → w.cell? ⟨b, off + k, none⟩ = some (.int .u32 (un32 (F k)))
theorem WordsAt.keep {w w' : World} {ao : Option Addr} {n : Nat} {F : Nat → BitVec 32} (h : WordsAt w ao n F) (hb : Below w.heap.size w w') : WordsAt w' ao n F := fun hn => by
  obtain ⟨b, off, e, hlt, hc⟩ := h hn
  exact ⟨b, off, e, Nat.lt_of_lt_of_le hlt hb.size, fun k hk => by rw [hb.cell (p := ⟨b, off + k, none⟩) hlt]; exact hc k hk⟩
/-- A slice of bytes that came in. -/
def BytesAt (w : World) (ao : Option Addr) (n : Nat) (f : Nat → Int) : Prop := (∀ k, 0 ≤ f k ∧ f k < 256) ∧ (0 < n → ∃ b off, ao = some ⟨b, off, none⟩ ∧ b < w.heap.size ∧ ∀ k, k < n → w.cell? ⟨b, off + k, none⟩ = some (.int .u8 (f k)))
theorem BytesAt.keep {w w' : World} {ao : Option Addr} {n : Nat} {f : Nat → Int} (h : BytesAt w ao n f) (hb : Below w.heap.size w w') : BytesAt w' ao n f := ⟨h.1, fun hn => by
  obtain ⟨b, off, e, hlt, hc⟩ := h.2 hn
  exact ⟨b, off, e, Nat.lt_of_lt_of_le hlt hb.size, fun k hk => by rw [hb.cell (p := ⟨b, off + k, none⟩) hlt]; exact hc k hk⟩⟩
/-- A slice of the call's own, with these values of one cell each. -/
def NewRow (t : TypeId) (w : World) (l : List Value) (e : Ending) (w' : World) : Prop := (∃ v, e = .returned v ∧ w'.ownsRow w.heap.size t 1 v l.length l) ∧ Below w.heap.size w w'
theorem wrap_u64_w32 (x : BitVec 32) : IntKind.u64.wrap (un32 x) = un (x.setWidth 64) := by
  unfold un32 un
  have := x.isLt
  simp [IntKind.wrap, IntKind.bits, IntKind.signed]
theorem bv_un32 (x : BitVec 32) : bv (un32 x) = x.setWidth 64 := by
  have h := congrArg bv (wrap_u64_w32 x)
  rw [wrap_u64_bv, bv_un, bv_un] at h
  exact h
end Go.Proofs.YtcgflnkgekkidaaGreatDoor
