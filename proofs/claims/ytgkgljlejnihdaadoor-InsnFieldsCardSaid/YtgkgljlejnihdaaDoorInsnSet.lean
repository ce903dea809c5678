/- The walk of the writer's set: the letters of a fence. Conditions: none. -/
import Derived.Test.YtgkgljlejnihdaaDoorInsnWm
import Derived.WalkKit
import Derived.BigCall
set_option linter.unusedVariables false
set_option linter.unusedSimpArgs false
namespace Go.Proofs.YtgkgljlejnihdaaDoor
open Go.RowKit
abbrev iorwB : ByteArray := { data := #[105, 111, 114, 119] }
theorem iorw_at : ∀ k : Nat, ∀ h : k < iorwB.size, (iorwB[k]'h) = [105, 111, 114, 119].getD k 0 := by
  have : ∀ b : Fin 4, iorwB[b.1]'b.2 = [105, 111, 114, 119].getD b.1 0 := by decide +kernel
  intro k hk
  exact this ⟨k, hk⟩
theorem iorw_low : ∀ k : Nat, (([105, 111, 114, 119] : List UInt8).getD k 0).toNat ≤ 127
  | 0 => by decide
  | 1 => by decide
  | 2 => by decide
  | 3 => by decide
  | k + 4 => by simp
theorem set_bit : ∀ n : Nat, n < 16 → ∀ k : Nat, k < 4 → (bits BinOp.and IntKind.i64 ((n : Int) / 2 ^ (3 - k)) 1 == 1) = n.testBit (3 - k) := by
  intro n hn k hk
  have : ∀ a : Fin 16, ∀ b : Fin 4, (bits BinOp.and IntKind.i64 ((a.1 : Int) / 2 ^ (3 - b.1)) 1 == 1) = a.1.testBit (3 - b.1) := by decide +kernel
  exact this ⟨n, hn⟩ ⟨k, hk⟩
theorem part_nz (m : Nat) (hm : m < 16) (h : ¬ m = 0) : partT m = partK m 4 := by
  have : ∀ a : Fin 16, ¬ a.1 = 0 → partT a.1 = partK a.1 4 := by decide +kernel
  exact this ⟨m, hm⟩ h
theorem WP.iterAt {b k : Nat} {l : List UInt8} {w w' : World} {s : ByteArray} {p : Nat} (h : WP b l w w') (hk : w'.heap[k]? = some (.stringIter s p)) (hw : w.heap.size ≤ k) (hb : b ≤ k) (p' : Nat) : WP b l w (w'.iterAt k s p') :=
  ⟨Lib.IsBuilderF.iterAt h.iw hk p', Lib.below_iterAt h.bl hb s p', fun j o hj h1 h2 => (Lib.iterAt_other w' k j s p' (by have := (Array.getElem?_eq_some_iff.1 hj).1; omega)).trans (h.ok j o hj h1 h2)⟩
theorem WP.size {b : Nat} {l : List UInt8} {w w' : World} (h : WP b l w w') : w.heap.size ≤ w'.heap.size := h.bl.size
theorem WP.iter {b : Nat} {l : List UInt8} {w w' : World} (h : WP b l w w') (s : ByteArray) (p : Nat) : WP b l w (w'.iter s p) :=
  h.keep (((Below.refl w'.heap.size w').alloc (Nat.le_refl _) _))
set_option maxRecDepth 100000 in
set_option maxHeartbeats 2000000 in
theorem Set_w (b : Nat) (l : List UInt8) (n : Int) (h0 : 0 ≤ n) (h1 : n ≤ 15) (w : World) (h : WL b l w) (hlen : l.length ≤ 900) :
    Calls Tryd.prog 76 #[.pointer (some ⟨b, 0, none⟩), .int .i64 n] w fun e w' => e = .returned (.tuple #[]) ∧ WP b (l ++ partT n.toNat) w w' := by
  have hS := Lib.hid (fun m W hW hl => WByteL b m 48 W hW hl)
  have hR := Lib.hid (fun m c hc W hW hl => WRuneL b m c hc W hW hl)
  obtain ⟨m, rfl⟩ := Int.eq_ofNat_of_zero_le h0
  have hm : m < 16 := by omega
  have hK := Lib.hid (partK_len m)
  have hB := Lib.hid (set_bit m hm)
  have hbw : b < w.heap.size := IsW.lt h
  go_enter Tryd.func76, Tryd.ntmps76
  by_cases hz : m = 0
  · subst hz
    go_upto_region 3 with (go_at_call 71; refine (hS.out _ _ h (by omega)).mono ?_; rintro e w1 ⟨⟨v, rfl⟩, h1⟩)
    go_loopw [] (fun wr => ∃ k : Nat, k ≤ 4 ∧ wr.heap[w1.heap.size]? = some (.stringIter iorwB k) ∧ WP b (l ++ [48] ++ partK 0 k) w wr) (fun wr => 4 - wr.iterPos w1.heap.size)
    case atStart => exact ⟨0, Nat.zero_le _, World.iter_heap w1 iorwB 0, by rw [show partK 0 0 = [] from rfl, List.append_nil]; exact h1.iter _ _⟩
    case round =>
      obtain ⟨k, hk, hit, hW⟩ := hrel
      have hws : w.heap.size ≤ w1.heap.size := WP.size h1
      have hmeas : Hid (∀ W2 : World, W2.heap[w1.heap.size]? = some (.stringIter iorwB (k + 1)) → k < 4 → 4 - W2.iterPos w1.heap.size < 4 - wr.iterPos w1.heap.size) := Lib.hid fun W2 h2 h => by
        simp only [World.iterPos, h2, hit]; omega
      have hsz : w1.heap.size < wr.heap.size := (Array.getElem?_eq_some_iff.1 hit).1
      by_cases hlt : k < 4
      · have hp : k < iorwB.size := hlt
        have ha : (iorwB[k]'hp).toNat < 128 := by rw [iorw_at k hp]; have := iorw_low k; omega
        have hnx : ∀ ty, (Instr.next (.pointer (some ⟨w1.heap.size, 0, none⟩)) true ty).run Tryd.prog wr = _ := fun ty => Lib.run_next_ascii_at wr w1.heap.size iorwB k ty hit hp ha
        have hI2 := hW.iterAt hit hws (by omega) (k + 1)
        have hit2 := Lib.iterAt_heap wr w1.heap.size iorwB k (k + 1) hit
        rw [iorw_at k hp] at hnx
        have hcl := Lib.hid (iorw_low k)
        have hl := hK.out k
        have h3 := hB.out k hlt
        have hs : Hid (partK 0 (k + 1) = if Nat.testBit 0 (3 - k) then partK 0 k ++ [[105, 111, 114, 119].getD k 0] else partK 0 k) := Lib.hid rfl
        generalize wr.iterAt w1.heap.size iorwB (k + 1) = w2 at hnx hI2 hit2
        generalize partK 0 k = l1 at *
        generalize ([105, 111, 114, 119] : List UInt8).getD k 0 = c at *
        have hlk : (k : Int) < 4 := by omega
        have hk3 : (0 : Int) ≤ 3 - (k : Int) := by omega
        have hkn : ((3 : Int) - (k : Int)).toNat = 3 - k := by omega
        cases hb : Nat.testBit 0 (3 - k)
        · rw [hb] at h3 hs
          go_wp2_with fail
          go_roundw
          case rel => exact ⟨k + 1, by omega, hit2, by rw [hs.out]; exact hI2⟩
          case measure => exact hmeas.out _ hit2 hlt
        · exact absurd hb (by simp)
      · obtain rfl : k = 4 := by omega
        have hnx : ∀ ty, (Instr.next (.pointer (some ⟨w1.heap.size, 0, none⟩)) true ty).run Tryd.prog wr = _ := fun ty => Lib.run_next_end_at wr w1.heap.size iorwB 4 ty hit (by decide)
        clear hlt hk
        go_wp2_with fail
        go_end0
        exact ⟨rfl, by simpa [partK, partT] using hW⟩
  · have hz2 : ((m : Int) == 0) = false := by rw [beq_eq_false_iff_ne]; omega
    have hpt := Lib.hid (part_nz m hm hz)
    go_upto_region 3 with fail
    go_loopw [] (fun wr => ∃ k : Nat, k ≤ 4 ∧ wr.heap[w.heap.size]? = some (.stringIter iorwB k) ∧ WP b (l ++ ([] : List UInt8) ++ partK m k) w wr) (fun wr => 4 - wr.iterPos w.heap.size)
    case atStart => exact ⟨0, Nat.zero_le _, World.iter_heap w iorwB 0, by rw [show partK m 0 = [] from rfl, List.append_nil]; exact (by rw [List.append_nil]; exact WP.start h : WP b (l ++ []) w w).iter _ _⟩
    case round =>
      obtain ⟨k, hk, hit, hW⟩ := hrel
      have hws : w.heap.size ≤ w.heap.size := Nat.le_refl _
      have hmeas : Hid (∀ W2 : World, W2.heap[w.heap.size]? = some (.stringIter iorwB (k + 1)) → k < 4 → 4 - W2.iterPos w.heap.size < 4 - wr.iterPos w.heap.size) := Lib.hid fun W2 h2 h => by
        simp only [World.iterPos, h2, hit]; omega
      have hsz : w.heap.size < wr.heap.size := (Array.getElem?_eq_some_iff.1 hit).1
      by_cases hlt : k < 4
      · have hp : k < iorwB.size := hlt
        have ha : (iorwB[k]'hp).toNat < 128 := by rw [iorw_at k hp]; have := iorw_low k; omega
        have hnx : ∀ ty, (Instr.next (.pointer (some ⟨w.heap.size, 0, none⟩)) true ty).run Tryd.prog wr = _ := fun ty => Lib.run_next_ascii_at wr w.heap.size iorwB k ty hit hp ha
        have hI2 := hW.iterAt hit hws (by omega) (k + 1)
        have hit2 := Lib.iterAt_heap wr w.heap.size iorwB k (k + 1) hit
        rw [iorw_at k hp] at hnx
        have hcl := Lib.hid (iorw_low k)
        have hl := hK.out k
        have h3 := hB.out k hlt
        have hs : Hid (partK m (k + 1) = if m.testBit (3 - k) then partK m k ++ [[105, 111, 114, 119].getD k 0] else partK m k) := Lib.hid rfl
        generalize wr.iterAt w.heap.size iorwB (k + 1) = w2 at hnx hI2 hit2
        generalize partK m k = l1 at *
        generalize ([105, 111, 114, 119] : List UInt8).getD k 0 = c at *
        have hlk : (k : Int) < 4 := by omega
        have hk3 : (0 : Int) ≤ 3 - (k : Int) := by omega
        have hkn : ((3 : Int) - (k : Int)).toNat = 3 - k := by omega
        cases hb : m.testBit (3 - k)
        · rw [hb] at h3 hs
          go_wp2_with fail
          go_roundw
          case rel => exact ⟨k + 1, by omega, hit2, by rw [hs.out]; exact hI2⟩
          case measure => exact hmeas.out _ hit2 hlt
        · rw [hb] at h3 hs
          have hlen2 : (l ++ ([] : List UInt8) ++ l1).length + 4 ≤ 100000 := by simp; omega
          go_wp2_with (go_at_call 96; refine (hR.out _ c hcl.out _ hI2.iw hlen2).mono ?_; rintro e w3 ⟨⟨v3, rfl⟩, h3w⟩)
          have hit3 := h3w.ok.iter hit2 (by omega)
          go_roundw
          case rel => exact ⟨k + 1, by omega, hit3, by rw [hs.out]; exact (by simpa using hI2.trans h3w)⟩
          case measure => exact hmeas.out _ hit3 hlt
      · obtain rfl : k = 4 := by omega
        have hnx : ∀ ty, (Instr.next (.pointer (some ⟨w.heap.size, 0, none⟩)) true ty).run Tryd.prog wr = _ := fun ty => Lib.run_next_end_at wr w.heap.size iorwB 4 ty hit (by decide)
        clear hlt hk
        go_wp2_with fail
        go_end0
        exact ⟨rfl, by rw [Int.toNat_natCast, hpt.out]; simpa using hW⟩
end Go.Proofs.YtgkgljlejnihdaaDoor
