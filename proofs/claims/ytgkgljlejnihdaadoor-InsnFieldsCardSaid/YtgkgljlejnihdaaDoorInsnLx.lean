/- The walks of the law's own functions over an instruction's text: text, count. Conditions: the library's tables lie as its initialisers lay them. -/
import Derived.Test.YtgkgljlejnihdaaDoorInsnT
set_option linter.unusedVariables false
set_option linter.unusedSimpArgs false
namespace Go.Proofs.YtgkgljlejnihdaaDoor
open Go.RowKit
set_option maxRecDepth 100000 in
set_option maxHeartbeats 2000000 in
theorem LText_any (i : InsnV) (hop : i.op ≤ 9223372036854775807) (him : -9223372036854775808 ≤ i.imm ∧ i.imm ≤ 9223372036854775807) (w : World) (ht : Tabs w) (hp : P10 w) :
    Calls Tryd.prog 12 #[.agg i.cells] w fun e w' => e = .returned (.string ⟨(textT i).toArray⟩) ∧ Below w.heap.size w w' := by
  have hB := XB.start w i.cells.toList 23
  rw [Array.toArray_toList] at hB
  have hu := Tryd.underlying23
  have hi : (Tryd.prog.info? 23).map (·.size) = some i.cells.toList.length := by kernel_rfl
  have ht1 := ht.later ((Below.refl _ w).alloc (Nat.le_refl _) (.cells i.cells 23)) (Nat.le_refl _)
  have hp1 := hp.later ((Below.refl _ w).alloc (Nat.le_refl _) (.cells i.cells 23)) (Nat.le_refl _)
  have hT := Lib.hid (fun W h1 h2 => IText_any i hop him W h1 h2)
  clear hop him ht hp
  generalize textT i = t at hT ⊢
  generalize checkE i = e0 at hT
  generalize i.cells = cs at *
  go_enter Tryd.func12, Tryd.ntmps12
  go_wp2_with (first | (refine wpList_load_mid rfl 23 _ rfl w.heap.size 0 rfl cs.toList _ hB.c hu rfl hi ?_) | (go_at_call 47; refine (hT.out _ ht1 hp1).mono ?_; rintro e w1 ⟨rfl, hb1⟩; replace hB := hB.keep hb1))
  go_ret
  exact ⟨rfl, hB.bl⟩
set_option maxRecDepth 100000 in
set_option maxHeartbeats 2000000 in
theorem Count_any (l : List UInt8) (c : UInt8) (hl : l.length ≤ 100) (w : World) :
    Calls Tryd.prog 15 #[.string ⟨l.toArray⟩, .int .u8 c.toNat] w fun e w' => e = .returned (.int .i64 (l.count c)) ∧ w = w' := by
  go_enter Tryd.func15, Tryd.ntmps15
  go_wp2
  go_loopw [5, 6] (fun s i wr => ∃ k : Nat, k ≤ l.length ∧ i = .int .i64 k ∧ s = .int .i64 ((l.take k).count c : Nat) ∧ w = wr) (fun _ i _ => l.length - (intOf i).toNat)
  case atStart => exact ⟨0, Nat.zero_le _, rfl, rfl, rfl⟩
  case round =>
    obtain ⟨k, hk, rfl, rfl, rfl⟩ := hrel
    by_cases hlt : k < l.length
    · have hs : (l.take (k + 1)).count c = (l.take k).count c + if l[k] == c then 1 else 0 := by
        rw [List.take_succ_eq_append_getElem hlt, List.count_append, List.count_singleton]
      have hcl : (l.take k).count c ≤ k := Nat.le_trans List.count_le_length (by simp; omega)
      generalize (l.take k).count c = n at *
      have hsz : k < (⟨l.toArray⟩ : ByteArray).size := by show k < l.toArray.size; rw [List.size_toArray]; exact hlt
      have hat : (⟨l.toArray⟩ : ByteArray)[k]'hsz = l[k] := by show l.toArray[k] = _; simp
      have hq : (((((⟨l.toArray⟩ : ByteArray)[k]'hsz).toNat : Int)) == (c.toNat : Int)) = (l[k] == c) := by
        rw [hat]
        generalize l[k] = d
        by_cases e : d = c
        · subst e; simp
        · rw [beq_eq_false_iff_ne.2 e, beq_eq_false_iff_ne]
          exact fun h => e (UInt8.toNat_inj.1 (by omega))
      replace hs := Lib.hid hs
      cases hb : l[k] == c
      · rw [hb] at hq hs
        clear hat
        go_wp2
        go_roundw
        case rel => exact ⟨k + 1, by omega, by go_num, by rw [hs.out]; rfl, trivial⟩
        case measure => simp [intOf]; omega
      · rw [hb] at hq hs
        clear hat
        go_wp2
        go_roundw
        case rel => exact ⟨k + 1, by omega, by go_num, by rw [hs.out]; go_num, trivial⟩
        case measure => simp [intOf]; omega
    · obtain rfl : k = l.length := by omega
      rw [List.take_length]
      go_wp2
      go_ret
      exact ⟨rfl, rfl⟩
end Go.Proofs.YtgkgljlejnihdaaDoor
