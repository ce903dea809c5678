/- The walk of fencepostkit.Pick: n modulo m, from 0 on. Conditions: an int64 m. -/
import Derived.Test.YtcgflnkgekkidaaGreatDoorProg
import Derived.Test.YtcgflnkgekkidaaGreatDoorWordDS
import Derived.ProofKit
import Derived.Lib.Hide
namespace Go.Proofs.YtcgflnkgekkidaaGreatDoor
open Go.RowKit
theorem Pick_any (n m : Int) (hm : m ≤ 9223372036854775807) (w : World) :
    Calls Tryz.prog 10 #[.int .i64 n, .int .i64 m] w fun e w' => e = .returned (.int .i64 (Pick n m)) ∧ w = w' := by
  go_enter Tryz.func10, Tryz.ntmps10
  go_wp2
  · have h : m < 1 := by assumption
    go_ret
    exact ⟨ret_int (by unfold Pick; rw [if_pos h]), rfl⟩
  · have h : 1 ≤ m := by assumption
    have h' : n.tmod m < 0 := by assumption
    have e := tmod_neg_add n m h h'
    have h1 := Int.emod_nonneg n (show m ≠ 0 by omega)
    have h2 := Int.emod_lt_of_pos n (show 0 < m by omega)
    have e' : wrap64 (n.tmod m + m) = n % m := by rw [e]; exact IntWalk.wrap64_in _ (by omega)
    go_ret
    exact ⟨ret_int (by unfold Pick; rw [if_neg (by omega)]; exact e'), rfl⟩
  · have h : 1 ≤ m := by assumption
    have h' : 0 ≤ n.tmod m := by assumption
    have e := tmod_nonneg' n m h h'
    go_ret
    exact ⟨ret_int (by unfold Pick; rw [if_neg (by omega)]; exact e), rfl⟩
/-- Pick as a hidden contract at a natural number. -/
theorem Pick_nat_any (n m : Int) (h1 : 1 ≤ m) (hm : m ≤ 9223372036854775807) :
    ∃ k : Nat, (k : Int) < m ∧ Hid (∀ w : World, Calls Tryz.prog 10 #[.int .i64 n, .int .i64 m] w fun e w' => e = .returned (.int .i64 (k : Int)) ∧ w = w') := by
  obtain ⟨k, hk, hk'⟩ := Pick_nat n m h1
  exact ⟨k, hk', Lib.hid fun w => by rw [← hk]; exact Pick_any n m hm w⟩
end Go.Proofs.YtcgflnkgekkidaaGreatDoor
