/- The walk of insn.Memory. Conditions: the library's table of ASCII spaces lies as its initialiser lays it. -/
import Derived.Test.YtdbpnbmaineniaaGreatDoorInsnKn
import Derived.BigQuiet
import Derived.Deep.QuietTactic
namespace Go.Proofs.YtdbpnbmaineniaaGreatDoor
open Go.RowKit
set_option maxRecDepth 100000 in
theorem Memory_any (op : Int) (hop : op ≤ 9223372036854775807) (w : World) (ht : Tabs w) :
    Calls Tryz.prog 30 #[.int .i64 op] w fun e w' => e = .returned (.tuple #[.bool (opOf op).loads, .bool (opOf op).stores, .int .i64 (opOf op).size]) ∧ Below w.heap.size w w' := by
  have hof := Lib.hid (fun W (hW : Tabs W) => of_any op hop W hW)
  obtain ⟨O, hO⟩ : ∃ O, opOf op = O := ⟨_, rfl⟩
  rw [hO] at hof ⊢
  obtain ⟨nm, f, l, s, z⟩ := O
  clear hO
  go_enter Tryz.func30, Tryz.ntmps30
  go_wp2_with (go_at_call 75; refine (hof.out _ ht).mono ?_; rintro e w2 ⟨rfl, hb⟩)
  go_quiet (fail)
  go_wp2
  exact bodyPost_ret (v := .tuple #[.bool l, .bool s, .int .i64 z]) (by simp [results, Tryz.results30, go_sem]) rfl ⟨rfl, (hb.alloc hb.size _).trans ⟨rfl, rfl, rfl, Nat.le_refl _, fun _ _ => rfl⟩⟩
end Go.Proofs.YtdbpnbmaineniaaGreatDoor
