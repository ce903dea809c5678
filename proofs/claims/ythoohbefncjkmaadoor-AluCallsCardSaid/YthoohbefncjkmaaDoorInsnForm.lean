/- The walks of insn.of and insn.Form at whatever number. Conditions: the library's table of ASCII spaces lies as its initialiser lays it. -/
import Derived.Test.YthoohbefncjkmaaDoorInsnOf
namespace Go.Proofs.YthoohbefncjkmaaDoor
open Go.RowKit
attribute [local go_sem] Instr.field asAgg run_part_plain
theorem of_any (n : Int) (hn : n ≤ 9223372036854775807) (w : World) (ht : Tabs w) :
    Calls Tryd.prog 68 #[.int .i64 n] w fun e w' => e = .returned (.agg #[.string ⟨(opOf n).name.toArray⟩, .int .i64 (opOf n).form, .bool (opOf n).loads, .bool (opOf n).stores, .int .i64 (opOf n).size]) ∧ Below w.heap.size w w' := by
  by_cases h : n < 1
  · have e : opOf n = noOp := by unfold opOf; rw [if_pos h]
    rw [e]; exact of_none n h w
  · obtain ⟨m, rfl⟩ := Int.eq_ofNat_of_zero_le (show 0 ≤ n by omega)
    have e : opOf (m : Int) = ofFrom 15 0 m := by unfold opOf; rw [if_neg h, Int.toNat_natCast]
    rw [e]; exact of_some m (by omega) (by omega) w ht
theorem Form_any (n : Int) (hn : n ≤ 9223372036854775807) (w : World) (ht : Tabs w) :
    Calls Tryd.prog 31 #[.int .i64 n] w fun e w' => e = .returned (.int .i64 (opOf n).form) ∧ Below w.heap.size w w' := by
  have hof := Lib.hid (fun w ht => of_any n hn w ht)
  go_enter Tryd.func31, Tryd.ntmps31
  go_wp2_with (go_at_call 68; refine (hof.out _ ht).mono ?_; rintro e w1 ⟨rfl, hb⟩)
  go_ret
  exact ⟨rfl, hb⟩
end Go.Proofs.YthoohbefncjkmaaDoor
