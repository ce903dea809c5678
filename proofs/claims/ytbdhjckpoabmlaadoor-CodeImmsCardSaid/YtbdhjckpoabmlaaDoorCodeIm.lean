/- The walk of the law CodeImms. Conditions: the library's table of ASCII spaces and the fields' places lie as their initialisers lay them. -/
import Derived.Test.YtbdhjckpoabmlaaDoorCodeL
import Derived.Test.YtbdhjckpoabmlaaDoorCodePn
import Derived.Test.YtbdhjckpoabmlaaDoorRefForm
set_option linter.unusedSimpArgs false
set_option linter.unusedVariables false
namespace Go.Proofs.YtbdhjckpoabmlaaDoor
open Go.RowKit
attribute [local go_sem] bits_u32_and bits_u32_xor bits_u32_andNot bv32_un32
section
attribute [local irreducible] un32 bv32 wordV checkE
set_option maxRecDepth 100000 in
set_option maxHeartbeats 8000000 in
theorem CodeImms_any (i : InsnV) (n : Int) (w : World) (hlo : -9223372036854775808 ≤ i.op) (hop : i.op ≤ 9223372036854775807) (ht : Tabs w) (hfl : Flds w) :
    Calls Tryd.prog 4 #[.agg i.cells, .int .i64 n] w fun e w' => e = .returned (.bool true) ∧ Below w.heap.size w w' := by
  have hu := Tryd.underlying23
  have h02 := checkE_02 i
  have h02' := checkE_02 { i with imm := n }
  have hfar := Lib.hid (imm_far i n)
  have hsame := Lib.hid (imm_same i n)
  have hWI := Lib.hid (word_list i hlo hop)
  have hWO := Lib.hid (word_list { i with imm := n } hlo hop)
  have hI0 := Lib.hid (show i.cells.toList[0]? = some (.int .i64 i.op) from rfl)
  have hI4 := Lib.hid (show i.cells.toList[4]? = some (.int .i64 i.imm) from rfl)
  have hset := Lib.hid (show i.cells.toList.set 4 (.int .i64 n) = ({ i with imm := n } : InsnV).cells.toList from rfl)
  have hf12 := (info_op i.op).2.1
  have hf1 := Lib.hid (fun h : checkE i = 0 => (ok_facts i h).2.2.2.2.2.2.1)
  have hF := Lib.hid (rform_eq i.op).symm
  obtain ⟨hbB, hrB, hlB⟩ := boxed w i 23
  have hsC := Lib.hid (size_insn i)
  have hsD := Lib.hid (size_insn { i with imm := n })
  have hCn := Lib.hid i.list_len
  have h1c := Lib.hid i.list_one
  go_enter Tryd.func4, Tryd.ntmps4
  go_upto_region 3 with (go_at_call 6; refine (Lives3_any _ (ht.later hbB (Nat.le_refl _)) (hfl.later hbB)).mono ?_; rintro e w1 ⟨rfl, hb1⟩)
  have hr1 := range_on hrB hlB hb1
  have hb01 := hbB.trans (hb1.mono hbB.size)
  have hl1 : w.heap.size < w1.heap.size := Nat.lt_of_lt_of_le hlB hb1.size
  clear hb1 hrB hbB hlB
  have hFm : Hid (∀ W, Calls Tryd.prog 9 #[.int .i64 i.op] W fun e w' => e = .returned (.int .i64 (opOf i.op).form) ∧ W = w') := Lib.hid fun W => by rw [← hF.out]; exact R2Form_any i.op W
  generalize (opOf i.op).form = f at *
  generalize checkE i = c at *
  generalize checkE { i with imm := n } = d at *
  generalize wordV i = a at *
  generalize wordV { i with imm := n } = b at *
  generalize i.cells.toList = CS at *
  generalize ({ i with imm := n } : InsnV).cells.toList = DS at *
  generalize i.imm = m at *
  generalize i.op = op at *
  go_upto_region 4 with (first | (refine wpList_load_mid rfl 23 _ rfl w.heap.size 0 rfl CS _ hr1 hu rfl hsC.out ?_) | (refine wpList_store_mid rfl 23 _ _ rfl w1.heap.size 0 CS.toArray rfl rfl (fun j hj => cells_fresh w1 _ _ 9 (by decide) j (by rw [List.size_toArray, hCn.out] at hj; exact hj)) (by rw [List.size_toArray]; exact hsC.out) h1c.out ?_))
  obtain ⟨hb2, hr2, hl2, ht2⟩ := copied (s := w1) (cs := CS) hCn.out #[.int .i64 0, .int .i64 0, .int .i64 0, .int .i64 0, .int .i64 0, .bool false, .bool false, .int .i64 0, .int .i64 0] rfl 23
  generalize World.setCells _ w1.heap.size 0 CS = w2 at hb2 hr2 hl2 ht2 ⊢
  have hr2i := range_on hr1 hl1 hb2
  have c4 := range_cell hr2 4 _ hI4.out
  have f4 := there_thaw ht2 4 (by decide)
  go_upto_region 5 with fail
  have hr3 := range_set hr2 4 (.int .i64 n)
  rw [hset.out] at hr3
  have hr3i := range_apart hr2i (Nat.lt_trans hl1 hl2) (Nat.ne_of_lt hl1) (grown_set w2 w1.heap.size 4 (.int .i64 n))
  have hb03 := (hb01.trans (hb2.mono hb01.size)).setCell (p := ⟨w1.heap.size, 4, none⟩) (Nat.le_of_lt hl1) (.int .i64 n)
  have hl3 : w1.heap.size < (w2.setCell ⟨w1.heap.size, 4, none⟩ (.int .i64 n)).heap.size := by simpa using hl2
  clear hb2 hr2 hl2 ht2 hr2i c4 f4 hr1
  generalize w2.setCell _ _ = w3 at *
  go_upto_region 6 with (first | (refine wpList_load_mid rfl 23 _ rfl w.heap.size 0 rfl CS _ hr3i hu rfl hsC.out ?_) | (go_at_call 7; refine (hWI.out _ (ht.later hb03 (Nat.le_refl _)) (hfl.later hb03)).mono ?_; rintro e w4 ⟨rfl, hb4⟩))
  have hb04 := hb03.trans (hb4.mono hb03.size)
  have hr4 := range_on hr3 hl3 hb4
  have hr4i := range_on hr3i (Nat.lt_trans hl1 hl3) hb4
  have hl4 := Nat.lt_of_lt_of_le hl3 hb4.size
  clear hb4 hr3 hr3i hb03 hl3
  go_upto_region 7 with (first | (refine wpList_load_mid rfl 23 _ rfl w1.heap.size 0 rfl DS _ hr4 hu rfl hsD.out ?_) | (go_at_call 7; refine (hWO.out _ (ht.later hb04 (Nat.le_refl _)) (hfl.later hb04)).mono ?_; rintro e w5 ⟨rfl, hb5⟩))
  have hb05 := hb04.trans (hb5.mono hb04.size)
  have hr5i := range_on hr4i (Nat.lt_trans hl1 hl4) hb5
  have c0 := range_cell hr5i 0 _ hI0.out
  have c4 := range_cell hr5i 4 _ hI4.out
  clear hb5 hr4 hr4i hb04 hl4 hr5i hWI hWO hsC hsD hCn h1c hset hI0 hI4 hF
  rcases h02 with rfl | rfl
  · rcases h02' with rfl | rfl
    · have t2 := hsame.out rfl rfl
      have f1 := hf1.out rfl
      rcases (show f = 1 ∨ f = 2 ∨ f = 3 ∨ f = 4 ∨ f = 5 ∨ f = 6 ∨ f = 7 ∨ f = 8 ∨ f = 9 ∨ f = 10 ∨ f = 11 ∨ f = 12 by omega) with rfl | rfl | rfl | rfl | rfl | rfl | rfl | rfl | rfl | rfl | rfl | rfl
      · have e1 := hfar.out rfl rfl
        rw [show immM 1 = 4294963200 from rfl] at e1
        have t1 : (un32 ((a ^^^ b) &&& ~~~ bv32 4294963200) == 0) = true := by rw [e1]; rfl
        clear e1
        go_wp2_with (go_at_call 9; refine (hFm.out _).mono ?_; rintro e w' ⟨rfl, rfl⟩)
        go_ret
        exact ⟨rfl, hb05⟩
      · have e1 := hfar.out rfl rfl
        rw [show immM 2 = 4294963200 from rfl] at e1
        have t1 : (un32 ((a ^^^ b) &&& ~~~ bv32 4294963200) == 0) = true := by rw [e1]; rfl
        clear e1
        go_wp2_with (go_at_call 9; refine (hFm.out _).mono ?_; rintro e w' ⟨rfl, rfl⟩)
        go_ret
        exact ⟨rfl, hb05⟩
      · have e1 := hfar.out rfl rfl
        rw [show immM 3 = 4293918720 from rfl] at e1
        have t1 : (un32 ((a ^^^ b) &&& ~~~ bv32 4293918720) == 0) = true := by rw [e1]; rfl
        clear e1
        go_wp2_with (go_at_call 9; refine (hFm.out _).mono ?_; rintro e w' ⟨rfl, rfl⟩)
        go_ret
        exact ⟨rfl, hb05⟩
      · have e1 := hfar.out rfl rfl
        rw [show immM 4 = 4293918720 from rfl] at e1
        have t1 : (un32 ((a ^^^ b) &&& ~~~ bv32 4293918720) == 0) = true := by rw [e1]; rfl
        clear e1
        go_wp2_with (go_at_call 9; refine (hFm.out _).mono ?_; rintro e w' ⟨rfl, rfl⟩)
        go_ret
        exact ⟨rfl, hb05⟩
      · have e1 := hfar.out rfl rfl
        rw [show immM 5 = 4261416832 from rfl] at e1
        have t1 : (un32 ((a ^^^ b) &&& ~~~ bv32 4261416832) == 0) = true := by rw [e1]; rfl
        clear e1
        go_wp2_with (go_at_call 9; refine (hFm.out _).mono ?_; rintro e w' ⟨rfl, rfl⟩)
        go_ret
        exact ⟨rfl, hb05⟩
      · have e1 := hfar.out rfl rfl
        rw [show immM 6 = 4261416832 from rfl] at e1
        have t1 : (un32 ((a ^^^ b) &&& ~~~ bv32 4261416832) == 0) = true := by rw [e1]; rfl
        clear e1
        go_wp2_with (go_at_call 9; refine (hFm.out _).mono ?_; rintro e w' ⟨rfl, rfl⟩)
        go_ret
        exact ⟨rfl, hb05⟩
      · have e1 := hfar.out rfl rfl
        rw [show immM 7 = 66060288 from rfl] at e1
        have t1 : (un32 ((a ^^^ b) &&& ~~~ bv32 66060288) == 0) = true := by rw [e1]; rfl
        clear e1
        go_wp2_with (go_at_call 9; refine (hFm.out _).mono ?_; rintro e w' ⟨rfl, rfl⟩)
        go_ret
        exact ⟨rfl, hb05⟩
      · have e1 := hfar.out rfl rfl
        rw [show immM 8 = 0 from rfl] at e1
        have t1 : (un32 ((a ^^^ b) &&& ~~~ bv32 0) == 0) = true := by rw [e1]; rfl
        clear e1
        go_wp2_with (go_at_call 9; refine (hFm.out _).mono ?_; rintro e w' ⟨rfl, rfl⟩)
        go_ret
        exact ⟨rfl, hb05⟩
      · have e1 := hfar.out rfl rfl
        rw [show immM 9 = 0 from rfl] at e1
        have t1 : (un32 ((a ^^^ b) &&& ~~~ bv32 0) == 0) = true := by rw [e1]; rfl
        clear e1
        go_wp2_with (go_at_call 9; refine (hFm.out _).mono ?_; rintro e w' ⟨rfl, rfl⟩)
        go_ret
        exact ⟨rfl, hb05⟩
      · have e1 := hfar.out rfl rfl
        rw [show immM 10 = 0 from rfl] at e1
        have t1 : (un32 ((a ^^^ b) &&& ~~~ bv32 0) == 0) = true := by rw [e1]; rfl
        clear e1
        go_wp2_with (go_at_call 9; refine (hFm.out _).mono ?_; rintro e w' ⟨rfl, rfl⟩)
        go_ret
        exact ⟨rfl, hb05⟩
      · have e1 := hfar.out rfl rfl
        rw [show immM 11 = 0 from rfl] at e1
        have t1 : (un32 ((a ^^^ b) &&& ~~~ bv32 0) == 0) = true := by rw [e1]; rfl
        clear e1
        go_wp2_with (go_at_call 9; refine (hFm.out _).mono ?_; rintro e w' ⟨rfl, rfl⟩)
        go_ret
        exact ⟨rfl, hb05⟩
      · have e1 := hfar.out rfl rfl
        rw [show immM 12 = 0 from rfl] at e1
        have t1 : (un32 ((a ^^^ b) &&& ~~~ bv32 0) == 0) = true := by rw [e1]; rfl
        clear e1
        go_wp2_with (go_at_call 9; refine (hFm.out _).mono ?_; rintro e w' ⟨rfl, rfl⟩)
        go_ret
        exact ⟨rfl, hb05⟩
    · go_wp2_with fail
      go_ret
      exact ⟨rfl, hb05⟩
  · go_wp2_with fail
    go_ret
    exact ⟨rfl, hb05⟩
end
end Go.Proofs.YtbdhjckpoabmlaaDoor
