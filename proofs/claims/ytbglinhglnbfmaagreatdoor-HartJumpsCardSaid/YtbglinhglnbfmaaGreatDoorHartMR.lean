/- The walk of the law HartJumps: more of its cases. Conditions: none of their own. -/
import Derived.Test.YtbglinhglnbfmaaGreatDoorHartM
set_option linter.unusedVariables false
namespace Go.Proofs.YtbglinhglnbfmaaGreatDoor
open Go.RowKit
attribute [local go_sem] wrap_u64_bv bv_un bv_sn bv_add bv_mul bv_neg bv_sub mul_bvpow shr_min shl_min sshr_min bv_lit bv_0 bv_1 un_shr sn_shr wrap_i64_un bits_u64_and bits_u64_or bits_u64_xor bits_u64_andNot bv_max u64_unsigned
section
attribute [local irreducible] un sn hartL
set_option maxRecDepth 100000 in
set_option maxHeartbeats 8000000 in
theorem Jumps_R0 (h : HartV) (op : Int) (d r1 r2 : Nat) (imm : Int) (aq rl : Bool) (pred succ : Int) (found : BitVec 64) (won : Bool) (w : World) (ht : Tabs w) (hop : op ≤ 9223372036854775807) (hd : d < 32) (hr1 : r1 < 32) (hr2 : r2 < 32) (hb : hartE h = 0) (hf : h.fin = 0) (hc : checkE ⟨op, d, r1, r2, imm, aq, rl, pred, succ⟩ = 0) (x : HartV) (hx : stepV h ⟨op, d, r1, r2, imm, aq, rl, pred, succ⟩ found won = x) (tk : Bool) (htk : takesF op (h.x r1) (h.x r2) = tk) (ht3 : (takesE op == 0) = false) (hop4 : op = 4) (hg : (un ((h.x r1 + bv imm) &&& 18446744073709551614#64)).tmod 4 = 0) (hxp : x.pc = (h.x r1 + bv imm) &&& 18446744073709551614#64) (hxf : x.fin = 0) (hz : d = 0) :
    Calls Tryz.prog 3 #[.agg (hartArr h), .agg #[.int .i64 op, .int .i64 d, .int .i64 r1, .int .i64 r2, .int .i64 imm, .bool aq, .bool rl, .int .i64 pred, .int .i64 succ], .int .u64 (un found), .bool won] w fun e w' => e = .returned (.bool true) ∧ Below w.heap.size w w' := by
  have hund : ∀ b : Bool, (some undef = some (Value.bool b)) = False := fun b => by simp [undef]
  have hB0 := BK.start w h ⟨op, d, r1, r2, imm, aq, rl, pred, succ⟩ 25 27
  have hu := Tryz.underlying25
  have hE := Lib.hid (fun W => HCheck_any h W)
  have hR := Lib.hid (fun W => R2Check_any ⟨op, d, r1, r2, imm, aq, rl, pred, succ⟩ W)
  rw [hb] at hE
  rw [hc] at hR
  have tf : (h.fin != 0) = false := by rw [hf]; rfl
  have hSt : Hid (∀ W, Tabs W → Calls Tryz.prog 9 #[.agg (hartL h).toArray, .agg #[.int .i64 op, .int .i64 d, .int .i64 r1, .int .i64 r2, .int .i64 imm, .bool aq, .bool rl, .int .i64 pred, .int .i64 succ], .int .u64 (un found), .bool won] W fun e w' => e = .returned (.tuple #[.agg (hartL x).toArray, .int .i64 0]) ∧ Below W.heap.size W w') := Lib.hid fun W hT => by
    rw [← hx]; exact Step_any h ⟨op, d, r1, r2, imm, aq, rl, pred, succ⟩ found won W hT hop hb hf hc
  have hT := Lib.hid (fun W => RTakes_any op (h.x r1) (h.x r2) W)
  rw [htk] at hT
  have hlt : 0 ≤ (r1 : Int) ∧ (r1 : Int) < 32 := by omega
  have hlt2 : 0 ≤ (r2 : Int) ∧ (r2 : Int) < 32 := by omega
  have hltd : 0 ≤ (d : Int) ∧ (d : Int) < 32 := by omega
  clear hx htk hop hb hf hc
  have tt : (takesE op == 0) = false := ht3
  have t3 : (op == 3) = false := by rw [hop4]; rfl
  have t4 : (op == 4) = true := by rw [hop4]; rfl
  clear hop4 ht3
  have tg : ((un ((h.x r1 + bv imm) &&& 18446744073709551614#64)).tmod 4 != 0) = false := by rw [hg]; rfl
  clear hg
  have tz : ((d : Int) == 0) = true := by rw [hz]; rfl
  clear hz
  go_enter Tryz.func3, Tryz.ntmps3
  go_upto_region 8 with (first | (refine wpList_load_mid rfl 25 _ rfl w.heap.size 0 rfl (hartL h) _ rh hu rfl (size_hart _) ?_) | (go_at_call 6; refine (lives_any _ (ht.later hB0.bl (Nat.le_refl _))).mono ?_; rintro e w1 ⟨rfl, hb1⟩; have hB := hB0.keep hb1; obtain ⟨rh, ri, x33, c0, c1, c2, c3, c4, c5, c6, c7, c8⟩ := hB.facts) | (go_at_call 7; refine (hE.out _).mono ?_; rintro e w2 ⟨rfl, hb2⟩; have hB := hB.keep hb2; obtain ⟨rh, ri, x33, c0, c1, c2, c3, c4, c5, c6, c7, c8⟩ := hB.facts) | (go_at_call 8; refine (hR.out _).mono ?_; rintro e w3 ⟨rfl, hb3⟩; have hB := hB.keep hb3; obtain ⟨rh, ri, x33, c0, c1, c2, c3, c4, c5, c6, c7, c8⟩ := hB.facts) | (go_at_call 9; refine (hSt.out _ (ht.later hB.bl (Nat.le_refl _))).mono ?_; rintro e s ⟨rfl, hs⟩; have hB := hB.keep hs) | (refine wpList_store_mid rfl 25 _ _ rfl s.heap.size 0 (hartL x).toArray rfl rfl (there_hart (zeros_there s 25) _) (size_hartA _) (hartL_one _) ?_))
  have hal : Below s.heap.size s (s.alloc (.cells #[.int .u64 0, .int .u64 0, .int .u64 0, .int .u64 0, .int .u64 0, .int .u64 0, .int .u64 0, .int .u64 0, .int .u64 0, .int .u64 0, .int .u64 0, .int .u64 0, .int .u64 0, .int .u64 0, .int .u64 0, .int .u64 0, .int .u64 0, .int .u64 0, .int .u64 0, .int .u64 0, .int .u64 0, .int .u64 0, .int .u64 0, .int .u64 0, .int .u64 0, .int .u64 0, .int .u64 0, .int .u64 0, .int .u64 0, .int .u64 0, .int .u64 0, .int .u64 0, .int .u64 0, .int .i64 0, .int .u64 0] 25)) := (Below.refl _ _).alloc (Nat.le_refl _) _
  have lz : s.heap.size < (s.alloc (.cells #[.int .u64 0, .int .u64 0, .int .u64 0, .int .u64 0, .int .u64 0, .int .u64 0, .int .u64 0, .int .u64 0, .int .u64 0, .int .u64 0, .int .u64 0, .int .u64 0, .int .u64 0, .int .u64 0, .int .u64 0, .int .u64 0, .int .u64 0, .int .u64 0, .int .u64 0, .int .u64 0, .int .u64 0, .int .u64 0, .int .u64 0, .int .u64 0, .int .u64 0, .int .u64 0, .int .u64 0, .int .u64 0, .int .u64 0, .int .u64 0, .int .u64 0, .int .u64 0, .int .u64 0, .int .i64 0, .int .u64 0] 25)).heap.size := by simp
  have hz := zeros_there s 25
  have hst := below_setCells (Nat.le_refl s.heap.size) (hartL x) 0 _ hal
  have hX := HC.of_range (World.rangeAt_setCells_same _ s.heap.size 0 (hartL x) (by rw [hartL_len]; exact hz))
  have hB := hB.keep hst
  generalize World.setCells _ s.heap.size 0 (hartL x) = u at hX hB ⊢
  generalize s.heap.size = a at hX ⊢
  clear hal lz hz hst hb1 hb2 hb3 hs
  obtain ⟨rh, ri, x33, c0, c1, c2, c3, c4, c5, c6, c7, c8⟩ := hB.facts
  have p0 : u.cell? ⟨w.heap.size, 0, none⟩ = some (.int .u64 (un h.pc)) := hB.h 0 (by decide)
  have x1 : u.cell? ⟨w.heap.size, 1 + r1, none⟩ = some (.int .u64 (un (h.x r1))) := (hB.h (1 + r1) (by omega)).trans (congrArg some (hartCell_x h r1 hr1))
  have x2 : u.cell? ⟨w.heap.size, 1 + r2, none⟩ = some (.int .u64 (un (h.x r2))) := (hB.h (1 + r2) (by omega)).trans (congrArg some (hartCell_x h r2 hr2))
  have y33 : u.cell? ⟨a, 33, none⟩ = some (.int .i64 (0)) := (hX 33 (by decide)).trans (congrArg some (congrArg (Value.int .i64) hxf))
  have y0 : u.cell? ⟨a, 0, none⟩ = some (.int .u64 (un ((h.x r1 + bv imm) &&& 18446744073709551614#64))) := (hX 0 (by decide)).trans (congrArg some (congrArg (fun z => Value.int .u64 (un z)) hxp))
  go_wp2
  go_quiet ((go_at_call 10; exact quiet_same (hT.out _)))
  go_wp2
  go_quiet (fail)
  go_wp2
  go_quiet (fail)
  go_wp2
  go_ret
  exact ⟨rfl, hB.bl.trans ⟨rfl, rfl, rfl, Nat.le_refl _, fun _ _ => rfl⟩⟩
set_option maxRecDepth 100000 in
set_option maxHeartbeats 8000000 in
theorem Jumps_Rx (h : HartV) (op : Int) (d r1 r2 : Nat) (imm : Int) (aq rl : Bool) (pred succ : Int) (found : BitVec 64) (won : Bool) (w : World) (ht : Tabs w) (hop : op ≤ 9223372036854775807) (hd : d < 32) (hr1 : r1 < 32) (hr2 : r2 < 32) (hb : hartE h = 0) (hf : h.fin = 0) (hc : checkE ⟨op, d, r1, r2, imm, aq, rl, pred, succ⟩ = 0) (x : HartV) (hx : stepV h ⟨op, d, r1, r2, imm, aq, rl, pred, succ⟩ found won = x) (tk : Bool) (htk : takesF op (h.x r1) (h.x r2) = tk) (ht3 : (takesE op == 0) = false) (hop4 : op = 4) (hg : (un ((h.x r1 + bv imm) &&& 18446744073709551614#64)).tmod 4 = 0) (hxp : x.pc = (h.x r1 + bv imm) &&& 18446744073709551614#64) (hxf : x.fin = 0) (hz : d ≠ 0) (hxd : x.x d = h.pc + 4#64) :
    Calls Tryz.prog 3 #[.agg (hartArr h), .agg #[.int .i64 op, .int .i64 d, .int .i64 r1, .int .i64 r2, .int .i64 imm, .bool aq, .bool rl, .int .i64 pred, .int .i64 succ], .int .u64 (un found), .bool won] w fun e w' => e = .returned (.bool true) ∧ Below w.heap.size w w' := by
  have hund : ∀ b : Bool, (some undef = some (Value.bool b)) = False := fun b => by simp [undef]
  have hB0 := BK.start w h ⟨op, d, r1, r2, imm, aq, rl, pred, succ⟩ 25 27
  have hu := Tryz.underlying25
  have hE := Lib.hid (fun W => HCheck_any h W)
  have hR := Lib.hid (fun W => R2Check_any ⟨op, d, r1, r2, imm, aq, rl, pred, succ⟩ W)
  rw [hb] at hE
  rw [hc] at hR
  have tf : (h.fin != 0) = false := by rw [hf]; rfl
  have hSt : Hid (∀ W, Tabs W → Calls Tryz.prog 9 #[.agg (hartL h).toArray, .agg #[.int .i64 op, .int .i64 d, .int .i64 r1, .int .i64 r2, .int .i64 imm, .bool aq, .bool rl, .int .i64 pred, .int .i64 succ], .int .u64 (un found), .bool won] W fun e w' => e = .returned (.tuple #[.agg (hartL x).toArray, .int .i64 0]) ∧ Below W.heap.size W w') := Lib.hid fun W hT => by
    rw [← hx]; exact Step_any h ⟨op, d, r1, r2, imm, aq, rl, pred, succ⟩ found won W hT hop hb hf hc
  have hT := Lib.hid (fun W => RTakes_any op (h.x r1) (h.x r2) W)
  rw [htk] at hT
  have hlt : 0 ≤ (r1 : Int) ∧ (r1 : Int) < 32 := by omega
  have hlt2 : 0 ≤ (r2 : Int) ∧ (r2 : Int) < 32 := by omega
  have hltd : 0 ≤ (d : Int) ∧ (d : Int) < 32 := by omega
  clear hx htk hop hb hf hc
  have tt : (takesE op == 0) = false := ht3
  have t3 : (op == 3) = false := by rw [hop4]; rfl
  have t4 : (op == 4) = true := by rw [hop4]; rfl
  clear hop4 ht3
  have tg : ((un ((h.x r1 + bv imm) &&& 18446744073709551614#64)).tmod 4 != 0) = false := by rw [hg]; rfl
  clear hg
  have tz : ((d : Int) == 0) = false := by rw [beq_eq_false_iff_ne]; omega
  clear hz
  go_enter Tryz.func3, Tryz.ntmps3
  go_upto_region 8 with (first | (refine wpList_load_mid rfl 25 _ rfl w.heap.size 0 rfl (hartL h) _ rh hu rfl (size_hart _) ?_) | (go_at_call 6; refine (lives_any _ (ht.later hB0.bl (Nat.le_refl _))).mono ?_; rintro e w1 ⟨rfl, hb1⟩; have hB := hB0.keep hb1; obtain ⟨rh, ri, x33, c0, c1, c2, c3, c4, c5, c6, c7, c8⟩ := hB.facts) | (go_at_call 7; refine (hE.out _).mono ?_; rintro e w2 ⟨rfl, hb2⟩; have hB := hB.keep hb2; obtain ⟨rh, ri, x33, c0, c1, c2, c3, c4, c5, c6, c7, c8⟩ := hB.facts) | (go_at_call 8; refine (hR.out _).mono ?_; rintro e w3 ⟨rfl, hb3⟩; have hB := hB.keep hb3; obtain ⟨rh, ri, x33, c0, c1, c2, c3, c4, c5, c6, c7, c8⟩ := hB.facts) | (go_at_call 9; refine (hSt.out _ (ht.later hB.bl (Nat.le_refl _))).mono ?_; rintro e s ⟨rfl, hs⟩; have hB := hB.keep hs) | (refine wpList_store_mid rfl 25 _ _ rfl s.heap.size 0 (hartL x).toArray rfl rfl (there_hart (zeros_there s 25) _) (size_hartA _) (hartL_one _) ?_))
  have hal : Below s.heap.size s (s.alloc (.cells #[.int .u64 0, .int .u64 0, .int .u64 0, .int .u64 0, .int .u64 0, .int .u64 0, .int .u64 0, .int .u64 0, .int .u64 0, .int .u64 0, .int .u64 0, .int .u64 0, .int .u64 0, .int .u64 0, .int .u64 0, .int .u64 0, .int .u64 0, .int .u64 0, .int .u64 0, .int .u64 0, .int .u64 0, .int .u64 0, .int .u64 0, .int .u64 0, .int .u64 0, .int .u64 0, .int .u64 0, .int .u64 0, .int .u64 0, .int .u64 0, .int .u64 0, .int .u64 0, .int .u64 0, .int .i64 0, .int .u64 0] 25)) := (Below.refl _ _).alloc (Nat.le_refl _) _
  have lz : s.heap.size < (s.alloc (.cells #[.int .u64 0, .int .u64 0, .int .u64 0, .int .u64 0, .int .u64 0, .int .u64 0, .int .u64 0, .int .u64 0, .int .u64 0, .int .u64 0, .int .u64 0, .int .u64 0, .int .u64 0, .int .u64 0, .int .u64 0, .int .u64 0, .int .u64 0, .int .u64 0, .int .u64 0, .int .u64 0, .int .u64 0, .int .u64 0, .int .u64 0, .int .u64 0, .int .u64 0, .int .u64 0, .int .u64 0, .int .u64 0, .int .u64 0, .int .u64 0, .int .u64 0, .int .u64 0, .int .u64 0, .int .i64 0, .int .u64 0] 25)).heap.size := by simp
  have hz := zeros_there s 25
  have hst := below_setCells (Nat.le_refl s.heap.size) (hartL x) 0 _ hal
  have hX := HC.of_range (World.rangeAt_setCells_same _ s.heap.size 0 (hartL x) (by rw [hartL_len]; exact hz))
  have hB := hB.keep hst
  generalize World.setCells _ s.heap.size 0 (hartL x) = u at hX hB ⊢
  generalize s.heap.size = a at hX ⊢
  clear hal lz hz hst hb1 hb2 hb3 hs
  obtain ⟨rh, ri, x33, c0, c1, c2, c3, c4, c5, c6, c7, c8⟩ := hB.facts
  have p0 : u.cell? ⟨w.heap.size, 0, none⟩ = some (.int .u64 (un h.pc)) := hB.h 0 (by decide)
  have x1 : u.cell? ⟨w.heap.size, 1 + r1, none⟩ = some (.int .u64 (un (h.x r1))) := (hB.h (1 + r1) (by omega)).trans (congrArg some (hartCell_x h r1 hr1))
  have x2 : u.cell? ⟨w.heap.size, 1 + r2, none⟩ = some (.int .u64 (un (h.x r2))) := (hB.h (1 + r2) (by omega)).trans (congrArg some (hartCell_x h r2 hr2))
  have y33 : u.cell? ⟨a, 33, none⟩ = some (.int .i64 (0)) := (hX 33 (by decide)).trans (congrArg some (congrArg (Value.int .i64) hxf))
  have y0 : u.cell? ⟨a, 0, none⟩ = some (.int .u64 (un ((h.x r1 + bv imm) &&& 18446744073709551614#64))) := (hX 0 (by decide)).trans (congrArg some (congrArg (fun z => Value.int .u64 (un z)) hxp))
  have yd : u.cell? ⟨a, 1 + d, none⟩ = some (.int .u64 (un (h.pc + 4#64))) := (hX (1 + d) (by omega)).trans (congrArg some ((hartCell_x x d hd).trans (congrArg (fun z => Value.int .u64 (un z)) hxd)))
  go_wp2
  go_quiet ((go_at_call 10; exact quiet_same (hT.out _)))
  go_wp2
  go_quiet (fail)
  go_wp2
  go_quiet (fail)
  go_wp2
  go_ret
  exact ⟨rfl, hB.bl.trans ⟨rfl, rfl, rfl, Nat.le_refl _, fun _ _ => rfl⟩⟩
set_option maxRecDepth 100000 in
set_option maxHeartbeats 8000000 in
theorem Jumps_Rbad (h : HartV) (op : Int) (d r1 r2 : Nat) (imm : Int) (aq rl : Bool) (pred succ : Int) (found : BitVec 64) (won : Bool) (w : World) (ht : Tabs w) (hop : op ≤ 9223372036854775807) (hd : d < 32) (hr1 : r1 < 32) (hr2 : r2 < 32) (hb : hartE h = 0) (hf : h.fin = 0) (hc : checkE ⟨op, d, r1, r2, imm, aq, rl, pred, succ⟩ = 0) (x : HartV) (hx : stepV h ⟨op, d, r1, r2, imm, aq, rl, pred, succ⟩ found won = x) (tk : Bool) (htk : takesF op (h.x r1) (h.x r2) = tk) (ht3 : (takesE op == 0) = false) (hop4 : op = 4) (hg : (un ((h.x r1 + bv imm) &&& 18446744073709551614#64)).tmod 4 ≠ 0) (hxp : x.pc = h.pc) (hxf : x.fin = 6) (hxx : x.x = h.x) :
    Calls Tryz.prog 3 #[.agg (hartArr h), .agg #[.int .i64 op, .int .i64 d, .int .i64 r1, .int .i64 r2, .int .i64 imm, .bool aq, .bool rl, .int .i64 pred, .int .i64 succ], .int .u64 (un found), .bool won] w fun e w' => e = .returned (.bool true) ∧ Below w.heap.size w w' := by
  have hund : ∀ b : Bool, (some undef = some (Value.bool b)) = False := fun b => by simp [undef]
  have hB0 := BK.start w h ⟨op, d, r1, r2, imm, aq, rl, pred, succ⟩ 25 27
  have hu := Tryz.underlying25
  have hE := Lib.hid (fun W => HCheck_any h W)
  have hR := Lib.hid (fun W => R2Check_any ⟨op, d, r1, r2, imm, aq, rl, pred, succ⟩ W)
  rw [hb] at hE
  rw [hc] at hR
  have tf : (h.fin != 0) = false := by rw [hf]; rfl
  have hSt : Hid (∀ W, Tabs W → Calls Tryz.prog 9 #[.agg (hartL h).toArray, .agg #[.int .i64 op, .int .i64 d, .int .i64 r1, .int .i64 r2, .int .i64 imm, .bool aq, .bool rl, .int .i64 pred, .int .i64 succ], .int .u64 (un found), .bool won] W fun e w' => e = .returned (.tuple #[.agg (hartL x).toArray, .int .i64 0]) ∧ Below W.heap.size W w') := Lib.hid fun W hT => by
    rw [← hx]; exact Step_any h ⟨op, d, r1, r2, imm, aq, rl, pred, succ⟩ found won W hT hop hb hf hc
  have hT := Lib.hid (fun W => RTakes_any op (h.x r1) (h.x r2) W)
  rw [htk] at hT
  have hlt : 0 ≤ (r1 : Int) ∧ (r1 : Int) < 32 := by omega
  have hlt2 : 0 ≤ (r2 : Int) ∧ (r2 : Int) < 32 := by omega
  have hltd : 0 ≤ (d : Int) ∧ (d : Int) < 32 := by omega
  clear hx htk hop hb hf hc
  have tt : (takesE op == 0) = false := ht3
  have t3 : (op == 3) = false := by rw [hop4]; rfl
  have t4 : (op == 4) = true := by rw [hop4]; rfl
  clear hop4 ht3
  have tg : ((un ((h.x r1 + bv imm) &&& 18446744073709551614#64)).tmod 4 != 0) = true := by rw [bne_iff_ne]; exact hg
  clear hg
  go_enter Tryz.func3, Tryz.ntmps3
  go_upto_region 8 with (first | (refine wpList_load_mid rfl 25 _ rfl w.heap.size 0 rfl (hartL h) _ rh hu rfl (size_hart _) ?_) | (go_at_call 6; refine (lives_any _ (ht.later hB0.bl (Nat.le_refl _))).mono ?_; rintro e w1 ⟨rfl, hb1⟩; have hB := hB0.keep hb1; obtain ⟨rh, ri, x33, c0, c1, c2, c3, c4, c5, c6, c7, c8⟩ := hB.facts) | (go_at_call 7; refine (hE.out _).mono ?_; rintro e w2 ⟨rfl, hb2⟩; have hB := hB.keep hb2; obtain ⟨rh, ri, x33, c0, c1, c2, c3, c4, c5, c6, c7, c8⟩ := hB.facts) | (go_at_call 8; refine (hR.out _).mono ?_; rintro e w3 ⟨rfl, hb3⟩; have hB := hB.keep hb3; obtain ⟨rh, ri, x33, c0, c1, c2, c3, c4, c5, c6, c7, c8⟩ := hB.facts) | (go_at_call 9; refine (hSt.out _ (ht.later hB.bl (Nat.le_refl _))).mono ?_; rintro e s ⟨rfl, hs⟩; have hB := hB.keep hs) | (refine wpList_store_mid rfl 25 _ _ rfl s.heap.size 0 (hartL x).toArray rfl rfl (there_hart (zeros_there s 25) _) (size_hartA _) (hartL_one _) ?_))
  have hal : Below s.heap.size s (s.alloc (.cells #[.int .u64 0, .int .u64 0, .int .u64 0, .int .u64 0, .int .u64 0, .int .u64 0, .int .u64 0, .int .u64 0, .int .u64 0, .int .u64 0, .int .u64 0, .int .u64 0, .int .u64 0, .int .u64 0, .int .u64 0, .int .u64 0, .int .u64 0, .int .u64 0, .int .u64 0, .int .u64 0, .int .u64 0, .int .u64 0, .int .u64 0, .int .u64 0, .int .u64 0, .int .u64 0, .int .u64 0, .int .u64 0, .int .u64 0, .int .u64 0, .int .u64 0, .int .u64 0, .int .u64 0, .int .i64 0, .int .u64 0] 25)) := (Below.refl _ _).alloc (Nat.le_refl _) _
  have lz : s.heap.size < (s.alloc (.cells #[.int .u64 0, .int .u64 0, .int .u64 0, .int .u64 0, .int .u64 0, .int .u64 0, .int .u64 0, .int .u64 0, .int .u64 0, .int .u64 0, .int .u64 0, .int .u64 0, .int .u64 0, .int .u64 0, .int .u64 0, .int .u64 0, .int .u64 0, .int .u64 0, .int .u64 0, .int .u64 0, .int .u64 0, .int .u64 0, .int .u64 0, .int .u64 0, .int .u64 0, .int .u64 0, .int .u64 0, .int .u64 0, .int .u64 0, .int .u64 0, .int .u64 0, .int .u64 0, .int .u64 0, .int .i64 0, .int .u64 0] 25)).heap.size := by simp
  have hz := zeros_there s 25
  have hst := below_setCells (Nat.le_refl s.heap.size) (hartL x) 0 _ hal
  have hX := HC.of_range (World.rangeAt_setCells_same _ s.heap.size 0 (hartL x) (by rw [hartL_len]; exact hz))
  have hB := hB.keep hst
  generalize World.setCells _ s.heap.size 0 (hartL x) = u at hX hB ⊢
  generalize s.heap.size = a at hX ⊢
  clear hal lz hz hst hb1 hb2 hb3 hs
  obtain ⟨rh, ri, x33, c0, c1, c2, c3, c4, c5, c6, c7, c8⟩ := hB.facts
  have p0 : u.cell? ⟨w.heap.size, 0, none⟩ = some (.int .u64 (un h.pc)) := hB.h 0 (by decide)
  have x1 : u.cell? ⟨w.heap.size, 1 + r1, none⟩ = some (.int .u64 (un (h.x r1))) := (hB.h (1 + r1) (by omega)).trans (congrArg some (hartCell_x h r1 hr1))
  have x2 : u.cell? ⟨w.heap.size, 1 + r2, none⟩ = some (.int .u64 (un (h.x r2))) := (hB.h (1 + r2) (by omega)).trans (congrArg some (hartCell_x h r2 hr2))
  have y33 : u.cell? ⟨a, 33, none⟩ = some (.int .i64 (6)) := (hX 33 (by decide)).trans (congrArg some (congrArg (Value.int .i64) hxf))
  have y0 : u.cell? ⟨a, 0, none⟩ = some (.int .u64 (un (h.pc))) := (hX 0 (by decide)).trans (congrArg some (congrArg (fun z => Value.int .u64 (un z)) hxp))
  have rx : u.rangeAt a 1 (regL h.x) := by have := hX.regs; rw [hxx] at this; exact this
  have rg : u.rangeAt w.heap.size 1 (regL h.x) := HC.regs hB.h
  have ux := Tryz.underlying23
  have hEq := fun W => regs_same h.x W
  go_wp2
  go_quiet ((go_at_call 10; exact quiet_same (hT.out _)))
  go_wp2
  go_quiet (fail)
  go_wp2_with (first | (refine wpList_load_want (by rfl) 23 _ rfl a 1 rfl (regL h.x) _ (by first | exact rangeAt_drewN rx _ | exact rangeAt_drewN (rangeAt_drewN rx _) _) ux rfl (size_regs _) ?_) | (refine wpList_load_want (by rfl) 23 _ rfl w.heap.size 1 rfl (regL h.x) _ (by first | exact rangeAt_drewN rg _ | exact rangeAt_drewN (rangeAt_drewN rg _) _) ux rfl (size_regs _) ?_))
  go_ret
  exact ⟨rfl, hB.bl.trans ⟨rfl, rfl, rfl, Nat.le_refl _, fun _ _ => rfl⟩⟩
set_option maxRecDepth 100000 in
set_option maxHeartbeats 8000000 in
theorem Jumps_Nf (h : HartV) (op : Int) (d r1 r2 : Nat) (imm : Int) (aq rl : Bool) (pred succ : Int) (found : BitVec 64) (won : Bool) (w : World) (ht : Tabs w) (hop : op ≤ 9223372036854775807) (hd : d < 32) (hr1 : r1 < 32) (hr2 : r2 < 32) (hb : hartE h = 0) (hf : h.fin = 0) (hc : checkE ⟨op, d, r1, r2, imm, aq, rl, pred, succ⟩ = 0) (x : HartV) (hx : stepV h ⟨op, d, r1, r2, imm, aq, rl, pred, succ⟩ found won = x) (tk : Bool) (htk : takesF op (h.x r1) (h.x r2) = tk) (ht3 : (takesE op == 0) = false) (hop3 : op ≠ 3 ∧ op ≠ 4) (hxp : x.pc = h.pc + 4#64) (hxf : x.fin = 0) :
    Calls Tryz.prog 3 #[.agg (hartArr h), .agg #[.int .i64 op, .int .i64 d, .int .i64 r1, .int .i64 r2, .int .i64 imm, .bool aq, .bool rl, .int .i64 pred, .int .i64 succ], .int .u64 (un found), .bool won] w fun e w' => e = .returned (.bool true) ∧ Below w.heap.size w w' := by
  have hund : ∀ b : Bool, (some undef = some (Value.bool b)) = False := fun b => by simp [undef]
  have hB0 := BK.start w h ⟨op, d, r1, r2, imm, aq, rl, pred, succ⟩ 25 27
  have hu := Tryz.underlying25
  have hE := Lib.hid (fun W => HCheck_any h W)
  have hR := Lib.hid (fun W => R2Check_any ⟨op, d, r1, r2, imm, aq, rl, pred, succ⟩ W)
  rw [hb] at hE
  rw [hc] at hR
  have tf : (h.fin != 0) = false := by rw [hf]; rfl
  have hSt : Hid (∀ W, Tabs W → Calls Tryz.prog 9 #[.agg (hartL h).toArray, .agg #[.int .i64 op, .int .i64 d, .int .i64 r1, .int .i64 r2, .int .i64 imm, .bool aq, .bool rl, .int .i64 pred, .int .i64 succ], .int .u64 (un found), .bool won] W fun e w' => e = .returned (.tuple #[.agg (hartL x).toArray, .int .i64 0]) ∧ Below W.heap.size W w') := Lib.hid fun W hT => by
    rw [← hx]; exact Step_any h ⟨op, d, r1, r2, imm, aq, rl, pred, succ⟩ found won W hT hop hb hf hc
  have hT := Lib.hid (fun W => RTakes_any op (h.x r1) (h.x r2) W)
  rw [htk] at hT
  have hlt : 0 ≤ (r1 : Int) ∧ (r1 : Int) < 32 := by omega
  have hlt2 : 0 ≤ (r2 : Int) ∧ (r2 : Int) < 32 := by omega
  have hltd : 0 ≤ (d : Int) ∧ (d : Int) < 32 := by omega
  clear hx htk hop hb hf hc
  have tt : (takesE op == 0) = false := ht3
  have t3 : (op == 3) = false := by rw [beq_eq_false_iff_ne]; omega
  have t4 : (op == 4) = false := by rw [beq_eq_false_iff_ne]; omega
  clear hop3 ht3
  go_enter Tryz.func3, Tryz.ntmps3
  go_upto_region 8 with (first | (refine wpList_load_mid rfl 25 _ rfl w.heap.size 0 rfl (hartL h) _ rh hu rfl (size_hart _) ?_) | (go_at_call 6; refine (lives_any _ (ht.later hB0.bl (Nat.le_refl _))).mono ?_; rintro e w1 ⟨rfl, hb1⟩; have hB := hB0.keep hb1; obtain ⟨rh, ri, x33, c0, c1, c2, c3, c4, c5, c6, c7, c8⟩ := hB.facts) | (go_at_call 7; refine (hE.out _).mono ?_; rintro e w2 ⟨rfl, hb2⟩; have hB := hB.keep hb2; obtain ⟨rh, ri, x33, c0, c1, c2, c3, c4, c5, c6, c7, c8⟩ := hB.facts) | (go_at_call 8; refine (hR.out _).mono ?_; rintro e w3 ⟨rfl, hb3⟩; have hB := hB.keep hb3; obtain ⟨rh, ri, x33, c0, c1, c2, c3, c4, c5, c6, c7, c8⟩ := hB.facts) | (go_at_call 9; refine (hSt.out _ (ht.later hB.bl (Nat.le_refl _))).mono ?_; rintro e s ⟨rfl, hs⟩; have hB := hB.keep hs) | (refine wpList_store_mid rfl 25 _ _ rfl s.heap.size 0 (hartL x).toArray rfl rfl (there_hart (zeros_there s 25) _) (size_hartA _) (hartL_one _) ?_))
  have hal : Below s.heap.size s (s.alloc (.cells #[.int .u64 0, .int .u64 0, .int .u64 0, .int .u64 0, .int .u64 0, .int .u64 0, .int .u64 0, .int .u64 0, .int .u64 0, .int .u64 0, .int .u64 0, .int .u64 0, .int .u64 0, .int .u64 0, .int .u64 0, .int .u64 0, .int .u64 0, .int .u64 0, .int .u64 0, .int .u64 0, .int .u64 0, .int .u64 0, .int .u64 0, .int .u64 0, .int .u64 0, .int .u64 0, .int .u64 0, .int .u64 0, .int .u64 0, .int .u64 0, .int .u64 0, .int .u64 0, .int .u64 0, .int .i64 0, .int .u64 0] 25)) := (Below.refl _ _).alloc (Nat.le_refl _) _
  have lz : s.heap.size < (s.alloc (.cells #[.int .u64 0, .int .u64 0, .int .u64 0, .int .u64 0, .int .u64 0, .int .u64 0, .int .u64 0, .int .u64 0, .int .u64 0, .int .u64 0, .int .u64 0, .int .u64 0, .int .u64 0, .int .u64 0, .int .u64 0, .int .u64 0, .int .u64 0, .int .u64 0, .int .u64 0, .int .u64 0, .int .u64 0, .int .u64 0, .int .u64 0, .int .u64 0, .int .u64 0, .int .u64 0, .int .u64 0, .int .u64 0, .int .u64 0, .int .u64 0, .int .u64 0, .int .u64 0, .int .u64 0, .int .i64 0, .int .u64 0] 25)).heap.size := by simp
  have hz := zeros_there s 25
  have hst := below_setCells (Nat.le_refl s.heap.size) (hartL x) 0 _ hal
  have hX := HC.of_range (World.rangeAt_setCells_same _ s.heap.size 0 (hartL x) (by rw [hartL_len]; exact hz))
  have hB := hB.keep hst
  generalize World.setCells _ s.heap.size 0 (hartL x) = u at hX hB ⊢
  generalize s.heap.size = a at hX ⊢
  clear hal lz hz hst hb1 hb2 hb3 hs
  obtain ⟨rh, ri, x33, c0, c1, c2, c3, c4, c5, c6, c7, c8⟩ := hB.facts
  have p0 : u.cell? ⟨w.heap.size, 0, none⟩ = some (.int .u64 (un h.pc)) := hB.h 0 (by decide)
  have x1 : u.cell? ⟨w.heap.size, 1 + r1, none⟩ = some (.int .u64 (un (h.x r1))) := (hB.h (1 + r1) (by omega)).trans (congrArg some (hartCell_x h r1 hr1))
  have x2 : u.cell? ⟨w.heap.size, 1 + r2, none⟩ = some (.int .u64 (un (h.x r2))) := (hB.h (1 + r2) (by omega)).trans (congrArg some (hartCell_x h r2 hr2))
  have y33 : u.cell? ⟨a, 33, none⟩ = some (.int .i64 (0)) := (hX 33 (by decide)).trans (congrArg some (congrArg (Value.int .i64) hxf))
  have y0 : u.cell? ⟨a, 0, none⟩ = some (.int .u64 (un (h.pc + 4#64))) := (hX 0 (by decide)).trans (congrArg some (congrArg (fun z => Value.int .u64 (un z)) hxp))
  go_wp2
  go_quiet ((go_at_call 10; exact quiet_same (hT.out _)))
  go_wp2
  go_quiet (fail)
  go_wp2
  go_ret
  exact ⟨rfl, hB.bl.trans ⟨rfl, rfl, rfl, Nat.le_refl _, fun _ _ => rfl⟩⟩
set_option maxRecDepth 100000 in
set_option maxHeartbeats 8000000 in
theorem Jumps_Ef (h : HartV) (op : Int) (d r1 r2 : Nat) (imm : Int) (aq rl : Bool) (pred succ : Int) (found : BitVec 64) (won : Bool) (w : World) (ht : Tabs w) (hop : op ≤ 9223372036854775807) (hd : d < 32) (hr1 : r1 < 32) (hr2 : r2 < 32) (hb : hartE h = 0) (hf : h.fin = 0) (hc : checkE ⟨op, d, r1, r2, imm, aq, rl, pred, succ⟩ = 0) (x : HartV) (hx : stepV h ⟨op, d, r1, r2, imm, aq, rl, pred, succ⟩ found won = x) (tk : Bool) (htk : takesF op (h.x r1) (h.x r2) = tk) (ht3 : (takesE op == 0) = false) (hop3 : op ≠ 3 ∧ op ≠ 4) (k : Int) (hk0 : k ≠ 0) (hk6 : k ≠ 6) (hxp : x.pc = h.pc) (hxf : x.fin = k) :
    Calls Tryz.prog 3 #[.agg (hartArr h), .agg #[.int .i64 op, .int .i64 d, .int .i64 r1, .int .i64 r2, .int .i64 imm, .bool aq, .bool rl, .int .i64 pred, .int .i64 succ], .int .u64 (un found), .bool won] w fun e w' => e = .returned (.bool true) ∧ Below w.heap.size w w' := by
  have hund : ∀ b : Bool, (some undef = some (Value.bool b)) = False := fun b => by simp [undef]
  have hB0 := BK.start w h ⟨op, d, r1, r2, imm, aq, rl, pred, succ⟩ 25 27
  have hu := Tryz.underlying25
  have hE := Lib.hid (fun W => HCheck_any h W)
  have hR := Lib.hid (fun W => R2Check_any ⟨op, d, r1, r2, imm, aq, rl, pred, succ⟩ W)
  rw [hb] at hE
  rw [hc] at hR
  have tf : (h.fin != 0) = false := by rw [hf]; rfl
  have hSt : Hid (∀ W, Tabs W → Calls Tryz.prog 9 #[.agg (hartL h).toArray, .agg #[.int .i64 op, .int .i64 d, .int .i64 r1, .int .i64 r2, .int .i64 imm, .bool aq, .bool rl, .int .i64 pred, .int .i64 succ], .int .u64 (un found), .bool won] W fun e w' => e = .returned (.tuple #[.agg (hartL x).toArray, .int .i64 0]) ∧ Below W.heap.size W w') := Lib.hid fun W hT => by
    rw [← hx]; exact Step_any h ⟨op, d, r1, r2, imm, aq, rl, pred, succ⟩ found won W hT hop hb hf hc
  have hT := Lib.hid (fun W => RTakes_any op (h.x r1) (h.x r2) W)
  rw [htk] at hT
  have hlt : 0 ≤ (r1 : Int) ∧ (r1 : Int) < 32 := by omega
  have hlt2 : 0 ≤ (r2 : Int) ∧ (r2 : Int) < 32 := by omega
  have hltd : 0 ≤ (d : Int) ∧ (d : Int) < 32 := by omega
  clear hx htk hop hb hf hc
  have tt : (takesE op == 0) = false := ht3
  have t3 : (op == 3) = false := by rw [beq_eq_false_iff_ne]; omega
  have t4 : (op == 4) = false := by rw [beq_eq_false_iff_ne]; omega
  clear hop3 ht3
  have tk0 : (k != 0) = true := by simpa using hk0
  have tk6 : (k != 6) = true := by simpa using hk6
  clear hk0 hk6
  go_enter Tryz.func3, Tryz.ntmps3
  go_upto_region 8 with (first | (refine wpList_load_mid rfl 25 _ rfl w.heap.size 0 rfl (hartL h) _ rh hu rfl (size_hart _) ?_) | (go_at_call 6; refine (lives_any _ (ht.later hB0.bl (Nat.le_refl _))).mono ?_; rintro e w1 ⟨rfl, hb1⟩; have hB := hB0.keep hb1; obtain ⟨rh, ri, x33, c0, c1, c2, c3, c4, c5, c6, c7, c8⟩ := hB.facts) | (go_at_call 7; refine (hE.out _).mono ?_; rintro e w2 ⟨rfl, hb2⟩; have hB := hB.keep hb2; obtain ⟨rh, ri, x33, c0, c1, c2, c3, c4, c5, c6, c7, c8⟩ := hB.facts) | (go_at_call 8; refine (hR.out _).mono ?_; rintro e w3 ⟨rfl, hb3⟩; have hB := hB.keep hb3; obtain ⟨rh, ri, x33, c0, c1, c2, c3, c4, c5, c6, c7, c8⟩ := hB.facts) | (go_at_call 9; refine (hSt.out _ (ht.later hB.bl (Nat.le_refl _))).mono ?_; rintro e s ⟨rfl, hs⟩; have hB := hB.keep hs) | (refine wpList_store_mid rfl 25 _ _ rfl s.heap.size 0 (hartL x).toArray rfl rfl (there_hart (zeros_there s 25) _) (size_hartA _) (hartL_one _) ?_))
  have hal : Below s.heap.size s (s.alloc (.cells #[.int .u64 0, .int .u64 0, .int .u64 0, .int .u64 0, .int .u64 0, .int .u64 0, .int .u64 0, .int .u64 0, .int .u64 0, .int .u64 0, .int .u64 0, .int .u64 0, .int .u64 0, .int .u64 0, .int .u64 0, .int .u64 0, .int .u64 0, .int .u64 0, .int .u64 0, .int .u64 0, .int .u64 0, .int .u64 0, .int .u64 0, .int .u64 0, .int .u64 0, .int .u64 0, .int .u64 0, .int .u64 0, .int .u64 0, .int .u64 0, .int .u64 0, .int .u64 0, .int .u64 0, .int .i64 0, .int .u64 0] 25)) := (Below.refl _ _).alloc (Nat.le_refl _) _
  have lz : s.heap.size < (s.alloc (.cells #[.int .u64 0, .int .u64 0, .int .u64 0, .int .u64 0, .int .u64 0, .int .u64 0, .int .u64 0, .int .u64 0, .int .u64 0, .int .u64 0, .int .u64 0, .int .u64 0, .int .u64 0, .int .u64 0, .int .u64 0, .int .u64 0, .int .u64 0, .int .u64 0, .int .u64 0, .int .u64 0, .int .u64 0, .int .u64 0, .int .u64 0, .int .u64 0, .int .u64 0, .int .u64 0, .int .u64 0, .int .u64 0, .int .u64 0, .int .u64 0, .int .u64 0, .int .u64 0, .int .u64 0, .int .i64 0, .int .u64 0] 25)).heap.size := by simp
  have hz := zeros_there s 25
  have hst := below_setCells (Nat.le_refl s.heap.size) (hartL x) 0 _ hal
  have hX := HC.of_range (World.rangeAt_setCells_same _ s.heap.size 0 (hartL x) (by rw [hartL_len]; exact hz))
  have hB := hB.keep hst
  generalize World.setCells _ s.heap.size 0 (hartL x) = u at hX hB ⊢
  generalize s.heap.size = a at hX ⊢
  clear hal lz hz hst hb1 hb2 hb3 hs
  obtain ⟨rh, ri, x33, c0, c1, c2, c3, c4, c5, c6, c7, c8⟩ := hB.facts
  have p0 : u.cell? ⟨w.heap.size, 0, none⟩ = some (.int .u64 (un h.pc)) := hB.h 0 (by decide)
  have x1 : u.cell? ⟨w.heap.size, 1 + r1, none⟩ = some (.int .u64 (un (h.x r1))) := (hB.h (1 + r1) (by omega)).trans (congrArg some (hartCell_x h r1 hr1))
  have x2 : u.cell? ⟨w.heap.size, 1 + r2, none⟩ = some (.int .u64 (un (h.x r2))) := (hB.h (1 + r2) (by omega)).trans (congrArg some (hartCell_x h r2 hr2))
  have y33 : u.cell? ⟨a, 33, none⟩ = some (.int .i64 (k)) := (hX 33 (by decide)).trans (congrArg some (congrArg (Value.int .i64) hxf))
  have y0 : u.cell? ⟨a, 0, none⟩ = some (.int .u64 (un (h.pc))) := (hX 0 (by decide)).trans (congrArg some (congrArg (fun z => Value.int .u64 (un z)) hxp))
  go_wp2
  go_quiet ((go_at_call 10; exact quiet_same (hT.out _)))
  go_wp2
  go_ret
  exact ⟨rfl, hB.bl.trans ⟨rfl, rfl, rfl, Nat.le_refl _, fun _ _ => rfl⟩⟩
end
end Go.Proofs.YtbglinhglnbfmaaGreatDoor
