/- The walks of hart.New, with and lives. Conditions: the library's table of ASCII spaces lies as its initialiser lays it. -/
import Derived.Test.YtbglinhglnbfmaaGreatDoorHartK
set_option linter.unusedVariables false
namespace Go.Proofs.YtbglinhglnbfmaaGreatDoor
open Go.RowKit
/-- A hart at its beginning. -/
def newV (pc : BitVec 64) : HartV := ⟨pc, fun _ => 0#64, 0, 0#64⟩
def newL (pc : BitVec 64) : List Value := [.int .u64 (un pc), .int .u64 0, .int .u64 0, .int .u64 0, .int .u64 0, .int .u64 0, .int .u64 0, .int .u64 0, .int .u64 0, .int .u64 0, .int .u64 0, .int .u64 0, .int .u64 0, .int .u64 0, .int .u64 0, .int .u64 0, .int .u64 0, .int .u64 0, .int .u64 0, .int .u64 0, .int .u64 0, .int .u64 0, .int .u64 0, .int .u64 0, .int .u64 0, .int .u64 0, .int .u64 0, .int .u64 0, .int .u64 0, .int .u64 0, .int .u64 0, .int .u64 0, .int .u64 0, .int .i64 0, .int .u64 0]
theorem newL_eq (pc : BitVec 64) : newL pc = hartL (newV pc) := rfl
theorem HC.range {a : Nat} {h : HartV} {W : World} (hc : HC a h W) : W.rangeAt a 0 (hartL h) := hart_range hc
theorem HC.of_range {a : Nat} {h : HartV} {W : World} (hr : W.rangeAt a 0 (hartL h)) : HC a h W := fun j hj => by
  have := hr j _ (hartL_at h j hj); rw [Nat.zero_add] at this; exact this
theorem HC.keep {a B : Nat} {h : HartV} {W W' : World} (hc : HC a h W) (ha : a < B) (hb : Below B W W') : HC a h W' := fun j hj => by
  rw [hb.cell (p := ⟨a, j, none⟩) ha]; exact hc j hj
theorem HC.setX {a : Nat} {h : HartV} {W : World} (hc : HC a h W) (d : Nat) (hd : d < 32) (v : BitVec 64) : HC a (h.set d v) (W.setCell ⟨a, 1 + d, none⟩ (.int .u64 (un v))) := fun j hj => by
  rw [setCell_at (hc (1 + d) (by omega))]
  split
  · rename_i e; subst e; rw [hartCell_x _ d hd]; simp [HartV.set]
  · rename_i e
    rw [hc j hj]; unfold hartCell
    by_cases j0 : j = 0
    · rw [if_pos j0, if_pos j0]; rfl
    · rw [if_neg j0, if_neg j0]
      by_cases j32 : j ≤ 32
      · rw [if_pos j32, if_pos j32]; simp only [HartV.set]; rw [if_neg (by omega)]
      · rw [if_neg j32, if_neg j32]; rfl
theorem there_keep {a B : Nat} {W W' : World} (hz : W.there a 0 35) (ha : a < B) (hb : Below B W W') : W'.there a 0 35 := fun j hj => by
  rw [hb.cell (p := ⟨a, 0 + j, none⟩) ha, hb.frozen (p := ⟨a, 0 + j, none⟩) ha]; exact hz j hj
theorem zeros_there (w : World) (t : TypeId) : (w.alloc (.cells #[.int .u64 0, .int .u64 0, .int .u64 0, .int .u64 0, .int .u64 0, .int .u64 0, .int .u64 0, .int .u64 0, .int .u64 0, .int .u64 0, .int .u64 0, .int .u64 0, .int .u64 0, .int .u64 0, .int .u64 0, .int .u64 0, .int .u64 0, .int .u64 0, .int .u64 0, .int .u64 0, .int .u64 0, .int .u64 0, .int .u64 0, .int .u64 0, .int .u64 0, .int .u64 0, .int .u64 0, .int .u64 0, .int .u64 0, .int .u64 0, .int .u64 0, .int .u64 0, .int .u64 0, .int .i64 0, .int .u64 0] t)).there w.heap.size 0 35 := there_fresh w _ t 35 (by simp)
section
attribute [local irreducible] un sn
theorem there_new {W : World} {a : Nat} (hz : W.there a 0 35) (pc : BitVec 64) : W.there a 0 (newL pc).toArray.size := hz
theorem size_new (pc : BitVec 64) : (Tryz.prog.info? 25).map (·.size) = some (newL pc).toArray.size := by kernel_rfl
theorem one_new (pc : BitVec 64) : (newL pc).toArray.all (·.oneCell') = true := by rw [newL_eq]; exact hartL_one _
set_option maxRecDepth 100000 in
set_option maxHeartbeats 4000000 in
theorem New_any (pc : BitVec 64) (w : World) :
    Calls Tryz.prog 33 #[.int .u64 (un pc)] w fun e w' => e = .returned (.agg (hartL (newV pc)).toArray) ∧ Below w.heap.size w w' := by
  have hz := zeros_there w 25
  have hbl : Below w.heap.size w (w.alloc (.cells #[.int .u64 0, .int .u64 0, .int .u64 0, .int .u64 0, .int .u64 0, .int .u64 0, .int .u64 0, .int .u64 0, .int .u64 0, .int .u64 0, .int .u64 0, .int .u64 0, .int .u64 0, .int .u64 0, .int .u64 0, .int .u64 0, .int .u64 0, .int .u64 0, .int .u64 0, .int .u64 0, .int .u64 0, .int .u64 0, .int .u64 0, .int .u64 0, .int .u64 0, .int .u64 0, .int .u64 0, .int .u64 0, .int .u64 0, .int .u64 0, .int .u64 0, .int .u64 0, .int .u64 0, .int .i64 0, .int .u64 0] 25)) := (Below.refl _ _).alloc (Nat.le_refl _) _
  go_enter Tryz.func33, Tryz.ntmps33
  go_wp2_with (refine wpList_store_mid rfl 25 _ _ rfl w.heap.size 0 (newL pc).toArray rfl rfl (there_new hz pc) (size_new pc) (one_new pc) ?_)
  rw [newL_eq]
  have hr := World.rangeAt_setCells_same _ w.heap.size 0 (hartL (newV pc)) (by rw [hartL_len]; exact hz)
  have hbl := below_setCells (Nat.le_refl w.heap.size) (hartL (newV pc)) 0 _ hbl
  generalize World.setCells _ w.heap.size 0 (hartL (newV pc)) = W5 at hr hbl ⊢
  have hlv := result_hart W5 w.heap.size (newV pc) hr
  exact bodyPost_ret (v := .agg (hartL (newV pc)).toArray) (by simp [results, Tryz.results33, asAddr, hlv]) rfl ⟨rfl, hbl⟩
set_option maxRecDepth 100000 in
set_option maxHeartbeats 4000000 in
theorem With_any (pc v : BitVec 64) (r : Nat) (hr : r < 32) (w : World) :
    Calls Tryz.prog 16 #[.int .u64 (un pc), .int .i64 r, .int .u64 (un v)] w fun e w' => e = .returned (.agg (hartL ((newV pc).set r v)).toArray) ∧ Below w.heap.size w w' := by
  have hz0 := zeros_there w 25
  have hbl0 : Below w.heap.size w (w.alloc (.cells #[.int .u64 0, .int .u64 0, .int .u64 0, .int .u64 0, .int .u64 0, .int .u64 0, .int .u64 0, .int .u64 0, .int .u64 0, .int .u64 0, .int .u64 0, .int .u64 0, .int .u64 0, .int .u64 0, .int .u64 0, .int .u64 0, .int .u64 0, .int .u64 0, .int .u64 0, .int .u64 0, .int .u64 0, .int .u64 0, .int .u64 0, .int .u64 0, .int .u64 0, .int .u64 0, .int .u64 0, .int .u64 0, .int .u64 0, .int .u64 0, .int .u64 0, .int .u64 0, .int .u64 0, .int .i64 0, .int .u64 0] 25)) := (Below.refl _ _).alloc (Nat.le_refl _) _
  have lt0 : w.heap.size < (w.alloc (.cells #[.int .u64 0, .int .u64 0, .int .u64 0, .int .u64 0, .int .u64 0, .int .u64 0, .int .u64 0, .int .u64 0, .int .u64 0, .int .u64 0, .int .u64 0, .int .u64 0, .int .u64 0, .int .u64 0, .int .u64 0, .int .u64 0, .int .u64 0, .int .u64 0, .int .u64 0, .int .u64 0, .int .u64 0, .int .u64 0, .int .u64 0, .int .u64 0, .int .u64 0, .int .u64 0, .int .u64 0, .int .u64 0, .int .u64 0, .int .u64 0, .int .u64 0, .int .u64 0, .int .u64 0, .int .i64 0, .int .u64 0] 25)).heap.size := by simp
  have hN := Lib.hid (fun W => New_any pc W)
  have hu := Tryz.underlying25
  have hlt : 0 ≤ (r : Int) ∧ (r : Int) < 32 := by omega
  go_enter Tryz.func16, Tryz.ntmps16
  go_wp2_with (first | (go_at_call 33; refine (hN.out _).mono ?_; rintro e w2 ⟨rfl, hb2⟩; have hz6 := there_keep hz0 lt0 hb2; have hbl2 : Below w.heap.size w w2 := hbl0.trans (hb2.mono (Nat.le_of_lt lt0))) | (refine wpList_store_mid rfl 25 _ _ rfl w2.heap.size 0 (hartL (newV pc)).toArray rfl rfl (there_hart (zeros_there w2 25) _) (size_hartA _) (hartL_one _) ?_; have hlt6 : w.heap.size < w2.heap.size := Nat.lt_of_lt_of_le lt0 hb2.size; have hal : Below w2.heap.size w2 (w2.alloc (.cells #[.int .u64 0, .int .u64 0, .int .u64 0, .int .u64 0, .int .u64 0, .int .u64 0, .int .u64 0, .int .u64 0, .int .u64 0, .int .u64 0, .int .u64 0, .int .u64 0, .int .u64 0, .int .u64 0, .int .u64 0, .int .u64 0, .int .u64 0, .int .u64 0, .int .u64 0, .int .u64 0, .int .u64 0, .int .u64 0, .int .u64 0, .int .u64 0, .int .u64 0, .int .u64 0, .int .u64 0, .int .u64 0, .int .u64 0, .int .u64 0, .int .u64 0, .int .u64 0, .int .u64 0, .int .i64 0, .int .u64 0] 25)) := (Below.refl _ _).alloc (Nat.le_refl _) _; have hz7 := zeros_there w2 25; have hs7 := below_setCells (Nat.le_refl w2.heap.size) (hartL (newV pc)) 0 _ hal; have hc7 := HC.of_range (World.rangeAt_setCells_same _ w2.heap.size 0 (hartL (newV pc)) (by rw [hartL_len]; exact hz7)); have hf7 := World.there_setCells hz7 w2.heap.size 0 (hartL (newV pc)); have hz6 := there_keep hz6 hlt6 hs7; have hbl7 := hbl2.trans (hs7.mono (Nat.le_of_lt hlt6)); generalize World.setCells _ w2.heap.size 0 (hartL (newV pc)) = W7 at *; have q7 : W7.cell? ⟨w2.heap.size, 1 + r, none⟩ = some (.int .u64 (un 0#64)) := (hc7 (1 + r) (by omega)).trans (congrArg some (hartCell_x (newV pc) r hr)); have f7 : W7.frozen? ⟨w2.heap.size, 1 + r, none⟩ = false := by have := (hf7 (1 + r) (by omega)).2; rw [Nat.zero_add] at this; exact this) | (refine wpList_load_mid rfl 25 _ rfl w2.heap.size 0 rfl (hartL ((newV pc).set r v)) _ (HC.range (hc7.setX r hr v)) hu rfl (size_hart _) ?_) | (refine wpList_store_mid rfl 25 _ _ rfl w.heap.size 0 (hartL ((newV pc).set r v)).toArray rfl rfl (there_hart (World.there_setCells hz6 w2.heap.size (1 + r) [.int .u64 (un v)]) _) (size_hartA _) (hartL_one _) ?_))
  have hz := World.there_setCells hz6 w2.heap.size (1 + r) [.int .u64 (un v)]
  have hrr := World.rangeAt_setCells_same _ w.heap.size 0 (hartL ((newV pc).set r v)) (by rw [hartL_len]; exact hz)
  have hbl := below_setCells (Nat.le_refl w.heap.size) (hartL ((newV pc).set r v)) 0 _ (hbl7.setCell (p := ⟨w2.heap.size, 1 + r, none⟩) hbl2.size (.int .u64 (un v)))
  change bodyPost _ _ _ _ _ (World.setCells (W7.setCells w2.heap.size (1 + r) [.int .u64 (un v)]) w.heap.size 0 (hartL ((newV pc).set r v)))
  change Below w.heap.size w (World.setCells (W7.setCells w2.heap.size (1 + r) [.int .u64 (un v)]) w.heap.size 0 (hartL ((newV pc).set r v))) at hbl
  generalize World.setCells _ w.heap.size 0 (hartL ((newV pc).set r v)) = W5 at hrr hbl ⊢
  have hlv := result_hart W5 w.heap.size ((newV pc).set r v) hrr
  exact bodyPost_ret (v := .agg (hartL ((newV pc).set r v)).toArray) (by simp [results, Tryz.results16, asAddr, hlv]) rfl ⟨rfl, hbl⟩
end
def liveH1 : HartV := (newV 100#64).set 1 5#64
def liveI1 : InsnV := ⟨22, 2, 1, 0, 1, false, false, 0, 0⟩
def liveA1 : HartV := stepV liveH1 liveI1 0#64 false
theorem live_with1 (w : World) : Calls Tryz.prog 16 #[.int .u64 100, .int .i64 1, .int .u64 5] w fun e w' => e = .returned (.agg (hartL liveH1).toArray) ∧ Below w.heap.size w w' := With_any 100#64 5#64 1 (by decide) w
theorem live_step1 (w : World) (ht : Tabs w) : Calls Tryz.prog 9 #[.agg (hartL liveH1).toArray, .agg #[.int .i64 22, .int .i64 2, .int .i64 1, .int .i64 0, .int .i64 1, .bool false, .bool false, .int .i64 0, .int .i64 0], .int .u64 0, .bool false] w fun e w' => e = .returned (.tuple #[.agg (hartL liveA1).toArray, .int .i64 0]) ∧ Below w.heap.size w w' := Step_any liveH1 liveI1 0#64 false w ht (by decide) (by decide +kernel) rfl (by decide +kernel)
theorem live_cell1_0 : hartCell liveA1 0 = .int .u64 104 := by kernel_rfl
theorem live_cell1_3 : hartCell liveA1 3 = .int .u64 6 := by kernel_rfl
def liveH2 : HartV := (newV 100#64).set 1 4#64
def liveI2 : InsnV := ⟨14, 2, 1, 0, 0, false, false, 0, 0⟩
def liveA2 : HartV := stepV liveH2 liveI2 0#64 false
theorem live_with2 (w : World) : Calls Tryz.prog 16 #[.int .u64 100, .int .i64 1, .int .u64 4] w fun e w' => e = .returned (.agg (hartL liveH2).toArray) ∧ Below w.heap.size w w' := With_any 100#64 4#64 1 (by decide) w
theorem live_step2 (w : World) (ht : Tabs w) : Calls Tryz.prog 9 #[.agg (hartL liveH2).toArray, .agg #[.int .i64 14, .int .i64 2, .int .i64 1, .int .i64 0, .int .i64 0, .bool false, .bool false, .int .i64 0, .int .i64 0], .int .u64 0, .bool false] w fun e w' => e = .returned (.tuple #[.agg (hartL liveA2).toArray, .int .i64 0]) ∧ Below w.heap.size w w' := Step_any liveH2 liveI2 0#64 false w ht (by decide) (by decide +kernel) rfl (by decide +kernel)
theorem live_cell2_33 : hartCell liveA2 33 = .int .i64 4 := by kernel_rfl
theorem live_cell2_0 : hartCell liveA2 0 = .int .u64 100 := by kernel_rfl
def liveH3 : HartV := (newV 0#64).set 10 9#64
def liveI3 : InsnV := ⟨64, 0, 0, 0, 0, false, false, 0, 0⟩
def liveA3 : HartV := stepV liveH3 liveI3 0#64 false
theorem live_with3 (w : World) : Calls Tryz.prog 16 #[.int .u64 0, .int .i64 10, .int .u64 9] w fun e w' => e = .returned (.agg (hartL liveH3).toArray) ∧ Below w.heap.size w w' := With_any 0#64 9#64 10 (by decide) w
theorem live_step3 (w : World) (ht : Tabs w) : Calls Tryz.prog 9 #[.agg (hartL liveH3).toArray, .agg #[.int .i64 64, .int .i64 0, .int .i64 0, .int .i64 0, .int .i64 0, .bool false, .bool false, .int .i64 0, .int .i64 0], .int .u64 0, .bool false] w fun e w' => e = .returned (.tuple #[.agg (hartL liveA3).toArray, .int .i64 0]) ∧ Below w.heap.size w w' := Step_any liveH3 liveI3 0#64 false w ht (by decide) (by decide +kernel) rfl (by decide +kernel)
theorem live_cell3_33 : hartCell liveA3 33 = .int .i64 1 := by kernel_rfl
theorem live_cell3_34 : hartCell liveA3 34 = .int .u64 9 := by kernel_rfl
section
attribute [local irreducible] un sn hartL
set_option maxRecDepth 100000 in
set_option maxHeartbeats 8000000 in
theorem lives_any (w : World) (ht : Tabs w) :
    Calls Tryz.prog 6 #[] w fun e w' => e = .returned (.bool true) ∧ Below w.heap.size w w' := by
  have hu := Tryz.underlying25
  go_enter Tryz.func6, Tryz.ntmps6
  go_upto_region 2 with (first | (go_at_call 16; refine (live_with1 _).mono ?_; rintro e v1 ⟨rfl, hv1⟩; have hx1 : Below w.heap.size w v1 := (Below.refl w.heap.size w).trans (hv1.mono (Below.refl w.heap.size w).size)) | (go_at_call 9; refine (live_step1 _ (ht.later hx1 (Nat.le_refl _))).mono ?_; rintro e s1 ⟨rfl, hs1⟩; have hy1 : Below w.heap.size w s1 := hx1.trans (hs1.mono hx1.size)) | (refine wpList_store_mid rfl 25 _ _ rfl s1.heap.size 0 (hartL liveA1).toArray rfl rfl (there_hart (zeros_there s1 25) _) (size_hartA _) (hartL_one _) ?_))
  have hal1 : Below s1.heap.size s1 (s1.alloc (.cells #[.int .u64 0, .int .u64 0, .int .u64 0, .int .u64 0, .int .u64 0, .int .u64 0, .int .u64 0, .int .u64 0, .int .u64 0, .int .u64 0, .int .u64 0, .int .u64 0, .int .u64 0, .int .u64 0, .int .u64 0, .int .u64 0, .int .u64 0, .int .u64 0, .int .u64 0, .int .u64 0, .int .u64 0, .int .u64 0, .int .u64 0, .int .u64 0, .int .u64 0, .int .u64 0, .int .u64 0, .int .u64 0, .int .u64 0, .int .u64 0, .int .u64 0, .int .u64 0, .int .u64 0, .int .i64 0, .int .u64 0] 25)) := (Below.refl _ _).alloc (Nat.le_refl _) _
  have lz1 : s1.heap.size < (s1.alloc (.cells #[.int .u64 0, .int .u64 0, .int .u64 0, .int .u64 0, .int .u64 0, .int .u64 0, .int .u64 0, .int .u64 0, .int .u64 0, .int .u64 0, .int .u64 0, .int .u64 0, .int .u64 0, .int .u64 0, .int .u64 0, .int .u64 0, .int .u64 0, .int .u64 0, .int .u64 0, .int .u64 0, .int .u64 0, .int .u64 0, .int .u64 0, .int .u64 0, .int .u64 0, .int .u64 0, .int .u64 0, .int .u64 0, .int .u64 0, .int .u64 0, .int .u64 0, .int .u64 0, .int .u64 0, .int .i64 0, .int .u64 0] 25)).heap.size := by simp
  have hz1 := zeros_there s1 25
  have ht1 := below_setCells (Nat.le_refl s1.heap.size) (hartL liveA1) 0 _ hal1
  have lt1_1 : s1.heap.size < (World.setCells (s1.alloc (.cells #[.int .u64 0, .int .u64 0, .int .u64 0, .int .u64 0, .int .u64 0, .int .u64 0, .int .u64 0, .int .u64 0, .int .u64 0, .int .u64 0, .int .u64 0, .int .u64 0, .int .u64 0, .int .u64 0, .int .u64 0, .int .u64 0, .int .u64 0, .int .u64 0, .int .u64 0, .int .u64 0, .int .u64 0, .int .u64 0, .int .u64 0, .int .u64 0, .int .u64 0, .int .u64 0, .int .u64 0, .int .u64 0, .int .u64 0, .int .u64 0, .int .u64 0, .int .u64 0, .int .u64 0, .int .i64 0, .int .u64 0] 25)) s1.heap.size 0 (hartL liveA1)).heap.size := Nat.lt_of_lt_of_le lz1 (below_setCells (Nat.zero_le _) (hartL liveA1) 0 _ (Below.refl 0 _)).size
  have hc1_1 := HC.of_range (World.rangeAt_setCells_same _ s1.heap.size 0 (hartL liveA1) (by rw [hartL_len]; exact hz1))
  have hb_1 := hy1.trans (ht1.mono hy1.size)
  generalize World.setCells _ s1.heap.size 0 (hartL liveA1) = u1 at *
  clear hz1 lz1 hal1 ht1
  go_upto_region 3 with (first | (go_at_call 16; refine (live_with2 _).mono ?_; rintro e v2 ⟨rfl, hv2⟩; have hx2 : Below w.heap.size w v2 := hb_1.trans (hv2.mono hb_1.size)) | (go_at_call 9; refine (live_step2 _ (ht.later hx2 (Nat.le_refl _))).mono ?_; rintro e s2 ⟨rfl, hs2⟩; have hy2 : Below w.heap.size w s2 := hx2.trans (hs2.mono hx2.size)) | (refine wpList_store_mid rfl 25 _ _ rfl s2.heap.size 0 (hartL liveA2).toArray rfl rfl (there_hart (zeros_there s2 25) _) (size_hartA _) (hartL_one _) ?_))
  have hal2 : Below s2.heap.size s2 (s2.alloc (.cells #[.int .u64 0, .int .u64 0, .int .u64 0, .int .u64 0, .int .u64 0, .int .u64 0, .int .u64 0, .int .u64 0, .int .u64 0, .int .u64 0, .int .u64 0, .int .u64 0, .int .u64 0, .int .u64 0, .int .u64 0, .int .u64 0, .int .u64 0, .int .u64 0, .int .u64 0, .int .u64 0, .int .u64 0, .int .u64 0, .int .u64 0, .int .u64 0, .int .u64 0, .int .u64 0, .int .u64 0, .int .u64 0, .int .u64 0, .int .u64 0, .int .u64 0, .int .u64 0, .int .u64 0, .int .i64 0, .int .u64 0] 25)) := (Below.refl _ _).alloc (Nat.le_refl _) _
  have lz2 : s2.heap.size < (s2.alloc (.cells #[.int .u64 0, .int .u64 0, .int .u64 0, .int .u64 0, .int .u64 0, .int .u64 0, .int .u64 0, .int .u64 0, .int .u64 0, .int .u64 0, .int .u64 0, .int .u64 0, .int .u64 0, .int .u64 0, .int .u64 0, .int .u64 0, .int .u64 0, .int .u64 0, .int .u64 0, .int .u64 0, .int .u64 0, .int .u64 0, .int .u64 0, .int .u64 0, .int .u64 0, .int .u64 0, .int .u64 0, .int .u64 0, .int .u64 0, .int .u64 0, .int .u64 0, .int .u64 0, .int .u64 0, .int .i64 0, .int .u64 0] 25)).heap.size := by simp
  have hz2 := zeros_there s2 25
  have ht2 := below_setCells (Nat.le_refl s2.heap.size) (hartL liveA2) 0 _ hal2
  have lt2_2 : s2.heap.size < (World.setCells (s2.alloc (.cells #[.int .u64 0, .int .u64 0, .int .u64 0, .int .u64 0, .int .u64 0, .int .u64 0, .int .u64 0, .int .u64 0, .int .u64 0, .int .u64 0, .int .u64 0, .int .u64 0, .int .u64 0, .int .u64 0, .int .u64 0, .int .u64 0, .int .u64 0, .int .u64 0, .int .u64 0, .int .u64 0, .int .u64 0, .int .u64 0, .int .u64 0, .int .u64 0, .int .u64 0, .int .u64 0, .int .u64 0, .int .u64 0, .int .u64 0, .int .u64 0, .int .u64 0, .int .u64 0, .int .u64 0, .int .i64 0, .int .u64 0] 25)) s2.heap.size 0 (hartL liveA2)).heap.size := Nat.lt_of_lt_of_le lz2 (below_setCells (Nat.zero_le _) (hartL liveA2) 0 _ (Below.refl 0 _)).size
  have hc2_2 := HC.of_range (World.rangeAt_setCells_same _ s2.heap.size 0 (hartL liveA2) (by rw [hartL_len]; exact hz2))
  have hb_2 := hy2.trans (ht2.mono hy2.size)
  have hk2 := (hv2.trans (hs2.mono hv2.size)).trans (ht2.mono (Nat.le_trans hv2.size hs2.size))
  generalize World.setCells _ s2.heap.size 0 (hartL liveA2) = u2 at *
  clear hz2 lz2 hal2 ht2
  have hc1_2 := hc1_1.keep lt1_1 hk2
  have lt1_2 := Nat.lt_of_lt_of_le lt1_1 hk2.size
  go_upto_region 4 with (first | (go_at_call 16; refine (live_with3 _).mono ?_; rintro e v3 ⟨rfl, hv3⟩; have hx3 : Below w.heap.size w v3 := hb_2.trans (hv3.mono hb_2.size)) | (go_at_call 9; refine (live_step3 _ (ht.later hx3 (Nat.le_refl _))).mono ?_; rintro e s3 ⟨rfl, hs3⟩; have hy3 : Below w.heap.size w s3 := hx3.trans (hs3.mono hx3.size)) | (refine wpList_store_mid rfl 25 _ _ rfl s3.heap.size 0 (hartL liveA3).toArray rfl rfl (there_hart (zeros_there s3 25) _) (size_hartA _) (hartL_one _) ?_))
  have hal3 : Below s3.heap.size s3 (s3.alloc (.cells #[.int .u64 0, .int .u64 0, .int .u64 0, .int .u64 0, .int .u64 0, .int .u64 0, .int .u64 0, .int .u64 0, .int .u64 0, .int .u64 0, .int .u64 0, .int .u64 0, .int .u64 0, .int .u64 0, .int .u64 0, .int .u64 0, .int .u64 0, .int .u64 0, .int .u64 0, .int .u64 0, .int .u64 0, .int .u64 0, .int .u64 0, .int .u64 0, .int .u64 0, .int .u64 0, .int .u64 0, .int .u64 0, .int .u64 0, .int .u64 0, .int .u64 0, .int .u64 0, .int .u64 0, .int .i64 0, .int .u64 0] 25)) := (Below.refl _ _).alloc (Nat.le_refl _) _
  have lz3 : s3.heap.size < (s3.alloc (.cells #[.int .u64 0, .int .u64 0, .int .u64 0, .int .u64 0, .int .u64 0, .int .u64 0, .int .u64 0, .int .u64 0, .int .u64 0, .int .u64 0, .int .u64 0, .int .u64 0, .int .u64 0, .int .u64 0, .int .u64 0, .int .u64 0, .int .u64 0, .int .u64 0, .int .u64 0, .int .u64 0, .int .u64 0, .int .u64 0, .int .u64 0, .int .u64 0, .int .u64 0, .int .u64 0, .int .u64 0, .int .u64 0, .int .u64 0, .int .u64 0, .int .u64 0, .int .u64 0, .int .u64 0, .int .i64 0, .int .u64 0] 25)).heap.size := by simp
  have hz3 := zeros_there s3 25
  have ht3 := below_setCells (Nat.le_refl s3.heap.size) (hartL liveA3) 0 _ hal3
  have lt3_3 : s3.heap.size < (World.setCells (s3.alloc (.cells #[.int .u64 0, .int .u64 0, .int .u64 0, .int .u64 0, .int .u64 0, .int .u64 0, .int .u64 0, .int .u64 0, .int .u64 0, .int .u64 0, .int .u64 0, .int .u64 0, .int .u64 0, .int .u64 0, .int .u64 0, .int .u64 0, .int .u64 0, .int .u64 0, .int .u64 0, .int .u64 0, .int .u64 0, .int .u64 0, .int .u64 0, .int .u64 0, .int .u64 0, .int .u64 0, .int .u64 0, .int .u64 0, .int .u64 0, .int .u64 0, .int .u64 0, .int .u64 0, .int .u64 0, .int .i64 0, .int .u64 0] 25)) s3.heap.size 0 (hartL liveA3)).heap.size := Nat.lt_of_lt_of_le lz3 (below_setCells (Nat.zero_le _) (hartL liveA3) 0 _ (Below.refl 0 _)).size
  have hc3_3 := HC.of_range (World.rangeAt_setCells_same _ s3.heap.size 0 (hartL liveA3) (by rw [hartL_len]; exact hz3))
  have hb_3 := hy3.trans (ht3.mono hy3.size)
  have hk3 := (hv3.trans (hs3.mono hv3.size)).trans (ht3.mono (Nat.le_trans hv3.size hs3.size))
  generalize World.setCells _ s3.heap.size 0 (hartL liveA3) = u3 at *
  clear hz3 lz3 hal3 ht3
  have hc1_3 := hc1_2.keep lt1_2 hk3
  have lt1_3 := Nat.lt_of_lt_of_le lt1_2 hk3.size
  have hc2_3 := hc2_2.keep lt2_2 hk3
  have lt2_3 := Nat.lt_of_lt_of_le lt2_2 hk3.size
  have q1_0 : u3.cell? ⟨s1.heap.size, 0, none⟩ = some (.int .u64 104) := (hc1_3 0 (by decide)).trans (congrArg some live_cell1_0)
  have q1_3 : u3.cell? ⟨s1.heap.size, 3, none⟩ = some (.int .u64 6) := (hc1_3 3 (by decide)).trans (congrArg some live_cell1_3)
  have q2_33 : u3.cell? ⟨s2.heap.size, 33, none⟩ = some (.int .i64 4) := (hc2_3 33 (by decide)).trans (congrArg some live_cell2_33)
  have q2_0 : u3.cell? ⟨s2.heap.size, 0, none⟩ = some (.int .u64 100) := (hc2_3 0 (by decide)).trans (congrArg some live_cell2_0)
  have q3_33 : u3.cell? ⟨s3.heap.size, 33, none⟩ = some (.int .i64 1) := (hc3_3 33 (by decide)).trans (congrArg some live_cell3_33)
  have q3_34 : u3.cell? ⟨s3.heap.size, 34, none⟩ = some (.int .u64 9) := (hc3_3 34 (by decide)).trans (congrArg some live_cell3_34)
  clear hc1_1 hc1_2 hc2_2
  go_wp2
  go_ret
  exact ⟨rfl, hb_3⟩
end
end Go.Proofs.YtbglinhglnbfmaaGreatDoor
