/- The walk of AluHalves: it returns true. Conditions: the library's table of ASCII spaces lies as its initialiser lays it. -/
import Derived.Test.YthoohbefncjkmaaDoorAluDividesW
import Derived.Test.YthoohbefncjkmaaDoorAluHalvesDefs
import Derived.Deep.RegionWith
namespace Go.Proofs.YthoohbefncjkmaaDoor
open Go.RowKit
attribute [local go_sem] wrap_u64_bv bv_un bv_sn bv_add bv_mul bv_neg bv_sub mul_bvpow shr_min shl_min sshr_min bv_lit bv_0 bv_1 un_shr sn_shr wrap_i64_un bits_u64_and bits_u64_or bits_u64_xor bits_u64_andNot bv_max u64_unsigned
theorem un_zero64 : un 0#64 = 0 := rfl
theorem un_div32 (x : BitVec 64) : un x / (4294967296 : Int) = un (x >>> 32) := un_shr x 32
theorem mul_32_shl (x : BitVec 64) : x * 4294967296#64 = x <<< 32 := mul_bvpow x 32
theorem bv_div32 (x : BitVec 64) : bv (un x / (4294967296 : Int)) = x >>> 32 := by rw [un_div32, bv_un]
attribute [local go_sem] mul_32_shl
/-- The three arrays of AluHalves: the parts, and both numbers' halves. -/
structure PT (x0 x1 y0 y1 : BitVec 64) (w0 wr : World) (P : Nat → BitVec 64) : Prop where
  c : ∀ i, i < 4 → wr.cell? ⟨w0.heap.size, i, none⟩ = some (.int .u64 (un (P i)))
  a0 : wr.cell? ⟨w0.heap.size + 1, 0, none⟩ = some (.int .u64 (un x0))
  a1 : wr.cell? ⟨w0.heap.size + 1, 1, none⟩ = some (.int .u64 (un x1))
  b0 : wr.cell? ⟨w0.heap.size + 2, 0, none⟩ = some (.int .u64 (un y0))
  b1 : wr.cell? ⟨w0.heap.size + 2, 1, none⟩ = some (.int .u64 (un y1))
  f : ∀ i, i < 4 → wr.frozen? ⟨w0.heap.size, i, none⟩ = false
  bl : Below w0.heap.size w0 wr
theorem three_cells (w0 : World) (c0 c1 c2 : Array Value) (t0 t1 t2 : TypeId) (i : Nat) :
    (((w0.alloc (.cells c0 t0)).alloc (.cells c1 t1)).alloc (.cells c2 t2)).cell? ⟨w0.heap.size, i, none⟩ = c0[i]? ∧
    (((w0.alloc (.cells c0 t0)).alloc (.cells c1 t1)).alloc (.cells c2 t2)).cell? ⟨w0.heap.size + 1, i, none⟩ = c1[i]? ∧
    (((w0.alloc (.cells c0 t0)).alloc (.cells c1 t1)).alloc (.cells c2 t2)).cell? ⟨w0.heap.size + 2, i, none⟩ = c2[i]? := by
  have s1 : (w0.alloc (.cells c0 t0)).heap.size = w0.heap.size + 1 := by simp
  have s2 : ((w0.alloc (.cells c0 t0)).alloc (.cells c1 t1)).heap.size = w0.heap.size + 2 := by simp
  refine ⟨?_, ?_, ?_⟩
  · rw [((Below.refl _ _).alloc (Nat.le_refl _) _ : Below _ ((w0.alloc (.cells c0 t0)).alloc (.cells c1 t1)) _).cell (p := ⟨w0.heap.size, i, none⟩) (by rw [s2]; show w0.heap.size < _; omega)]
    rw [((Below.refl _ _).alloc (Nat.le_refl _) _ : Below _ (w0.alloc (.cells c0 t0)) _).cell (p := ⟨w0.heap.size, i, none⟩) (by rw [s1]; show w0.heap.size < _; omega)]
    exact World.cell?_alloc_new ..
  · rw [((Below.refl _ _).alloc (Nat.le_refl _) _ : Below _ ((w0.alloc (.cells c0 t0)).alloc (.cells c1 t1)) _).cell (p := ⟨w0.heap.size + 1, i, none⟩) (by rw [s2]; show w0.heap.size + 1 < _; omega)]
    rw [← s1]
    exact World.cell?_alloc_new ..
  · rw [← s2]
    exact World.cell?_alloc_new ..
theorem PT.start (x0 x1 y0 y1 : BitVec 64) (w0 : World) (t0 t1 t2 : TypeId) (u v : Int) (hu : u = un x1) (hv : v = un y1) :
    PT x0 x1 y0 y1 w0 (((w0.alloc (.cells #[.int .u64 0, .int .u64 0, .int .u64 0, .int .u64 0] t0)).alloc (.cells #[.int .u64 (un x0), .int .u64 u] t1)).alloc (.cells #[.int .u64 (un y0), .int .u64 v] t2)) (fun _ => 0#64) := by
  subst hu hv
  refine ⟨fun i hi => ?_, ?_, ?_, ?_, ?_, fun i hi => ?_, (((Below.refl _ _).alloc (Nat.le_refl _) _).alloc (by simp) _).alloc (by simp; omega) _⟩
  · rw [(three_cells w0 _ _ _ t0 t1 t2 i).1]
    rcases (show i = 0 ∨ i = 1 ∨ i = 2 ∨ i = 3 by omega) with rfl | rfl | rfl | rfl <;> rfl
  · rw [(three_cells w0 _ _ _ t0 t1 t2 0).2.1]; rfl
  · rw [(three_cells w0 _ _ _ t0 t1 t2 1).2.1]; rfl
  · rw [(three_cells w0 _ _ _ t0 t1 t2 0).2.2]; rfl
  · rw [(three_cells w0 _ _ _ t0 t1 t2 1).2.2]; rfl
  · rw [frozen?_alloc_cells, frozen?_alloc_cells, frozen?_alloc_cells]
    unfold World.frozen?
    rw [Array.getElem?_eq_none (Nat.le_refl _)]
theorem PT.drew {x0 x1 y0 y1 : BitVec 64} {w0 wr : World} {P : Nat → BitVec 64} (h : PT x0 x1 y0 y1 w0 wr P) : PT x0 x1 y0 y1 w0 wr.drew P :=
  ⟨h.c, h.a0, h.a1, h.b0, h.b1, h.f, h.bl.drew⟩
theorem PT.drewN {x0 x1 y0 y1 : BitVec 64} {w0 wr : World} {P : Nat → BitVec 64} (h : PT x0 x1 y0 y1 w0 wr P) (n : Nat) : PT x0 x1 y0 y1 w0 (wr.drewN n) P :=
  ⟨h.c, h.a0, h.a1, h.b0, h.b1, h.f, h.bl.trans ⟨rfl, rfl, rfl, Nat.le_refl _, fun _ _ => rfl⟩⟩
theorem PT.set {x0 x1 y0 y1 : BitVec 64} {w0 wr : World} {P Q : Nat → BitVec 64} (h : PT x0 x1 y0 y1 w0 wr P) (k : Nat) (hk : k < 4) (v : BitVec 64) (hQ : ∀ i, Q i = if i = k then v else P i) : PT x0 x1 y0 y1 w0 (wr.setCell ⟨w0.heap.size, k, none⟩ (.int .u64 (un v))) Q := by
  have n1 : ∀ i, (⟨w0.heap.size, k, none⟩ : Addr) ≠ ⟨w0.heap.size + 1, i, none⟩ := fun i e => by have := congrArg Addr.block e; simp at this
  have n2 : ∀ i, (⟨w0.heap.size, k, none⟩ : Addr) ≠ ⟨w0.heap.size + 2, i, none⟩ := fun i e => by have := congrArg Addr.block e; simp at this
  refine ⟨fun i hi => ?_, ?_, ?_, ?_, ?_, fun i hi => ?_, h.bl.setCell (Nat.le_refl _) _⟩
  · rw [hQ]
    by_cases e : i = k
    · subst e; rw [if_pos rfl]; exact World.cell?_setCell_same wr _ _ (h.c i hi)
    · rw [if_neg e, World.cell?_setCell_other (h := fun e' => e (congrArg Addr.off e').symm)]; exact h.c i hi
  · rw [World.cell?_setCell_other (h := n1 0)]; exact h.a0
  · rw [World.cell?_setCell_other (h := n1 1)]; exact h.a1
  · rw [World.cell?_setCell_other (h := n2 0)]; exact h.b0
  · rw [World.cell?_setCell_other (h := n2 1)]; exact h.b1
  · rw [World.frozen?_setCell]; exact h.f i hi
/-- one product is added to the parts -/
def addP (p : BitVec 64) (k : Nat) (P : Nat → BitVec 64) : Nat → BitVec 64 := fun i => if i = k + 1 then P i + p >>> 32 else if i = k then P i + (p &&& 4294967295#64) else P i
/-- a part's carry -/
def carryP (k : Nat) (P : Nat → BitVec 64) : Nat → BitVec 64 := fun i => if i = k then P i &&& 4294967295#64 else if i = k + 1 then P i + P k >>> 32 else P i
theorem PT.add {x0 x1 y0 y1 : BitVec 64} {w0 wr : World} {P : Nat → BitVec 64} (h : PT x0 x1 y0 y1 w0 wr P) (p : BitVec 64) (k : Nat) (hk : k < 3) :
    PT x0 x1 y0 y1 w0 ((wr.setCell ⟨w0.heap.size, k, none⟩ (.int .u64 (un (P k + (p &&& 4294967295#64))))).setCell ⟨w0.heap.size, k + 1, none⟩ (.int .u64 (un (P (k + 1) + p >>> 32)))) (addP p k P) := by
  refine (h.set k (by omega) (P k + (p &&& 4294967295#64)) (Q := fun i => if i = k then P i + (p &&& 4294967295#64) else P i) (fun i => ?_)).set (k + 1) (by omega) _ (fun i => ?_)
  · by_cases e : i = k
    · subst e; simp
    · simp [e]
  · unfold addP
    by_cases e : i = k + 1
    · subst e; simp
    · simp [e]
theorem PT.carry {x0 x1 y0 y1 : BitVec 64} {w0 wr : World} {P : Nat → BitVec 64} (h : PT x0 x1 y0 y1 w0 wr P) (k : Nat) (hk : k < 3) :
    PT x0 x1 y0 y1 w0 ((wr.setCell ⟨w0.heap.size, k + 1, none⟩ (.int .u64 (un (P (k + 1) + P k >>> 32)))).setCell ⟨w0.heap.size, k, none⟩ (.int .u64 (un (P k &&& 4294967295#64)))) (carryP k P) := by
  refine (h.set (k + 1) (by omega) (P (k + 1) + P k >>> 32) (Q := fun i => if i = k + 1 then P i + P k >>> 32 else P i) (fun i => ?_)).set k (by omega) _ (fun i => ?_)
  · by_cases e : i = k + 1
    · subst e; simp
    · simp [e]
  · unfold carryP
    by_cases e : i = k
    · subst e; simp
    · simp [e]
/-- the parts after n products -/
def partsP (x0 x1 y0 y1 : BitVec 64) : Nat → Nat → BitVec 64
  | 0 => fun _ => 0#64
  | 1 => addP (x0 * y0) 0 (fun _ => 0#64)
  | 2 => addP (x0 * y1) 1 (addP (x0 * y0) 0 (fun _ => 0#64))
  | 3 => addP (x1 * y0) 1 (addP (x0 * y1) 1 (addP (x0 * y0) 0 (fun _ => 0#64)))
  | _ => addP (x1 * y1) 2 (addP (x1 * y0) 1 (addP (x0 * y1) 1 (addP (x0 * y0) 0 (fun _ => 0#64))))
def carriedP (P : Nat → BitVec 64) : Nat → Nat → BitVec 64
  | 0 => P
  | 1 => carryP 0 P
  | 2 => carryP 1 (carryP 0 P)
  | _ => carryP 2 (carryP 1 (carryP 0 P))
section
attribute [local irreducible] un sn
set_option maxRecDepth 100000 in
set_option maxHeartbeats 8000000 in
theorem AluHalves_walk (a b x0 x1 y0 y1 L H S1 S2 q0 q1 q2 q3 : BitVec 64) (w : World) (ht : Tabs w)
    (hx0 : a &&& 4294967295#64 = x0) (hx1 : un a / 4294967296 = un x1) (hy0 : b &&& 4294967295#64 = y0) (hy1 : un b / 4294967296 = un y1)
    (hq0 : Hid (carriedP (partsP x0 x1 y0 y1 4) 3 0 = q0)) (hq1 : Hid (carriedP (partsP x0 x1 y0 y1 4) 3 1 = q1)) (hq2 : Hid (carriedP (partsP x0 x1 y0 y1 4) 3 2 = q2)) (hq3 : Hid (carriedP (partsP x0 x1 y0 y1 4) 3 3 = q3))
    (hL : q0 ||| q1 <<< 32 = L) (hH : q2 ||| q3 <<< 32 = H)
    (hs1 : Hid ((sn a < 0 ∧ H - b = S1) ∨ (0 ≤ sn a ∧ S1 = H))) (hs2 : Hid ((sn b < 0 ∧ S1 - a = S2) ∨ (0 ≤ sn b ∧ S2 = S1)))
    (d50 : Hid (doF 50 a b = L)) (d53 : Hid (doF 53 a b = H)) (d52 : Hid (doF 52 a b = S1)) (d51 : Hid (doF 51 a b = S2)) (e51 : Hid (doF 51 b a = S2)) (e53 : Hid (doF 53 b a = H)) :
    Calls Tryd.prog 4 #[.int .u64 (un a), .int .u64 (un b)] w fun e w' => e = .returned (.bool true) ∧ TB w w' := by
  go_enter Tryd.func4, Tryd.ntmps4
  go_wp2_with (go_at_call 10; refine (lives_any _ ht).mono ?_; rintro e w0 ⟨rfl, hT⟩)
  go_loopw [8] (fun i wr => ∃ k : Nat, k ≤ 2 ∧ i = .int .i64 k ∧ PT x0 x1 y0 y1 w0 wr (partsP x0 x1 y0 y1 (2 * k))) (fun i _ => 2 - (intOf i).toNat)
  case atStart =>
    exact ⟨0, by omega, rfl, PT.start x0 x1 y0 y1 w0 _ _ _ _ _ rfl rfl⟩
  case round =>
    obtain ⟨k, hk, rfl, hP⟩ := hrel
    obtain ⟨wo, rfl⟩ : ∃ wo : World, wo = wr := ⟨_, rfl⟩
    rcases (show k = 0 ∨ k = 1 ∨ k = 2 by omega) with rfl | rfl | rfl
    · go_wp2_with fail
      go_loopw [9] (fun j wr => ∃ m : Nat, m ≤ 2 ∧ j = .int .i64 m ∧ PT x0 x1 y0 y1 w0 wr (partsP x0 x1 y0 y1 (2 * 0 + m))) (fun j _ => 2 - (intOf j).toNat)
      case atStart => exact ⟨0, by omega, rfl, hP⟩
      case round =>
        obtain ⟨m, hm, rfl, hP1⟩ := hrel
        rcases (show m = 0 ∨ m = 1 ∨ m = 2 by omega) with rfl | rfl | rfl
        · have hadd : PT x0 x1 y0 y1 w0 _ (partsP x0 x1 y0 y1 (2 * 0 + 1)) := (hP1.add (x0 * y0) 0 (by decide)).drew
          obtain ⟨P, hPe⟩ : ∃ P, partsP x0 x1 y0 y1 (2 * 0 + 0) = P := ⟨_, rfl⟩
          have hPe := Lib.hid hPe
          rw [hPe.out] at hP1 hadd
          have c0 := hP1.c 0 (by decide)
          have c1 := hP1.c 1 (by decide)
          have f0 := hP1.f 0 (by decide)
          have f1 := hP1.f 1 (by decide)
          have g0 := hP1.a0
          have g1 := hP1.b0
          have hadd := Lib.hid hadd
          clear hP1
          go_wp2_with fail
          go_region
          all_goals
            go_wp2_with fail
            go_roundw
            case rel =>
              refine ⟨1, by omega, rfl, ?_⟩
              rw [bv_div32]
              exact hadd.out
            case measure => simp [intOf]
        · have hadd : PT x0 x1 y0 y1 w0 _ (partsP x0 x1 y0 y1 (2 * 0 + 2)) := (hP1.add (x0 * y1) 1 (by decide)).drew
          obtain ⟨P, hPe⟩ : ∃ P, partsP x0 x1 y0 y1 (2 * 0 + 1) = P := ⟨_, rfl⟩
          have hPe := Lib.hid hPe
          rw [hPe.out] at hP1 hadd
          have c0 := hP1.c 1 (by decide)
          have c1 := hP1.c 2 (by decide)
          have f0 := hP1.f 1 (by decide)
          have f1 := hP1.f 2 (by decide)
          have g0 := hP1.a0
          have g1 := hP1.b1
          have hadd := Lib.hid hadd
          clear hP1
          go_wp2_with fail
          go_region
          all_goals
            go_wp2_with fail
            go_roundw
            case rel =>
              refine ⟨2, by omega, rfl, ?_⟩
              rw [bv_div32]
              exact hadd.out
            case measure => simp [intOf]
        · go_wp2_with fail
          go_roundw
          case rel => exact ⟨1, by omega, rfl, hP1⟩
          case measure => simp [intOf]
    · go_wp2_with fail
      go_loopw [9] (fun j wr => ∃ m : Nat, m ≤ 2 ∧ j = .int .i64 m ∧ PT x0 x1 y0 y1 w0 wr (partsP x0 x1 y0 y1 (2 * 1 + m))) (fun j _ => 2 - (intOf j).toNat)
      case atStart => exact ⟨0, by omega, rfl, hP⟩
      case round =>
        obtain ⟨m, hm, rfl, hP1⟩ := hrel
        rcases (show m = 0 ∨ m = 1 ∨ m = 2 by omega) with rfl | rfl | rfl
        · have hadd : PT x0 x1 y0 y1 w0 _ (partsP x0 x1 y0 y1 (2 * 1 + 1)) := (hP1.add (x1 * y0) 1 (by decide)).drew
          obtain ⟨P, hPe⟩ : ∃ P, partsP x0 x1 y0 y1 (2 * 1 + 0) = P := ⟨_, rfl⟩
          have hPe := Lib.hid hPe
          rw [hPe.out] at hP1 hadd
          have c0 := hP1.c 1 (by decide)
          have c1 := hP1.c 2 (by decide)
          have f0 := hP1.f 1 (by decide)
          have f1 := hP1.f 2 (by decide)
          have g0 := hP1.a1
          have g1 := hP1.b0
          have hadd := Lib.hid hadd
          clear hP1
          go_wp2_with fail
          go_region
          all_goals
            go_wp2_with fail
            go_roundw
            case rel =>
              refine ⟨1, by omega, rfl, ?_⟩
              rw [bv_div32]
              exact hadd.out
            case measure => simp [intOf]
        · have hadd : PT x0 x1 y0 y1 w0 _ (partsP x0 x1 y0 y1 (2 * 1 + 2)) := (hP1.add (x1 * y1) 2 (by decide)).drew
          obtain ⟨P, hPe⟩ : ∃ P, partsP x0 x1 y0 y1 (2 * 1 + 1) = P := ⟨_, rfl⟩
          have hPe := Lib.hid hPe
          rw [hPe.out] at hP1 hadd
          have c0 := hP1.c 2 (by decide)
          have c1 := hP1.c 3 (by decide)
          have f0 := hP1.f 2 (by decide)
          have f1 := hP1.f 3 (by decide)
          have g0 := hP1.a1
          have g1 := hP1.b1
          have hadd := Lib.hid hadd
          clear hP1
          go_wp2_with fail
          go_region
          all_goals
            go_wp2_with fail
            go_roundw
            case rel =>
              refine ⟨2, by omega, rfl, ?_⟩
              rw [bv_div32]
              exact hadd.out
            case measure => simp [intOf]
        · go_wp2_with fail
          go_roundw
          case rel => exact ⟨2, by omega, rfl, hP1⟩
          case measure => simp [intOf]
    · go_wp2_with fail
      go_loopw [11] (fun j wr => ∃ m : Nat, m ≤ 3 ∧ j = .int .i64 m ∧ PT x0 x1 y0 y1 w0 wr (carriedP (partsP x0 x1 y0 y1 4) m)) (fun j _ => 3 - (intOf j).toNat)
      case atStart => exact ⟨0, by omega, rfl, hP⟩
      case round =>
        obtain ⟨m, hm, rfl, hP1⟩ := hrel
        rcases (show m = 0 ∨ m = 1 ∨ m = 2 ∨ m = 3 by omega) with rfl | rfl | rfl | rfl
        · have hadd : PT x0 x1 y0 y1 w0 _ (carriedP (partsP x0 x1 y0 y1 4) 1) := (hP1.carry 0 (by decide)).drew
          obtain ⟨P, hPe⟩ : ∃ P, carriedP (partsP x0 x1 y0 y1 4) 0 = P := ⟨_, rfl⟩
          have hPe := Lib.hid hPe
          rw [hPe.out] at hP1 hadd
          have c0 := hP1.c 0 (by decide)
          have c1 := hP1.c 1 (by decide)
          have f0 := hP1.f 0 (by decide)
          have f1 := hP1.f 1 (by decide)
          have hadd := Lib.hid hadd
          clear hP1
          go_wp2_with fail
          go_region
          all_goals
            go_wp2_with fail
            go_roundw
            case rel =>
              refine ⟨1, by omega, rfl, ?_⟩
              rw [bv_div32]
              exact hadd.out
            case measure => simp [intOf]
        · have hadd : PT x0 x1 y0 y1 w0 _ (carriedP (partsP x0 x1 y0 y1 4) 2) := (hP1.carry 1 (by decide)).drew
          obtain ⟨P, hPe⟩ : ∃ P, carriedP (partsP x0 x1 y0 y1 4) 1 = P := ⟨_, rfl⟩
          have hPe := Lib.hid hPe
          rw [hPe.out] at hP1 hadd
          have c0 := hP1.c 1 (by decide)
          have c1 := hP1.c 2 (by decide)
          have f0 := hP1.f 1 (by decide)
          have f1 := hP1.f 2 (by decide)
          have hadd := Lib.hid hadd
          clear hP1
          go_wp2_with fail
          go_region
          all_goals
            go_wp2_with fail
            go_roundw
            case rel =>
              refine ⟨2, by omega, rfl, ?_⟩
              rw [bv_div32]
              exact hadd.out
            case measure => simp [intOf]
        · have hadd : PT x0 x1 y0 y1 w0 _ (carriedP (partsP x0 x1 y0 y1 4) 3) := (hP1.carry 2 (by decide)).drew
          obtain ⟨P, hPe⟩ : ∃ P, carriedP (partsP x0 x1 y0 y1 4) 2 = P := ⟨_, rfl⟩
          have hPe := Lib.hid hPe
          rw [hPe.out] at hP1 hadd
          have c0 := hP1.c 2 (by decide)
          have c1 := hP1.c 3 (by decide)
          have f0 := hP1.f 2 (by decide)
          have f1 := hP1.f 3 (by decide)
          have hadd := Lib.hid hadd
          clear hP1
          go_wp2_with fail
          go_region
          all_goals
            go_wp2_with fail
            go_roundw
            case rel =>
              refine ⟨3, by omega, rfl, ?_⟩
              rw [bv_div32]
              exact hadd.out
            case measure => simp [intOf]
        · have c0 := hP1.c 0 (by decide)
          have c1 := hP1.c 1 (by decide)
          have c2 := hP1.c 2 (by decide)
          have c3 := hP1.c 3 (by decide)
          rw [hq0.out] at c0
          rw [hq1.out] at c1
          rw [hq2.out] at c2
          rw [hq3.out] at c3
          have hT1 := hT.later hP1.bl
          clear hP hP1 hT
          have e1 : (un L == un L) = true := beq_self_true _ _ rfl
          have e2 : (un H == un H) = true := beq_self_true _ _ rfl
          have e3 : (un S1 == un S1) = true := beq_self_true _ _ rfl
          have e4 : (un S2 == un S2) = true := beq_self_true _ _ rfl
          have n1 : (un L != un L) = false := bne_self_false _ _ rfl
          have n2 : (un H != un H) = false := bne_self_false _ _ rfl
          have n3 : (un S1 != un S1) = false := bne_self_false _ _ rfl
          go_wp2_with fail
          go_region
          all_goals
            have hT2 := hT1.drew
            rcases hs1.out with ⟨sa, hsa⟩ | ⟨sa, rfl⟩ <;> rcases hs2.out with ⟨sb, hsb⟩ | ⟨sb, rfl⟩
            all_goals
              go_wp2_with (first | (go_at_call 11; (with_reducible refine (do_op w 50 a b _ _ (by assumption) (by decide) d50.out).mono ?_); rintro e w' ⟨rfl, hT⟩) | (go_at_call 11; (with_reducible refine (do_op w 53 a b _ _ (by assumption) (by decide) d53.out).mono ?_); rintro e w' ⟨rfl, hT⟩) | (go_at_call 11; (with_reducible refine (do_op w 52 a b _ _ (by assumption) (by decide) d52.out).mono ?_); rintro e w' ⟨rfl, hT⟩) | (go_at_call 11; (with_reducible refine (do_op w 51 a b _ _ (by assumption) (by decide) d51.out).mono ?_); rintro e w' ⟨rfl, hT⟩) | (go_at_call 11; (with_reducible refine (do_op w 51 b a _ _ (by assumption) (by decide) e51.out).mono ?_); rintro e w' ⟨rfl, hT⟩) | (go_at_call 11; (with_reducible refine (do_op w 53 b a _ _ (by assumption) (by decide) e53.out).mono ?_); rintro e w' ⟨rfl, hT⟩))
              go_ret
              exact ⟨rfl, by assumption⟩
end
theorem parts_all (a b : BitVec 64) (c : Nat) (hc : c < 4) :
    carriedP (partsP (a &&& 4294967295#64) (a >>> 32) (b &&& 4294967295#64) (b >>> 32) 4) 3 c =
      if c = 0 then HQ0 a b &&& 4294967295#64 else if c = 1 then HS1 a b &&& 4294967295#64 else if c = 2 then HS2 a b &&& 4294967295#64 else HS3 a b := by
  have e : ∀ x : BitVec 64, 0#64 + x = x := BitVec.zero_add
  rcases (show c = 0 ∨ c = 1 ∨ c = 2 ∨ c = 3 by omega) with rfl | rfl | rfl | rfl
  all_goals simp [carriedP, carryP, partsP, addP, HQ0, HQ1, HQ2, HQ3, HS1, HS2, HS3, e]
theorem AluHalves_any (a b : BitVec 64) (w : World) (ht : Tabs w) :
    Calls Tryd.prog 4 #[.int .u64 (un a), .int .u64 (un b)] w fun e w' => e = .returned (.bool true) ∧ TB w w' := by
  refine AluHalves_walk a b (a &&& 4294967295#64) (a >>> 32) (b &&& 4294967295#64) (b >>> 32) (a * b) (mulhu a b) (signedA a b) (signedB a b) _ _ _ _ w ht rfl (un_div32 a) rfl (un_div32 b)
    (Lib.hid (parts_all a b 0 (by decide))) (Lib.hid (parts_all a b 1 (by decide))) (Lib.hid (parts_all a b 2 (by decide))) (Lib.hid (parts_all a b 3 (by decide)))
    (halves a b).1 (halves a b).2 (Lib.hid ?_) (Lib.hid ?_)
    (Lib.hid (doF_long 50 (by omega) a b)) (Lib.hid ((doF_long 53 (by omega) a b).trans (highF_ff a b))) (Lib.hid ((doF_long 52 (by omega) a b).trans (highF_tf a b))) (Lib.hid ((doF_long 51 (by omega) a b).trans (highF_tt a b))) (Lib.hid ((doF_long 51 (by omega) b a).trans (highF_swap a b))) (Lib.hid (((doF_long 53 (by omega) b a).trans (highF_ff b a)).trans (mulhu_comm b a)))
  · unfold signedA
    by_cases h : sn a < 0
    · left; exact ⟨h, by rw [if_pos h]⟩
    · right; exact ⟨by omega, by rw [if_neg h]⟩
  · unfold signedB
    by_cases h : sn b < 0
    · left; exact ⟨h, by rw [if_pos h]⟩
    · right; exact ⟨by omega, by rw [if_neg h]⟩
end Go.Proofs.YthoohbefncjkmaaDoor
