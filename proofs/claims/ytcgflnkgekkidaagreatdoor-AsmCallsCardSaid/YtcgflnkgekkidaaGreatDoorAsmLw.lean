/- Are two lists of words, of numbers, the same? A copy of numbers; numbers put behind numbers. Conditions: none. -/
import Derived.Test.YtcgflnkgekkidaaGreatDoorAsmKo
import Derived.Test.YtcgflnkgekkidaaGreatDoorAsmLb
set_option linter.unusedSimpArgs false
set_option linter.unusedVariables false
namespace Go.Proofs.YtcgflnkgekkidaaGreatDoor
open Go.RowKit Go.Maps
set_option maxRecDepth 100000 in
set_option maxHeartbeats 4000000 in
/-- Lists that hold the same are the same. -/
theorem SameWl_any (lo1 lo2 : Nat) (v1 v2 : Value) (m : Nat) (f : Nat → BitVec 32) (w : World) (hm : m ≤ 9000000000) (h1 : SlAt lo1 v1 m (fun j => Value.int .u32 <| un32 (f j)) w) (h2 : SlAt lo2 v2 m (fun j => Value.int .u32 <| un32 (f j)) w) :
    Calls Tryz.prog 14 #[v1, v2] w fun e w' => e = .returned (.bool true) ∧ Below w.heap.size w w' := by
  obtain ⟨A1, c1, rfl, a1, a3⟩ := h1
  obtain ⟨A2, c2, rfl, b1, b3⟩ := h2
  replace a3 := Lib.hid a3
  replace b3 := Lib.hid b3
  go_enter Tryz.func14, Tryz.ntmps14
  go_wp2_with fail
  go_loopw [5] (fun i wr => ∃ k : Nat, k ≤ m ∧ i = .int .i64 k ∧ (∃ q, wr = w.drewN q)) (fun i _ => m - (intOf i).toNat)
  case atStart => exact ⟨0, Nat.zero_le _, rfl, ⟨0, rfl⟩⟩
  case round =>
    obtain ⟨k, hk, rfl, ⟨q, rfl⟩⟩ := hrel
    by_cases hlt : k < m
    · obtain ⟨p1, rfl, -, hv1⟩ := a3.out (by omega)
      obtain ⟨p2, rfl, -, hv2⟩ := b3.out (by omega)
      have m1 := hv1.c k hlt
      have m2 := hv2.c k hlt
      generalize f k = x at m1 m2
      have n0 : (0 : Int) ≤ (k : Int) ∧ (k : Int) < (m : Int) := by omega
      obtain ⟨n1, n2⟩ := n0
      have hne : (un32 x != un32 x) = false := by simp
      clear hv1 hv2
      go_upto_region 6 with fail
      go_quiet (fail)
      go_wp2_with fail
      go_roundw
      case rel => exact ⟨k + 1, by omega, by go_num, ⟨_, rfl⟩⟩
      case measure => simp [intOf]; omega
    · obtain rfl : k = m := by omega
      go_wp2_with fail
      go_ret
      exact ⟨rfl, bl_drewN (Below.refl _ _) q⟩
set_option maxRecDepth 100000 in
set_option maxHeartbeats 4000000 in
/-- Lists that hold the same are the same. -/
theorem SameIl_any (lo1 lo2 : Nat) (v1 v2 : Value) (m : Nat) (f : Nat → Int) (w : World) (hm : m ≤ 9000000000) (h1 : SlAt lo1 v1 m (fun j => Value.int .i64 (f j)) w) (h2 : SlAt lo2 v2 m (fun j => Value.int .i64 (f j)) w) :
    Calls Tryz.prog 16 #[v1, v2] w fun e w' => e = .returned (.bool true) ∧ Below w.heap.size w w' := by
  obtain ⟨A1, c1, rfl, a1, a3⟩ := h1
  obtain ⟨A2, c2, rfl, b1, b3⟩ := h2
  replace a3 := Lib.hid a3
  replace b3 := Lib.hid b3
  go_enter Tryz.func16, Tryz.ntmps16
  go_wp2_with fail
  go_loopw [5] (fun i wr => ∃ k : Nat, k ≤ m ∧ i = .int .i64 k ∧ (∃ q, wr = w.drewN q)) (fun i _ => m - (intOf i).toNat)
  case atStart => exact ⟨0, Nat.zero_le _, rfl, ⟨0, rfl⟩⟩
  case round =>
    obtain ⟨k, hk, rfl, ⟨q, rfl⟩⟩ := hrel
    by_cases hlt : k < m
    · obtain ⟨p1, rfl, -, hv1⟩ := a3.out (by omega)
      obtain ⟨p2, rfl, -, hv2⟩ := b3.out (by omega)
      have m1 := hv1.c k hlt
      have m2 := hv2.c k hlt
      generalize f k = x at m1 m2
      have n0 : (0 : Int) ≤ (k : Int) ∧ (k : Int) < (m : Int) := by omega
      obtain ⟨n1, n2⟩ := n0
      have hne : (x != x) = false := by simp
      clear hv1 hv2
      go_upto_region 6 with fail
      go_quiet (fail)
      go_wp2_with fail
      go_roundw
      case rel => exact ⟨k + 1, by omega, by go_num, ⟨_, rfl⟩⟩
      case measure => simp [intOf]; omega
    · obtain rfl : k = m := by omega
      go_wp2_with fail
      go_ret
      exact ⟨rfl, bl_drewN (Below.refl _ _) q⟩
theorem int_ofN : ∃ i, Tryz.prog.info? 3 = some i ∧ i.zero = some (.int .i64 0) ∧ i.size = 1 ∧ i.bytes = 8 := by
  obtain ⟨i0, q0, q1, q2, q3⟩ := info_parts Tryz.info_int1
  exact ⟨i0, q0, q1, q2, q3⟩
theorem one_intsN (l : List Int) : ∀ u ∈ l.map (Value.int .i64), u.oneCell' = true := by
  intro u hu
  obtain ⟨x, -, rfl⟩ := List.mem_map.1 hu
  rfl
/-- append, the source nil, empty or not. -/
theorem run_appN {w : World} {base : Nat} (ty : TypeId) (v : Value) (zs l : List Int) (A : Option Addr) (c : Nat) (hown : w.ownsRow base 3 1 v zs.length (zs.map (Value.int .i64))) (hbase : base ≤ w.heap.size) (hn : zs.length + l.length ≤ 1000000)
    (hl : l = [] ∨ ∃ b o, A = some ⟨b, o, none⟩ ∧ ∀ j x, l[j]? = some x → w.cell? ⟨b, o + j, none⟩ = some (.int .i64 x)) :
    ∃ v' w', (Builtin.append_ #[32, 32] ty #[v, .slice A l.length c]).run Tryz.prog w = .ok v' w' ∧ w'.ownsRow base 3 1 v' (zs ++ l).length ((zs ++ l).map (Value.int .i64)) ∧ w.grownBy w' v.ownBlock ∧ (v'.ownBlock = v.ownBlock ∨ v'.ownBlock = some w.heap.size) := by
  obtain ⟨i0, hi0, hi1, hi2, hi3⟩ := int_ofN
  have hu := Tryz.underlying32
  rcases A with _ | ad
  · have hl0 : l = [] := by
      rcases hl with h | ⟨b, o, h, _⟩
      · exact h
      · cases h
    subst hl0
    refine ⟨v, w, ?_, by simpa using hown, World.grownBy.refl w _, .inl rfl⟩
    rcases hown.2 with ⟨rfl, h0⟩ | ⟨g, cap, cur, rfl, _, _, hnc, _⟩
    · simp [Builtin.append_, run_underlying hu, sizeOf, typeInfo, hi0, Builtin.lenOf, Builtin.firstCells]
    · simp [Builtin.append_, run_underlying hu, sizeOf, typeInfo, hi0, Builtin.lenOf, Builtin.firstCells, hnc, storeCells]
  · have hc : ∀ j u, (l.map (Value.int .i64))[j]? = some u → w.cell? (ad.add j) = some u := by
      intro j u hu
      rcases hl with h | ⟨b, o, h, hc⟩
      · rw [h] at hu; cases hu
      · obtain rfl := Option.some.inj h
        rw [List.getElem?_map] at hu
        obtain ⟨x, hx, rfl⟩ := Option.map_eq_some_iff.1 hu
        rw [Addr.add_mid]
        exact hc j x hx
    obtain ⟨v', w', hr, h2, h3, -, h5⟩ := run_append_own_at (P := Tryz.prog) w base 32 ty 3 i0 (.int .i64 0) 1 8 hu hi0 hi1 hi2 hi3 rfl (by decide) v zs.length (zs.map (Value.int .i64)) hown ad l.length c (l.map (Value.int .i64)) (by simp) hc (one_intsN l) (by simp only [maxLen]; omega) (by omega) hbase
    refine ⟨v', w', hr, ?_, h3, h5⟩
    rw [List.length_append, List.map_append]
    exact h2
/-- Numbers in memory. -/
def NumsAt (W : World) (A : Option Addr) (l : List Int) : Prop := l = [] ∨ ∃ b o, A = some ⟨b, o, none⟩ ∧ b < W.heap.size ∧ ∀ j x, l[j]? = some x → W.cell? ⟨b, o + j, none⟩ = some (.int .i64 x)
theorem NumsAt.keep {W W' : World} {A : Option Addr} {l : List Int} (h : NumsAt W A l) (hb : Below W.heap.size W W') : NumsAt W' A l :=
  h.imp id fun ⟨b, o, e, hl, hc⟩ => ⟨b, o, e, Nat.lt_of_lt_of_le hl hb.size, fun j x hx => (hb.cell (p := ⟨b, o + j, none⟩) hl).trans (hc j x hx)⟩
/-- The first n numbers. -/
def numsL (f : Nat → Int) (n : Nat) : List Int := (List.range n).map f
theorem numsL_len (f : Nat → Int) (n : Nat) : (numsL f n).length = n := by simp [numsL]
theorem numsL_at (f : Nat → Int) (n k : Nat) (h : k < n) : (numsL f n)[k]? = some (f k) := by simp [numsL, h]
/-- A slice, from o on. -/
theorem SlAt.nums {lo m : Nat} {v : Value} {f : Nat → Int} {W : World} (h : SlAt lo v m (fun k => .int .i64 (f k)) W) (o k : Nat) (hk : o + k ≤ m) (A : Option Addr) (c : Nat) (hv : v = .slice A m c) (A' : Option Addr) (hA : ∀ b, A = some ⟨b, 0, none⟩ → A' = some ⟨b, o, none⟩) : NumsAt W A' (numsL (fun j => f (o + j)) k) := by
  obtain ⟨A0, c0, e, -, h⟩ := h
  rw [hv] at e
  injection e with e1 e2 e3
  subst e1
  rcases Nat.eq_zero_or_pos k with rfl | h0
  · exact .inl rfl
  · obtain ⟨b, e, -, hr⟩ := h (by omega)
    refine .inr ⟨b, o, hA b e, hr.lt, fun j x hx => ?_⟩
    have hj : j < k := by have := (List.getElem?_eq_some_iff.1 hx).1; rwa [numsL_len] at this
    rw [numsL_at _ k j hj] at hx
    obtain rfl := Option.some.inj hx
    exact hr.c (o + j) (by omega)
set_option maxRecDepth 100000 in
/-- A copy of numbers. -/
theorem KOwnN_any (A : Option Addr) (c : Nat) (l : List Int) (w : World) (h : NumsAt w A l) (hn : l.length ≤ 100000) :
    Calls Tryz.prog 15 #[.slice A l.length c] w fun e w' => (∃ v, e = .returned v ∧ w'.ownsRow w.heap.size 3 1 v l.length (l.map (Value.int .i64))) ∧ Below w.heap.size w w' := by
  have hown : (w.alloc (.cells #[] 3)).ownsRow w.heap.size 3 1 (.slice (some ⟨w.heap.size, 0, none⟩) 0 0) ([] : List Int).length (([] : List Int).map (Value.int .i64)) := World.ownsRow_lit w #[] 0 (Nat.le_refl _) (Nat.zero_le _) rfl
  have hb0 : Below w.heap.size w (w.alloc (.cells #[] 3)) := (Below.refl _ _).alloc (Nat.le_refl _) _
  obtain ⟨v', w', hr, ho, hg, -⟩ := run_appN (w := w.alloc (.cells #[] 3)) 32 (.slice (some ⟨w.heap.size, 0, none⟩) 0 0) [] l A c hown hb0.size (by show 0 + l.length ≤ _; omega) (h.imp id fun ⟨b, o, e, hl, hc⟩ => ⟨b, o, e, fun j x hx => (hb0.cell (p := ⟨b, o + j, none⟩) hl).trans (hc j x hx)⟩)
  have hB : Below w.heap.size w w' := hb0.grown hg hb0.size (fun k hk => (hown.lt k hk).1)
  rw [List.nil_append] at ho
  replace hr := Lib.hid hr
  clear h hown hb0 hg
  go_enter Tryz.func15, Tryz.ntmps15
  go_wp2_with (at_builtin; refine wpList_appI rfl (.tmp 3) (.tmp 4) 32 rfl _ _ _ rfl rfl hr.out ?_)
  go_ret
  exact ⟨⟨v', rfl, ho⟩, hB⟩
/-- Numbers of their own, as a slice. -/
theorem SlAt.ofNums {W : World} {lo : Nat} {v : Value} {l : List Int} {n : Nat} {f : Nat → Int} (h : W.ownsRow lo 3 1 v l.length (l.map (Value.int .i64))) (hn : l.length = n) (hf : ∀ k, k < n → l[k]? = some (f k)) : SlAt lo v n (fun k => .int .i64 (f k)) W := by
  subst hn
  exact SlAt.own h fun k hk => by rw [List.getElem?_map, hf k hk]; rfl
/-- One place taken out. -/
theorem nums_out (f g : Nat → Int) (at' n : Nat) (hat : at' ≤ n) (h : ∀ k, f (sig at' k) = g k) : ∀ k, k < n → (numsL f at' ++ numsL (fun j => f (at' + 1 + j)) (n - at'))[k]? = some (g k) := fun k hk => by
  have hh := h k
  unfold sig at hh
  by_cases h1 : k < at'
  · rw [if_pos h1] at hh
    rw [List.getElem?_append_left (by rw [numsL_len]; exact h1), numsL_at _ _ _ h1, hh]
  · rw [if_neg h1] at hh
    rw [List.getElem?_append_right (by rw [numsL_len]; omega), numsL_len, numsL_at _ _ _ (by omega), show at' + 1 + (k - at') = k + 1 by omega, hh]
end Go.Proofs.YtcgflnkgekkidaaGreatDoor
