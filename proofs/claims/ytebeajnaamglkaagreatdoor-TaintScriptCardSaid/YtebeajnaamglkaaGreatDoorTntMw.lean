/- The walks of slices.Clip and taint.merge. The walks of slices.Clone at whatever slice of ints, and of taint.Check. The walks of taint.own and taint.on. The walk of taint.on: what some registers hang on. Conditions: as each theorem says. -/
import Derived.Test.YtebeajnaamglkaaGreatDoorTntBs
import Derived.Great.Walk
import Derived.Laws.MakeOwn
import Derived.Maps.AppendAt
import Derived.Deep.RegionHeld
import Derived.Deep.MidRow
set_option linter.unusedSimpArgs false
set_option linter.unusedVariables false
namespace Go.Proofs.YtebeajnaamglkaaGreatDoor
open Go.RowKit
/-- A list in new memory. -/
structure NewRL (w : World) (l : List Int) (e : Ending) (w' : World) : Prop where
  ret : ∃ v, e = .returned v ∧ RP w' (fun b => w.heap.size ≤ b) v l
  below : Below w.heap.size w w'
/-- Two rising lists as one. -/
def mergeF : Nat → List Int → List Int → List Int
  | 0, a, b => a ++ b
  | _ + 1, [], b => b
  | _ + 1, x :: a, [] => x :: a
  | n + 1, x :: a, y :: b => if x < y then x :: mergeF n a (y :: b) else if y < x then y :: mergeF n (x :: a) b else x :: mergeF n a b
def mergeL (a b : List Int) : List Int := mergeF (a.length + b.length) a b
theorem mergeF_nil1 (n : Nat) (b : List Int) : mergeF n [] b = b := by cases n <;> rfl
theorem mergeF_nil2 (n : Nat) (a : List Int) : mergeF n a [] = a := by
  cases n
  · exact List.append_nil a
  · cases a <;> rfl
theorem mergeF_lt {n : Nat} {x y : Int} {a b : List Int} (h : x < y) : mergeF (n + 1) (x :: a) (y :: b) = x :: mergeF n a (y :: b) := by rw [mergeF, if_pos h]
theorem mergeF_gt {n : Nat} {x y : Int} {a b : List Int} (h : y < x) : mergeF (n + 1) (x :: a) (y :: b) = y :: mergeF n (x :: a) b := by rw [mergeF, if_neg (by omega), if_pos h]
theorem mergeF_eq {n : Nat} {x y : Int} {a b : List Int} (h : x = y) : mergeF (n + 1) (x :: a) (y :: b) = x :: mergeF n a b := by rw [mergeF, if_neg (by omega), if_neg (by omega)]
theorem int_facts : (Tryz.prog.info? 3).map (fun i => (i.zero, i.size, i.bytes)) = some (some (.int .i64 0), 1, 8) := by kernel_rfl
theorem int_of : ∃ i, Tryz.prog.info? 3 = some i ∧ i.zero = some (.int .i64 0) ∧ i.size = 1 ∧ i.bytes = 8 := by
  have h := int_facts
  cases hi : Tryz.prog.info? 3 with
  | none => rw [hi] at h; cases h
  | some i => rw [hi] at h; simp at h; exact ⟨i, rfl, h.1, h.2.1, h.2.2⟩
theorem one_ints (l : List Int) : ∀ u ∈ l.map (Value.int .i64), u.oneCell' = true := by
  intro u hu
  obtain ⟨x, -, rfl⟩ := List.mem_map.1 hu
  rfl
/-- append, the source nil, empty or not. -/
theorem run_app {w : World} {base : Nat} (ty : TypeId) (v : Value) (zs l : List Int) (A : Option Addr) (c : Nat) (hown : w.ownsRow base 3 1 v zs.length (zs.map (Value.int .i64))) (hbase : base ≤ w.heap.size) (hn : zs.length + l.length ≤ 1000000)
    (hl : l = [] ∨ ∃ b o, A = some ⟨b, o, none⟩ ∧ ∀ j x, l[j]? = some x → w.cell? ⟨b, o + j, none⟩ = some (.int .i64 x)) :
    ∃ v' w', (Builtin.append_ #[25, 25] ty #[v, .slice A l.length c]).run Tryz.prog w = .ok v' w' ∧ w'.ownsRow base 3 1 v' (zs ++ l).length ((zs ++ l).map (Value.int .i64)) ∧ w.grownBy w' v.ownBlock ∧ (v'.ownBlock = v.ownBlock ∨ v'.ownBlock = some w.heap.size) := by
  obtain ⟨i0, hi0, hi1, hi2, hi3⟩ := int_of
  have hu := Tryz.underlying25
  rcases A with _ | ad
  · have hl0 : l = [] := by
      rcases hl with h | ⟨b, o, h, _⟩
      · exact h
      · cases h
    subst hl0
    refine ⟨v, w, ?_, by simpa using hown, World.grownBy.refl w _, .inl rfl⟩
    rcases hown.2 with ⟨rfl, h0⟩ | ⟨g, cap, cur, rfl, _, _, hnc, _⟩
    · simp [Builtin.append_, run_underlying hu, sizeOf, typeInfo, hi0, Builtin.lenOf, Builtin.firstCells]
    · simp [Builtin.append_, run_underlying hu, sizeOf, typeInfo, hi0, Builtin.lenOf, Builtin.firstCells, hnc, storeCells]
  · have hc : ∀ j u, (l.map (Value.int .i64))[j]? = some u → w.cell? (ad.add j) = some u := by
      intro j u hu
      rcases hl with h | ⟨b, o, h, hc⟩
      · rw [h] at hu; cases hu
      · obtain rfl := Option.some.inj h
        rw [List.getElem?_map] at hu
        obtain ⟨x, hx, rfl⟩ := Option.map_eq_some_iff.1 hu
        rw [Addr.add_mid]
        exact hc j x hx
    obtain ⟨v', w', hr, h2, h3, -, h5⟩ := run_append_own_at (P := Tryz.prog) w base 25 ty 3 i0 (.int .i64 0) 1 8 hu hi0 hi1 hi2 hi3 rfl (by decide) v zs.length (zs.map (Value.int .i64)) hown ad l.length c (l.map (Value.int .i64)) (by simp) hc (one_ints l) (by simp only [maxLen]; omega) (by omega) hbase
    refine ⟨v', w', hr, ?_, h3, h5⟩
    rw [List.length_append, List.map_append]
    exact h2
theorem wp_app {P : Program} {w w' : World} {o : Oper} {a : Act} {K : Act → World → Prop} {Q : Exit → Act → World → Prop} (s x : Operand) (t : TypeId)
    (ho : o.op = .call { callee := .builtin .append, args := #[s, x], argTypes := #[t, t] }) (v u v' : Value) (hs : a.eval s = v) (hx : a.eval x = u)
    (hr : (Builtin.append_ #[t, t] o.type #[v, u]).run P w = .ok v' w') (h : K (a.put o.dst v') w') : o.wp P a w K Q := by
  unfold Oper.wp execOp
  simp only [ho, resolve, invoke, builtin, Sem.run_bind, Sem.run_pure, Result.andThen_ok, List.map_toArray, List.map_cons, List.map_nil, hs, hx, hr]
  exact h
theorem wpList_app {P : Program} {w w' : World} {ops : Array Oper} {rest : List Oper} {o : Oper} {a : Act} {Q : Exit → Act → World → Prop} (hgd : o.guard = none) (s x : Operand) (t : TypeId)
    (ho : o.op = .call { callee := .builtin .append, args := #[s, x], argTypes := #[t, t] }) (v u v' : Value) (hs : a.eval s = v) (hx : a.eval x = u)
    (hr : (Builtin.append_ #[t, t] o.type #[v, u]).run P w = .ok v' w') (h : wpList P ops Q rest (a.put o.dst v') w') : wpList P ops Q (o :: rest) a w :=
  wpList_plain hgd fun _ hK => wp_app s x t ho v u v' hs hx hr (hK _ _ h)
/-- A slice, its first number cut off. -/
theorem run_cut1 (p q n c : Nat) (hc : n + 1 ≤ c) (hc2 : c ≤ 9223372036854775807) : ∃ A : Option Addr, (n = 0 ∨ A = some ⟨p, q + 1, none⟩) ∧
    ∀ (ρ : Operand → Value) (o : Oper) (t : Tmp), o.op = .slice 25 (.tmp t) (some (.const (.int .i64 1))) none none → ρ (.tmp t) = .slice (some ⟨p, q, none⟩) (n + 1) c → ρ (.const (.int .i64 1)) = .int .i64 1 → ∀ W : World, (execOp ρ o).run Tryz.prog W = .ok (.value (.slice A n (c - 1))) W := by
  have hu := Tryz.underlying25
  obtain ⟨i0, hi0, -, hi2, -⟩ := int_of
  by_cases h1 : c = 1
  · obtain rfl : n = 0 := by omega
    subst h1
    refine ⟨some ⟨p, q, none⟩, .inl rfl, fun ρ o t ho hρ hk W => ?_⟩
    unfold execOp
    simp only [ho]
    simp [hρ, hk, go_sem]
  · refine ⟨some ⟨p, q + 1, none⟩, .inr rfl, fun ρ o t ho hρ hk W => ?_⟩
    unfold execOp
    simp only [ho]
    simp [hρ, hk, go_sem]
    rw [if_pos (by omega), if_neg h1]
theorem Clip_any (ao : Option Addr) (n cap : Nat) (h1 : n ≤ cap) (h2 : cap ≤ 9223372036854775807) (h3 : ao = none → n = 0) (w : World) :
    Calls Tryz.prog 59 #[.slice ao n cap] w fun e w' => e = .returned (.slice ao n n) ∧ w = w' := by
  rcases ao with _ | ad
  · obtain rfl := h3 rfl
    go_enter Tryz.func59, Tryz.ntmps59
    go_wp2
    go_ret
    exact ⟨rfl, rfl⟩
  · clear h3
    go_enter Tryz.func59, Tryz.ntmps59
    go_wp2
    go_ret
    exact ⟨rfl, rfl⟩
def slLen : Value → Nat
  | .slice _ n _ => n
  | _ => 0
/-- Where merge stands: what is left of both lists, what it has written. -/
structure MJ (w W : World) (A1 A2 : Option Addr) (out : Value) (c1 c2 : Nat) (xs ys zs : List Int) (n N : Nat) (R : List Int) : Prop where
  a1 : xs.length ≤ c1
  a2 : c1 ≤ 9223372036854775807
  b1 : ys.length ≤ c2
  b2 : c2 ≤ 9223372036854775807
  ax : xs = [] ∨ ∃ b o, A1 = some ⟨b, o, none⟩ ∧ b < w.heap.size ∧ ∀ j x, xs[j]? = some x → w.cell? ⟨b, o + j, none⟩ = some (.int .i64 x)
  bx : ys = [] ∨ ∃ b o, A2 = some ⟨b, o, none⟩ ∧ b < w.heap.size ∧ ∀ j x, ys[j]? = some x → w.cell? ⟨b, o + j, none⟩ = some (.int .i64 x)
  own : W.ownsRow w.heap.size 3 1 out zs.length (zs.map (Value.int .i64))
  bl : Below w.heap.size w W
  fuel : xs.length + ys.length ≤ n
  tot : zs.length + (xs.length + ys.length) ≤ N
  res : R = zs ++ mergeF n xs ys
set_option maxRecDepth 100000 in
set_option maxHeartbeats 8000000 in
theorem merge_any (a b : Value) (xs ys : List Int) (w : World) (ha : RL w w.heap.size a xs) (hb : RL w w.heap.size b ys) (hn : xs.length + ys.length ≤ 1000000) :
    Calls Tryz.prog 34 #[a, b] w (NewRL w (mergeL xs ys)) := by
  obtain ⟨i0, hi0, hi1, hi2, hi3⟩ := int_of
  obtain ⟨A1, c1, rfl, ha1, ha2, ha3⟩ := ha.form
  obtain ⟨A2, c2, rfl, hb1, hb2, hb3⟩ := hb.form
  have hax := Lib.hid ha3
  have hbx := Lib.hid hb3
  replace hi0 := Lib.hid hi0
  replace hi1 := Lib.hid hi1
  replace hi2 := Lib.hid hi2
  replace hi3 := Lib.hid hi3
  clear ha3 hb3
  unfold maxLen at ha2 hb2
  obtain ⟨wm, hmk, hown0, hgr0⟩ := run_makeSlice_owned (P := Tryz.prog) w w.heap.size 25 3 i0 (.int .i64 0) 1 Tryz.underlying25 hi0.out hi1.out hi2.out .i64 .i64 (xs.length + ys.length) (by omega) (by rw [hi3.out]; omega) (by simp only [maxLen]; omega) (Nat.le_refl _)
  have hbm : Below w.heap.size w wm := (Below.refl _ _).grown hgr0 (Nat.le_refl _) (by simp)
  replace hown0 := Lib.hid hown0
  clear hgr0
  rw [Int.natCast_add] at hmk
  go_enter Tryz.func34, Tryz.ntmps34
  go_wp2_with fail
  go_loopw [0, 1, 5] (fun a b out wr => ∃ (xs' ys' zs : List Int) (A1 A2 ao : Option Addr) (c1 c2 cap n : Nat), a = .slice A1 xs'.length c1 ∧ b = .slice A2 ys'.length c2 ∧ out = .slice ao zs.length cap ∧ MJ w wr A1 A2 (.slice ao zs.length cap) c1 c2 xs' ys' zs n (xs.length + ys.length) (mergeL xs ys)) (fun a b _ _ => slLen a + slLen b)
  case atStart => exact ⟨xs, ys, [], A1, A2, _, c1, c2, _, _, rfl, rfl, rfl, ⟨ha1, ha2, hb1, hb2, hax.out, hbx.out, hown0.out, hbm, Nat.le_refl _, by simp, rfl⟩⟩
  case round =>
    obtain ⟨xs', ys', zs, A1, A2, ao, c1, c2, cap, n, rfl, rfl, rfl, hJ⟩ := hrel
    obtain ⟨a1, a2, b1, b2, ax, bx, own, bl, fuel, tot, res⟩ := hJ
    replace ax := Lib.hid ax
    replace bx := Lib.hid bx
    replace own := Lib.hid own
    replace res := Lib.hid res
    rcases xs' with _ | ⟨x, xs'⟩
    · obtain ⟨v8, w8, hr8, ho8, hg8, hb8⟩ := run_app (w := wr) 25 (.slice ao zs.length cap) zs [] A1 c1 own.out bl.size (by simp at tot ⊢; omega) (.inl rfl)
      have hB8 : Below w.heap.size w w8 := bl.grown hg8 bl.size (fun k hk => (own.out.lt k hk).1)
      obtain ⟨v9, w9, hr9, ho9, hg9, hb9⟩ := run_app (w := w8) 25 v8 (zs ++ []) ys' A2 c2 ho8 hB8.size (by simp at tot ⊢; omega) (bx.out.imp id (fun ⟨b, o, e, hb, hc⟩ => ⟨b, o, e, fun j z hz => (hB8.cell (p := ⟨b, o + j, none⟩) hb).trans (hc j z hz)⟩))
      have hB9 : Below w.heap.size w w9 := hB8.grown hg9 hB8.size (fun k hk => (ho8.lt k hk).1)
      obtain ⟨L9, hL9⟩ : ∃ L, ((zs ++ []) ++ ys').length = L := ⟨_, rfl⟩
      rw [hL9] at ho9
      obtain ⟨ao9, cap9, rfl, p1, p2, p3⟩ := own_slice2 ho9
      have hRL : RP w9 (fun b => w.heap.size ≤ b) (.slice ao9 L9 cap9) ((zs ++ []) ++ ys') := RP.of_own ho9 hL9.symm
      clear hL9
      have hR : mergeL xs ys = (zs ++ []) ++ ys' := by rw [res.out, mergeF_nil1, List.append_nil]
      replace hRL := Lib.hid hRL
      replace hR := Lib.hid hR
      clear ho8 ho9 hg8 hg9 hb8 hb9 own res ax bx hax hbx hown0 hmk
      have hCl := Lib.hid (Clip_any ao9 L9 cap9 p1 p2 p3 w9)
      clear p1 p2 p3
      replace hr8 := Lib.hid hr8
      replace hr9 := Lib.hid hr9
      go_upto_region 9 with fail
      refine wp_region_list ?_
      simp only [List.toList_toArray]
      refine Go.Great.wpList_runTo rfl _ rfl (.slice ao zs.length cap) wr rfl ?_
      simp only [Act.put, List.setIfInBounds_toArray, List.set_cons_zero, List.set_cons_succ]
      refine Go.Great.wpList_runTo rfl _ rfl (.slice A1 [].length c1) wr rfl ?_
      simp only [Act.put, List.setIfInBounds_toArray, List.set_cons_zero, List.set_cons_succ]
      refine wpList_app rfl (.tmp 60) (.tmp 61) 25 rfl _ _ _ rfl rfl hr8.out ?_
      simp only [Act.put, List.setIfInBounds_toArray, List.set_cons_zero, List.set_cons_succ]
      refine Go.Great.wpList_runTo rfl _ rfl (.slice A2 ys'.length c2) w8 rfl ?_
      simp only [Act.put, List.setIfInBounds_toArray, List.set_cons_zero, List.set_cons_succ]
      refine wpList_app rfl (.tmp 62) (.tmp 63) 25 rfl _ _ _ rfl rfl hr9.out ?_
      simp only [Act.put, List.setIfInBounds_toArray, List.set_cons_zero, List.set_cons_succ]
      go_wp2_with (go_at_call 59; refine hCl.out.mono ?_; rintro e w' ⟨rfl, rfl⟩)
      go_ret
      exact ⟨⟨_, rfl, by rw [hR.out]; exact hRL.out.clip⟩, hB9⟩
    rcases ys' with _ | ⟨y, ys'⟩
    · obtain ⟨v8, w8, hr8, ho8, hg8, hb8⟩ := run_app (w := wr) 25 (.slice ao zs.length cap) zs (x :: xs') A1 c1 own.out bl.size (by simp at tot ⊢; omega) (ax.out.imp id (fun ⟨b, o, e, hb, hc⟩ => ⟨b, o, e, fun j z hz => (bl.cell (p := ⟨b, o + j, none⟩) hb).trans (hc j z hz)⟩))
      have hB8 : Below w.heap.size w w8 := bl.grown hg8 bl.size (fun k hk => (own.out.lt k hk).1)
      obtain ⟨v9, w9, hr9, ho9, hg9, hb9⟩ := run_app (w := w8) 25 v8 (zs ++ (x :: xs')) [] A2 c2 ho8 hB8.size (by simp at tot ⊢; omega) (.inl rfl)
      have hB9 : Below w.heap.size w w9 := hB8.grown hg9 hB8.size (fun k hk => (ho8.lt k hk).1)
      obtain ⟨L9, hL9⟩ : ∃ L, ((zs ++ (x :: xs')) ++ []).length = L := ⟨_, rfl⟩
      rw [hL9] at ho9
      obtain ⟨ao9, cap9, rfl, p1, p2, p3⟩ := own_slice2 ho9
      have hRL : RP w9 (fun b => w.heap.size ≤ b) (.slice ao9 L9 cap9) ((zs ++ (x :: xs')) ++ []) := RP.of_own ho9 hL9.symm
      clear hL9
      have hR : mergeL xs ys = (zs ++ (x :: xs')) ++ [] := by rw [res.out, mergeF_nil2, List.append_assoc, List.append_nil]
      replace hRL := Lib.hid hRL
      replace hR := Lib.hid hR
      clear ho8 ho9 hg8 hg9 hb8 hb9 own res ax bx hax hbx hown0 hmk
      have hCl := Lib.hid (Clip_any ao9 L9 cap9 p1 p2 p3 w9)
      clear p1 p2 p3
      replace hr8 := Lib.hid hr8
      replace hr9 := Lib.hid hr9
      go_upto_region 9 with fail
      refine wp_region_list ?_
      simp only [List.toList_toArray]
      refine Go.Great.wpList_runTo rfl _ rfl (.slice ao zs.length cap) wr rfl ?_
      simp only [Act.put, List.setIfInBounds_toArray, List.set_cons_zero, List.set_cons_succ]
      refine Go.Great.wpList_runTo rfl _ rfl (.slice A1 (x :: xs').length c1) wr rfl ?_
      simp only [Act.put, List.setIfInBounds_toArray, List.set_cons_zero, List.set_cons_succ]
      refine wpList_app rfl (.tmp 60) (.tmp 61) 25 rfl _ _ _ rfl rfl hr8.out ?_
      simp only [Act.put, List.setIfInBounds_toArray, List.set_cons_zero, List.set_cons_succ]
      refine Go.Great.wpList_runTo rfl _ rfl (.slice A2 [].length c2) w8 rfl ?_
      simp only [Act.put, List.setIfInBounds_toArray, List.set_cons_zero, List.set_cons_succ]
      refine wpList_app rfl (.tmp 62) (.tmp 63) 25 rfl _ _ _ rfl rfl hr9.out ?_
      simp only [Act.put, List.setIfInBounds_toArray, List.set_cons_zero, List.set_cons_succ]
      go_wp2_with (go_at_call 59; refine hCl.out.mono ?_; rintro e w' ⟨rfl, rfl⟩)
      go_ret
      exact ⟨⟨_, rfl, by rw [hR.out]; exact hRL.out.clip⟩, hB9⟩
    obtain ⟨p, q, rfl, hp, hxc⟩ := ax.out.resolve_left (by simp)
    obtain ⟨r, s, rfl, hr, hyc⟩ := bx.out.resolve_left (by simp)
    obtain ⟨n, rfl⟩ : ∃ m, n = m + 1 := ⟨n - 1, by simp at fuel; omega⟩
    have hx0 : wr.cell? ⟨p, q, none⟩ = some (.int .i64 x) := (bl.cell (p := ⟨p, q, none⟩) hp).trans (by simpa using hxc 0 x rfl)
    have hy0 : wr.cell? ⟨r, s, none⟩ = some (.int .i64 y) := (bl.cell (p := ⟨r, s, none⟩) hr).trans (by simpa using hyc 0 y rfl)
    have hx1 : Hid (w.cell? ⟨p, q, none⟩ = some (.int .i64 x)) := Lib.hid (by simpa using hxc 0 x rfl)
    have hy1 : Hid (w.cell? ⟨r, s, none⟩ = some (.int .i64 y)) := Lib.hid (by simpa using hyc 0 y rfl)
    have hxs : Hid (∀ j z, xs'[j]? = some z → w.cell? ⟨p, q + 1 + j, none⟩ = some (.int .i64 z)) := Lib.hid fun j z hz => by have := hxc (j + 1) z (by simpa using hz); rw [show q + (j + 1) = q + 1 + j by omega] at this; exact this
    have hys : Hid (∀ j z, ys'[j]? = some z → w.cell? ⟨r, s + 1 + j, none⟩ = some (.int .i64 z)) := Lib.hid fun j z hz => by have := hyc (j + 1) z (by simpa using hz); rw [show s + (j + 1) = s + 1 + j by omega] at this; exact this
    have axk : Hid (x :: xs' = [] ∨ ∃ b o, some (⟨p, q, none⟩ : Addr) = some ⟨b, o, none⟩ ∧ b < w.heap.size ∧ ∀ j z, (x :: xs')[j]? = some z → w.cell? ⟨b, o + j, none⟩ = some (.int .i64 z)) := Lib.hid (.inr ⟨p, q, rfl, hp, hxc⟩)
    have bxk : Hid (y :: ys' = [] ∨ ∃ b o, some (⟨r, s, none⟩ : Addr) = some ⟨b, o, none⟩ ∧ b < w.heap.size ∧ ∀ j z, (y :: ys')[j]? = some z → w.cell? ⟨b, o + j, none⟩ = some (.int .i64 z)) := Lib.hid (.inr ⟨r, s, rfl, hr, hyc⟩)
    clear ax bx hxc hyc
    simp only [List.length_cons] at a1 b1 fuel tot ⊢
    have hl1 : (0 : Int) < ((xs'.length + 1 : Nat) : Int) := by omega
    have hl2 : (0 : Int) < ((ys'.length + 1 : Nat) : Int) := by omega
    go_upto_region 3 with fail
    go_quiet ((go_at_call 58; exact Calls.quiet_of_same (Tryz.cmp_Compare_int _ _ _)))
    clear hx0 hy0
    have bq := fun n => (bl.trans ⟨rfl, rfl, rfl, Nat.le_refl _, fun _ _ => rfl⟩ : Below w.heap.size w (wr.drewN n))
    have oq := fun n => (Lib.hid own.out : Hid ((wr.drewN n).ownsRow w.heap.size 3 1 (.slice ao zs.length cap) zs.length (zs.map (Value.int .i64))))
    generalize hW0 : wr.drewN _ = W0
    have b0 : Below w.heap.size w W0 := by rw [← hW0]; exact bq _
    have o0 : Hid (W0.ownsRow w.heap.size 3 1 (.slice ao zs.length cap) zs.length (zs.map (Value.int .i64))) := by rw [← hW0]; exact oq _
    clear hW0 bq oq own bl
    obtain ⟨A3, hA3, hcut1⟩ := run_cut1 p q xs'.length c1 a1 a2
    obtain ⟨A4, hA4, hcut2⟩ := run_cut1 r s ys'.length c2 b1 b2
    replace hcut1 := Lib.hid hcut1
    replace hcut2 := Lib.hid hcut2
    have ax3 : Hid (xs' = [] ∨ ∃ b o, A3 = some ⟨b, o, none⟩ ∧ b < w.heap.size ∧ ∀ j z, xs'[j]? = some z → w.cell? ⟨b, o + j, none⟩ = some (.int .i64 z)) := Lib.hid (hA3.imp List.eq_nil_of_length_eq_zero (fun e => ⟨p, q + 1, e, hp, hxs.out⟩))
    have bx4 : Hid (ys' = [] ∨ ∃ b o, A4 = some ⟨b, o, none⟩ ∧ b < w.heap.size ∧ ∀ j z, ys'[j]? = some z → w.cell? ⟨b, o + j, none⟩ = some (.int .i64 z)) := Lib.hid (hA4.imp List.eq_nil_of_length_eq_zero (fun e => ⟨r, s + 1, e, hr, hys.out⟩))
    clear hA3 hA4 hxs hys
    rcases (show x < y ∨ y < x ∨ x = y by omega) with hxy | hxy | hxy
    · have hcmp : Lib.compareInt x y = -1 := if_pos hxy
      rw [hcmp]
      go_upto_region 6 with fail
      refine wp_region_held_drew (S := fun W => Below w.heap.size w W) (by kernel_rfl) b0.drew (fun hHeld => ?_)
      refine wpAnyH_take (i := 0) (v := .slice ao zs.length cap) rfl (by kernel_rfl) (by kernel_rfl) (by kernel_rfl) (fun _ _ _ h => h) (Or.inl ⟨by rfl, fun W _ => by kernel_rfl⟩) hHeld ?_
      try simp only [Act.put, List.getElem_toArray, List.getElem_cons_zero, List.setIfInBounds_toArray, List.set_cons_zero, List.set_cons_succ]
      refine wpAnyH_take (i := 1) (v := .slice (some ⟨p, q, none⟩) (xs'.length + 1) c1) rfl (by kernel_rfl) (by kernel_rfl) (by kernel_rfl) (fun _ _ _ h => h) (Or.inl ⟨by rfl, fun W _ => by kernel_rfl⟩) hHeld ?_
      try simp only [Act.put, List.getElem_toArray, List.getElem_cons_succ, List.getElem_cons_zero, List.setIfInBounds_toArray, List.set_cons_zero, List.set_cons_succ]
      refine wpAnyH_take (i := 2) (v := .pointer (some ⟨p, q, none⟩)) rfl (by kernel_rfl) (by kernel_rfl) (by kernel_rfl) (fun _ _ _ h => h) (Or.inl ⟨by rfl, fun W _ => by go_simp⟩) hHeld ?_
      try simp only [Act.put, List.getElem_toArray, List.getElem_cons_succ, List.getElem_cons_zero, List.setIfInBounds_toArray, List.set_cons_zero, List.set_cons_succ]
      refine wpAnyH_take (i := 3) (v := .int .i64 x) rfl (by kernel_rfl) (by kernel_rfl) (by kernel_rfl) (fun _ _ _ h => h) (Or.inl ⟨by rfl, fun W hS => by (have k : W.cell? ⟨p, q, none⟩ = some (.int .i64 x) := (hS.cell (p := ⟨p, q, none⟩) hp).trans hx1.out); go_simp⟩) hHeld ?_
      try simp only [Act.put, List.getElem_toArray, List.getElem_cons_succ, List.getElem_cons_zero, List.setIfInBounds_toArray, List.set_cons_zero, List.set_cons_succ]
      refine wpAnyH_take (i := 6) (v := .slice (some ⟨p, q, none⟩) (xs'.length + 1) c1) rfl (by kernel_rfl) (by kernel_rfl) (by kernel_rfl) (fun _ _ _ h => h) (Or.inl ⟨by rfl, fun W _ => by kernel_rfl⟩) hHeld ?_
      try simp only [Act.put, List.getElem_toArray, List.getElem_cons_succ, List.getElem_cons_zero, List.setIfInBounds_toArray, List.set_cons_zero, List.set_cons_succ]
      refine wpAnyH_take (i := 7) (v := .slice A3 xs'.length (c1 - 1)) rfl (by kernel_rfl) (by kernel_rfl) (by kernel_rfl) (fun _ _ _ h => h) (Or.inl ⟨by rfl, fun W _ => hcut1.out _ _ _ rfl rfl rfl W⟩) hHeld ?_
      try simp only [Act.put, List.getElem_toArray, List.getElem_cons_succ, List.getElem_cons_zero, List.setIfInBounds_toArray, List.set_cons_zero, List.set_cons_succ]
      refine wpAnyH_ready (rs := [4]) (by kernel_rfl) (by simp) (AllReadyH.cons rfl (fun K hK2 => ?_) AllReadyH.nil)
      rw [if_pos (by rfl)]
      simp only [List.getElem_toArray, List.getElem_cons_succ, List.getElem_cons_zero]
      go_wp2_with fail
      refine hK2.out _ _ (hHeld.alloc hHeld.size _) (fun hHeld2 => ?_)
      clear hK2 K hHeld
      have hHeld := hHeld2
      clear hHeld2
      try simp only [Act.put, List.getElem_toArray, List.getElem_cons_succ, List.getElem_cons_zero, List.setIfInBounds_toArray, List.set_cons_zero, List.set_cons_succ]
      refine wpAnyH_ready (rs := [5]) (by kernel_rfl) (by simp) (AllReadyH.cons rfl (fun K hK2 => ?_) AllReadyH.nil)
      rw [if_pos (by rfl)]
      simp only [List.getElem_toArray, List.getElem_cons_succ, List.getElem_cons_zero]
      obtain ⟨v9, w9, hr9, ho9, hg9, hb9⟩ := run_app (w := W0.drew.alloc (.cells #[.int .i64 x] 3)) 25 (.slice ao zs.length cap) zs [x] (some ⟨W0.heap.size, 0, none⟩) 1 (o0.out.drew.alloc _) (Nat.le_trans b0.size (by simp)) (by simp; omega) (.inr ⟨_, _, rfl, fun j u hu => by rw [show (W0.heap.size : Nat) = W0.drew.heap.size from rfl, World.cell?_alloc_new, Nat.zero_add]; rcases j with _ | j <;> simp at hu ⊢; exact hu⟩)
      refine wp_app _ _ _ rfl _ _ _ rfl rfl hr9 ?_
      have hB9 : Below w.heap.size w w9 := hHeld.grown hg9 hHeld.size (fun k hk => (o0.out.lt k hk).1)
      refine hK2.out _ _ (hB9) (fun hHeld2 => ?_)
      clear hK2 K hHeld
      have hHeld := hHeld2
      clear hHeld2
      try simp only [Act.put, List.getElem_toArray, List.getElem_cons_succ, List.getElem_cons_zero, List.setIfInBounds_toArray, List.set_cons_zero, List.set_cons_succ]
      refine wpAnyH_take (i := 8) (v := v9) rfl (by kernel_rfl) (by kernel_rfl) (by kernel_rfl) (fun _ _ _ h => h) (Or.inl ⟨by rfl, fun W _ => by kernel_rfl⟩) hHeld ?_
      try simp only [Act.put, List.getElem_toArray, List.getElem_cons_succ, List.getElem_cons_zero, List.setIfInBounds_toArray, List.set_cons_zero, List.set_cons_succ]
      refine wpAnyH_take (i := 9) (v := .slice A3 xs'.length (c1 - 1)) rfl (by kernel_rfl) (by kernel_rfl) (by kernel_rfl) (fun _ _ _ h => h) (Or.inl ⟨by rfl, fun W _ => by kernel_rfl⟩) hHeld ?_
      try simp only [Act.put, List.getElem_toArray, List.getElem_cons_succ, List.getElem_cons_zero, List.setIfInBounds_toArray, List.set_cons_zero, List.set_cons_succ]
      refine wpAnyH_done (by kernel_rfl) ?_ _
      obtain ⟨ao9, cap9, rfl⟩ := own_slice ho9
      go_wp2_with fail
      refine ⟨⟨xs', y :: ys', zs ++ [x], A3, _, ao9, c1 - 1, c2, cap9, n, rfl, rfl, rfl, ⟨by omega, by omega, b1, b2, ax3.out, bxk.out, ho9, hHeld, by first | omega | (simp; omega), by first | omega | (simp; omega), by rw [res.out, mergeF_lt hxy, List.append_assoc]; rfl⟩⟩, by simp [slLen]⟩
    · have hcmp : Lib.compareInt x y = 1 := by unfold Lib.compareInt; rw [if_neg (by omega), if_pos hxy]
      rw [hcmp]
      go_upto_region 8 with fail
      refine wp_region_held_drew (S := fun W => Below w.heap.size w W) (by kernel_rfl) b0.drew (fun hHeld => ?_)
      refine wpAnyH_take (i := 0) (v := .slice ao zs.length cap) rfl (by kernel_rfl) (by kernel_rfl) (by kernel_rfl) (fun _ _ _ h => h) (Or.inl ⟨by rfl, fun W _ => by kernel_rfl⟩) hHeld ?_
      try simp only [Act.put, List.getElem_toArray, List.getElem_cons_zero, List.setIfInBounds_toArray, List.set_cons_zero, List.set_cons_succ]
      refine wpAnyH_take (i := 1) (v := .slice (some ⟨r, s, none⟩) (ys'.length + 1) c2) rfl (by kernel_rfl) (by kernel_rfl) (by kernel_rfl) (fun _ _ _ h => h) (Or.inl ⟨by rfl, fun W _ => by kernel_rfl⟩) hHeld ?_
      try simp only [Act.put, List.getElem_toArray, List.getElem_cons_succ, List.getElem_cons_zero, List.setIfInBounds_toArray, List.set_cons_zero, List.set_cons_succ]
      refine wpAnyH_take (i := 2) (v := .pointer (some ⟨r, s, none⟩)) rfl (by kernel_rfl) (by kernel_rfl) (by kernel_rfl) (fun _ _ _ h => h) (Or.inl ⟨by rfl, fun W _ => by go_simp⟩) hHeld ?_
      try simp only [Act.put, List.getElem_toArray, List.getElem_cons_succ, List.getElem_cons_zero, List.setIfInBounds_toArray, List.set_cons_zero, List.set_cons_succ]
      refine wpAnyH_take (i := 3) (v := .int .i64 y) rfl (by kernel_rfl) (by kernel_rfl) (by kernel_rfl) (fun _ _ _ h => h) (Or.inl ⟨by rfl, fun W hS => by (have k : W.cell? ⟨r, s, none⟩ = some (.int .i64 y) := (hS.cell (p := ⟨r, s, none⟩) hr).trans hy1.out); go_simp⟩) hHeld ?_
      try simp only [Act.put, List.getElem_toArray, List.getElem_cons_succ, List.getElem_cons_zero, List.setIfInBounds_toArray, List.set_cons_zero, List.set_cons_succ]
      refine wpAnyH_take (i := 6) (v := .slice (some ⟨r, s, none⟩) (ys'.length + 1) c2) rfl (by kernel_rfl) (by kernel_rfl) (by kernel_rfl) (fun _ _ _ h => h) (Or.inl ⟨by rfl, fun W _ => by kernel_rfl⟩) hHeld ?_
      try simp only [Act.put, List.getElem_toArray, List.getElem_cons_succ, List.getElem_cons_zero, List.setIfInBounds_toArray, List.set_cons_zero, List.set_cons_succ]
      refine wpAnyH_take (i := 7) (v := .slice A4 ys'.length (c2 - 1)) rfl (by kernel_rfl) (by kernel_rfl) (by kernel_rfl) (fun _ _ _ h => h) (Or.inl ⟨by rfl, fun W _ => hcut2.out _ _ _ rfl rfl rfl W⟩) hHeld ?_
      try simp only [Act.put, List.getElem_toArray, List.getElem_cons_succ, List.getElem_cons_zero, List.setIfInBounds_toArray, List.set_cons_zero, List.set_cons_succ]
      refine wpAnyH_ready (rs := [4]) (by kernel_rfl) (by simp) (AllReadyH.cons rfl (fun K hK2 => ?_) AllReadyH.nil)
      rw [if_pos (by rfl)]
      simp only [List.getElem_toArray, List.getElem_cons_succ, List.getElem_cons_zero]
      go_wp2_with fail
      refine hK2.out _ _ (hHeld.alloc hHeld.size _) (fun hHeld2 => ?_)
      clear hK2 K hHeld
      have hHeld := hHeld2
      clear hHeld2
      try simp only [Act.put, List.getElem_toArray, List.getElem_cons_succ, List.getElem_cons_zero, List.setIfInBounds_toArray, List.set_cons_zero, List.set_cons_succ]
      refine wpAnyH_ready (rs := [5]) (by kernel_rfl) (by simp) (AllReadyH.cons rfl (fun K hK2 => ?_) AllReadyH.nil)
      rw [if_pos (by rfl)]
      simp only [List.getElem_toArray, List.getElem_cons_succ, List.getElem_cons_zero]
      obtain ⟨v9, w9, hr9, ho9, hg9, hb9⟩ := run_app (w := W0.drew.alloc (.cells #[.int .i64 y] 3)) 25 (.slice ao zs.length cap) zs [y] (some ⟨W0.heap.size, 0, none⟩) 1 (o0.out.drew.alloc _) (Nat.le_trans b0.size (by simp)) (by simp; omega) (.inr ⟨_, _, rfl, fun j u hu => by rw [show (W0.heap.size : Nat) = W0.drew.heap.size from rfl, World.cell?_alloc_new, Nat.zero_add]; rcases j with _ | j <;> simp at hu ⊢; exact hu⟩)
      refine wp_app _ _ _ rfl _ _ _ rfl rfl hr9 ?_
      have hB9 : Below w.heap.size w w9 := hHeld.grown hg9 hHeld.size (fun k hk => (o0.out.lt k hk).1)
      refine hK2.out _ _ (hB9) (fun hHeld2 => ?_)
      clear hK2 K hHeld
      have hHeld := hHeld2
      clear hHeld2
      try simp only [Act.put, List.getElem_toArray, List.getElem_cons_succ, List.getElem_cons_zero, List.setIfInBounds_toArray, List.set_cons_zero, List.set_cons_succ]
      refine wpAnyH_take (i := 8) (v := v9) rfl (by kernel_rfl) (by kernel_rfl) (by kernel_rfl) (fun _ _ _ h => h) (Or.inl ⟨by rfl, fun W _ => by kernel_rfl⟩) hHeld ?_
      try simp only [Act.put, List.getElem_toArray, List.getElem_cons_succ, List.getElem_cons_zero, List.setIfInBounds_toArray, List.set_cons_zero, List.set_cons_succ]
      refine wpAnyH_take (i := 9) (v := .slice A4 ys'.length (c2 - 1)) rfl (by kernel_rfl) (by kernel_rfl) (by kernel_rfl) (fun _ _ _ h => h) (Or.inl ⟨by rfl, fun W _ => by kernel_rfl⟩) hHeld ?_
      try simp only [Act.put, List.getElem_toArray, List.getElem_cons_succ, List.getElem_cons_zero, List.setIfInBounds_toArray, List.set_cons_zero, List.set_cons_succ]
      refine wpAnyH_done (by kernel_rfl) ?_ _
      obtain ⟨ao9, cap9, rfl⟩ := own_slice ho9
      go_wp2_with fail
      refine ⟨⟨x :: xs', ys', zs ++ [y], _, A4, ao9, c1, c2 - 1, cap9, n, rfl, rfl, rfl, ⟨a1, a2, by omega, by omega, axk.out, bx4.out, ho9, hHeld, by first | omega | (simp; omega), by first | omega | (simp; omega), by rw [res.out, mergeF_gt hxy, List.append_assoc]; rfl⟩⟩, by simp [slLen]⟩
    · subst hxy
      have hcmp : Lib.compareInt x x = 0 := by unfold Lib.compareInt; rw [if_neg (by omega), if_neg (by omega)]
      rw [hcmp]
      go_upto_region 4 with fail
      refine wp_region_held_drew (S := fun W => Below w.heap.size w W) (by kernel_rfl) b0.drew (fun hHeld => ?_)
      refine wpAnyH_take (i := 0) (v := .slice ao zs.length cap) rfl (by kernel_rfl) (by kernel_rfl) (by kernel_rfl) (fun _ _ _ h => h) (Or.inl ⟨by rfl, fun W _ => by kernel_rfl⟩) hHeld ?_
      try simp only [Act.put, List.getElem_toArray, List.getElem_cons_zero, List.setIfInBounds_toArray, List.set_cons_zero, List.set_cons_succ]
      refine wpAnyH_take (i := 1) (v := .slice (some ⟨p, q, none⟩) (xs'.length + 1) c1) rfl (by kernel_rfl) (by kernel_rfl) (by kernel_rfl) (fun _ _ _ h => h) (Or.inl ⟨by rfl, fun W _ => by kernel_rfl⟩) hHeld ?_
      try simp only [Act.put, List.getElem_toArray, List.getElem_cons_succ, List.getElem_cons_zero, List.setIfInBounds_toArray, List.set_cons_zero, List.set_cons_succ]
      refine wpAnyH_take (i := 2) (v := .pointer (some ⟨p, q, none⟩)) rfl (by kernel_rfl) (by kernel_rfl) (by kernel_rfl) (fun _ _ _ h => h) (Or.inl ⟨by rfl, fun W _ => by go_simp⟩) hHeld ?_
      try simp only [Act.put, List.getElem_toArray, List.getElem_cons_succ, List.getElem_cons_zero, List.setIfInBounds_toArray, List.set_cons_zero, List.set_cons_succ]
      refine wpAnyH_take (i := 3) (v := .int .i64 x) rfl (by kernel_rfl) (by kernel_rfl) (by kernel_rfl) (fun _ _ _ h => h) (Or.inl ⟨by rfl, fun W hS => by (have k : W.cell? ⟨p, q, none⟩ = some (.int .i64 x) := (hS.cell (p := ⟨p, q, none⟩) hp).trans hx1.out); go_simp⟩) hHeld ?_
      try simp only [Act.put, List.getElem_toArray, List.getElem_cons_succ, List.getElem_cons_zero, List.setIfInBounds_toArray, List.set_cons_zero, List.set_cons_succ]
      refine wpAnyH_take (i := 6) (v := .slice (some ⟨p, q, none⟩) (xs'.length + 1) c1) rfl (by kernel_rfl) (by kernel_rfl) (by kernel_rfl) (fun _ _ _ h => h) (Or.inl ⟨by rfl, fun W _ => by kernel_rfl⟩) hHeld ?_
      try simp only [Act.put, List.getElem_toArray, List.getElem_cons_succ, List.getElem_cons_zero, List.setIfInBounds_toArray, List.set_cons_zero, List.set_cons_succ]
      refine wpAnyH_take (i := 7) (v := .slice A3 xs'.length (c1 - 1)) rfl (by kernel_rfl) (by kernel_rfl) (by kernel_rfl) (fun _ _ _ h => h) (Or.inl ⟨by rfl, fun W _ => hcut1.out _ _ _ rfl rfl rfl W⟩) hHeld ?_
      try simp only [Act.put, List.getElem_toArray, List.getElem_cons_succ, List.getElem_cons_zero, List.setIfInBounds_toArray, List.set_cons_zero, List.set_cons_succ]
      refine wpAnyH_take (i := 8) (v := .slice (some ⟨r, s, none⟩) (ys'.length + 1) c2) rfl (by kernel_rfl) (by kernel_rfl) (by kernel_rfl) (fun _ _ _ h => h) (Or.inl ⟨by rfl, fun W _ => by kernel_rfl⟩) hHeld ?_
      try simp only [Act.put, List.getElem_toArray, List.getElem_cons_succ, List.getElem_cons_zero, List.setIfInBounds_toArray, List.set_cons_zero, List.set_cons_succ]
      refine wpAnyH_take (i := 9) (v := .slice A4 ys'.length (c2 - 1)) rfl (by kernel_rfl) (by kernel_rfl) (by kernel_rfl) (fun _ _ _ h => h) (Or.inl ⟨by rfl, fun W _ => hcut2.out _ _ _ rfl rfl rfl W⟩) hHeld ?_
      try simp only [Act.put, List.getElem_toArray, List.getElem_cons_succ, List.getElem_cons_zero, List.setIfInBounds_toArray, List.set_cons_zero, List.set_cons_succ]
      refine wpAnyH_ready (rs := [4]) (by kernel_rfl) (by simp) (AllReadyH.cons rfl (fun K hK2 => ?_) AllReadyH.nil)
      rw [if_pos (by rfl)]
      simp only [List.getElem_toArray, List.getElem_cons_succ, List.getElem_cons_zero]
      go_wp2_with fail
      refine hK2.out _ _ (hHeld.alloc hHeld.size _) (fun hHeld2 => ?_)
      clear hK2 K hHeld
      have hHeld := hHeld2
      clear hHeld2
      try simp only [Act.put, List.getElem_toArray, List.getElem_cons_succ, List.getElem_cons_zero, List.setIfInBounds_toArray, List.set_cons_zero, List.set_cons_succ]
      refine wpAnyH_ready (rs := [5]) (by kernel_rfl) (by simp) (AllReadyH.cons rfl (fun K hK2 => ?_) AllReadyH.nil)
      rw [if_pos (by rfl)]
      simp only [List.getElem_toArray, List.getElem_cons_succ, List.getElem_cons_zero]
      obtain ⟨v9, w9, hr9, ho9, hg9, hb9⟩ := run_app (w := W0.drew.alloc (.cells #[.int .i64 x] 3)) 25 (.slice ao zs.length cap) zs [x] (some ⟨W0.heap.size, 0, none⟩) 1 (o0.out.drew.alloc _) (Nat.le_trans b0.size (by simp)) (by simp; omega) (.inr ⟨_, _, rfl, fun j u hu => by rw [show (W0.heap.size : Nat) = W0.drew.heap.size from rfl, World.cell?_alloc_new, Nat.zero_add]; rcases j with _ | j <;> simp at hu ⊢; exact hu⟩)
      refine wp_app _ _ _ rfl _ _ _ rfl rfl hr9 ?_
      have hB9 : Below w.heap.size w w9 := hHeld.grown hg9 hHeld.size (fun k hk => (o0.out.lt k hk).1)
      refine hK2.out _ _ (hB9) (fun hHeld2 => ?_)
      clear hK2 K hHeld
      have hHeld := hHeld2
      clear hHeld2
      try simp only [Act.put, List.getElem_toArray, List.getElem_cons_succ, List.getElem_cons_zero, List.setIfInBounds_toArray, List.set_cons_zero, List.set_cons_succ]
      refine wpAnyH_take (i := 10) (v := v9) rfl (by kernel_rfl) (by kernel_rfl) (by kernel_rfl) (fun _ _ _ h => h) (Or.inl ⟨by rfl, fun W _ => by kernel_rfl⟩) hHeld ?_
      try simp only [Act.put, List.getElem_toArray, List.getElem_cons_succ, List.getElem_cons_zero, List.setIfInBounds_toArray, List.set_cons_zero, List.set_cons_succ]
      refine wpAnyH_take (i := 11) (v := .slice A3 xs'.length (c1 - 1)) rfl (by kernel_rfl) (by kernel_rfl) (by kernel_rfl) (fun _ _ _ h => h) (Or.inl ⟨by rfl, fun W _ => by kernel_rfl⟩) hHeld ?_
      try simp only [Act.put, List.getElem_toArray, List.getElem_cons_succ, List.getElem_cons_zero, List.setIfInBounds_toArray, List.set_cons_zero, List.set_cons_succ]
      refine wpAnyH_take (i := 12) (v := .slice A4 ys'.length (c2 - 1)) rfl (by kernel_rfl) (by kernel_rfl) (by kernel_rfl) (fun _ _ _ h => h) (Or.inl ⟨by rfl, fun W _ => by kernel_rfl⟩) hHeld ?_
      try simp only [Act.put, List.getElem_toArray, List.getElem_cons_succ, List.getElem_cons_zero, List.setIfInBounds_toArray, List.set_cons_zero, List.set_cons_succ]
      refine wpAnyH_done (by kernel_rfl) ?_ _
      obtain ⟨ao9, cap9, rfl⟩ := own_slice ho9
      go_wp2_with fail
      refine ⟨⟨xs', ys', zs ++ [x], A3, A4, ao9, c1 - 1, c2 - 1, cap9, n, rfl, rfl, rfl, ⟨by omega, by omega, by omega, by omega, ax3.out, bx4.out, ho9, hHeld, by first | omega | (simp; omega), by first | omega | (simp; omega), by rw [res.out, mergeF_eq rfl, List.append_assoc]; rfl⟩⟩, by simp [slLen]; omega⟩
end Go.Proofs.YtebeajnaamglkaaGreatDoor
namespace Go.Proofs.YtebeajnaamglkaaGreatDoor
open Go.RowKit
theorem Clone_RL (v : Value) (l : List Int) (B : Nat) (w : World) (h : RL w B v l) (hl : l.length ≤ 1000000) :
    Calls Tryz.prog 30 #[v] w (NewRL w l) := by
  obtain ⟨A, c, rfl, h1, h2, h3⟩ := h.form
  rcases h3 with rfl | ⟨b, o, rfl, hb, hc⟩
  · rcases A with _ | ad
    · refine (Tryz.slices_Clone_int_nil 0 c w).mono ?_
      rintro e w' ⟨he, rfl⟩
      exact ⟨⟨_, he, RP.nil _ _⟩, Below.refl _ _⟩
    · refine (Tryz.slices_Clone_int_zero ad c w).mono ?_
      rintro e w' ⟨v', he, ho, -, hb⟩
      exact ⟨⟨v', he, RP.of_own (l := []) ho rfl⟩, hb⟩
  · refine (Tryz.slices_Clone_int b o l.length c l w (Nat.le_refl _) (by omega) (fun j hj => ?_)).mono ?_
    · rw [hc j l[j] (List.getElem?_eq_getElem hj)]; simp [List.getD, hj]
    · rintro e w' ⟨v', he, ho, -, hb⟩
      rw [List.take_length] at ho
      exact ⟨⟨v', he, RP.of_own ho rfl⟩, hb⟩
/-- A taint's cells: 32 lists and the path's. -/
structure TS (w : World) (P : Nat → Prop) (cs : List Value) (T : List (List Int)) : Prop where
  lc : cs.length = 33
  lt : T.length = 33
  at_ : ∀ (j : Nat) (v : Value) (l : List Int), cs[j]? = some v → T[j]? = some l → RP w P v l
theorem TS.below {w w' : World} {P : Nat → Prop} {cs : List Value} {T : List (List Int)} (h : TS w P cs T) (hb : Below w.heap.size w w') : TS w' P cs T :=
  ⟨h.lc, h.lt, fun j v l h1 h2 => (h.at_ j v l h1 h2).below hb⟩
theorem TS.mono {w : World} {P Q : Nat → Prop} {cs : List Value} {T : List (List Int)} (h : TS w P cs T) (hq : ∀ b, P b → Q b) : TS w Q cs T :=
  ⟨h.lc, h.lt, fun j v l h1 h2 => (h.at_ j v l h1 h2).mono hq⟩
theorem TS.setCell {w : World} {P : Nat → Prop} {cs : List Value} {T : List (List Int)} (h : TS w P cs T) (p : Addr) (u : Value) (hp : ¬ P p.block) : TS (w.setCell p u) P cs T :=
  ⟨h.lc, h.lt, fun j v l h1 h2 => (h.at_ j v l h1 h2).setCell p u hp⟩
theorem TS.get {w : World} {P : Nat → Prop} {cs : List Value} {T : List (List Int)} (h : TS w P cs T) (j : Nat) (hj : j < 33) : ∃ v l, cs[j]? = some v ∧ T[j]? = some l ∧ T.getD j [] = l ∧ RP w P v l := by
  have h1 : j < cs.length := by rw [h.lc]; exact hj
  have h2 : j < T.length := by rw [h.lt]; exact hj
  refine ⟨cs[j], T[j], List.getElem?_eq_getElem h1, List.getElem?_eq_getElem h2, by simp [List.getD, h2], h.at_ j _ _ (List.getElem?_eq_getElem h1) (List.getElem?_eq_getElem h2)⟩
theorem TS.one {w : World} {P : Nat → Prop} {cs : List Value} {T : List (List Int)} (h : TS w P cs T) : ∀ v ∈ cs, v.oneCell' = true := fun v hv => by
  obtain ⟨j, hj, rfl⟩ := List.mem_iff_getElem.1 hv
  have hl : j < T.length := by rw [h.lt, ← h.lc]; exact hj
  exact (h.at_ j _ _ (List.getElem?_eq_getElem hj) (List.getElem?_eq_getElem hl)).one
/-- A list in the box turned. -/
theorem TS.set {w : World} {P : Nat → Prop} {cs : List Value} {T : List (List Int)} (h : TS w P cs T) (k : Nat) (v : Value) (l : List Int) (hr : RP w P v l) : TS w P (cs.set k v) (T.set k l) :=
  ⟨by rw [List.length_set]; exact h.lc, by rw [List.length_set]; exact h.lt, fun j u m h1 h2 => by
    by_cases e : k = j
    · subst e
      by_cases hk : k < 33
      · rw [List.getElem?_set_self (by rw [h.lc]; exact hk)] at h1
        rw [List.getElem?_set_self (by rw [h.lt]; exact hk)] at h2
        cases h1; cases h2; exact hr
      · rw [List.getElem?_eq_none (by rw [List.length_set, h.lc]; omega)] at h1; cases h1
    · rw [List.getElem?_set_ne e] at h1 h2
      exact h.at_ j u m h1 h2⟩
/-- A slice with its list. -/
structure RS (w : World) (P : Nat → Prop) where
  v : Value
  l : List Int
  h : RP w P v l
instance (w : World) (P : Nat → Prop) : Inhabited (RS w P) := ⟨⟨_, _, RP.nil w P⟩⟩
/-- The first 32 lists, with their slices. -/
def TS.rows {w : World} {P : Nat → Prop} {cs : List Value} {T : List (List Int)} (h : TS w P cs T) : List (RS w P) :=
  List.ofFn fun j : Fin 32 => ⟨cs[j.1]'(by rw [h.lc]; omega), T[j.1]'(by rw [h.lt]; omega), h.at_ j.1 _ _ (List.getElem?_eq_getElem _) (List.getElem?_eq_getElem _)⟩
theorem TS.rows_len {w : World} {P : Nat → Prop} {cs : List Value} {T : List (List Int)} (h : TS w P cs T) : h.rows.length = 32 := List.length_ofFn
theorem TS.rows_v {w : World} {P : Nat → Prop} {cs : List Value} {T : List (List Int)} (h : TS w P cs T) (j : Nat) (hj : j < 32) : cs[j]? = some h.rows[j]!.v := by
  have h1 : j < cs.length := by rw [h.lc]; omega
  rw [List.getElem?_eq_getElem h1, getElem!_pos h.rows j (by rw [h.rows_len]; exact hj)]
  simp only [TS.rows, List.getElem_ofFn]
theorem TS.rows_any {w : World} {P : Nat → Prop} {cs : List Value} {T : List (List Int)} (h : TS w P cs T) (p : List Int → Bool) : h.rows.any (fun x => p x.l) = (T.take 32).any p := by
  have e : h.rows.map (·.l) = T.take 32 := by
    apply List.ext_getElem?
    intro j
    by_cases hj : j < 32
    · have h2 : j < T.length := by rw [h.lt]; omega
      rw [List.getElem?_map, List.getElem?_take_of_lt hj, List.getElem?_eq_getElem h2, List.getElem?_eq_getElem (by rw [h.rows_len]; exact hj)]
      simp only [TS.rows, List.getElem_ofFn, Option.map_some]
    · rw [List.getElem?_eq_none (by simp [h.rows_len]; omega), List.getElem?_eq_none (by simp; omega)]
  rw [← e, List.any_map]; rfl
def taintE (T : List (List Int)) : Int := if (T.getD 0 []).isEmpty && risingB (T.getD 32 []) && !((T.take 32).any fun l => !risingB l) then 0 else 2
theorem notRising_any (v : Value) (l : List Int) (B : Nat) (w : World) (h : RL w B v l) :
    Calls Tryz.prog 41 #[v] w fun e w' => e = .returned (.bool (!risingB l)) ∧ w = w' := by
  have hR := Lib.hid (fun W => Rising_any v l B W)
  go_enter Tryz.func41, Tryz.ntmps41
  go_wp2_with (go_at_call 18; refine (hR.out _ h).mono ?_; rintro e w' ⟨rfl, rfl⟩)
  go_ret
  exact ⟨rfl, rfl⟩
theorem Rows_bad (cs : List Value) (T : List (List Int)) (w : World) (P : Nat → Prop) (b : Nat) (h : TS w P cs T) (hc : ∀ j v, cs[j]? = some v → w.cell? ⟨b, j, none⟩ = some v) :
    Calls Tryz.prog 40 #[.slice (some ⟨b, 0, none⟩) 32 32, .func (.func 41) #[] #[]] w fun e w' => e = .returned (.bool ((T.take 32).any fun l => !risingB l)) ∧ ∃ q, w' = w.drewN q := by
  have eg : ∀ args w, (callFunc 41 args).run Tryz.prog w = .ok (.enter 41 args) w := enters_of Tryz.func41 (by kernel_rfl) rfl
  have hcon := Tryz.slices_ContainsFunc_f40 (fun x : RS w P => x.v) (fun x => !risingB x.l) 41 #[] eg b 0 32 32 h.rows w
    (fun W x hb => (notRising_any x.v x.l _ W (x.h.below hb).rl).mono fun e w' ⟨he, hw⟩ => ⟨he, 0, hw.symm⟩) (by rw [h.rows_len]; exact Nat.le_refl _) (by decide)
    (fun j hj => by rw [h.rows_len] at hj; rw [Nat.zero_add]; exact hc j _ (h.rows_v j hj))
  rw [List.take_of_length_le (by rw [h.rows_len]; exact Nat.le_refl _), h.rows_any fun l => !risingB l] at hcon
  exact hcon
set_option maxRecDepth 100000 in
set_option maxHeartbeats 4000000 in
/-- taint.Check, whatever the taint. -/
theorem TCheck_any (cs : List Value) (T : List (List Int)) (P : Nat → Prop) (w : World) (h : TS w P cs T) :
    Calls Tryz.prog 13 #[.agg cs.toArray] w fun e w' => e = .returned (.int .i64 (taintE T)) ∧ Below w.heap.size w w' := by
  have hb1 : Below w.heap.size w (w.alloc (.cells cs.toArray 28)) := (Below.refl _ _).alloc (Nat.le_refl _) _
  have hc1 : Hid (∀ j v, cs[j]? = some v → (w.alloc (.cells cs.toArray 28)).cell? ⟨w.heap.size, j, none⟩ = some v) := Lib.hid fun j v hv => by rw [World.cell?_alloc_new]; simpa using hv
  have h1 := h.below hb1
  obtain ⟨v0, l0, e0, t0, g0, r0⟩ := h1.get 0 (by decide)
  obtain ⟨v32, l32, e32, t32, g32, r32⟩ := h1.get 32 (by decide)
  have c0 := hc1.out 0 v0 e0
  have c32 := hc1.out 32 v32 e32
  have hbad := Lib.hid (Rows_bad cs T _ P w.heap.size h1 hc1.out)
  have hris := Lib.hid (Rising_any v32 l32 _ _ r32.rl)
  have hE : taintE T = if l0.isEmpty && risingB l32 && !((T.take 32).any fun l => !risingB l) then 0 else 2 := by unfold taintE; rw [g0, g32]
  rw [hE]
  clear hE g0 g32 t0 t32 r32 h h1 hc1
  obtain ⟨A, c, rfl, a1, a2, a3⟩ := r0.form
  clear r0 a3
  unfold maxLen at a2
  generalize ((T.take 32).any fun l => !risingB l) = bad at hbad ⊢
  generalize risingB l32 = ris at hris ⊢
  rcases l0 with _ | ⟨x, l0⟩
  · cases ris
    · go_enter Tryz.func13, Tryz.ntmps13
      go_wp2_with (first | (go_at_call 18; refine hris.out.mono ?_; rintro e w' ⟨rfl, rfl⟩) | (go_at_call 40; refine hbad.out.mono ?_; rintro e w' ⟨rfl, q, rfl⟩))
      go_ret
      exact ⟨rfl, hb1⟩
    · cases bad
      · go_enter Tryz.func13, Tryz.ntmps13
        go_wp2_with (first | (go_at_call 18; refine hris.out.mono ?_; rintro e w' ⟨rfl, rfl⟩) | (go_at_call 40; refine hbad.out.mono ?_; rintro e w' ⟨rfl, q, rfl⟩))
        go_ret
        exact ⟨rfl, hb1.trans ⟨rfl, rfl, rfl, Nat.le_refl _, fun _ _ => rfl⟩⟩
      · go_enter Tryz.func13, Tryz.ntmps13
        go_wp2_with (first | (go_at_call 18; refine hris.out.mono ?_; rintro e w' ⟨rfl, rfl⟩) | (go_at_call 40; refine hbad.out.mono ?_; rintro e w' ⟨rfl, q, rfl⟩))
        go_ret
        exact ⟨rfl, hb1.trans ⟨rfl, rfl, rfl, Nat.le_refl _, fun _ _ => rfl⟩⟩
  · have hl : (0 : Int) < ((l0.length + 1 : Nat) : Int) := by omega
    simp only [List.length_cons] at *
    go_enter Tryz.func13, Tryz.ntmps13
    go_wp2_with fail
    go_ret
    exact ⟨rfl, hb1⟩
end Go.Proofs.YtebeajnaamglkaaGreatDoor
namespace Go.Proofs.YtebeajnaamglkaaGreatDoor
open Go.RowKit
/-- A taint in memory of its own. -/
def OwnPost (w : World) (T : List (List Int)) (e : Ending) (w' : World) : Prop := ∃ cs', e = .returned (.agg cs'.toArray) ∧ TS w' (fun b => w.heap.size ≤ b) cs' T ∧ Below w.heap.size w w'
/-- Where own stands: its box, the result's block; the lists lie elsewhere. -/
structure OW (w W : World) (k : Nat) (T : List (List Int)) : Prop where
  box : ∃ cs', W.rangeAt w.heap.size 0 cs' ∧ TS W (fun b => b ≠ w.heap.size ∧ b ≠ w.heap.size + 1) cs' T ∧ ∀ j v l, j < k → cs'[j]? = some v → T[j]? = some l → RP W (fun b => w.heap.size + 2 ≤ b) v l
  th : W.there w.heap.size 0 33
  z : W.there (w.heap.size + 1) 0 33
  bl : Below w.heap.size w W
  lt : w.heap.size + 1 < W.heap.size
theorem OW.keep {w W W' : World} {k : Nat} {T : List (List Int)} (h : OW w W k T) (hb : Below W.heap.size W W') : OW w W' k T := by
  have hl : w.heap.size < W.heap.size := Nat.lt_of_succ_lt h.lt
  obtain ⟨cs', h1, h2, h3⟩ := h.box
  exact ⟨⟨cs', fun j v hv => by rw [hb.cell (p := ⟨w.heap.size, 0 + j, none⟩) hl]; exact h1 j v hv, h2.below hb, fun j v l hj e1 e2 => (h3 j v l hj e1 e2).below hb⟩,
    fun j hj => by rw [hb.cell (p := ⟨w.heap.size, 0 + j, none⟩) hl, hb.frozen (p := ⟨w.heap.size, 0 + j, none⟩) hl]; exact h.th j hj,
    fun j hj => by rw [hb.cell (p := ⟨w.heap.size + 1, 0 + j, none⟩) h.lt, hb.frozen (p := ⟨w.heap.size + 1, 0 + j, none⟩) h.lt]; exact h.z j hj,
    h.bl.trans (hb.mono (Nat.le_of_lt hl)), Nat.lt_of_lt_of_le h.lt hb.size⟩
theorem OW.put {w W : World} {k : Nat} {T : List (List Int)} (h : OW w W k T) {v : Value} {l : List Int} (hl : T[k]? = some l) (hv : RP W (fun b => w.heap.size + 2 ≤ b) v l) : OW w (W.setCell ⟨w.heap.size, k, none⟩ v) (k + 1) T := by
  obtain ⟨cs', h1, h2, h3⟩ := h.box
  have hk : k < 33 := by have := (List.getElem?_eq_some_iff.1 hl).1; rw [h2.lt] at this; exact this
  have hlc := h2.lc
  have hTk : T.set k l = T := List.ext_getElem? fun j => by
    by_cases e : k = j
    · subst e; rw [List.getElem?_set_self (by rw [h2.lt]; exact hk), hl]
    · rw [List.getElem?_set_ne e]
  have hc0 : W.cell? ⟨w.heap.size, k, none⟩ = some cs'[k] := by have := h1 k cs'[k] (List.getElem?_eq_getElem (by omega)); rwa [Nat.zero_add] at this
  have hS := (h2.set k v l (hv.mono fun b hb => ⟨by omega, by omega⟩)).setCell ⟨w.heap.size, k, none⟩ v (by simp)
  rw [hTk] at hS
  refine ⟨⟨cs'.set k v, fun j u hu => ?_, hS, fun j u m hj e1 e2 => ?_⟩, World.there_setCells h.th _ k [v], World.there_setCells h.z _ k [v], h.bl.setCell (Nat.le_refl _) v, by simpa using h.lt⟩
  · rw [Nat.zero_add]
    by_cases e : k = j
    · subst e
      rw [List.getElem?_set_self (by omega)] at hu
      cases hu
      exact World.cell?_setCell_same _ _ _ hc0
    · rw [List.getElem?_set_ne e] at hu
      rw [World.cell?_setCell_other _ _ _ _ (fun q => e (by injection q))]
      have := h1 j u hu
      rw [Nat.zero_add] at this; exact this
  · by_cases e : k = j
    · subst e
      rw [List.getElem?_set_self (by omega)] at e1
      rw [hl] at e2
      cases e1; cases e2
      exact hv.setCell _ _ (by simp)
    · rw [List.getElem?_set_ne e] at e1
      exact (h3 j u m (by omega) e1 e2).setCell _ _ (by simp)
theorem OW.old {w W : World} {k : Nat} {T : List (List Int)} (h : OW w W k T) (j : Nat) (hj : j < 33) : ∃ v, W.cell? ⟨w.heap.size, j, none⟩ = some v := by
  have := (h.th j hj).1
  rw [Nat.zero_add] at this
  exact Option.isSome_iff_exists.1 this
theorem OW.thaw {w W : World} {k : Nat} {T : List (List Int)} (h : OW w W k T) (j : Nat) (hj : j < 33) : W.frozen? ⟨w.heap.size, j, none⟩ = false := by
  have := (h.th j hj).2; rwa [Nat.zero_add] at this
theorem size_taint : (Tryz.prog.info? 28).map (·.size) = some 33 := by kernel_rfl
theorem size_rows : (Tryz.prog.info? 26).map (·.size) = some 32 := by kernel_rfl
theorem TS.old {w : World} {P : Nat → Prop} {cs : List Value} {T : List (List Int)} (h : TS w P cs T) : TS w (fun b => b < w.heap.size) cs T :=
  ⟨h.lc, h.lt, fun j v l h1 h2 => (h.at_ j v l h1 h2).rl.rp (Nat.le_refl _)⟩
theorem OW.start (w : World) (cs : List Value) (T : List (List Int)) (P : Nat → Prop) (Z : Array Value) (t : TypeId) (h : TS w P cs T) (hZ : Z.size = 33) : OW w ((w.alloc (.cells cs.toArray t)).alloc (.cells Z t)) 0 T ∧ ((w.alloc (.cells cs.toArray t)).alloc (.cells Z t)).rangeAt w.heap.size 0 cs := by
  have b1 : Below w.heap.size w (w.alloc (.cells cs.toArray t)) := (Below.refl _ _).alloc (Nat.le_refl _) _
  have s1 : (w.alloc (.cells cs.toArray t)).heap.size = w.heap.size + 1 := by simp
  have b2 : Below (w.heap.size + 1) (w.alloc (.cells cs.toArray t)) ((w.alloc (.cells cs.toArray t)).alloc (.cells Z t)) := (Below.refl _ _).alloc (by rw [s1]; exact Nat.le_refl _) _
  have hr : ((w.alloc (.cells cs.toArray t)).alloc (.cells Z t)).rangeAt w.heap.size 0 cs := fun j v hv => by
    rw [b2.cell (p := ⟨w.heap.size, 0 + j, none⟩) (Nat.lt_succ_self _), World.cell?_alloc_new, Nat.zero_add]; simpa using hv
  have bl : Below w.heap.size w ((w.alloc (.cells cs.toArray t)).alloc (.cells Z t)) := b1.trans (b2.mono (Nat.le_succ _))
  refine ⟨⟨⟨cs, hr, (h.old.below bl).mono fun b hb => ⟨by omega, by omega⟩, fun j v l hj => absurd hj (Nat.not_lt_zero _)⟩, fun j hj => ⟨?_, ?_⟩, fun j hj => ⟨?_, by rw [← s1]; simp [go_sem]⟩, bl, by simp⟩, hr⟩
  · have hj' : j < cs.length := by rw [h.lc]; exact hj
    rw [hr j cs[j] (List.getElem?_eq_getElem hj')]; rfl
  · rw [b2.frozen (p := ⟨w.heap.size, 0 + j, none⟩) (Nat.lt_succ_self _)]; simp [go_sem]
  · rw [← s1, World.cell?_alloc_new, Nat.zero_add]; simp [hZ]; omega
theorem res_cell_mid {P : Program} {fn : Func} {p : Tmp} {ty : TypeId} (h : fn.results = #[.cell p ty]) (tmps : Array Value) (w : World) (b : Nat) (v : Value)
    (hp : tmps.getD p undef = .pointer (some ⟨b, 0, none⟩)) (hl : (loadVar ty ⟨b, 0, none⟩).run P w = .ok v w) : (results fn tmps).run P w = .ok v w := by
  have hp' : tmps[p]?.getD undef = .pointer (some ⟨b, 0, none⟩) := by simpa using hp
  simp [results, h, hp', asAddr, hl]
theorem tn_size (b : Nat) : ∀ (vs : List Value) (o : Nat) (w : World), (w.setCells b o vs).heap.size = w.heap.size
  | [], _, _ => rfl
  | v :: r, o, w => by rw [World.setCells, tn_size b r]; simp
theorem tn_below {B a : Nat} {w : World} (ha : B ≤ a) : ∀ (vs : List Value) (o : Nat) (W : World), Below B w W → Below B w (W.setCells a o vs)
  | [], _, _, h => h
  | v :: r, o, W, h => tn_below ha r (o + 1) _ (h.setCell ha _)
theorem RP.cells {w : World} {P : Nat → Prop} {v : Value} {l : List Int} (h : RP w P v l) (b o : Nat) (vs : List Value) (hp : ¬ P b) : RP (w.setCells b o vs) P v l :=
  h.keep (fun q hq _ => World.cell?_setCells_out b vs o w q (fun e _ => absurd (e ▸ hq) hp)) (by rw [tn_size]; exact Nat.le_refl _)
theorem run_index_rows (k : Nat) (hk : k < 32) (A : Array Value) (v : Value) (hv : A[k]? = some v) (W : World) : (Instr.index 26 (.agg A) (.int .i64 k)).run Tryz.prog W = .ok v W := by
  have hu2 := Tryz.underlying26
  have h0 : (0 : Int) ≤ (k : Int) ∧ (k : Int) < ((32 : Nat) : Int) := by omega
  unfold Instr.index
  simp only [Sem.run_bind, asIntOf, Sem.run_pure, Result.andThen_ok, run_underlying hu2]
  rw [if_pos h0]
  simp only [Sem.run_bind, Tryz.sizeOf25, Result.andThen_ok]
  unfold part
  simp [Sem.run_bind, Tryz.isAgg25, hv]
set_option maxRecDepth 100000 in
set_option maxHeartbeats 8000000 in
/-- taint.own, whatever the taint. -/
theorem own_any (cs : List Value) (T : List (List Int)) (P : Nat → Prop) (w : World) (h : TS w P cs T) (hlen : ∀ l ∈ T, l.length ≤ 100000) :
    Calls Tryz.prog 28 #[.agg cs.toArray] w (OwnPost w T) := by
  have hlc := h.lc
  have hu := Tryz.underlying28
  have hu2 := Tryz.underlying26
  have hi2 : Hid ((Tryz.prog.info? 26).map (·.size) = some (cs.take 32).length) := Lib.hid (by rw [List.length_take, hlc]; exact size_rows)
  have hrow : Hid (∀ k, k < 33 → ∃ v l, cs[k]? = some v ∧ T[k]? = some l ∧ RP w P v l ∧ l.length ≤ 100000) := Lib.hid fun k hk => by
    obtain ⟨v, l, h1, h2, -, h4⟩ := h.get k hk
    exact ⟨v, l, h1, h2, h4, hlen l (List.mem_of_getElem? h2)⟩
  obtain ⟨hOW, hr1⟩ := OW.start w cs T P #[.slice none 0 0, .slice none 0 0, .slice none 0 0, .slice none 0 0, .slice none 0 0, .slice none 0 0, .slice none 0 0, .slice none 0 0, .slice none 0 0, .slice none 0 0, .slice none 0 0, .slice none 0 0, .slice none 0 0, .slice none 0 0, .slice none 0 0, .slice none 0 0, .slice none 0 0, .slice none 0 0, .slice none 0 0, .slice none 0 0, .slice none 0 0, .slice none 0 0, .slice none 0 0, .slice none 0 0, .slice none 0 0, .slice none 0 0, .slice none 0 0, .slice none 0 0, .slice none 0 0, .slice none 0 0, .slice none 0 0, .slice none 0 0, .slice none 0 0] 28 h rfl
  have hr2 : ((w.alloc (.cells cs.toArray 28)).alloc (.cells #[.slice none 0 0, .slice none 0 0, .slice none 0 0, .slice none 0 0, .slice none 0 0, .slice none 0 0, .slice none 0 0, .slice none 0 0, .slice none 0 0, .slice none 0 0, .slice none 0 0, .slice none 0 0, .slice none 0 0, .slice none 0 0, .slice none 0 0, .slice none 0 0, .slice none 0 0, .slice none 0 0, .slice none 0 0, .slice none 0 0, .slice none 0 0, .slice none 0 0, .slice none 0 0, .slice none 0 0, .slice none 0 0, .slice none 0 0, .slice none 0 0, .slice none 0 0, .slice none 0 0, .slice none 0 0, .slice none 0 0, .slice none 0 0, .slice none 0 0] 28)).rangeAt w.heap.size 0 (cs.take 32) := fun j v hv => hr1 j v (by
    have hj : j < 32 := by have := (List.getElem?_eq_some_iff.1 hv).1; rw [List.length_take] at this; omega
    rw [List.getElem?_take_of_lt hj] at hv; exact hv)
  go_enter Tryz.func28, Tryz.ntmps28
  go_upto_region 1 with fail
  generalize (w.alloc (.cells cs.toArray 28)).alloc _ = W1 at hOW hr2 ⊢
  clear hr1 h hlen
  go_wp2_with (refine wpList_load_mid rfl 26 _ rfl w.heap.size 0 rfl (cs.take 32) _ hr2 hu2 rfl hi2.out ?_)
  clear hr2 hu2 hi2
  go_loopw [7] (fun i wr => ∃ k : Nat, k ≤ 32 ∧ i = .int .i64 k ∧ OW w wr k T) (fun i _ => 32 - (intOf i).toNat)
  case atStart => exact ⟨0, Nat.zero_le _, rfl, hOW⟩
  case round =>
    obtain ⟨k, hk, rfl, hW⟩ := hrel
    by_cases hlt : k < 32
    · obtain ⟨v, l, e1, e2, e3, e4⟩ := hrow.out k (by omega)
      have e5 : (cs.take 32)[k]? = some v := by rw [List.getElem?_take_of_lt hlt]; exact e1
      have hCl : Hid (∀ W, Below w.heap.size w W → Calls Tryz.prog 30 #[v] W (NewRL W l)) := Lib.hid fun W hb => Clone_RL v l w.heap.size W (e3.rl.below hb (Nat.le_refl _)) (by omega)
      have hix : Hid (∀ W, (Instr.index 26 (.agg (cs.take 32).toArray) (.int .i64 k)).run Tryz.prog W = .ok v W) := Lib.hid fun W => run_index_rows k hlt _ v (by simpa using e5) W
      have hd : decide ((k : Int) < 32) = true := by simp; omega
      replace e2 := Lib.hid e2
      replace e5 := Lib.hid e5
      replace hlc := Lib.hid hlc
      clear e1 e3
      have hfz : wr.frozen? ⟨w.heap.size, k, none⟩ = false := by have := (hW.th k (by omega)).2; rwa [Nat.zero_add] at this
      have hix1 := hix.out wr
      go_upto_region 4 with fail
      clear hix1
      go_wp2_with (go_at_call 30; refine (hCl.out _ hW.bl).mono ?_; rintro e w4 ⟨⟨v', rfl, hr⟩, hb4⟩; obtain ⟨A', c', hve, -⟩ := hr.form; obtain rfl := hve; have hW4 := hW.keep hb4; have c4 := hW4.old k (by omega); obtain ⟨x4, c4⟩ := c4; have f4 := hW4.thaw k (by omega))
      have hW5 := hW4.put e2.out (hr.mono fun b hb => by have := hW.lt; omega)
      go_roundw
      case rel => exact ⟨k + 1, by omega, by go_num, hW5⟩
      case measure => simp [intOf]; omega
    · obtain rfl : k = 32 := by omega
      obtain ⟨cs', r1, r2, r3⟩ := hW.box
      obtain ⟨v, l, e1, e2, -, e3⟩ := r2.get 32 (by decide)
      obtain ⟨v9, l9, -, e9, -, e4⟩ := hrow.out 32 (by decide)
      obtain rfl : l = l9 := Option.some.inj (e2.symm.trans e9)
      have c32 : wr.cell? ⟨w.heap.size, 32, none⟩ = some v := by have := r1 32 v e1; rwa [Nat.zero_add] at this
      have hCl := Lib.hid (Clone_RL v l _ wr e3.rl (by omega))
      have hd : decide (((32 : Nat) : Int) < 32) = false := by simp
      replace e2 := Lib.hid e2
      clear e1 e3 e9 r1 r2 r3
      go_upto_region 6 with fail
      go_upto_region 7 with (go_at_call 30; refine hCl.out.mono ?_; rintro e w4 ⟨⟨v', rfl, hr⟩, hb4⟩; obtain ⟨A', c', hve, -⟩ := hr.form; obtain rfl := hve; have hW4 := hW.keep hb4; have c4 := hW4.old 32 (by decide); obtain ⟨x4, c4⟩ := c4; have f4 := hW4.thaw 32 (by decide))
      have hW5 := hW4.put e2.out (hr.mono fun b hb => by have := hW.lt; omega)
      generalize w4.setCell ⟨w.heap.size, 32, none⟩ _ = w5 at hW5 ⊢
      obtain ⟨cs', r1, r2, r3⟩ := hW5.box
      have hz := hW5.z
      have hlc2 := Lib.hid r2.lc
      have hs1 : Hid ((Tryz.prog.info? 28).map (·.size) = some cs'.length) := Lib.hid (by rw [r2.lc]; exact size_taint)
      have hs2 : Hid ((Tryz.prog.info? 28).map (·.size) = some cs'.toArray.size) := Lib.hid (by rw [List.size_toArray, r2.lc]; exact size_taint)
      have h1c : Hid (cs'.toArray.all (·.oneCell') = true) := Lib.hid (all_oneCell_toArray r2.one)
      clear hCl e4 hr c4 f4 c32 hW4 hb4 hW hrow e2
      go_wp2_with (first | (refine wpList_load_mid rfl 28 _ rfl w.heap.size 0 rfl cs' _ r1 hu rfl hs1.out ?_) | (refine wpList_store_mid rfl 28 _ _ rfl (w.heap.size + 1) 0 cs'.toArray rfl rfl (fun j hj => hz j (by rw [List.size_toArray, hlc2.out] at hj; exact hj)) hs2.out h1c.out ?_; generalize hW9 : w5.setCells (w.heap.size + 1) 0 cs'.toArray.toList = w9; replace hW9 := Lib.hid hW9))
      have hr9 : w9.rangeAt (w.heap.size + 1) 0 cs' := by
        rw [← hW9.out]
        exact World.rangeAt_setCells_same _ _ _ _ (by rw [hlc2.out]; exact hz)
      have hlv := run_loadVar_mid w9 (w.heap.size + 1) 0 28 cs' _ hr9 hu rfl hs1.out
      refine bodyPost_ret (v := .agg cs'.toArray) (res_cell_mid Tryz.results28 _ _ _ _ rfl hlv) rfl ⟨cs', rfl, ⟨r2.lc, r2.lt, fun j v l q1 q2 => ?_⟩, ?_⟩
      · have hj : j < 33 := by have := (List.getElem?_eq_some_iff.1 q2).1; rw [r2.lt] at this; exact this
        rw [← hW9.out]
        exact ((r3 j v l hj q1 q2).cells (w.heap.size + 1) 0 _ (by omega)).mono fun b hb => by omega
      · rw [← hW9.out]; exact tn_below (Nat.le_succ _) _ _ _ hW5.bl
end Go.Proofs.YtebeajnaamglkaaGreatDoor
namespace Go.Proofs.YtebeajnaamglkaaGreatDoor
open Go.RowKit
theorem mergeF_len : ∀ (n : Nat) (a b : List Int), (mergeF n a b).length ≤ a.length + b.length
  | 0, a, b => by simp [mergeF]
  | n + 1, [], b => by simp [mergeF]
  | n + 1, x :: a, [] => by simp [mergeF]
  | n + 1, x :: a, y :: b => by
    unfold mergeF
    split
    · have := mergeF_len n a (y :: b); simp at this ⊢; omega
    · split
      · have := mergeF_len n (x :: a) b; simp at this ⊢; omega
      · have := mergeF_len n a b; simp at this ⊢; omega
theorem mergeL_len (a b : List Int) : (mergeL a b).length ≤ a.length + b.length := mergeF_len _ a b
/-- What some registers hang on. -/
def onF (T : List (List Int)) (acc : List Int) (rs : List Int) : List Int := rs.foldl (fun acc r => mergeL acc (T.getD r.toNat [])) acc
def onL (T : List (List Int)) (rs : List Int) : List Int := onF T [] rs
set_option maxRecDepth 100000 in
set_option maxHeartbeats 8000000 in
theorem on_any (b : Nat) (cs : List Value) (T : List (List Int)) (P : Nat → Prop) (v : Value) (rs : List Int) (w : World) (hc : w.rangeAt b 0 cs) (hb : b < w.heap.size) (h : TS w P cs T) (hlen : ∀ l ∈ T, l.length ≤ 100000)
    (hv : RL w w.heap.size v rs) (hrs : ∀ r ∈ rs, 0 ≤ r ∧ r < 32) (hn : rs.length ≤ 4) :
    Calls Tryz.prog 31 #[.pointer (some ⟨b, 0, none⟩), v] w (NewRL w (onL T rs)) := by
  obtain ⟨A, c, rfl, v1, v2, v3⟩ := hv.form
  unfold maxLen at v2
  have hrow : Hid (∀ r : Int, 0 ≤ r → r < 32 → ∃ u l, w.cell? ⟨b, r.toNat, none⟩ = some u ∧ RP w P u l ∧ l.length ≤ 100000 ∧ T.getD r.toNat [] = l) := Lib.hid fun r h0 h1 => by
    obtain ⟨u, l, e1, e2, e3, e4⟩ := h.get r.toNat (by omega)
    exact ⟨u, l, by have := hc r.toNat u e1; rwa [Nat.zero_add] at this, e4, hlen l (List.mem_of_getElem? e2), e3⟩
  obtain ⟨R, hR⟩ : ∃ R, onL T rs = R := ⟨_, rfl⟩
  rw [hR]
  replace hR := Lib.hid hR
  replace v3 := Lib.hid v3
  replace hrs := Lib.hid hrs
  clear hv hc h hlen
  go_enter Tryz.func31, Tryz.ntmps31
  go_wp2_with fail
  go_loopw [5, 10] (fun out i wr => ∃ (k : Nat) (acc : List Int) (A0 : Option Addr) (c0 : Nat), k ≤ rs.length ∧ i = .int .i64 k ∧ out = .slice A0 acc.length c0 ∧ RP wr (fun b => w.heap.size ≤ b) (.slice A0 acc.length c0) acc ∧ Below w.heap.size w wr ∧ acc.length ≤ k * 100000 ∧ Hid (onF T acc (rs.drop k) = R)) (fun _ i _ => rs.length - (intOf i).toNat)
  case atStart => exact ⟨0, [], none, 0, Nat.zero_le _, rfl, rfl, RP.nil _ _, Below.refl _ _, Nat.zero_le _, Lib.hid hR.out⟩
  case round =>
    obtain ⟨k, acc, A0, c0, hk, rfl, rfl, ho, hbw, hac, hr⟩ := hrel
    by_cases hlt : k < rs.length
    · obtain ⟨r, hx, hd⟩ := drop_at hlt
      obtain ⟨b', o, rfl, hb', hcl⟩ := v3.out.resolve_left (fun e => by rw [e] at hlt; exact absurd hlt (Nat.not_lt_zero _))
      have hcr : wr.cell? ⟨b', o + k, none⟩ = some (.int .i64 r) := (hbw.cell (p := ⟨b', o + k, none⟩) hb').trans (hcl k r hx)
      obtain ⟨r0, r1⟩ := hrs.out r (List.mem_of_getElem? hx)
      obtain ⟨u, l, e1, e2, e3, e4⟩ := hrow.out r r0 r1
      have hcu : wr.cell? ⟨b, r.toNat, none⟩ = some u := (hbw.cell (p := ⟨b, r.toNat, none⟩) hb).trans e1
      have hMg := Lib.hid (merge_any (.slice A0 acc.length c0) u acc l wr ho.rl (e2.below hbw).rl (by omega))
      have hml := mergeL_len acc l
      have hr2 : Hid (onF T (mergeL acc l) (rs.drop (k + 1)) = R) := Lib.hid (by rw [← hr.out, hd, ← e4]; rfl)
      replace hml : (mergeL acc l).length ≤ (k + 1) * 100000 := by omega
      generalize mergeL acc l = M at hMg hml hr2
      replace hd := Lib.hid hd
      replace hcl := Lib.hid hcl
      replace hac := Lib.hid hac
      clear hx e1 e2 e3 e4 ho
      go_wp2_with (go_at_call 34; refine hMg.out.mono ?_; rintro e w5 ⟨⟨v', rfl, hr5⟩, hb5⟩; obtain ⟨A', c', hve, q1, q2, q3⟩ := hr5.form; obtain rfl := hve)
      go_roundw
      case rel => exact ⟨k + 1, M, A', c', by omega, by go_num, rfl, hr5.mono fun b hb => Nat.le_trans hbw.size hb, hbw.trans (hb5.mono hbw.size), hml, hr2⟩
      case measure => simp [intOf]; omega
    · obtain rfl : k = rs.length := by omega
      have hRe : Hid (R = acc) := Lib.hid (by rw [← hr.out, List.drop_length]; rfl)
      go_wp2_with fail
      go_ret
      exact ⟨⟨_, rfl, by rw [hRe.out]; exact ho⟩, hbw⟩
end Go.Proofs.YtebeajnaamglkaaGreatDoor
