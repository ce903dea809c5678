/- The walks of slices.Clip and taint.merge. Conditions: the lists are not longer than a million numbers together. -/
import Derived.Test.YtebeajnaamglkaaDoorTntBs
import Derived.Great.Walk
import Derived.Laws.MakeOwn
import Derived.Maps.AppendAt
import Derived.Deep.RegionHeld
set_option linter.unusedSimpArgs false
set_option linter.unusedVariables false
namespace Go.Proofs.YtebeajnaamglkaaDoor
open Go.RowKit
/-- A list in new memory. -/
structure NewRL (w : World) (l : List Int) (e : Ending) (w' : World) : Prop where
  ret : ∃ v, e = .returned v ∧ RP w' (fun b => w.heap.size ≤ b) v l
  below : Below w.heap.size w w'
/-- Two rising lists as one. -/
def mergeF : Nat → List Int → List Int → List Int
  | 0, a, b => a ++ b
  | _ + 1, [], b => b
  | _ + 1, x :: a, [] => x :: a
  | n + 1, x :: a, y :: b => if x < y then x :: mergeF n a (y :: b) else if y < x then y :: mergeF n (x :: a) b else x :: mergeF n a b
def mergeL (a b : List Int) : List Int := mergeF (a.length + b.length) a b
theorem mergeF_nil1 (n : Nat) (b : List Int) : mergeF n [] b = b := by cases n <;> rfl
theorem mergeF_nil2 (n : Nat) (a : List Int) : mergeF n a [] = a := by
  cases n
  · exact List.append_nil a
  · cases a <;> rfl
theorem mergeF_lt {n : Nat} {x y : Int} {a b : List Int} (h : x < y) : mergeF (n + 1) (x :: a) (y :: b) = x :: mergeF n a (y :: b) := by rw [mergeF, if_pos h]
theorem mergeF_gt {n : Nat} {x y : Int} {a b : List Int} (h : y < x) : mergeF (n + 1) (x :: a) (y :: b) = y :: mergeF n (x :: a) b := by rw [mergeF, if_neg (by omega), if_pos h]
theorem mergeF_eq {n : Nat} {x y : Int} {a b : List Int} (h : x = y) : mergeF (n + 1) (x :: a) (y :: b) = x :: mergeF n a b := by rw [mergeF, if_neg (by omega), if_neg (by omega)]
theorem int_facts : (Tryd.prog.info? 3).map (fun i => (i.zero, i.size, i.bytes)) = some (some (.int .i64 0), 1, 8) := by kernel_rfl
theorem int_of : ∃ i, Tryd.prog.info? 3 = some i ∧ i.zero = some (.int .i64 0) ∧ i.size = 1 ∧ i.bytes = 8 := by
  have h := int_facts
  cases hi : Tryd.prog.info? 3 with
  | none => rw [hi] at h; cases h
  | some i => rw [hi] at h; simp at h; exact ⟨i, rfl, h.1, h.2.1, h.2.2⟩
theorem one_ints (l : List Int) : ∀ u ∈ l.map (Value.int .i64), u.oneCell' = true := by
  intro u hu
  obtain ⟨x, -, rfl⟩ := List.mem_map.1 hu
  rfl
/-- append, the source nil, empty or not. -/
theorem run_app {w : World} {base : Nat} (ty : TypeId) (v : Value) (zs l : List Int) (A : Option Addr) (c : Nat) (hown : w.ownsRow base 3 1 v zs.length (zs.map (Value.int .i64))) (hbase : base ≤ w.heap.size) (hn : zs.length + l.length ≤ 1000000)
    (hl : l = [] ∨ ∃ b o, A = some ⟨b, o, none⟩ ∧ ∀ j x, l[j]? = some x → w.cell? ⟨b, o + j, none⟩ = some (.int .i64 x)) :
    ∃ v' w', (Builtin.append_ #[23, 23] ty #[v, .slice A l.length c]).run Tryd.prog w = .ok v' w' ∧ w'.ownsRow base 3 1 v' (zs ++ l).length ((zs ++ l).map (Value.int .i64)) ∧ w.grownBy w' v.ownBlock ∧ (v'.ownBlock = v.ownBlock ∨ v'.ownBlock = some w.heap.size) := by
  obtain ⟨i0, hi0, hi1, hi2, hi3⟩ := int_of
  have hu := Tryd.underlying23
  rcases A with _ | ad
  · have hl0 : l = [] := by
      rcases hl with h | ⟨b, o, h, _⟩
      · exact h
      · cases h
    subst hl0
    refine ⟨v, w, ?_, by simpa using hown, World.grownBy.refl w _, .inl rfl⟩
    rcases hown.2 with ⟨rfl, h0⟩ | ⟨g, cap, cur, rfl, _, _, hnc, _⟩
    · simp [Builtin.append_, run_underlying hu, sizeOf, typeInfo, hi0, Builtin.lenOf, Builtin.firstCells]
    · simp [Builtin.append_, run_underlying hu, sizeOf, typeInfo, hi0, Builtin.lenOf, Builtin.firstCells, hnc, storeCells]
  · have hc : ∀ j u, (l.map (Value.int .i64))[j]? = some u → w.cell? (ad.add j) = some u := by
      intro j u hu
      rcases hl with h | ⟨b, o, h, hc⟩
      · rw [h] at hu; cases hu
      · obtain rfl := Option.some.inj h
        rw [List.getElem?_map] at hu
        obtain ⟨x, hx, rfl⟩ := Option.map_eq_some_iff.1 hu
        rw [Addr.add_mid]
        exact hc j x hx
    obtain ⟨v', w', hr, h2, h3, -, h5⟩ := run_append_own_at (P := Tryd.prog) w base 23 ty 3 i0 (.int .i64 0) 1 8 hu hi0 hi1 hi2 hi3 rfl (by decide) v zs.length (zs.map (Value.int .i64)) hown ad l.length c (l.map (Value.int .i64)) (by simp) hc (one_ints l) (by simp only [maxLen]; omega) (by omega) hbase
    refine ⟨v', w', hr, ?_, h3, h5⟩
    rw [List.length_append, List.map_append]
    exact h2
theorem wp_app {P : Program} {w w' : World} {o : Oper} {a : Act} {K : Act → World → Prop} {Q : Exit → Act → World → Prop} (s x : Operand) (t : TypeId)
    (ho : o.op = .call { callee := .builtin .append, args := #[s, x], argTypes := #[t, t] }) (v u v' : Value) (hs : a.eval s = v) (hx : a.eval x = u)
    (hr : (Builtin.append_ #[t, t] o.type #[v, u]).run P w = .ok v' w') (h : K (a.put o.dst v') w') : o.wp P a w K Q := by
  unfold Oper.wp execOp
  simp only [ho, resolve, invoke, builtin, Sem.run_bind, Sem.run_pure, Result.andThen_ok, List.map_toArray, List.map_cons, List.map_nil, hs, hx, hr]
  exact h
theorem wpList_app {P : Program} {w w' : World} {ops : Array Oper} {rest : List Oper} {o : Oper} {a : Act} {Q : Exit → Act → World → Prop} (hgd : o.guard = none) (s x : Operand) (t : TypeId)
    (ho : o.op = .call { callee := .builtin .append, args := #[s, x], argTypes := #[t, t] }) (v u v' : Value) (hs : a.eval s = v) (hx : a.eval x = u)
    (hr : (Builtin.append_ #[t, t] o.type #[v, u]).run P w = .ok v' w') (h : wpList P ops Q rest (a.put o.dst v') w') : wpList P ops Q (o :: rest) a w :=
  wpList_plain hgd fun _ hK => wp_app s x t ho v u v' hs hx hr (hK _ _ h)
/-- A slice, its first number cut off. -/
theorem run_cut1 (p q n c : Nat) (hc : n + 1 ≤ c) (hc2 : c ≤ 9223372036854775807) : ∃ A : Option Addr, (n = 0 ∨ A = some ⟨p, q + 1, none⟩) ∧
    ∀ (ρ : Operand → Value) (o : Oper) (t : Tmp), o.op = .slice 23 (.tmp t) (some (.const (.int .i64 1))) none none → ρ (.tmp t) = .slice (some ⟨p, q, none⟩) (n + 1) c → ρ (.const (.int .i64 1)) = .int .i64 1 → ∀ W : World, (execOp ρ o).run Tryd.prog W = .ok (.value (.slice A n (c - 1))) W := by
  have hu := Tryd.underlying23
  obtain ⟨i0, hi0, -, hi2, -⟩ := int_of
  by_cases h1 : c = 1
  · obtain rfl : n = 0 := by omega
    subst h1
    refine ⟨some ⟨p, q, none⟩, .inl rfl, fun ρ o t ho hρ hk W => ?_⟩
    unfold execOp
    simp only [ho]
    simp [hρ, hk, go_sem]
  · refine ⟨some ⟨p, q + 1, none⟩, .inr rfl, fun ρ o t ho hρ hk W => ?_⟩
    unfold execOp
    simp only [ho]
    simp [hρ, hk, go_sem]
    rw [if_pos (by omega), if_neg h1]
theorem Clip_any (ao : Option Addr) (n cap : Nat) (h1 : n ≤ cap) (h2 : cap ≤ 9223372036854775807) (h3 : ao = none → n = 0) (w : World) :
    Calls Tryd.prog 53 #[.slice ao n cap] w fun e w' => e = .returned (.slice ao n n) ∧ w = w' := by
  rcases ao with _ | ad
  · obtain rfl := h3 rfl
    go_enter Tryd.func53, Tryd.ntmps53
    go_wp2
    go_ret
    exact ⟨rfl, rfl⟩
  · clear h3
    go_enter Tryd.func53, Tryd.ntmps53
    go_wp2
    go_ret
    exact ⟨rfl, rfl⟩
def slLen : Value → Nat
  | .slice _ n _ => n
  | _ => 0
/-- Where merge stands: what is left of both lists, what it has written. -/
structure MJ (w W : World) (A1 A2 : Option Addr) (out : Value) (c1 c2 : Nat) (xs ys zs : List Int) (n N : Nat) (R : List Int) : Prop where
  a1 : xs.length ≤ c1
  a2 : c1 ≤ 9223372036854775807
  b1 : ys.length ≤ c2
  b2 : c2 ≤ 9223372036854775807
  ax : xs = [] ∨ ∃ b o, A1 = some ⟨b, o, none⟩ ∧ b < w.heap.size ∧ ∀ j x, xs[j]? = some x → w.cell? ⟨b, o + j, none⟩ = some (.int .i64 x)
  bx : ys = [] ∨ ∃ b o, A2 = some ⟨b, o, none⟩ ∧ b < w.heap.size ∧ ∀ j x, ys[j]? = some x → w.cell? ⟨b, o + j, none⟩ = some (.int .i64 x)
  own : W.ownsRow w.heap.size 3 1 out zs.length (zs.map (Value.int .i64))
  bl : Below w.heap.size w W
  fuel : xs.length + ys.length ≤ n
  tot : zs.length + (xs.length + ys.length) ≤ N
  res : R = zs ++ mergeF n xs ys
set_option maxRecDepth 100000 in
set_option maxHeartbeats 8000000 in
theorem merge_any (a b : Value) (xs ys : List Int) (w : World) (ha : RL w w.heap.size a xs) (hb : RL w w.heap.size b ys) (hn : xs.length + ys.length ≤ 1000000) :
    Calls Tryd.prog 32 #[a, b] w (NewRL w (mergeL xs ys)) := by
  obtain ⟨i0, hi0, hi1, hi2, hi3⟩ := int_of
  obtain ⟨A1, c1, rfl, ha1, ha2, ha3⟩ := ha.form
  obtain ⟨A2, c2, rfl, hb1, hb2, hb3⟩ := hb.form
  have hax := Lib.hid ha3
  have hbx := Lib.hid hb3
  replace hi0 := Lib.hid hi0
  replace hi1 := Lib.hid hi1
  replace hi2 := Lib.hid hi2
  replace hi3 := Lib.hid hi3
  clear ha3 hb3
  unfold maxLen at ha2 hb2
  obtain ⟨wm, hmk, hown0, hgr0⟩ := run_makeSlice_owned (P := Tryd.prog) w w.heap.size 23 3 i0 (.int .i64 0) 1 Tryd.underlying23 hi0.out hi1.out hi2.out .i64 .i64 (xs.length + ys.length) (by omega) (by rw [hi3.out]; omega) (by simp only [maxLen]; omega) (Nat.le_refl _)
  have hbm : Below w.heap.size w wm := (Below.refl _ _).grown hgr0 (Nat.le_refl _) (by simp)
  replace hown0 := Lib.hid hown0
  clear hgr0
  rw [Int.natCast_add] at hmk
  go_enter Tryd.func32, Tryd.ntmps32
  go_wp2_with fail
  go_loopw [0, 1, 5] (fun a b out wr => ∃ (xs' ys' zs : List Int) (A1 A2 ao : Option Addr) (c1 c2 cap n : Nat), a = .slice A1 xs'.length c1 ∧ b = .slice A2 ys'.length c2 ∧ out = .slice ao zs.length cap ∧ MJ w wr A1 A2 (.slice ao zs.length cap) c1 c2 xs' ys' zs n (xs.length + ys.length) (mergeL xs ys)) (fun a b _ _ => slLen a + slLen b)
  case atStart => exact ⟨xs, ys, [], A1, A2, _, c1, c2, _, _, rfl, rfl, rfl, ⟨ha1, ha2, hb1, hb2, hax.out, hbx.out, hown0.out, hbm, Nat.le_refl _, by simp, rfl⟩⟩
  case round =>
    obtain ⟨xs', ys', zs, A1, A2, ao, c1, c2, cap, n, rfl, rfl, rfl, hJ⟩ := hrel
    obtain ⟨a1, a2, b1, b2, ax, bx, own, bl, fuel, tot, res⟩ := hJ
    replace ax := Lib.hid ax
    replace bx := Lib.hid bx
    replace own := Lib.hid own
    replace res := Lib.hid res
    rcases xs' with _ | ⟨x, xs'⟩
    · obtain ⟨v8, w8, hr8, ho8, hg8, hb8⟩ := run_app (w := wr) 23 (.slice ao zs.length cap) zs [] A1 c1 own.out bl.size (by simp at tot ⊢; omega) (.inl rfl)
      have hB8 : Below w.heap.size w w8 := bl.grown hg8 bl.size (fun k hk => (own.out.lt k hk).1)
      obtain ⟨v9, w9, hr9, ho9, hg9, hb9⟩ := run_app (w := w8) 23 v8 (zs ++ []) ys' A2 c2 ho8 hB8.size (by simp at tot ⊢; omega) (bx.out.imp id (fun ⟨b, o, e, hb, hc⟩ => ⟨b, o, e, fun j z hz => (hB8.cell (p := ⟨b, o + j, none⟩) hb).trans (hc j z hz)⟩))
      have hB9 : Below w.heap.size w w9 := hB8.grown hg9 hB8.size (fun k hk => (ho8.lt k hk).1)
      obtain ⟨L9, hL9⟩ : ∃ L, ((zs ++ []) ++ ys').length = L := ⟨_, rfl⟩
      rw [hL9] at ho9
      obtain ⟨ao9, cap9, rfl, p1, p2, p3⟩ := own_slice2 ho9
      have hRL : RP w9 (fun b => w.heap.size ≤ b) (.slice ao9 L9 cap9) ((zs ++ []) ++ ys') := RP.of_own ho9 hL9.symm
      clear hL9
      have hR : mergeL xs ys = (zs ++ []) ++ ys' := by rw [res.out, mergeF_nil1, List.append_nil]
      replace hRL := Lib.hid hRL
      replace hR := Lib.hid hR
      clear ho8 ho9 hg8 hg9 hb8 hb9 own res ax bx hax hbx hown0 hmk
      have hCl := Lib.hid (Clip_any ao9 L9 cap9 p1 p2 p3 w9)
      clear p1 p2 p3
      replace hr8 := Lib.hid hr8
      replace hr9 := Lib.hid hr9
      go_upto_region 9 with fail
      refine wp_region_list ?_
      simp only [List.toList_toArray]
      refine Go.Great.wpList_runTo rfl _ rfl (.slice ao zs.length cap) wr rfl ?_
      simp only [Act.put, List.setIfInBounds_toArray, List.set_cons_zero, List.set_cons_succ]
      refine Go.Great.wpList_runTo rfl _ rfl (.slice A1 [].length c1) wr rfl ?_
      simp only [Act.put, List.setIfInBounds_toArray, List.set_cons_zero, List.set_cons_succ]
      refine wpList_app rfl (.tmp 60) (.tmp 61) 23 rfl _ _ _ rfl rfl hr8.out ?_
      simp only [Act.put, List.setIfInBounds_toArray, List.set_cons_zero, List.set_cons_succ]
      refine Go.Great.wpList_runTo rfl _ rfl (.slice A2 ys'.length c2) w8 rfl ?_
      simp only [Act.put, List.setIfInBounds_toArray, List.set_cons_zero, List.set_cons_succ]
      refine wpList_app rfl (.tmp 62) (.tmp 63) 23 rfl _ _ _ rfl rfl hr9.out ?_
      simp only [Act.put, List.setIfInBounds_toArray, List.set_cons_zero, List.set_cons_succ]
      go_wp2_with (go_at_call 53; refine hCl.out.mono ?_; rintro e w' ⟨rfl, rfl⟩)
      go_ret
      exact ⟨⟨_, rfl, by rw [hR.out]; exact hRL.out.clip⟩, hB9⟩
    rcases ys' with _ | ⟨y, ys'⟩
    · obtain ⟨v8, w8, hr8, ho8, hg8, hb8⟩ := run_app (w := wr) 23 (.slice ao zs.length cap) zs (x :: xs') A1 c1 own.out bl.size (by simp at tot ⊢; omega) (ax.out.imp id (fun ⟨b, o, e, hb, hc⟩ => ⟨b, o, e, fun j z hz => (bl.cell (p := ⟨b, o + j, none⟩) hb).trans (hc j z hz)⟩))
      have hB8 : Below w.heap.size w w8 := bl.grown hg8 bl.size (fun k hk => (own.out.lt k hk).1)
      obtain ⟨v9, w9, hr9, ho9, hg9, hb9⟩ := run_app (w := w8) 23 v8 (zs ++ (x :: xs')) [] A2 c2 ho8 hB8.size (by simp at tot ⊢; omega) (.inl rfl)
      have hB9 : Below w.heap.size w w9 := hB8.grown hg9 hB8.size (fun k hk => (ho8.lt k hk).1)
      obtain ⟨L9, hL9⟩ : ∃ L, ((zs ++ (x :: xs')) ++ []).length = L := ⟨_, rfl⟩
      rw [hL9] at ho9
      obtain ⟨ao9, cap9, rfl, p1, p2, p3⟩ := own_slice2 ho9
      have hRL : RP w9 (fun b => w.heap.size ≤ b) (.slice ao9 L9 cap9) ((zs ++ (x :: xs')) ++ []) := RP.of_own ho9 hL9.symm
      clear hL9
      have hR : mergeL xs ys = (zs ++ (x :: xs')) ++ [] := by rw [res.out, mergeF_nil2, List.append_assoc, List.append_nil]
      replace hRL := Lib.hid hRL
      replace hR := Lib.hid hR
      clear ho8 ho9 hg8 hg9 hb8 hb9 own res ax bx hax hbx hown0 hmk
      have hCl := Lib.hid (Clip_any ao9 L9 cap9 p1 p2 p3 w9)
      clear p1 p2 p3
      replace hr8 := Lib.hid hr8
      replace hr9 := Lib.hid hr9
      go_upto_region 9 with fail
      refine wp_region_list ?_
      simp only [List.toList_toArray]
      refine Go.Great.wpList_runTo rfl _ rfl (.slice ao zs.length cap) wr rfl ?_
      simp only [Act.put, List.setIfInBounds_toArray, List.set_cons_zero, List.set_cons_succ]
      refine Go.Great.wpList_runTo rfl _ rfl (.slice A1 (x :: xs').length c1) wr rfl ?_
      simp only [Act.put, List.setIfInBounds_toArray, List.set_cons_zero, List.set_cons_succ]
      refine wpList_app rfl (.tmp 60) (.tmp 61) 23 rfl _ _ _ rfl rfl hr8.out ?_
      simp only [Act.put, List.setIfInBounds_toArray, List.set_cons_zero, List.set_cons_succ]
      refine Go.Great.wpList_runTo rfl _ rfl (.slice A2 [].length c2) w8 rfl ?_
      simp only [Act.put, List.setIfInBounds_toArray, List.set_cons_zero, List.set_cons_succ]
      refine wpList_app rfl (.tmp 62) (.tmp 63) 23 rfl _ _ _ rfl rfl hr9.out ?_
      simp only [Act.put, List.setIfInBounds_toArray, List.set_cons_zero, List.set_cons_succ]
      go_wp2_with (go_at_call 53; refine hCl.out.mono ?_; rintro e w' ⟨rfl, rfl⟩)
      go_ret
      exact ⟨⟨_, rfl, by rw [hR.out]; exact hRL.out.clip⟩, hB9⟩
    obtain ⟨p, q, rfl, hp, hxc⟩ := ax.out.resolve_left (by simp)
    obtain ⟨r, s, rfl, hr, hyc⟩ := bx.out.resolve_left (by simp)
    obtain ⟨n, rfl⟩ : ∃ m, n = m + 1 := ⟨n - 1, by simp at fuel; omega⟩
    have hx0 : wr.cell? ⟨p, q, none⟩ = some (.int .i64 x) := (bl.cell (p := ⟨p, q, none⟩) hp).trans (by simpa using hxc 0 x rfl)
    have hy0 : wr.cell? ⟨r, s, none⟩ = some (.int .i64 y) := (bl.cell (p := ⟨r, s, none⟩) hr).trans (by simpa using hyc 0 y rfl)
    have hx1 : Hid (w.cell? ⟨p, q, none⟩ = some (.int .i64 x)) := Lib.hid (by simpa using hxc 0 x rfl)
    have hy1 : Hid (w.cell? ⟨r, s, none⟩ = some (.int .i64 y)) := Lib.hid (by simpa using hyc 0 y rfl)
    have hxs : Hid (∀ j z, xs'[j]? = some z → w.cell? ⟨p, q + 1 + j, none⟩ = some (.int .i64 z)) := Lib.hid fun j z hz => by have := hxc (j + 1) z (by simpa using hz); rw [show q + (j + 1) = q + 1 + j by omega] at this; exact this
    have hys : Hid (∀ j z, ys'[j]? = some z → w.cell? ⟨r, s + 1 + j, none⟩ = some (.int .i64 z)) := Lib.hid fun j z hz => by have := hyc (j + 1) z (by simpa using hz); rw [show s + (j + 1) = s + 1 + j by omega] at this; exact this
    have axk : Hid (x :: xs' = [] ∨ ∃ b o, some (⟨p, q, none⟩ : Addr) = some ⟨b, o, none⟩ ∧ b < w.heap.size ∧ ∀ j z, (x :: xs')[j]? = some z → w.cell? ⟨b, o + j, none⟩ = some (.int .i64 z)) := Lib.hid (.inr ⟨p, q, rfl, hp, hxc⟩)
    have bxk : Hid (y :: ys' = [] ∨ ∃ b o, some (⟨r, s, none⟩ : Addr) = some ⟨b, o, none⟩ ∧ b < w.heap.size ∧ ∀ j z, (y :: ys')[j]? = some z → w.cell? ⟨b, o + j, none⟩ = some (.int .i64 z)) := Lib.hid (.inr ⟨r, s, rfl, hr, hyc⟩)
    clear ax bx hxc hyc
    simp only [List.length_cons] at a1 b1 fuel tot ⊢
    have hl1 : (0 : Int) < ((xs'.length + 1 : Nat) : Int) := by omega
    have hl2 : (0 : Int) < ((ys'.length + 1 : Nat) : Int) := by omega
    go_upto_region 3 with fail
    go_quiet ((go_at_call 52; exact Calls.quiet_of_same (Tryd.cmp_Compare_int _ _ _)))
    clear hx0 hy0
    have bq := fun n => (bl.trans ⟨rfl, rfl, rfl, Nat.le_refl _, fun _ _ => rfl⟩ : Below w.heap.size w (wr.drewN n))
    have oq := fun n => (Lib.hid own.out : Hid ((wr.drewN n).ownsRow w.heap.size 3 1 (.slice ao zs.length cap) zs.length (zs.map (Value.int .i64))))
    generalize hW0 : wr.drewN _ = W0
    have b0 : Below w.heap.size w W0 := by rw [← hW0]; exact bq _
    have o0 : Hid (W0.ownsRow w.heap.size 3 1 (.slice ao zs.length cap) zs.length (zs.map (Value.int .i64))) := by rw [← hW0]; exact oq _
    clear hW0 bq oq own bl
    obtain ⟨A3, hA3, hcut1⟩ := run_cut1 p q xs'.length c1 a1 a2
    obtain ⟨A4, hA4, hcut2⟩ := run_cut1 r s ys'.length c2 b1 b2
    replace hcut1 := Lib.hid hcut1
    replace hcut2 := Lib.hid hcut2
    have ax3 : Hid (xs' = [] ∨ ∃ b o, A3 = some ⟨b, o, none⟩ ∧ b < w.heap.size ∧ ∀ j z, xs'[j]? = some z → w.cell? ⟨b, o + j, none⟩ = some (.int .i64 z)) := Lib.hid (hA3.imp List.eq_nil_of_length_eq_zero (fun e => ⟨p, q + 1, e, hp, hxs.out⟩))
    have bx4 : Hid (ys' = [] ∨ ∃ b o, A4 = some ⟨b, o, none⟩ ∧ b < w.heap.size ∧ ∀ j z, ys'[j]? = some z → w.cell? ⟨b, o + j, none⟩ = some (.int .i64 z)) := Lib.hid (hA4.imp List.eq_nil_of_length_eq_zero (fun e => ⟨r, s + 1, e, hr, hys.out⟩))
    clear hA3 hA4 hxs hys
    rcases (show x < y ∨ y < x ∨ x = y by omega) with hxy | hxy | hxy
    · have hcmp : Lib.compareInt x y = -1 := if_pos hxy
      rw [hcmp]
      go_upto_region 6 with fail
      refine wp_region_held_drew (S := fun W => Below w.heap.size w W) (by kernel_rfl) b0.drew (fun hHeld => ?_)
      refine wpAnyH_take (i := 0) (v := .slice ao zs.length cap) rfl (by kernel_rfl) (by kernel_rfl) (by kernel_rfl) (fun _ _ _ h => h) (Or.inl ⟨by rfl, fun W _ => by kernel_rfl⟩) hHeld ?_
      try simp only [Act.put, List.getElem_toArray, List.getElem_cons_zero, List.setIfInBounds_toArray, List.set_cons_zero, List.set_cons_succ]
      refine wpAnyH_take (i := 1) (v := .slice (some ⟨p, q, none⟩) (xs'.length + 1) c1) rfl (by kernel_rfl) (by kernel_rfl) (by kernel_rfl) (fun _ _ _ h => h) (Or.inl ⟨by rfl, fun W _ => by kernel_rfl⟩) hHeld ?_
      try simp only [Act.put, List.getElem_toArray, List.getElem_cons_succ, List.getElem_cons_zero, List.setIfInBounds_toArray, List.set_cons_zero, List.set_cons_succ]
      refine wpAnyH_take (i := 2) (v := .pointer (some ⟨p, q, none⟩)) rfl (by kernel_rfl) (by kernel_rfl) (by kernel_rfl) (fun _ _ _ h => h) (Or.inl ⟨by rfl, fun W _ => by go_simp⟩) hHeld ?_
      try simp only [Act.put, List.getElem_toArray, List.getElem_cons_succ, List.getElem_cons_zero, List.setIfInBounds_toArray, List.set_cons_zero, List.set_cons_succ]
      refine wpAnyH_take (i := 3) (v := .int .i64 x) rfl (by kernel_rfl) (by kernel_rfl) (by kernel_rfl) (fun _ _ _ h => h) (Or.inl ⟨by rfl, fun W hS => by (have k : W.cell? ⟨p, q, none⟩ = some (.int .i64 x) := (hS.cell (p := ⟨p, q, none⟩) hp).trans hx1.out); go_simp⟩) hHeld ?_
      try simp only [Act.put, List.getElem_toArray, List.getElem_cons_succ, List.getElem_cons_zero, List.setIfInBounds_toArray, List.set_cons_zero, List.set_cons_succ]
      refine wpAnyH_take (i := 6) (v := .slice (some ⟨p, q, none⟩) (xs'.length + 1) c1) rfl (by kernel_rfl) (by kernel_rfl) (by kernel_rfl) (fun _ _ _ h => h) (Or.inl ⟨by rfl, fun W _ => by kernel_rfl⟩) hHeld ?_
      try simp only [Act.put, List.getElem_toArray, List.getElem_cons_succ, List.getElem_cons_zero, List.setIfInBounds_toArray, List.set_cons_zero, List.set_cons_succ]
      refine wpAnyH_take (i := 7) (v := .slice A3 xs'.length (c1 - 1)) rfl (by kernel_rfl) (by kernel_rfl) (by kernel_rfl) (fun _ _ _ h => h) (Or.inl ⟨by rfl, fun W _ => hcut1.out _ _ _ rfl rfl rfl W⟩) hHeld ?_
      try simp only [Act.put, List.getElem_toArray, List.getElem_cons_succ, List.getElem_cons_zero, List.setIfInBounds_toArray, List.set_cons_zero, List.set_cons_succ]
      refine wpAnyH_ready (rs := [4]) (by kernel_rfl) (by simp) (AllReadyH.cons rfl (fun K hK2 => ?_) AllReadyH.nil)
      rw [if_pos (by rfl)]
      simp only [List.getElem_toArray, List.getElem_cons_succ, List.getElem_cons_zero]
      go_wp2_with fail
      refine hK2.out _ _ (hHeld.alloc hHeld.size _) (fun hHeld2 => ?_)
      clear hK2 K hHeld
      have hHeld := hHeld2
      clear hHeld2
      try simp only [Act.put, List.getElem_toArray, List.getElem_cons_succ, List.getElem_cons_zero, List.setIfInBounds_toArray, List.set_cons_zero, List.set_cons_succ]
      refine wpAnyH_ready (rs := [5]) (by kernel_rfl) (by simp) (AllReadyH.cons rfl (fun K hK2 => ?_) AllReadyH.nil)
      rw [if_pos (by rfl)]
      simp only [List.getElem_toArray, List.getElem_cons_succ, List.getElem_cons_zero]
      obtain ⟨v9, w9, hr9, ho9, hg9, hb9⟩ := run_app (w := W0.drew.alloc (.cells #[.int .i64 x] 3)) 23 (.slice ao zs.length cap) zs [x] (some ⟨W0.heap.size, 0, none⟩) 1 (o0.out.drew.alloc _) (Nat.le_trans b0.size (by simp)) (by simp; omega) (.inr ⟨_, _, rfl, fun j u hu => by rw [show (W0.heap.size : Nat) = W0.drew.heap.size from rfl, World.cell?_alloc_new, Nat.zero_add]; rcases j with _ | j <;> simp at hu ⊢; exact hu⟩)
      refine wp_app _ _ _ rfl _ _ _ rfl rfl hr9 ?_
      have hB9 : Below w.heap.size w w9 := hHeld.grown hg9 hHeld.size (fun k hk => (o0.out.lt k hk).1)
      refine hK2.out _ _ (hB9) (fun hHeld2 => ?_)
      clear hK2 K hHeld
      have hHeld := hHeld2
      clear hHeld2
      try simp only [Act.put, List.getElem_toArray, List.getElem_cons_succ, List.getElem_cons_zero, List.setIfInBounds_toArray, List.set_cons_zero, List.set_cons_succ]
      refine wpAnyH_take (i := 8) (v := v9) rfl (by kernel_rfl) (by kernel_rfl) (by kernel_rfl) (fun _ _ _ h => h) (Or.inl ⟨by rfl, fun W _ => by kernel_rfl⟩) hHeld ?_
      try simp only [Act.put, List.getElem_toArray, List.getElem_cons_succ, List.getElem_cons_zero, List.setIfInBounds_toArray, List.set_cons_zero, List.set_cons_succ]
      refine wpAnyH_take (i := 9) (v := .slice A3 xs'.length (c1 - 1)) rfl (by kernel_rfl) (by kernel_rfl) (by kernel_rfl) (fun _ _ _ h => h) (Or.inl ⟨by rfl, fun W _ => by kernel_rfl⟩) hHeld ?_
      try simp only [Act.put, List.getElem_toArray, List.getElem_cons_succ, List.getElem_cons_zero, List.setIfInBounds_toArray, List.set_cons_zero, List.set_cons_succ]
      refine wpAnyH_done (by kernel_rfl) ?_ _
      obtain ⟨ao9, cap9, rfl⟩ := own_slice ho9
      go_wp2_with fail
      refine ⟨⟨xs', y :: ys', zs ++ [x], A3, _, ao9, c1 - 1, c2, cap9, n, rfl, rfl, rfl, ⟨by omega, by omega, b1, b2, ax3.out, bxk.out, ho9, hHeld, by first | omega | (simp; omega), by first | omega | (simp; omega), by rw [res.out, mergeF_lt hxy, List.append_assoc]; rfl⟩⟩, by simp [slLen]⟩
    · have hcmp : Lib.compareInt x y = 1 := by unfold Lib.compareInt; rw [if_neg (by omega), if_pos hxy]
      rw [hcmp]
      go_upto_region 8 with fail
      refine wp_region_held_drew (S := fun W => Below w.heap.size w W) (by kernel_rfl) b0.drew (fun hHeld => ?_)
      refine wpAnyH_take (i := 0) (v := .slice ao zs.length cap) rfl (by kernel_rfl) (by kernel_rfl) (by kernel_rfl) (fun _ _ _ h => h) (Or.inl ⟨by rfl, fun W _ => by kernel_rfl⟩) hHeld ?_
      try simp only [Act.put, List.getElem_toArray, List.getElem_cons_zero, List.setIfInBounds_toArray, List.set_cons_zero, List.set_cons_succ]
      refine wpAnyH_take (i := 1) (v := .slice (some ⟨r, s, none⟩) (ys'.length + 1) c2) rfl (by kernel_rfl) (by kernel_rfl) (by kernel_rfl) (fun _ _ _ h => h) (Or.inl ⟨by rfl, fun W _ => by kernel_rfl⟩) hHeld ?_
      try simp only [Act.put, List.getElem_toArray, List.getElem_cons_succ, List.getElem_cons_zero, List.setIfInBounds_toArray, List.set_cons_zero, List.set_cons_succ]
      refine wpAnyH_take (i := 2) (v := .pointer (some ⟨r, s, none⟩)) rfl (by kernel_rfl) (by kernel_rfl) (by kernel_rfl) (fun _ _ _ h => h) (Or.inl ⟨by rfl, fun W _ => by go_simp⟩) hHeld ?_
      try simp only [Act.put, List.getElem_toArray, List.getElem_cons_succ, List.getElem_cons_zero, List.setIfInBounds_toArray, List.set_cons_zero, List.set_cons_succ]
      refine wpAnyH_take (i := 3) (v := .int .i64 y) rfl (by kernel_rfl) (by kernel_rfl) (by kernel_rfl) (fun _ _ _ h => h) (Or.inl ⟨by rfl, fun W hS => by (have k : W.cell? ⟨r, s, none⟩ = some (.int .i64 y) := (hS.cell (p := ⟨r, s, none⟩) hr).trans hy1.out); go_simp⟩) hHeld ?_
      try simp only [Act.put, List.getElem_toArray, List.getElem_cons_succ, List.getElem_cons_zero, List.setIfInBounds_toArray, List.set_cons_zero, List.set_cons_succ]
      refine wpAnyH_take (i := 6) (v := .slice (some ⟨r, s, none⟩) (ys'.length + 1) c2) rfl (by kernel_rfl) (by kernel_rfl) (by kernel_rfl) (fun _ _ _ h => h) (Or.inl ⟨by rfl, fun W _ => by kernel_rfl⟩) hHeld ?_
      try simp only [Act.put, List.getElem_toArray, List.getElem_cons_succ, List.getElem_cons_zero, List.setIfInBounds_toArray, List.set_cons_zero, List.set_cons_succ]
      refine wpAnyH_take (i := 7) (v := .slice A4 ys'.length (c2 - 1)) rfl (by kernel_rfl) (by kernel_rfl) (by kernel_rfl) (fun _ _ _ h => h) (Or.inl ⟨by rfl, fun W _ => hcut2.out _ _ _ rfl rfl rfl W⟩) hHeld ?_
      try simp only [Act.put, List.getElem_toArray, List.getElem_cons_succ, List.getElem_cons_zero, List.setIfInBounds_toArray, List.set_cons_zero, List.set_cons_succ]
      refine wpAnyH_ready (rs := [4]) (by kernel_rfl) (by simp) (AllReadyH.cons rfl (fun K hK2 => ?_) AllReadyH.nil)
      rw [if_pos (by rfl)]
      simp only [List.getElem_toArray, List.getElem_cons_succ, List.getElem_cons_zero]
      go_wp2_with fail
      refine hK2.out _ _ (hHeld.alloc hHeld.size _) (fun hHeld2 => ?_)
      clear hK2 K hHeld
      have hHeld := hHeld2
      clear hHeld2
      try simp only [Act.put, List.getElem_toArray, List.getElem_cons_succ, List.getElem_cons_zero, List.setIfInBounds_toArray, List.set_cons_zero, List.set_cons_succ]
      refine wpAnyH_ready (rs := [5]) (by kernel_rfl) (by simp) (AllReadyH.cons rfl (fun K hK2 => ?_) AllReadyH.nil)
      rw [if_pos (by rfl)]
      simp only [List.getElem_toArray, List.getElem_cons_succ, List.getElem_cons_zero]
      obtain ⟨v9, w9, hr9, ho9, hg9, hb9⟩ := run_app (w := W0.drew.alloc (.cells #[.int .i64 y] 3)) 23 (.slice ao zs.length cap) zs [y] (some ⟨W0.heap.size, 0, none⟩) 1 (o0.out.drew.alloc _) (Nat.le_trans b0.size (by simp)) (by simp; omega) (.inr ⟨_, _, rfl, fun j u hu => by rw [show (W0.heap.size : Nat) = W0.drew.heap.size from rfl, World.cell?_alloc_new, Nat.zero_add]; rcases j with _ | j <;> simp at hu ⊢; exact hu⟩)
      refine wp_app _ _ _ rfl _ _ _ rfl rfl hr9 ?_
      have hB9 : Below w.heap.size w w9 := hHeld.grown hg9 hHeld.size (fun k hk => (o0.out.lt k hk).1)
      refine hK2.out _ _ (hB9) (fun hHeld2 => ?_)
      clear hK2 K hHeld
      have hHeld := hHeld2
      clear hHeld2
      try simp only [Act.put, List.getElem_toArray, List.getElem_cons_succ, List.getElem_cons_zero, List.setIfInBounds_toArray, List.set_cons_zero, List.set_cons_succ]
      refine wpAnyH_take (i := 8) (v := v9) rfl (by kernel_rfl) (by kernel_rfl) (by kernel_rfl) (fun _ _ _ h => h) (Or.inl ⟨by rfl, fun W _ => by kernel_rfl⟩) hHeld ?_
      try simp only [Act.put, List.getElem_toArray, List.getElem_cons_succ, List.getElem_cons_zero, List.setIfInBounds_toArray, List.set_cons_zero, List.set_cons_succ]
      refine wpAnyH_take (i := 9) (v := .slice A4 ys'.length (c2 - 1)) rfl (by kernel_rfl) (by kernel_rfl) (by kernel_rfl) (fun _ _ _ h => h) (Or.inl ⟨by rfl, fun W _ => by kernel_rfl⟩) hHeld ?_
      try simp only [Act.put, List.getElem_toArray, List.getElem_cons_succ, List.getElem_cons_zero, List.setIfInBounds_toArray, List.set_cons_zero, List.set_cons_succ]
      refine wpAnyH_done (by kernel_rfl) ?_ _
      obtain ⟨ao9, cap9, rfl⟩ := own_slice ho9
      go_wp2_with fail
      refine ⟨⟨x :: xs', ys', zs ++ [y], _, A4, ao9, c1, c2 - 1, cap9, n, rfl, rfl, rfl, ⟨a1, a2, by omega, by omega, axk.out, bx4.out, ho9, hHeld, by first | omega | (simp; omega), by first | omega | (simp; omega), by rw [res.out, mergeF_gt hxy, List.append_assoc]; rfl⟩⟩, by simp [slLen]⟩
    · subst hxy
      have hcmp : Lib.compareInt x x = 0 := by unfold Lib.compareInt; rw [if_neg (by omega), if_neg (by omega)]
      rw [hcmp]
      go_upto_region 4 with fail
      refine wp_region_held_drew (S := fun W => Below w.heap.size w W) (by kernel_rfl) b0.drew (fun hHeld => ?_)
      refine wpAnyH_take (i := 0) (v := .slice ao zs.length cap) rfl (by kernel_rfl) (by kernel_rfl) (by kernel_rfl) (fun _ _ _ h => h) (Or.inl ⟨by rfl, fun W _ => by kernel_rfl⟩) hHeld ?_
      try simp only [Act.put, List.getElem_toArray, List.getElem_cons_zero, List.setIfInBounds_toArray, List.set_cons_zero, List.set_cons_succ]
      refine wpAnyH_take (i := 1) (v := .slice (some ⟨p, q, none⟩) (xs'.length + 1) c1) rfl (by kernel_rfl) (by kernel_rfl) (by kernel_rfl) (fun _ _ _ h => h) (Or.inl ⟨by rfl, fun W _ => by kernel_rfl⟩) hHeld ?_
      try simp only [Act.put, List.getElem_toArray, List.getElem_cons_succ, List.getElem_cons_zero, List.setIfInBounds_toArray, List.set_cons_zero, List.set_cons_succ]
      refine wpAnyH_take (i := 2) (v := .pointer (some ⟨p, q, none⟩)) rfl (by kernel_rfl) (by kernel_rfl) (by kernel_rfl) (fun _ _ _ h => h) (Or.inl ⟨by rfl, fun W _ => by go_simp⟩) hHeld ?_
      try simp only [Act.put, List.getElem_toArray, List.getElem_cons_succ, List.getElem_cons_zero, List.setIfInBounds_toArray, List.set_cons_zero, List.set_cons_succ]
      refine wpAnyH_take (i := 3) (v := .int .i64 x) rfl (by kernel_rfl) (by kernel_rfl) (by kernel_rfl) (fun _ _ _ h => h) (Or.inl ⟨by rfl, fun W hS => by (have k : W.cell? ⟨p, q, none⟩ = some (.int .i64 x) := (hS.cell (p := ⟨p, q, none⟩) hp).trans hx1.out); go_simp⟩) hHeld ?_
      try simp only [Act.put, List.getElem_toArray, List.getElem_cons_succ, List.getElem_cons_zero, List.setIfInBounds_toArray, List.set_cons_zero, List.set_cons_succ]
      refine wpAnyH_take (i := 6) (v := .slice (some ⟨p, q, none⟩) (xs'.length + 1) c1) rfl (by kernel_rfl) (by kernel_rfl) (by kernel_rfl) (fun _ _ _ h => h) (Or.inl ⟨by rfl, fun W _ => by kernel_rfl⟩) hHeld ?_
      try simp only [Act.put, List.getElem_toArray, List.getElem_cons_succ, List.getElem_cons_zero, List.setIfInBounds_toArray, List.set_cons_zero, List.set_cons_succ]
      refine wpAnyH_take (i := 7) (v := .slice A3 xs'.length (c1 - 1)) rfl (by kernel_rfl) (by kernel_rfl) (by kernel_rfl) (fun _ _ _ h => h) (Or.inl ⟨by rfl, fun W _ => hcut1.out _ _ _ rfl rfl rfl W⟩) hHeld ?_
      try simp only [Act.put, List.getElem_toArray, List.getElem_cons_succ, List.getElem_cons_zero, List.setIfInBounds_toArray, List.set_cons_zero, List.set_cons_succ]
      refine wpAnyH_take (i := 8) (v := .slice (some ⟨r, s, none⟩) (ys'.length + 1) c2) rfl (by kernel_rfl) (by kernel_rfl) (by kernel_rfl) (fun _ _ _ h => h) (Or.inl ⟨by rfl, fun W _ => by kernel_rfl⟩) hHeld ?_
      try simp only [Act.put, List.getElem_toArray, List.getElem_cons_succ, List.getElem_cons_zero, List.setIfInBounds_toArray, List.set_cons_zero, List.set_cons_succ]
      refine wpAnyH_take (i := 9) (v := .slice A4 ys'.length (c2 - 1)) rfl (by kernel_rfl) (by kernel_rfl) (by kernel_rfl) (fun _ _ _ h => h) (Or.inl ⟨by rfl, fun W _ => hcut2.out _ _ _ rfl rfl rfl W⟩) hHeld ?_
      try simp only [Act.put, List.getElem_toArray, List.getElem_cons_succ, List.getElem_cons_zero, List.setIfInBounds_toArray, List.set_cons_zero, List.set_cons_succ]
      refine wpAnyH_ready (rs := [4]) (by kernel_rfl) (by simp) (AllReadyH.cons rfl (fun K hK2 => ?_) AllReadyH.nil)
      rw [if_pos (by rfl)]
      simp only [List.getElem_toArray, List.getElem_cons_succ, List.getElem_cons_zero]
      go_wp2_with fail
      refine hK2.out _ _ (hHeld.alloc hHeld.size _) (fun hHeld2 => ?_)
      clear hK2 K hHeld
      have hHeld := hHeld2
      clear hHeld2
      try simp only [Act.put, List.getElem_toArray, List.getElem_cons_succ, List.getElem_cons_zero, List.setIfInBounds_toArray, List.set_cons_zero, List.set_cons_succ]
      refine wpAnyH_ready (rs := [5]) (by kernel_rfl) (by simp) (AllReadyH.cons rfl (fun K hK2 => ?_) AllReadyH.nil)
      rw [if_pos (by rfl)]
      simp only [List.getElem_toArray, List.getElem_cons_succ, List.getElem_cons_zero]
      obtain ⟨v9, w9, hr9, ho9, hg9, hb9⟩ := run_app (w := W0.drew.alloc (.cells #[.int .i64 x] 3)) 23 (.slice ao zs.length cap) zs [x] (some ⟨W0.heap.size, 0, none⟩) 1 (o0.out.drew.alloc _) (Nat.le_trans b0.size (by simp)) (by simp; omega) (.inr ⟨_, _, rfl, fun j u hu => by rw [show (W0.heap.size : Nat) = W0.drew.heap.size from rfl, World.cell?_alloc_new, Nat.zero_add]; rcases j with _ | j <;> simp at hu ⊢; exact hu⟩)
      refine wp_app _ _ _ rfl _ _ _ rfl rfl hr9 ?_
      have hB9 : Below w.heap.size w w9 := hHeld.grown hg9 hHeld.size (fun k hk => (o0.out.lt k hk).1)
      refine hK2.out _ _ (hB9) (fun hHeld2 => ?_)
      clear hK2 K hHeld
      have hHeld := hHeld2
      clear hHeld2
      try simp only [Act.put, List.getElem_toArray, List.getElem_cons_succ, List.getElem_cons_zero, List.setIfInBounds_toArray, List.set_cons_zero, List.set_cons_succ]
      refine wpAnyH_take (i := 10) (v := v9) rfl (by kernel_rfl) (by kernel_rfl) (by kernel_rfl) (fun _ _ _ h => h) (Or.inl ⟨by rfl, fun W _ => by kernel_rfl⟩) hHeld ?_
      try simp only [Act.put, List.getElem_toArray, List.getElem_cons_succ, List.getElem_cons_zero, List.setIfInBounds_toArray, List.set_cons_zero, List.set_cons_succ]
      refine wpAnyH_take (i := 11) (v := .slice A3 xs'.length (c1 - 1)) rfl (by kernel_rfl) (by kernel_rfl) (by kernel_rfl) (fun _ _ _ h => h) (Or.inl ⟨by rfl, fun W _ => by kernel_rfl⟩) hHeld ?_
      try simp only [Act.put, List.getElem_toArray, List.getElem_cons_succ, List.getElem_cons_zero, List.setIfInBounds_toArray, List.set_cons_zero, List.set_cons_succ]
      refine wpAnyH_take (i := 12) (v := .slice A4 ys'.length (c2 - 1)) rfl (by kernel_rfl) (by kernel_rfl) (by kernel_rfl) (fun _ _ _ h => h) (Or.inl ⟨by rfl, fun W _ => by kernel_rfl⟩) hHeld ?_
      try simp only [Act.put, List.getElem_toArray, List.getElem_cons_succ, List.getElem_cons_zero, List.setIfInBounds_toArray, List.set_cons_zero, List.set_cons_succ]
      refine wpAnyH_done (by kernel_rfl) ?_ _
      obtain ⟨ao9, cap9, rfl⟩ := own_slice ho9
      go_wp2_with fail
      refine ⟨⟨xs', ys', zs ++ [x], A3, A4, ao9, c1 - 1, c2 - 1, cap9, n, rfl, rfl, rfl, ⟨by omega, by omega, by omega, by omega, ax3.out, bx4.out, ho9, hHeld, by first | omega | (simp; omega), by first | omega | (simp; omega), by rw [res.out, mergeF_eq rfl, List.append_assoc]; rfl⟩⟩, by simp [slLen]; omega⟩
end Go.Proofs.YtebeajnaamglkaaDoor
