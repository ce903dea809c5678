/- The walks of fencepostkit.Own[int], fencepostkit.OwnTaint, and of the law's light, rising and same. Conditions: the lists are not longer than a hundred thousand numbers. -/
import Derived.Test.YtebeajnaamglkaaDoorTntSe
import Derived.Test.YtebeajnaamglkaaDoorTntLc
set_option linter.unusedSimpArgs false
set_option linter.unusedVariables false
namespace Go.Proofs.YtebeajnaamglkaaDoor
open Go.RowKit
set_option maxRecDepth 100000 in
set_option maxHeartbeats 4000000 in
theorem KOwn_any (v : Value) (l : List Int) (w : World) (h : RL w w.heap.size v l) (hn : l.length ≤ 1000000) :
    Calls Tryd.prog 20 #[v] w (NewRL w l) := by
  obtain ⟨A, c, rfl, a1, a2, a3⟩ := h.form
  have hown : (w.alloc (.cells #[] 3)).ownsRow w.heap.size 3 1 (.slice (some ⟨w.heap.size, 0, none⟩) 0 0) ([] : List Int).length (([] : List Int).map (Value.int .i64)) := World.ownsRow_lit w #[] 0 (Nat.le_refl _) (Nat.zero_le _) rfl
  have hb0 : Below w.heap.size w (w.alloc (.cells #[] 3)) := (Below.refl _ _).alloc (Nat.le_refl _) _
  obtain ⟨v', w', hr, ho, hg, -⟩ := run_app (w := w.alloc (.cells #[] 3)) 23 (.slice (some ⟨w.heap.size, 0, none⟩) 0 0) [] l A c hown hb0.size (by simpa using hn) (a3.imp id fun ⟨b, o, e, hb, hc⟩ => ⟨b, o, e, fun j x hx => (hb0.cell (p := ⟨b, o + j, none⟩) hb).trans (hc j x hx)⟩)
  have hB : Below w.heap.size w w' := hb0.grown hg hb0.size (fun k hk => (hown.lt k hk).1)
  rw [List.nil_append] at ho
  have hR : RP w' (fun b => w.heap.size ≤ b) v' l := RP.of_own ho rfl
  obtain ⟨ao, cap, rfl, -⟩ := own_slice2 ho
  replace hr := Lib.hid hr
  clear h a1 a2 a3 hown hb0 ho hg
  go_enter Tryd.func20, Tryd.ntmps20
  go_wp2_with (at_builtin; refine wpList_app rfl (.tmp 3) (.tmp 4) 23 rfl _ _ _ rfl rfl hr.out ?_)
  go_ret
  exact ⟨⟨_, rfl, hR⟩, hB⟩
set_option maxRecDepth 100000 in
set_option maxHeartbeats 8000000 in
/-- fencepostkit.OwnTaint, whatever the taint. -/
theorem KOwnTaint_any (cs : List Value) (T : List (List Int)) (P : Nat → Prop) (w : World) (h : TS w P cs T) (hlen : ∀ l ∈ T, l.length ≤ 100000) :
    Calls Tryd.prog 13 #[.agg cs.toArray] w (OwnPost w T) := by
  have hlc := h.lc
  have hu := Tryd.underlying27
  have hrow : Hid (∀ k, k < 33 → ∃ l, T[k]? = some l ∧ l.length ≤ 100000) := Lib.hid fun k hk => by
    obtain ⟨v, l, h1, h2, -, h4⟩ := h.get k hk
    exact ⟨l, h2, hlen l (List.mem_of_getElem? h2)⟩
  obtain ⟨hOW, hr1⟩ := OW.start w cs T P #[.slice none 0 0, .slice none 0 0, .slice none 0 0, .slice none 0 0, .slice none 0 0, .slice none 0 0, .slice none 0 0, .slice none 0 0, .slice none 0 0, .slice none 0 0, .slice none 0 0, .slice none 0 0, .slice none 0 0, .slice none 0 0, .slice none 0 0, .slice none 0 0, .slice none 0 0, .slice none 0 0, .slice none 0 0, .slice none 0 0, .slice none 0 0, .slice none 0 0, .slice none 0 0, .slice none 0 0, .slice none 0 0, .slice none 0 0, .slice none 0 0, .slice none 0 0, .slice none 0 0, .slice none 0 0, .slice none 0 0, .slice none 0 0, .slice none 0 0] 27 h rfl
  go_enter Tryd.func13, Tryd.ntmps13
  go_upto_region 1 with fail
  generalize (w.alloc (.cells cs.toArray 27)).alloc _ = W1 at hOW ⊢
  clear hr1 h hlen
  go_wp2_with fail
  go_loopw [3] (fun i wr => ∃ k : Nat, k ≤ 32 ∧ i = .int .i64 k ∧ OW w wr k T) (fun i _ => 32 - (intOf i).toNat)
  case atStart => exact ⟨0, Nat.zero_le _, rfl, hOW⟩
  case round =>
    obtain ⟨k, hk, rfl, hW⟩ := hrel
    by_cases hlt : k < 32
    · obtain ⟨l, e2, e4⟩ := hrow.out k (by omega)
      obtain ⟨cs', b1, b2, b3⟩ := hW.box
      obtain ⟨v, l', f1, f2, -, f3⟩ := b2.get k (by omega)
      obtain rfl : l = l' := Option.some.inj (e2.symm.trans f2)
      have ck : wr.cell? ⟨w.heap.size, k, none⟩ = some v := by have := b1 k v f1; rwa [Nat.zero_add] at this
      have hCl := Lib.hid (KOwn_any v l wr f3.rl (by omega))
      have hd : decide ((k : Int) < 32) = true := by simp; omega
      replace e2 := Lib.hid e2
      replace hlc := Lib.hid hlc
      clear b1 b2 b3 f1 f2 f3
      go_wp2_with (go_at_call 20; (with_reducible refine hCl.out.mono ?_); rintro e w4 ⟨⟨v', rfl, hr⟩, hb4⟩; obtain ⟨A', c', hve, -⟩ := hr.form; obtain rfl := hve; have hW4 := hW.keep hb4; have c4 := hW4.old k (by omega); obtain ⟨x4, c4⟩ := c4; have f4 := hW4.thaw k (by omega))
      have hW5 := hW4.put e2.out (hr.mono fun b hb => by have := hW.lt; omega)
      go_roundw
      case rel => exact ⟨k + 1, by omega, by go_num, hW5⟩
      case measure => simp [intOf]; omega
    · obtain rfl : k = 32 := by omega
      obtain ⟨cs', r1, r2, r3⟩ := hW.box
      obtain ⟨v, l, e1, e2, -, e3⟩ := r2.get 32 (by decide)
      obtain ⟨l9, e9, e4⟩ := hrow.out 32 (by decide)
      obtain rfl : l = l9 := Option.some.inj (e2.symm.trans e9)
      have c32 : wr.cell? ⟨w.heap.size, 32, none⟩ = some v := by have := r1 32 v e1; rwa [Nat.zero_add] at this
      have hCl := Lib.hid (KOwn_any v l wr e3.rl (by omega))
      have hd : decide (((32 : Nat) : Int) < 32) = false := by simp
      replace e2 := Lib.hid e2
      clear e1 e3 e9 r1 r2 r3
      go_upto_region 5 with fail
      go_upto_region 6 with (go_at_call 20; (with_reducible refine hCl.out.mono ?_); rintro e w4 ⟨⟨v', rfl, hr⟩, hb4⟩; obtain ⟨A', c', hve, -⟩ := hr.form; obtain rfl := hve; have hW4 := hW.keep hb4; have c4 := hW4.old 32 (by decide); obtain ⟨x4, c4⟩ := c4; have f4 := hW4.thaw 32 (by decide))
      have hW5 := hW4.put e2.out (hr.mono fun b hb => by have := hW.lt; omega)
      generalize w4.setCell ⟨w.heap.size, 32, none⟩ _ = w5 at hW5 ⊢
      obtain ⟨cs', r1, r2, r3⟩ := hW5.box
      have hz := hW5.z
      have hlc2 := Lib.hid r2.lc
      have hs1 : Hid ((Tryd.prog.info? 27).map (·.size) = some cs'.length) := Lib.hid (by rw [r2.lc]; exact size_taint)
      have hs2 : Hid ((Tryd.prog.info? 27).map (·.size) = some cs'.toArray.size) := Lib.hid (by rw [List.size_toArray, r2.lc]; exact size_taint)
      have h1c : Hid (cs'.toArray.all (·.oneCell') = true) := Lib.hid (all_oneCell_toArray r2.one)
      clear hCl e4 hr c4 f4 c32 hW4 hb4 hW hrow e2
      go_wp2_with (first | (refine wpList_load_mid rfl 27 _ rfl w.heap.size 0 rfl cs' _ r1 hu rfl hs1.out ?_) | (refine wpList_store_mid rfl 27 _ _ rfl (w.heap.size + 1) 0 cs'.toArray rfl rfl (fun j hj => hz j (by rw [List.size_toArray, hlc2.out] at hj; exact hj)) hs2.out h1c.out ?_; generalize hW9 : w5.setCells (w.heap.size + 1) 0 cs'.toArray.toList = w9; replace hW9 := Lib.hid hW9))
      have hr9 : w9.rangeAt (w.heap.size + 1) 0 cs' := by
        rw [← hW9.out]
        exact World.rangeAt_setCells_same _ _ _ _ (by rw [hlc2.out]; exact hz)
      have hlv := run_loadVar_mid w9 (w.heap.size + 1) 0 27 cs' _ hr9 hu rfl hs1.out
      refine bodyPost_ret (v := .agg cs'.toArray) (res_cell_mid Tryd.results13 _ _ _ _ rfl hlv) rfl ⟨cs', rfl, ⟨r2.lc, r2.lt, fun j v l q1 q2 => ?_⟩, ?_⟩
      · have hj : j < 33 := by have := (List.getElem?_eq_some_iff.1 q2).1; rw [r2.lt] at this; exact this
        rw [← hW9.out]
        exact ((r3 j v l hj q1 q2).cells (w.heap.size + 1) 0 _ (by omega)).mono fun b hb => by omega
      · rw [← hW9.out]; exact tn_below (Nat.le_succ _) _ _ _ hW5.bl
/-- The law's light. -/
def lightT (T : List (List Int)) : Bool := ((List.range 32).all fun k => decide ((T.getD k []).length ≤ 60)) && decide ((T.getD 32 []).length ≤ 60)
theorem lightT_all {T : List (List Int)} (hl : T.length = 33) (h : lightT T = true) : ∀ l ∈ T, l.length ≤ 60 := fun l hm => by
  unfold lightT at h
  rw [Bool.and_eq_true] at h
  obtain ⟨j, hj, e⟩ := List.mem_iff_getElem.1 hm
  have e' : T.getD j [] = l := by rw [List.getD, List.getElem?_eq_getElem hj]; simpa using e
  by_cases h32 : j = 32
  · subst h32; rw [e'] at h; simpa using h.2
  · have := List.all_eq_true.1 h.1 j (List.mem_range.2 (by omega))
    rw [e'] at this; simpa using this
set_option maxRecDepth 100000 in
set_option maxHeartbeats 8000000 in
theorem Light_any (cs : List Value) (T : List (List Int)) (P : Nat → Prop) (w : World) (h : TS w P cs T) :
    Calls Tryd.prog 12 #[.agg cs.toArray] w fun e w' => e = .returned (.bool (lightT T)) ∧ Below w.heap.size w w' := by
  obtain ⟨a1, a2, a3, a4⟩ := new_block w cs.toArray 27
  rw [List.toList_toArray] at a1
  have hrow : Hid (∀ k, k < 33 → ∃ A c n, (w.alloc (.cells cs.toArray 27)).cell? ⟨w.heap.size, k, none⟩ = some (.slice A n c) ∧ (T.getD k []).length = n) := Lib.hid fun k hk => by
    obtain ⟨v, l, h1, h2, h3, h4⟩ := h.get k hk
    obtain ⟨A, c, rfl, -⟩ := h4.form
    exact ⟨A, c, l.length, by have := a1 k _ h1; rwa [Nat.zero_add] at this, by rw [h3]⟩
  obtain ⟨R, hR⟩ : ∃ R, lightT T = R := ⟨_, rfl⟩
  rw [hR]
  replace hR := Lib.hid hR
  have hB := Lib.hid a3
  clear a1 a2 a3 a4 h
  go_enter Tryd.func12, Tryd.ntmps12
  go_upto_region 1 with fail
  generalize w.alloc (.cells cs.toArray 27) = W1 at hrow hB ⊢
  go_wp2_with fail
  go_loopw [3] (fun i wr => ∃ k : Nat, k ≤ 32 ∧ i = .int .i64 k ∧ wr = W1 ∧ Hid (∀ j, j < k → (T.getD j []).length ≤ 60)) (fun i _ => 32 - (intOf i).toNat)
  case atStart => exact ⟨0, Nat.zero_le _, rfl, by first | rfl | trivial, Lib.hid fun j hj => absurd hj (Nat.not_lt_zero _)⟩
  case round =>
    obtain ⟨k, hk, rfl, rfl, hr⟩ := hrel
    by_cases hlt : k < 32
    · obtain ⟨A, c, n, c1, e1⟩ := hrow.out k (by omega)
      by_cases hn : n ≤ 60
      · have hr2 : Hid (∀ j, j < k + 1 → (T.getD j []).length ≤ 60) := Lib.hid fun j hj => by
          by_cases e : j = k
          · subst e; omega
          · exact hr.out j (by omega)
        replace e1 := Lib.hid e1
        have hd : decide (60 < (n : Int)) = false := by simp; omega
        have hd2 : decide (60 < n) = false := by simp; omega
        go_wp2_with fail
        go_roundw
        case rel => exact ⟨k + 1, by omega, by go_num, by first | rfl | trivial, hr2⟩
        case measure => simp [intOf]; omega
      · have hRf : Hid (R = false) := Lib.hid (by
          rw [← hR.out]; unfold lightT
          rw [Bool.and_eq_false_iff]; left
          rw [List.all_eq_false]
          exact ⟨k, List.mem_range.2 hlt, by rw [e1]; simpa using hn⟩)
        have hd : decide (60 < (n : Int)) = true := by simp; omega
        have hd2 : decide (60 < n) = true := by simp; omega
        replace e1 := Lib.hid e1
        go_wp2_with fail
        go_ret
        exact ⟨by rw [hRf.out]; rfl, hB.out⟩
    · obtain rfl : k = 32 := by omega
      obtain ⟨A, c, n, c1, e1⟩ := hrow.out 32 (by decide)
      have hRt : Hid (R = decide (n ≤ 60)) := Lib.hid (by
        rw [← hR.out]; unfold lightT
        rw [e1, List.all_eq_true.2 (fun j hj => by simpa using hr.out j (List.mem_range.1 hj)), Bool.true_and])
      replace e1 := Lib.hid e1
      go_wp2_with fail
      go_ret
      refine ⟨?_, hB.out⟩
      rw [hRt.out]
      refine ret_bool ?_
      by_cases hn : n ≤ 60
      · rw [decide_eq_true hn]; simp; omega
      · rw [decide_eq_false hn]; simp; omega
/-- The law's rising: of numbers, each that is above all ahead. -/
def riseF : Int → List Int → List Int
  | _, [] => []
  | c, x :: l => if c < Pick x 200 then Pick x 200 :: riseF (Pick x 200) l else riseF c l
def riseL (l : List Int) : List Int := riseF (-1) l
theorem pick200 (x : Int) : 0 ≤ Pick x 200 ∧ Pick x 200 < 200 := by
  obtain ⟨k, hk, hk'⟩ := Pick_nat x 200 (by decide)
  omega
theorem riseF_rising : ∀ (l : List Int) (c : Int), risingF c (riseF c l) = true
  | [], _ => rfl
  | x :: l, c => by
    unfold riseF
    split
    · rw [risingF_cons]; exact ⟨by assumption, riseF_rising l _⟩
    · exact riseF_rising l c
theorem riseF_len : ∀ (l : List Int) (c : Int), (riseF c l).length ≤ l.length
  | [], _ => Nat.le_refl _
  | x :: l, c => by
    unfold riseF
    split
    · simpa using riseF_len l _
    · have := riseF_len l c; simp only [List.length_cons]; omega
theorem riseF_fit : ∀ (l : List Int) (c : Int), ∀ x ∈ riseF c l, 0 ≤ x ∧ x < 200
  | [], _, x, hx => absurd hx (by simp [riseF])
  | y :: l, c, x, hx => by
    unfold riseF at hx
    split at hx
    · rcases List.mem_cons.1 hx with rfl | hx
      · exact pick200 y
      · exact riseF_fit l _ x hx
    · exact riseF_fit l c x hx
/-- The last number, or less than none. -/
def lastOr (l : List Int) : Int := l.getLast?.getD (-1)
set_option maxRecDepth 100000 in
set_option maxHeartbeats 8000000 in
theorem Rise_any (v : Value) (l : List Int) (w : World) (h : RL w w.heap.size v l) (hn : l.length ≤ 1000) :
    Calls Tryd.prog 22 #[v] w (NewRL w (riseL l)) := by
  obtain ⟨i0, hi0, hi1, hi2, hi3⟩ := int_of
  obtain ⟨A, c, rfl, a1, a2, a3⟩ := h.form
  unfold maxLen at a2
  obtain ⟨R, hR⟩ : ∃ R, riseL l = R := ⟨_, rfl⟩
  rw [hR]
  replace hR := Lib.hid hR
  replace a3 := Lib.hid a3
  clear h
  go_enter Tryd.func22, Tryd.ntmps22
  go_wp2_with fail
  go_loopw [3, 4] (fun out i wr => ∃ (k : Nat) (zs : List Int), k ≤ l.length ∧ i = .int .i64 k ∧ wr.ownsRow w.heap.size 3 1 out zs.length (zs.map (Value.int .i64)) ∧ Below w.heap.size w wr ∧ zs.length ≤ k ∧ Hid (R = zs ++ riseF (lastOr zs) (l.drop k))) (fun _ i _ => l.length - (intOf i).toNat)
  case atStart => exact ⟨0, [], Nat.zero_le _, rfl, World.ownsRow_nil _ _ _ _, Below.refl _ _, Nat.le_refl _, Lib.hid (by rw [← hR.out]; rfl)⟩
  case round =>
    obtain ⟨k, zs, hk, rfl, hown, hB, hzk, hr⟩ := hrel
    obtain ⟨ao, cap, rfl, p1, p2, p3⟩ := own_slice2 hown
    by_cases hlt : k < l.length
    · obtain ⟨x, hx, hd⟩ := drop_at hlt
      obtain ⟨b, o, rfl, hb, hc⟩ := a3.out.resolve_left (fun e => by rw [e] at hlt; exact absurd hlt (Nat.not_lt_zero _))
      have cx : wr.cell? ⟨b, o + k, none⟩ = some (.int .i64 x) := (hB.cell (p := ⟨b, o + k, none⟩) hb).trans (hc k x hx)
      have hp := pick200 x
      obtain ⟨y, hy⟩ : ∃ y, Pick x 200 = y := ⟨_, rfl⟩
      have hP := Lib.hid (fun W => Pick_any x 200 (by decide) W)
      rw [hy] at hP hp
      obtain ⟨p, hlast⟩ : ∃ p, lastOr zs = p := ⟨_, rfl⟩
      have hr2 : Hid (R = zs ++ if p < y then y :: riseF y (l.drop (k + 1)) else riseF p (l.drop (k + 1))) := Lib.hid (by rw [hr.out, hd, riseF, hlast, hy])
      replace hc := Lib.hid hc
      replace hd := Lib.hid hd
      replace hy := Lib.hid hy
      clear hx hr
      have hg0 : (wr.alloc (.cells #[.int .i64 y] 3)).ownsRow w.heap.size 3 1 (.slice ao zs.length cap) zs.length (zs.map (Value.int .i64)) := ownsRow_keep hown ((Below.refl _ _).alloc (Nat.le_refl _) _)
      have hB0 : Below w.heap.size w (wr.alloc (.cells #[.int .i64 y] 3)) := hB.alloc hB.size _
      obtain ⟨v', w', hra, ho, hg, -⟩ := run_app (w := wr.alloc (.cells #[.int .i64 y] 3)) 23 (.slice ao zs.length cap) zs [y] (some ⟨wr.heap.size, 0, none⟩) 1 hg0 hB0.size (by simp; omega) (.inr ⟨_, 0, rfl, fun j z hz => by rw [World.cell?_alloc_new, Nat.zero_add]; rcases j with _ | j <;> simp at hz ⊢; exact hz⟩)
      have hB1 : Below w.heap.size w w' := hB0.grown hg hB0.size (fun k hk => (hg0.lt k hk).1)
      have hL : Hid ((zs ++ [y]).length = zs.length + 1) := Lib.hid (by simp)
      obtain ⟨ao2, cap2, rfl, -⟩ := own_slice2 ho
      replace hra := Lib.hid hra
      have hr3 : p < y → Hid (R = (zs ++ [y]) ++ riseF (lastOr (zs ++ [y])) (l.drop (k + 1))) := fun hpy => Lib.hid (by rw [hr2.out, if_pos hpy, List.append_assoc]; simp [lastOr])
      have hr4 : ¬ p < y → Hid (R = zs ++ riseF (lastOr zs) (l.drop (k + 1))) := fun hpy => Lib.hid (by rw [hr2.out, if_neg hpy, hlast])
      clear hg0 hB0 hg
      rcases List.eq_nil_or_concat zs with hz | ⟨zs', z, hz⟩
      · have hp1 : p = -1 := by rw [← hlast, hz]; rfl
        have hr5 := hr3 (by omega)
        have hn0 : Hid (zs.length = 0) := Lib.hid (by rw [hz]; rfl)
        replace hlast := Lib.hid hlast
        replace hown := Lib.hid hown
        replace hz := Lib.hid hz
        clear hr2 hr3 hr4 hp1
        rw [hn0.out] at hra ⊢
        go_wp2_with (first | (go_at_call 9; refine (hP.out _).mono ?_; rintro e w5 ⟨rfl, rfl⟩) | (at_builtin; refine wpList_app rfl (.tmp 30) (.tmp 32) 23 rfl _ _ _ rfl rfl hra.out ?_))
        go_roundw
        case rel => exact ⟨k + 1, zs ++ [y], by omega, by go_num, by rw [← hL.out]; exact ho, hB1, by rw [hL.out]; omega, hr5⟩
        case measure => simp [intOf]; omega
      · have hz' : zs = zs' ++ [z] := by rw [hz, List.concat_eq_append]
        have hp1 : p = z := by rw [← hlast, hz']; simp [lastOr]
        obtain ⟨m, hm⟩ : ∃ m, zs.length = m + 1 := ⟨zs'.length, by rw [hz']; simp⟩
        obtain ⟨g, rfl, hcg⟩ := own_cell hown m (by omega)
        have hgz : zs.getD m 0 = p := by
          rw [hp1, hz']
          have : m = zs'.length := by rw [hz'] at hm; simp at hm; omega
          rw [this]; simp [List.getD]
        rw [hgz] at hcg
        replace hlast := Lib.hid hlast
        replace hown := Lib.hid hown
        replace hz := Lib.hid hz
        replace hz' := Lib.hid hz'
        have hm2 := Lib.hid hm
        rw [hm] at hra p1 ⊢
        clear hr2 hgz hm hp1
        have hq1 : wrap64 (((m + 1 : Nat) : Int) - 1) = (m : Int) := by rw [IntWalk.wrap64_in _ (by omega)]; omega
        have hq2 : IntKind.i64.wrap (((m + 1 : Nat) : Int) - 1) = (m : Int) := by rw [IntKind.wrap_i64]; omega
        by_cases hpy : p < y
        · have hr5 := hr3 hpy
          have hd1 : decide (p < y) = true := decide_eq_true hpy
          clear hr3 hr4
          go_wp2_with (first | (go_at_call 9; refine (hP.out _).mono ?_; rintro e w5 ⟨rfl, rfl⟩) | (at_builtin; refine wpList_app rfl (.tmp 30) (.tmp 32) 23 rfl _ _ _ rfl rfl hra.out ?_))
          go_roundw
          case rel => exact ⟨k + 1, zs ++ [y], by omega, by go_num, by rw [← hL.out]; exact ho, hB1, by rw [hL.out]; omega, hr5⟩
          case measure => simp [intOf]; omega
        · have hr5 := hr4 hpy
          have hd1 : decide (p < y) = false := decide_eq_false hpy
          clear hr3 hr4
          go_wp2_with (go_at_call 9; refine (hP.out _).mono ?_; rintro e w5 ⟨rfl, rfl⟩)
          go_roundw
          case rel => exact ⟨k + 1, zs, by omega, by go_num, by rw [hm2.out]; have := hown.out; rw [hm2.out] at this; exact this, hB, by omega, hr5⟩
          case measure => simp [intOf]; omega
    · obtain rfl : k = l.length := by omega
      have hRz : Hid (R = zs) := Lib.hid (by rw [hr.out, List.drop_length]; simp [riseF])
      have hF := RP.of_own hown rfl
      replace hown := Lib.hid hown
      go_wp2_with fail
      go_ret
      exact ⟨⟨_, rfl, by rw [hRz.out]; exact hF⟩, hB⟩
end Go.Proofs.YtebeajnaamglkaaDoor
