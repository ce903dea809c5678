/- TaintJoins, whatever the lists. Conditions: the library's table of ASCII spaces lies as its initialiser lays it. -/
import Derived.Test.YtebeajnaamglkaaDoorTntLi
import Derived.Test.YtebeajnaamglkaaDoorTntKt
import Derived.Test.YtebeajnaamglkaaDoorTntMk
set_option linter.unusedSimpArgs false
set_option linter.unusedVariables false
namespace Go.Proofs.YtebeajnaamglkaaDoor
open Go.RowKit Go.Maps
theorem lawI : Keyed Tryd.prog 3 := int_keyed Tryd.underlying3
theorem zeroI (w : World) : (zeroValue 3).run Tryd.prog w = .ok (.int .i64 0) w := by kernel_rfl
theorem RL.at {w W : World} {B : Nat} {v : Value} {l : List Int} (h : RL w B v l) (hb : Below w.heap.size w W) (hB : B ≤ w.heap.size) : RL W W.heap.size v l := (h.below hb hB).more (Nat.le_trans hB hb.size)
theorem RP.rlat {w W : World} {P : Nat → Prop} {v : Value} {l : List Int} (h : RP w P v l) (hb : Below w.heap.size w W) : RL W W.heap.size v l := (h.below hb).rl
/-- Lists that are the same. -/
theorem Same_yes (v u : Value) (l m : List Int) (w : World) (h : RL w w.heap.size v l) (g : RL w w.heap.size u m) (e : l = m) : Calls Tryd.prog 15 #[v, u] w (Quiet w (.bool true)) := by
  have := Same_any v u l m _ _ w h g
  rw [show (l == m) = true by rw [e]; simp] at this
  exact this
theorem Join_yes (v u : Value) (l m : List Int) (w : World) (h : RL w w.heap.size v l) (g : RL w w.heap.size u m) (hl : risingB l = true) (hm : risingB m = true) (hn : l.length + m.length ≤ 1000000) : Calls Tryd.prog 17 #[v, u] w (NewRL w (mergeL l m)) := by
  have := Join_any v u l m w h g hn
  rw [joinL_yes hl hm] at this
  exact this
theorem Rising_yes (v : Value) (l : List Int) (w : World) (h : RL w w.heap.size v l) (hl : risingB l = true) : Calls Tryd.prog 19 #[v] w fun e w' => e = .returned (.bool true) ∧ w = w' := by
  have := Rising_any v l _ w h
  rw [hl] at this
  exact this
/-- The law's lists are too long. -/
def longJ (xs ys zs : List Int) : Bool := decide (60 < xs.length) || decide (60 < ys.length) || decide (60 < zs.length)
set_option maxRecDepth 100000 in
set_option maxHeartbeats 8000000 in
theorem Joins_long (a b c : Value) (xs ys zs : List Int) (w : World) (ha : RL w w.heap.size a xs) (hb : RL w w.heap.size b ys) (hc : RL w w.heap.size c zs) (ht : Tabs w) (hL : longJ xs ys zs = true) :
    Calls Tryd.prog 5 #[a, b, c] w fun e w' => e = .returned (.bool true) ∧ Below w.heap.size w w' := by
  have hLv := Lib.hid (lives_any w ht)
  obtain ⟨A1, c1, rfl, -⟩ := ha.form
  obtain ⟨A2, c2, rfl, -⟩ := hb.form
  obtain ⟨A3, c3, rfl, -⟩ := hc.form
  clear ha hb hc ht
  unfold longJ at hL
  by_cases h1 : 60 < xs.length
  · have d1 : decide (60 < (xs.length : Int)) = true := by simp; omega
    clear hL
    go_enter Tryd.func5, Tryd.ntmps5
    go_wp2_with (go_at_call 7; (with_reducible refine hLv.out.mono ?_); rintro e w1 ⟨rfl, hb1⟩)
    go_ret
    exact ⟨rfl, hb1⟩
  · have d1 : decide (60 < (xs.length : Int)) = false := by simp; omega
    by_cases h2 : 60 < ys.length
    · have d2 : decide (60 < (ys.length : Int)) = true := by simp; omega
      clear hL
      go_enter Tryd.func5, Tryd.ntmps5
      go_wp2_with (go_at_call 7; (with_reducible refine hLv.out.mono ?_); rintro e w1 ⟨rfl, hb1⟩)
      go_ret
      exact ⟨rfl, hb1⟩
    · have d2 : decide (60 < (ys.length : Int)) = false := by simp; omega
      have h3 : 60 < zs.length := by simpa [h1, h2] using hL
      have d3 : decide (60 < (zs.length : Int)) = true := by simp; omega
      clear hL
      go_enter Tryd.func5, Tryd.ntmps5
      go_wp2_with (go_at_call 7; (with_reducible refine hLv.out.mono ?_); rintro e w1 ⟨rfl, hb1⟩)
      go_ret
      exact ⟨rfl, hb1⟩
set_option maxRecDepth 100000 in
set_option maxHeartbeats 16000000 in
theorem Joins_short (a b c : Value) (xs ys zs : List Int) (w : World) (ha : RL w w.heap.size a xs) (hb : RL w w.heap.size b ys) (hc : RL w w.heap.size c zs) (ht : Tabs w) (hL : longJ xs ys zs = false) :
    Calls Tryd.prog 5 #[a, b, c] w fun e w' => e = .returned (.bool true) ∧ Below w.heap.size w w' := by
  have hLv := Lib.hid (lives_any w ht)
  have hlen : xs.length ≤ 60 ∧ ys.length ≤ 60 ∧ zs.length ≤ 60 := by unfold longJ at hL; simp at hL; omega
  have d1 : decide (60 < (xs.length : Int)) = false := by simp; omega
  have d2 : decide (60 < (ys.length : Int)) = false := by simp; omega
  have d3 : decide (60 < (zs.length : Int)) = false := by simp; omega
  obtain ⟨A1, c1, rfl, -⟩ := ha.form
  obtain ⟨A2, c2, rfl, -⟩ := hb.form
  obtain ⟨A3, c3, rfl, -⟩ := hc.form
  obtain ⟨n1, n2, n3⟩ := hlen
  have hra : Hid (∀ W, Below w.heap.size w W → Calls Tryd.prog 22 #[.slice A1 xs.length c1] W (NewRL W (riseL xs))) := Lib.hid fun W hW => Rise_any _ xs W (ha.at hW (Nat.le_refl _)) (by omega)
  have hrb : Hid (∀ W, Below w.heap.size w W → Calls Tryd.prog 22 #[.slice A2 ys.length c2] W (NewRL W (riseL ys))) := Lib.hid fun W hW => Rise_any _ ys W (hb.at hW (Nat.le_refl _)) (by omega)
  have hrc : Hid (∀ W, Below w.heap.size w W → Calls Tryd.prog 22 #[.slice A3 zs.length c3] W (NewRL W (riseL zs))) := Lib.hid fun W hW => Rise_any _ zs W (hc.at hW (Nat.le_refl _)) (by omega)
  have r1 : Hid (risingB (riseL xs) = true) := Lib.hid (riseF_rising xs (-1))
  have r2 : Hid (risingB (riseL ys) = true) := Lib.hid (riseF_rising ys (-1))
  have r3 : Hid (risingB (riseL zs) = true) := Lib.hid (riseF_rising zs (-1))
  have f1 : Hid (∀ x ∈ riseL xs, 0 ≤ x ∧ x < 200) := Lib.hid (riseF_fit xs (-1))
  have f2 : Hid (∀ x ∈ riseL ys, 0 ≤ x ∧ x < 200) := Lib.hid (riseF_fit ys (-1))
  have l1 : (riseL xs).length ≤ 60 := Nat.le_trans (riseF_len xs (-1)) n1
  have l2 : (riseL ys).length ≤ 60 := Nat.le_trans (riseF_len ys (-1)) n2
  have l3 : (riseL zs).length ≤ 60 := Nat.le_trans (riseF_len zs (-1)) n3
  clear ha hb hc hL ht n1 n2 n3
  generalize riseL xs = P at *
  generalize riseL ys = Q at *
  generalize riseL zs = S at *
  have hmm := @run_makeMap Tryd.prog
  go_enter Tryd.func5, Tryd.ntmps5
  go_upto_region 5 with (go_at_call 7; (with_reducible refine hLv.out.mono ?_); rintro e w1 ⟨rfl, hb1⟩; have hr1 := Lib.hid (hra.out w1 hb1))
  clear hLv hra d1 d2 d3
  go_upto_region 6 with (first | (go_at_call 22; (with_reducible refine hr1.out.mono ?_); rintro e w2 ⟨⟨v2, rfl, s2⟩, q2⟩; have hb2 := bl_step hb1 q2; have hr2 := Lib.hid (hrb.out w2 hb2); clear hr1 hrb) | (go_at_call 22; (with_reducible refine hr2.out.mono ?_); rintro e w3 ⟨⟨v3, rfl, s3⟩, q3⟩; have hb3 := bl_step hb2 q3; have hr3 := Lib.hid (hrc.out w3 hb3); clear hr2 hrc) | (go_at_call 22; (with_reducible refine hr3.out.mono ?_); rintro e w4 ⟨⟨v4, rfl, s4⟩, q4⟩; have hb4 := bl_step hb3 q4; clear hr3))
  have sa := s2.rlat (bl_step q3 q4)
  have sb := s3.rlat q4
  have sc := s4.rl
  obtain ⟨B1, k1, hv1, -⟩ := sa.form
  obtain ⟨B2, k2, hv2, -⟩ := sb.form
  obtain ⟨B3, k3, hv3, -⟩ := sc.form
  subst hv1 hv2 hv3
  have ho1 := Lib.hid (KOwn_any _ P w4 sa (by omega))
  replace sa := Lib.hid sa
  replace sb := Lib.hid sb
  replace sc := Lib.hid sc
  clear hb1 hb2 hb3 q2 q3 q4 s2 s3 s4
  go_upto_region 7 with (first | (go_at_call 20; (with_reducible refine ho1.out.mono ?_); rintro e w5 ⟨⟨v5, rfl, s5⟩, q5⟩; have ho2 := Lib.hid (KOwn_any _ Q w5 (sb.out.at q5 (Nat.le_refl _)) (by omega)); clear ho1) | (go_at_call 20; (with_reducible refine ho2.out.mono ?_); rintro e w6 ⟨⟨v6, rfl, s6⟩, q6⟩; have hj1 := Lib.hid (Join_yes v5 v6 P Q w6 (s5.rlat q6) s6.rl r1.out r2.out (by omega)); clear ho2) | (go_at_call 17; (with_reducible refine hj1.out.mono ?_); rintro e w7 ⟨⟨v7, rfl, s7⟩, q7⟩; clear hj1))
  have q47 := bl_step (bl_step q5 q6) q7
  have hB7 := bl_step hb4 q47
  have sx := s7.rl
  obtain ⟨B4, k4, hv4, -⟩ := sx.form
  subst hv4
  replace sa := Lib.hid (sa.out.at q47 (Nat.le_refl _))
  replace sb := Lib.hid (sb.out.at q47 (Nat.le_refl _))
  replace sc := Lib.hid (sc.out.at q47 (Nat.le_refl _))
  replace sx := Lib.hid sx
  have r4 : Hid (risingB (mergeL P Q) = true) := Lib.hid (rising_mergeL r1.out r2.out)
  have f4 : Hid (∀ x ∈ mergeL P Q, 0 ≤ x ∧ x < 200) := Lib.hid fun x hx => ((mem_mergeL P Q x).1 hx).elim (f1.out x) (f2.out x)
  have l4 : (mergeL P Q).length ≤ 120 := Nat.le_trans (mergeL_len P Q) (by omega)
  have m4 : Hid (∀ x ∈ mergeL P Q, x ∈ Q.foldl addK (P.foldl addK [])) := Lib.hid fun x hx => by rw [mem_addKs, mem_addKs]; have := (mem_mergeL P Q x).1 hx; simp only [List.not_mem_nil, false_or]; exact this
  have e1 : Hid (mergeL Q P = mergeL P Q) := Lib.hid (mergeL_comm r1.out r2.out)
  have e2 : Hid (mergeL (mergeL P Q) S = mergeL P (mergeL Q S)) := Lib.hid (mergeL_assoc r1.out r2.out r3.out)
  have e3 : Hid (mergeL P P = P) := Lib.hid (mergeL_self r1.out)
  have e4 : Hid ((Q.foldl addK (P.foldl addK [])).length = (mergeL P Q).length) := Lib.hid (keys_len r1.out r2.out)
  generalize hX : mergeL P Q = X at *
  replace hX := Lib.hid hX
  clear q5 q6 q7 q47 hb4 s5 s6 s7
  have hrow : ∀ (A : Option Addr) (l : List Int) (c : Nat), RL w7 w7.heap.size (.slice A l.length c) l → Hid (∀ wr k, Below w7.heap.size w7 wr → k < l.length → ∃ b o x, A = some ⟨b, o, none⟩ ∧ wr.cell? ⟨b, o + k, none⟩ = some (.int .i64 x) ∧ l[k]? = some x ∧ k < c) := fun A l c h => Lib.hid fun wr k hwr hk => by
    obtain ⟨A', c', he, h1, h2, h3⟩ := h.form
    simp only [Value.slice.injEq] at he
    obtain ⟨rfl, -, rfl⟩ := he
    obtain ⟨b, o, rfl, hb, hc⟩ := h3.resolve_left (fun e => by rw [e] at hk; exact absurd hk (Nat.not_lt_zero _))
    exact ⟨b, o, l[k], rfl, (hwr.cell (p := ⟨b, o + k, none⟩) hb).trans (hc k _ (List.getElem?_eq_getElem hk)), List.getElem?_eq_getElem hk, by omega⟩
  have hwa := hrow B1 P k1 sa.out
  have hwb := hrow B2 Q k2 sb.out
  have hwx := hrow B4 X k4 sx.out
  clear hrow
  go_upto_region 8 with fail
  go_upto_region 9 with fail
  go_loopw [9] (fun i wr => ∃ (k : Nat) (D : DataW Unit), k ≤ P.length ∧ i = .int .i64 k ∧ wr.ownsMap Tryd.prog 3 (plainElem Tryd.prog 3) w7.heap.size k D ∧ Below w7.heap.size w7 wr ∧ Hid (MK D ((P.take k).foldl addK []))) (fun i _ => P.length - (intOf i).toNat)
  case atStart => exact ⟨0, .map [], Nat.zero_le _, rfl, World.ownsMap_made _ _ _ _, (Below.refl _ _).alloc (Nat.le_refl _) _, Lib.hid (by rw [List.take_zero]; exact MK.start)⟩
  case round =>
    obtain ⟨k, D, hk, rfl, hown, hwr, hmk⟩ := hrel
    by_cases hlt : k < P.length
    · obtain ⟨b, o, x, rfl, hc, hx, hkc⟩ := hwa.out wr k hwr hlt
      have hfit := f1.out x (List.mem_of_getElem? hx)
      have hwf : (Lit.int .i64 x).wf = true := WalkArith.wf_i64 (by omega)
      have hkey : keyOf Tryd.prog 3 (.int .i64 x) = some (.int .i64 x) := keyOf_int_mk Tryd.underlying3 hwf
      have hx2 := Lib.hid hx
      clear hx
      go_wp2_with (first | (at_mapUpdate; refine wpList_mapUpdate_own _ rfl _ _ _ 52 rfl 3 3 lawI Tryd.underlying52 _ w7.heap.size k _ rfl hown (by unfold maxLen; omega) _ _ _ rfl rfl hkey _ [] (plainElem_int Tryd.underlying3 (by decide)) ?_; intro w8 hown1 hgrow1) | go_in)
      go_roundw
      case rel => exact ⟨k + 1, _, by omega, by go_num, hown1, hwr.grown hgrow1 hwr.size (fun j hj => by cases hj; exact Nat.le_refl _), Lib.hid (by rw [take_fold _ hx2.out]; exact hmk.out.put x)⟩
      case measure => simp [intOf]; omega
    · obtain rfl : k = P.length := by omega
      have hmk1 : Hid (MK D (P.foldl addK [])) := Lib.hid (by have := hmk.out; rwa [List.take_length] at this)
      clear hmk
      go_upto_region 12 with fail
      go_upto_region 13 with fail
      go_loopw [10] (fun i wr => ∃ (k : Nat) (D : DataW Unit), k ≤ Q.length ∧ i = .int .i64 k ∧ wr.ownsMap Tryd.prog 3 (plainElem Tryd.prog 3) w7.heap.size (P.length + k) D ∧ Below w7.heap.size w7 wr ∧ Hid (MK D ((Q.take k).foldl addK (P.foldl addK [])))) (fun i _ => Q.length - (intOf i).toNat)
      case atStart => exact ⟨0, D, Nat.zero_le _, rfl, hown, hwr, Lib.hid (by rw [List.take_zero]; exact hmk1.out)⟩
      case round =>
        clear hown hwr hmk1 hlt hk
        obtain ⟨k, D, hk, rfl, hown, hwr, hmk⟩ := hrel
        by_cases hlt : k < Q.length
        · obtain ⟨b, o, x, rfl, hc, hx, hkc⟩ := hwb.out _ k hwr hlt
          have hfit := f2.out x (List.mem_of_getElem? hx)
          have hwf : (Lit.int .i64 x).wf = true := WalkArith.wf_i64 (by omega)
          have hkey : keyOf Tryd.prog 3 (.int .i64 x) = some (.int .i64 x) := keyOf_int_mk Tryd.underlying3 hwf
          have hx2 := Lib.hid hx
          clear hx
          go_wp2_with (first | (at_mapUpdate; refine wpList_mapUpdate_own _ rfl _ _ _ 52 rfl 3 3 lawI Tryd.underlying52 _ w7.heap.size (P.length + k) _ rfl hown (by unfold maxLen; omega) _ _ _ rfl rfl hkey _ [] (plainElem_int Tryd.underlying3 (by decide)) ?_; intro w8 hown1 hgrow1) | go_in)
          go_roundw
          case rel => exact ⟨k + 1, _, by omega, by go_num, hown1, hwr.grown hgrow1 hwr.size (fun j hj => by cases hj; exact Nat.le_refl _), Lib.hid (by rw [take_fold _ hx2.out]; exact hmk.out.put x)⟩
          case measure => simp [intOf]; omega
        · obtain rfl : k = Q.length := by omega
          have hmk1 : Hid (MK D (Q.foldl addK (P.foldl addK []))) := Lib.hid (by have := hmk.out; rwa [List.take_length] at this)
          clear hmk
          go_upto_region 16 with fail
          go_upto_region 17 with fail
          have hB8 := bl_step hB7 hwr
          replace sa := Lib.hid (sa.out.at hwr (Nat.le_refl _))
          replace sb := Lib.hid (sb.out.at hwr (Nat.le_refl _))
          replace sc := Lib.hid (sc.out.at hwr (Nat.le_refl _))
          replace sx := Lib.hid (sx.out.at hwr (Nat.le_refl _))
          have hsz : Hid (Maps.size D = X.length) := Lib.hid (by rw [hmk1.out.size, e4.out])
          clear hwa hwb e4 hlt hk
          go_loopw [11] (fun i w' => ∃ k : Nat, k ≤ X.length ∧ i = .int .i64 k ∧ w' = wr) (fun i _ => X.length - (intOf i).toNat)
          case atStart => exact ⟨0, Nat.zero_le _, rfl, by first | rfl | trivial⟩
          case round =>
            obtain ⟨k, hk, rfl, hww⟩ := hrel
            subst hww
            by_cases hlt : k < X.length
            · obtain ⟨b, o, x, rfl, hc, hx, hkc⟩ := hwx.out _ k hwr hlt
              have hfit := f4.out x (List.mem_of_getElem? hx)
              have hmem := Lib.hid (m4.out x (List.mem_of_getElem? hx))
              have hwf : (Lit.int .i64 x).wf = true := WalkArith.wf_i64 (by omega)
              have hkey : keyOf Tryd.prog 3 (.int .i64 x) = some (.int .i64 x) := keyOf_int_mk Tryd.underlying3 hwf
              clear hx
              go_wp2_with (first | (at_lookup; refine wpList_lookup_own_int _ rfl _ _ 52 rfl 3 3 .i64 lawI Tryd.underlying52 Tryd.underlying3 (zeroI _) w7.heap.size (P.length + Q.length) D rfl hown _ _ rfl hkey ?_; intro c hat hwc; rw [hmk1.out.at_ x, if_pos hmem.out] at hat; injection hat with hat; injection hat with _ hat; subst hat) | go_in)
              go_roundw
              case rel => exact ⟨k + 1, by omega, by go_num, by first | rfl | trivial⟩
              case measure => simp [intOf]; omega
            · obtain rfl : k = X.length := by omega
              go_upto_region 21 with fail
              have hg1 := Lib.hid (Rising_yes _ X _ sx.out r4.out)
              have hg2 := Lib.hid (Join_yes _ _ Q P _ sb.out sa.out r2.out r1.out (by omega))
              rw [e1.out] at hg2
              have hlS := mergeL_len Q S
              have hlT := mergeL_len P (mergeL Q S)
              have hlU := mergeL_len X S
              have r5 : Hid (risingB (mergeL Q S) = true) := Lib.hid (rising_mergeL r2.out r3.out)
              have sz5 : Hid ((mergeL Q S).length ≤ 120) := Lib.hid (by omega)
              clear hlS hlT hlU hwx hmk1 m4 f1 f2 f4
              go_wp2_with (first | (at_len; refine wpList_len_own _ rfl _ 52 rfl 3 3 Tryd.underlying52 _ w7.heap.size (P.length + Q.length) D rfl hown ?_; rw [hsz.out]) | (go_at_call 19; (with_reducible refine hg1.out.mono ?_); rintro e w8 ⟨rfl, hw8⟩; subst hw8; clear hg1) | (go_at_call 17; (with_reducible refine hg2.out.mono ?_); rintro e w9 ⟨⟨u9, rfl, t9⟩, q9⟩; have hB9 := bl_step hB8 q9; replace sa := Lib.hid (sa.out.at q9 (Nat.le_refl _)); replace sb := Lib.hid (sb.out.at q9 (Nat.le_refl _)); replace sc := Lib.hid (sc.out.at q9 (Nat.le_refl _)); replace sx := Lib.hid (sx.out.at q9 (Nat.le_refl _)); have hg3 := Lib.hid (Same_yes u9 _ X X w9 t9.rl sx.out rfl); clear hg2) | (go_at_call 15; (with_reducible refine hg3.out.mono ?_); rintro e w10 q; obtain ⟨rfl, q10⟩ := q.below; have hB10 := bl_step hB9 q10; replace sa := Lib.hid (sa.out.at q10 (Nat.le_refl _)); replace sb := Lib.hid (sb.out.at q10 (Nat.le_refl _)); replace sc := Lib.hid (sc.out.at q10 (Nat.le_refl _)); replace sx := Lib.hid (sx.out.at q10 (Nat.le_refl _)); have hg4 := Lib.hid (Join_yes _ _ X S w10 sx.out sc.out r4.out r3.out (by omega)); clear hg3) | (go_at_call 17; (with_reducible refine hg4.out.mono ?_); rintro e w11 ⟨⟨u11, rfl, t11⟩, q11⟩; have hB11 := bl_step hB10 q11; replace sa := Lib.hid (sa.out.at q11 (Nat.le_refl _)); replace sb := Lib.hid (sb.out.at q11 (Nat.le_refl _)); replace sc := Lib.hid (sc.out.at q11 (Nat.le_refl _)); replace sx := Lib.hid (sx.out.at q11 (Nat.le_refl _)); have hg5 := Lib.hid (Join_yes _ _ Q S w11 sb.out sc.out r2.out r3.out (by omega)); clear hg4) | (go_at_call 17; (with_reducible refine hg5.out.mono ?_); rintro e w12 ⟨⟨u12, rfl, t12⟩, q12⟩; have hB12 := bl_step hB11 q12; replace sa := Lib.hid (sa.out.at q12 (Nat.le_refl _)); replace t11 := t11.below q12; have hg6 := Lib.hid (Join_yes _ _ P (mergeL Q S) w12 sa.out t12.rl r1.out r5.out (by have := sz5.out; omega)); clear hg5) | (go_at_call 17; (with_reducible refine hg6.out.mono ?_); rintro e w13 ⟨⟨u13, rfl, t13⟩, q13⟩; have hB13 := bl_step hB12 q13; replace sa := Lib.hid (sa.out.at q13 (Nat.le_refl _)); replace t11 := t11.below q13; have hg7 := Lib.hid (Same_yes u11 u13 _ _ w13 t11.rl t13.rl e2.out); clear hg6) | (go_at_call 15; (with_reducible refine hg7.out.mono ?_); rintro e w14 q; obtain ⟨rfl, q14⟩ := q.below; have hB14 := bl_step hB13 q14; replace sa := Lib.hid (sa.out.at q14 (Nat.le_refl _)); have hg8 := Lib.hid (Join_yes _ _ P P w14 sa.out sa.out r1.out r1.out (by omega)); rw [e3.out] at hg8; clear hg7) | (go_at_call 17; (with_reducible refine hg8.out.mono ?_); rintro e w15 ⟨⟨u15, rfl, t15⟩, q15⟩; have hB15 := bl_step hB14 q15; replace sa := Lib.hid (sa.out.at q15 (Nat.le_refl _)); have hg9 := Lib.hid (Same_yes u15 _ P P w15 t15.rl sa.out rfl); clear hg8) | (go_at_call 15; (with_reducible refine hg9.out.mono ?_); rintro e w16 q; obtain ⟨rfl, q16⟩ := q.below; have hB16a := bl_step hB15 q16; replace sa := Lib.hid (sa.out.at q16 (Nat.le_refl _)); have hg10 := Lib.hid (Join_yes _ _ P [] w16 sa.out (RL.nil _ _) r1.out rfl (by simp; omega)); rw [mergeL_nil2] at hg10; clear hg9) | (go_at_call 17; (with_reducible refine hg10.out.mono ?_); rintro e w17 ⟨⟨u17, rfl, t17⟩, q17⟩; have hB17 := bl_step hB16a q17; replace sa := Lib.hid (sa.out.at q17 (Nat.le_refl _)); have hg11 := Lib.hid (Same_yes u17 _ P P w17 t17.rl sa.out rfl); clear hg10) | (go_at_call 15; (with_reducible refine hg11.out.mono ?_); rintro e w18 q; obtain ⟨rfl, q18⟩ := q.below; have hB16 := bl_step hB17 q18; clear hg11) | go_in)
              go_ret
              exact ⟨rfl, hB16⟩
/-- TaintJoins, whatever the lists. -/
theorem TaintJoins_any (a b c : Value) (xs ys zs : List Int) (w : World) (ha : RL w w.heap.size a xs) (hb : RL w w.heap.size b ys) (hc : RL w w.heap.size c zs) (ht : Tabs w) :
    Calls Tryd.prog 5 #[a, b, c] w fun e w' => e = .returned (.bool true) ∧ Below w.heap.size w w' := by
  cases hL : longJ xs ys zs
  · exact Joins_short a b c xs ys zs w ha hb hc ht hL
  · exact Joins_long a b c xs ys zs w ha hb hc ht hL
end Go.Proofs.YtebeajnaamglkaaDoor
