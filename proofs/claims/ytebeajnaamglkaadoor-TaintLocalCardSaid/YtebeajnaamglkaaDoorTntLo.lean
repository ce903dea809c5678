/- TaintLocal, its beginning. Conditions: the library's table of ASCII spaces lies as its initialiser lays it. -/
import Derived.Test.YtebeajnaamglkaaDoorTntLf
import Derived.Test.YtebeajnaamglkaaDoorTntSe
import Derived.Test.YtebeajnaamglkaaDoorHartS
import Derived.Deep.DeepCutAuto
import Derived.Deep.RegionHeld
import Derived.Deep.QuietTactic
import Derived.BigQuiet
set_option linter.unusedSimpArgs false
set_option linter.unusedVariables false
namespace Go.Proofs.YtebeajnaamglkaaDoor
open Go.RowKit
theorem drew_belowL (w : World) : Below w.heap.size w w.drew := ⟨rfl, rfl, rfl, Nat.le_refl _, fun _ _ => rfl⟩
theorem drewN_belowL (w : World) (n : Nat) : Below w.heap.size w (w.drewN n) := ⟨rfl, rfl, rfl, Nat.le_refl _, fun _ _ => rfl⟩
theorem Same_yesL (v u : Value) (l m : List Int) (w : World) (h : RL w w.heap.size v l) (g : RL w w.heap.size u m) (e : l = m) : Calls Tryd.prog 15 #[v, u] w (Quiet w (.bool true)) := by
  have := Same_any v u l m _ _ w h g
  rw [show (l == m) = true by rw [e]; simp] at this
  exact this
theorem getD_mem {T : List (List Int)} {k : Nat} (h : k < T.length) : T.getD k [] ∈ T := by rw [List.getD, List.getElem?_eq_getElem h]; exact List.getElem_mem _
theorem mergeL_two {T : List (List Int)} (h : ∀ l ∈ T, l.length ≤ 60) (rs acc : List Int) : (onF T acc rs).length ≤ acc.length + rs.length * 60 := by
  induction rs generalizing acc with
  | nil => exact Nat.le_add_right _ _
  | cons r rs ih =>
    have h1 := ih (mergeL acc (T.getD r.toNat []))
    have h2 := mergeL_len acc (T.getD r.toNat [])
    have h3 : (T.getD r.toNat []).length ≤ 60 := by
      rw [List.getD]
      cases hr : T[r.toNat]? with
      | none => simp
      | some l => exact h l (List.mem_of_getElem? hr)
    have h4 : onF T acc (r :: rs) = onF T (mergeL acc (T.getD r.toNat [])) rs := rfl
    rw [h4]
    simp only [List.length_cons]
    omega
theorem stepT_lens {T : List (List Int)} (h : ∀ l ∈ T, l.length ≤ 60) (i : InsnV) (ev : Int) : ∀ l ∈ stepT T i ev, l.length ≤ 60 + (readsP i).length * 60 + 60 := fun l hl => by
  have hg : (T.getD 32 []).length ≤ 60 := by
    rw [List.getD]
    cases hr : T[32]? with
    | none => simp
    | some l => exact h l (List.mem_of_getElem? hr)
  have hr := mergeL_two h (readsP i) []
  have hw : (wayT T i).length ≤ 60 + (readsP i).length * 60 + 60 := by
    unfold wayT
    split
    · have := mergeL_len (T.getD 32 []) (readT T i); unfold readT onL at *; simp only [List.length_nil] at hr; omega
    · omega
  have ho : (outT T i ev).length ≤ 60 + (readsP i).length * 60 + 60 := by
    unfold outT
    split
    · split <;> simp
    · split
      · simp
      · unfold readT onL; simp only [List.length_nil] at hr; omega
  have key : ∀ l ∈ T.set 32 (wayT T i), l.length ≤ 60 + (readsP i).length * 60 + 60 := fun l hm => by
    rcases mem_set_of hm with hm | rfl
    · have := h l hm; omega
    · exact hw
  unfold stepT at hl
  split at hl
  · rcases mem_set_of hl with hm | rfl
    · exact key l hm
    · exact ho
  · exact key l hl
theorem readsL_lenL (i : InsnV) : (readsL i).length ≤ 31 := by
  unfold readsL
  split
  · decide
  · exact readsK_len i 31
theorem call_zeroL (i : InsnV) (hc : checkE i = 0) (ho : i.op = 64) : i.rs1 = 0 ∧ i.rs2 = 0 := by
  have hok : checkOk i = true := by
    unfold checkE at hc
    cases hk : checkOk i with
    | true => rfl
    | false => rw [hk] at hc; cases hc
  unfold checkOk at hok
  have hf : (opOf i.op).form = 10 := by rw [ho]; decide +kernel
  rw [hf] at hok
  simp [formOk] at hok
  omega
theorem unread_L (i : InsnV) (hc : checkE i = 0) (r : Nat) (h1 : 1 ≤ r) (h2 : r < 32) (h : (r : Int) ∉ readsL i) : i.rs1.toNat ≠ r ∧ i.rs2.toNat ≠ r ∧ ∀ x ∈ readsP i, x.toNat ≠ r := by
  rcases readsL_mem i r h1 h2 h with ⟨h3, h4, h5⟩ | ⟨h3, h4, h5⟩
  · refine ⟨by omega, by omega, fun x hx => ?_⟩
    rcases reads_form i hc with e | ⟨y, e, y1, y2, y3⟩ | ⟨y, z, e, y1, y2, y3, y4, y5⟩
    · rw [e] at hx; cases hx
    · rw [e, List.mem_singleton] at hx
      rcases y3 with q | q | q
      · exact absurd q h3
      · omega
      · omega
    · rw [e, List.mem_cons, List.mem_singleton] at hx
      rcases hx with rfl | rfl
      · rcases y4 with q | q | q
        · exact absurd q h3
        · omega
        · omega
      · rcases y5 with q | q | q
        · exact absurd q h3
        · omega
        · omega
  · have hz := call_zeroL i hc h3
    refine ⟨by omega, by omega, fun x hx => ?_⟩
    have e : readsP i = [10, 17] := by
      unfold readsP
      rw [if_pos h3, ms2, if_pos (by decide), compact2, if_neg (by decide)]
      rfl
    rw [e, List.mem_cons, List.mem_singleton] at hx
    rcases hx with rfl | rfl <;> simp <;> omega
theorem Deps_yes (va vd vw ua ud uw : Value) (da dd dw : List Int) (w : World) (h1 : RL w w.heap.size va da) (h2 : RL w w.heap.size vd dd) (h3 : RL w w.heap.size vw dw) (g1 : RL w w.heap.size ua da) (g2 : RL w w.heap.size ud dd) (g3 : RL w w.heap.size uw dw) :
    Calls Tryd.prog 21 #[.agg #[va, vd, vw], .agg #[ua, ud, uw]] w fun e w' => e = .returned (.bool true) ∧ Below w.heap.size w w' := by
  have key := Deps_any va vd vw ua ud uw da dd dw da dd dw w h1 h2 h3 g1 g2 g3
  rw [show (da == da && dd == dd && dw == dw) = true by simp] at key
  exact key
section
variable {W : World} {X : Nat} {cs : List Value} {T : List (List Int)} {va vd vw : Value} {da dd dw : List Int}
theorem TQ.cx (h : TQ W X cs T va vd vw da dd dw) (k : Nat) (v : Value) (hk : cs[k]? = some v) : W.cell? ⟨X, k, none⟩ = some v := by have := h.rt k v hk; rwa [Nat.zero_add] at this
theorem TQ.get1 (h : TQ W X cs T va vd vw da dd dw) (k : Nat) (hk : k < 33) : ∃ v, cs[k]? = some v := ⟨_, List.getElem?_eq_getElem (by rw [h.ts.lc]; exact hk)⟩
theorem TQ.rl (h : TQ W X cs T va vd vw da dd dw) (k : Nat) (v : Value) (hk : cs[k]? = some v) : RL W W.heap.size v (T.getD k []) := by
  have hk2 : k < 33 := by have := (List.getElem?_eq_some_iff.1 hk).1; rw [h.ts.lc] at this; exact this
  obtain ⟨u, l, e1, e2, e3, e4⟩ := h.ts.get k hk2
  rw [hk] at e1
  obtain rfl := Option.some.inj e1
  rw [e3]; exact e4.rl
end
theorem three_one {va vd vw : Value} (h1 : va.oneCell' = true) (h2 : vd.oneCell' = true) (h3 : vw.oneCell' = true) : ∀ v ∈ [va, vd, vw], v.oneCell' = true := fun v hv => by
  simp only [List.mem_cons, List.not_mem_nil, or_false] at hv
  rcases hv with rfl | rfl | rfl
  · exact h1
  · exact h2
  · exact h3
set_option maxRecDepth 100000 in
set_option maxHeartbeats 16000000 in
theorem Local_long (cs : List Value) (T : List (List Int)) (i : InsnV) (ev r : Int) (vo : Value) (lo : List Int) (w : World) (h : TS w (fun b => b < w.heap.size) cs T) (ho : RL w w.heap.size vo lo) (hop : i.op ≤ 9223372036854775807) (ht : Tabs w) (hlong : lightT T = false ∨ 60 < lo.length) :
    Calls Tryd.prog 4 #[.agg cs.toArray, .agg i.cells, .int .i64 ev, .int .i64 r, vo] w fun e w' => e = .returned (.bool true) ∧ Below w.heap.size w w' := by
  have huT := Tryd.underlying27
  have huI := Tryd.underlying33
  have hlc := h.lc
  have hLF := LF.start w cs.toArray i.cells T 27 33 h
  obtain ⟨ics, hics⟩ : ∃ l, l = i.cells.toList := ⟨_, rfl⟩
  have hsc : Hid ((Tryd.prog.info? 27).map (·.size) = some cs.length) := Lib.hid (by rw [hlc]; exact size_taint)
  have hsi : Hid ((Tryd.prog.info? 33).map (·.size) = some ics.length) := Lib.hid (by rw [hics]; kernel_rfl)
  have hLv := Lib.hid (fun W (hW : Below w.heap.size w W) => lives_any W (ht.later hW (Nat.le_refl _)))
  have hLg := Lib.hid (fun W h2 => Light_any cs T (fun b => b < w.heap.size) W h2)
  have hia : Hid (i.cells = ics.toArray) := Lib.hid (by rw [hics])
  rw [← hics, List.toList_toArray] at hLF
  rw [hia.out] at hLF ⊢
  obtain ⟨Ao, co, rfl, o1, o2, o3⟩ := ho.form
  unfold maxLen at o2
  clear ho o1 o2 o3 hop
  by_cases hl : lightT T = false
  · rw [hl] at hLg
    clear hlong hl hics
    go_enter Tryd.func4, Tryd.ntmps4
    go_upto_region 1 with fail
    generalize (w.alloc (.cells cs.toArray 27)).alloc (.cells ics.toArray 33) = W0 at hLF ⊢
    go_upto_region 3 with (go_at_call 7; (with_reducible refine (hLv.out _ hLF.bl).mono ?_); rintro e w1 ⟨rfl, hb1⟩; have hL := hLF.keep hb1; have hr0 := hL.r0; have hts := Lib.hid hL.ts; have hbl := Lib.hid hL.bl; clear hL)
    go_wp2_with (first | (refine wpList_load_mid rfl 27 _ rfl w.heap.size 0 rfl cs _ hr0 huT rfl hsc.out ?_) | (go_at_call 12; (with_reducible refine (hLg.out _ hts.out).mono ?_); rintro e w2 ⟨rfl, hb2⟩))
    go_ret
    exact ⟨rfl, bl_step hbl.out hb2⟩
  · have hl2 : lightT T = true := by simpa using hl
    have hn := hlong.resolve_left hl
    have d1 : decide (60 < (lo.length : Int)) = true := by simp; omega
    rw [hl2] at hLg
    clear hlong hl hl2 hics hn
    go_enter Tryd.func4, Tryd.ntmps4
    go_upto_region 1 with fail
    generalize (w.alloc (.cells cs.toArray 27)).alloc (.cells ics.toArray 33) = W0 at hLF ⊢
    go_upto_region 3 with (go_at_call 7; (with_reducible refine (hLv.out _ hLF.bl).mono ?_); rintro e w1 ⟨rfl, hb1⟩; have hL := hLF.keep hb1; have hr0 := hL.r0; have hts := Lib.hid hL.ts; have hbl := Lib.hid hL.bl; clear hL)
    go_wp2_with (first | (refine wpList_load_mid rfl 27 _ rfl w.heap.size 0 rfl cs _ hr0 huT rfl hsc.out ?_) | (go_at_call 12; (with_reducible refine (hLg.out _ hts.out).mono ?_); rintro e w2 ⟨rfl, hb2⟩))
    go_ret
    exact ⟨rfl, bl_step hbl.out hb2⟩
set_option maxRecDepth 100000 in
set_option maxHeartbeats 16000000 in
theorem Local_short (cs : List Value) (T : List (List Int)) (i : InsnV) (ev r : Int) (vo : Value) (lo : List Int) (w : World) (h : TS w (fun b => b < w.heap.size) cs T) (ho : RL w w.heap.size vo lo) (hop : i.op ≤ 9223372036854775807) (ht : Tabs w) (hl : lightT T = true) (hn : lo.length ≤ 60) :
    Calls Tryd.prog 4 #[.agg cs.toArray, .agg i.cells, .int .i64 ev, .int .i64 r, vo] w fun e w' => e = .returned (.bool true) ∧ Below w.heap.size w w' := by
  have huT := Tryd.underlying27
  have huI := Tryd.underlying33
  have hlc := h.lc
  have hLF := LF.start w cs.toArray i.cells T 27 33 h
  obtain ⟨ics, hics⟩ : ∃ l, l = i.cells.toList := ⟨_, rfl⟩
  have hsc : Hid ((Tryd.prog.info? 27).map (·.size) = some cs.length) := Lib.hid (by rw [hlc]; exact size_taint)
  have hsi : Hid ((Tryd.prog.info? 33).map (·.size) = some ics.length) := Lib.hid (by rw [hics]; kernel_rfl)
  have hLv := Lib.hid (fun W (hW : Below w.heap.size w W) => lives_any W (ht.later hW (Nat.le_refl _)))
  have hLg := Lib.hid (fun W h2 => Light_any cs T (fun b => b < w.heap.size) W h2)
  have hia : Hid (i.cells = ics.toArray) := Lib.hid (by rw [hics])
  rw [← hics, List.toList_toArray] at hLF
  rw [hia.out] at hLF ⊢
  obtain ⟨Ao, co, rfl, o1, o2, o3⟩ := ho.form
  unfold maxLen at o2
  have hlit := lightT_all h.lt hl
  have hlen : ∀ l ∈ T, l.length ≤ 100000 := fun l hm => Nat.le_trans (hlit l hm) (by decide)
  have hOw : Hid (∀ W, LF w W cs ics T → Calls Tryd.prog 13 #[.agg cs.toArray] W (OwnPost W T)) := Lib.hid fun W hW => KOwnTaint_any cs T _ W hW.ts hlen
  rw [hl] at hLg
  have d1 : decide (60 < (lo.length : Int)) = false := by simp; omega
  obtain ⟨U, hU⟩ : ∃ x, resT T i ev = x := ⟨_, rfl⟩
  obtain ⟨da, hda⟩ : ∃ x, resA T i ev = x := ⟨_, rfl⟩
  obtain ⟨dd, hdd⟩ : ∃ x, resD T i ev = x := ⟨_, rfl⟩
  obtain ⟨dw, hdw⟩ : ∃ x, resW T i ev = x := ⟨_, rfl⟩
  obtain ⟨E, hE⟩ : ∃ x, resE T i ev = x := ⟨_, rfl⟩
  have hSt : Hid (∀ (c : List Value) (P : Nat → Prop) W, TS W P c T → Below w.heap.size w W → Calls Tryd.prog 10 #[.agg c.toArray, .agg ics.toArray, .int .i64 ev] W (StepE W U da dd dw E)) := Lib.hid fun c P W hW hB => by
    rw [← hia.out, ← hU, ← hda, ← hdd, ← hdw, ← hE]; exact Step_any c T P i ev W hW hlen hop (ht.later hB (Nat.le_refl _))
  replace hU := Lib.hid hU
  replace hda := Lib.hid hda
  replace hdd := Lib.hid hdd
  replace hdw := Lib.hid hdw
  replace hE := Lib.hid hE
  replace hics := Lib.hid hics
  replace hlit := Lib.hid hlit
  replace hlen := Lib.hid hlen
  replace o3 := Lib.hid o3
  replace h := Lib.hid h
  replace ho := Lib.hid ho
  replace hl := Lib.hid hl
  go_enter Tryd.func4, Tryd.ntmps4
  go_upto_region 1 with fail
  generalize (w.alloc (.cells cs.toArray 27)).alloc (.cells ics.toArray 33) = W0 at hLF ⊢
  go_upto_region 3 with (go_at_call 7; (with_reducible refine (hLv.out _ hLF.bl).mono ?_); rintro e w1 ⟨rfl, hb1⟩; replace hLF := Lib.hid (hLF.keep hb1); have hr0 := hLF.out.r0; have hts := Lib.hid hLF.out.ts; clear hb1)
  go_upto_region 5 with (first | (refine wpList_load_mid rfl 27 _ rfl w.heap.size 0 rfl cs _ hr0 huT rfl hsc.out ?_) | (go_at_call 12; (with_reducible refine (hLg.out _ hts.out).mono ?_); rintro e w2 ⟨rfl, hb2⟩))
  have hL := hLF.out.keep hb2
  clear hLF hr0 hts hb2 hLg hLv d1
  go_cut [11, 12, 13] (fun a b c wx => ∃ X Y ds va vd vw, a = .pointer (some ⟨X, 0, none⟩) ∧ b = .pointer (some ⟨Y, 0, none⟩) ∧ c = .int .i64 E ∧ TZ w wx cs ics T X Y ds U va vd vw da dd dw)
  case first =>
    refine wp_region_held_drew (S := fun W => LF w W cs ics T) (by kernel_rfl) (hL.keep (drew_belowL _)) (fun hHeld => ?_)
    refine wpAnyH_take (i := 0) rfl (by kernel_rfl) (by kernel_rfl) (by kernel_rfl) (fun _ _ _ h => h) (yieldsIf_load_mid (by rfl) _ _ rfl w.heap.size 0 rfl cs _ (fun W hS => hS.r0) huT rfl hsc.out) hHeld ?_
    try simp only [Act.put, List.getElem_toArray, List.getElem_cons_zero, List.setIfInBounds_toArray, List.set_cons_zero, List.set_cons_succ]
    refine wpAnyH_take (i := 2) rfl (by kernel_rfl) (by kernel_rfl) (by kernel_rfl) (fun _ _ _ h => h) (yieldsIf_load_mid (by rfl) _ _ rfl (w.heap.size + 1) 0 rfl ics _ (fun W hS => hS.ri) huI rfl hsi.out) hHeld ?_
    try simp only [Act.put, List.getElem_toArray, List.getElem_cons_succ, List.getElem_cons_zero, List.setIfInBounds_toArray, List.set_cons_zero, List.set_cons_succ]
    refine wpAnyH_take (i := 3) (v := .int .i64 ev) rfl (by kernel_rfl) (by kernel_rfl) (by kernel_rfl) (fun _ _ _ h => h) (Or.inl ⟨by rfl, fun W _ => by kernel_rfl⟩) hHeld ?_
    try simp only [Act.put, List.getElem_toArray, List.getElem_cons_succ, List.getElem_cons_zero, List.setIfInBounds_toArray, List.set_cons_zero, List.set_cons_succ]
    generalize World.drew _ = W1 at hHeld ⊢
    refine wpAnyH_ready (rs := [1, 9, 10]) (by kernel_rfl) (by simp) ?_
    refine AllReadyH.cons rfl (fun K hK2 => ?_) ?_
    · as_aux_lemma =>
        rw [if_pos (by rfl)]
        simp only [List.getElem_toArray, List.getElem_cons_succ, List.getElem_cons_zero]
        go_wp2_with (go_at_call 13; (with_reducible refine (hOw.out _ hHeld).mono ?_); rintro e W2 ⟨c1, rfl, hT1, hb⟩)
        refine hK2.out _ _ (hHeld.keep hb) (fun hHeld2 => ?_)
        clear hK2 K hHeld
        have hHeld := hHeld2
        clear hHeld2
        try simp only [Act.put, List.getElem_toArray, List.getElem_cons_succ, List.getElem_cons_zero, List.setIfInBounds_toArray, List.set_cons_zero, List.set_cons_succ]
        clear hb
        refine wpAnyH_ready (rs := [4, 9, 10]) (by kernel_rfl) (by simp) ?_
        refine AllReadyH.cons rfl (fun K hK2 => ?_) ?_
        · as_aux_lemma =>
            rw [if_pos (by rfl)]
            simp only [List.getElem_toArray, List.getElem_cons_succ, List.getElem_cons_zero]
            have hlo : w.heap.size + 1 < W2.heap.size := hHeld.lt
            go_wp2_with (go_at_call 10; (with_reducible refine (hSt.out _ _ _ hT1 hHeld.bl).mono ?_); rintro e W3 ⟨ds, va, vd, vw, rfl, hTs, has, hds, hws, hb⟩)
            obtain ⟨hi, hhe⟩ : ∃ n, n = W3.heap.size := ⟨_, rfl⟩
            have hSR : SR W3 W2.heap.size hi ds U va vd vw da dd dw := by rw [hhe]; exact ⟨hTs.win, has.win, hds.win, hws.win⟩
            have hhi : hi ≤ W3.heap.size := Nat.le_of_eq hhe
            clear hhe
            replace hT1 := hT1.below hb
            refine hK2.out _ _ (hHeld.keep hb) (fun hHeld2 => ?_)
            clear hK2 K hHeld
            have hHeld := hHeld2
            clear hHeld2
            try simp only [Act.put, List.getElem_toArray, List.getElem_cons_succ, List.getElem_cons_zero, List.setIfInBounds_toArray, List.set_cons_zero, List.set_cons_succ]
            clear hb hTs has hds hws hT1
            refine wpAnyH_take (i := 5) (v := .tuple #[.agg ds.toArray, .agg #[va, vd, vw], .int .i64 E]) rfl (by kernel_rfl) (by kernel_rfl) (by kernel_rfl) (fun _ _ _ h => h) (Or.inl ⟨by rfl, fun W _ => by kernel_rfl⟩) hHeld ?_
            try simp only [Act.put, List.getElem_toArray, List.getElem_cons_succ, List.getElem_cons_zero, List.setIfInBounds_toArray, List.set_cons_zero, List.set_cons_succ]
            refine wpAnyH_take (i := 6) (v := .agg ds.toArray) rfl (by kernel_rfl) (by kernel_rfl) (by kernel_rfl) (fun _ _ _ h => h) (Or.inl ⟨by rfl, fun W _ => by kernel_rfl⟩) hHeld ?_
            try simp only [Act.put, List.getElem_toArray, List.getElem_cons_succ, List.getElem_cons_zero, List.setIfInBounds_toArray, List.set_cons_zero, List.set_cons_succ]
            refine wpAnyH_take (i := 7) (v := .agg #[va, vd, vw]) rfl (by kernel_rfl) (by kernel_rfl) (by kernel_rfl) (fun _ _ _ h => h) (Or.inl ⟨by rfl, fun W _ => by kernel_rfl⟩) hHeld ?_
            try simp only [Act.put, List.getElem_toArray, List.getElem_cons_succ, List.getElem_cons_zero, List.setIfInBounds_toArray, List.set_cons_zero, List.set_cons_succ]
            refine wpAnyH_take (i := 8) (v := .int .i64 E) rfl (by kernel_rfl) (by kernel_rfl) (by kernel_rfl) (fun _ _ _ h => h) (Or.inl ⟨by rfl, fun W _ => by kernel_rfl⟩) hHeld ?_
            try simp only [Act.put, List.getElem_toArray, List.getElem_cons_succ, List.getElem_cons_zero, List.setIfInBounds_toArray, List.set_cons_zero, List.set_cons_succ]
            refine wpAnyH_ready (rs := [9, 10]) (by kernel_rfl) (by simp) ?_
            refine AllReadyH.cons rfl (fun K hK2 => ?_) ?_
            · as_aux_lemma =>
                rw [if_pos (by rfl)]
                simp only [List.getElem_toArray, List.getElem_cons_succ, List.getElem_cons_zero]
                obtain ⟨-, htX, hb, hsz⟩ := new_block W3 #[.slice none 0 0, .slice none 0 0, .slice none 0 0, .slice none 0 0, .slice none 0 0, .slice none 0 0, .slice none 0 0, .slice none 0 0, .slice none 0 0, .slice none 0 0, .slice none 0 0, .slice none 0 0, .slice none 0 0, .slice none 0 0, .slice none 0 0, .slice none 0 0, .slice none 0 0, .slice none 0 0, .slice none 0 0, .slice none 0 0, .slice none 0 0, .slice none 0 0, .slice none 0 0, .slice none 0 0, .slice none 0 0, .slice none 0 0, .slice none 0 0, .slice none 0 0, .slice none 0 0, .slice none 0 0, .slice none 0 0, .slice none 0 0, .slice none 0 0] 27
                have hX1 := hHeld.lt
                have nX : W3.heap.size < W2.heap.size ∨ hi ≤ W3.heap.size := .inr hhi
                replace hSR := hSR.keep hb
                replace hhi := Nat.le_trans hhi hb.size
                have hlX : W3.heap.size < (W3.alloc (.cells #[.slice none 0 0, .slice none 0 0, .slice none 0 0, .slice none 0 0, .slice none 0 0, .slice none 0 0, .slice none 0 0, .slice none 0 0, .slice none 0 0, .slice none 0 0, .slice none 0 0, .slice none 0 0, .slice none 0 0, .slice none 0 0, .slice none 0 0, .slice none 0 0, .slice none 0 0, .slice none 0 0, .slice none 0 0, .slice none 0 0, .slice none 0 0, .slice none 0 0, .slice none 0 0, .slice none 0 0, .slice none 0 0, .slice none 0 0, .slice none 0 0, .slice none 0 0, .slice none 0 0, .slice none 0 0, .slice none 0 0, .slice none 0 0, .slice none 0 0] 27)).heap.size := by rw [hsz]; exact Nat.lt_succ_self _
                go_simp
                refine hK2.out _ _ (hHeld.keep hb) (fun hHeld2 => ?_)
                clear hK2 K hHeld
                have hHeld := hHeld2
                clear hHeld2
                try simp only [Act.put, List.getElem_toArray, List.getElem_cons_succ, List.getElem_cons_zero, List.setIfInBounds_toArray, List.set_cons_zero, List.set_cons_succ]
                clear hb hsz
                generalize W3.alloc (.cells #[.slice none 0 0, .slice none 0 0, .slice none 0 0, .slice none 0 0, .slice none 0 0, .slice none 0 0, .slice none 0 0, .slice none 0 0, .slice none 0 0, .slice none 0 0, .slice none 0 0, .slice none 0 0, .slice none 0 0, .slice none 0 0, .slice none 0 0, .slice none 0 0, .slice none 0 0, .slice none 0 0, .slice none 0 0, .slice none 0 0, .slice none 0 0, .slice none 0 0, .slice none 0 0, .slice none 0 0, .slice none 0 0, .slice none 0 0, .slice none 0 0, .slice none 0 0, .slice none 0 0, .slice none 0 0, .slice none 0 0, .slice none 0 0, .slice none 0 0] 27) = W4 at hHeld htX hlX hSR hhi ⊢
                generalize hXe : W3.heap.size = X at htX hX1 hlX nX ⊢
                clear hXe
                refine wpAnyH_ready (rs := [10]) (by kernel_rfl) (by simp) (AllReadyH.cons rfl (fun K hK2 => ?_) AllReadyH.nil)
                rw [if_pos (by rfl)]
                simp only [List.getElem_toArray, List.getElem_cons_succ, List.getElem_cons_zero]
                obtain ⟨-, htY, hb, hsz⟩ := new_block W4 #[.slice none 0 0, .slice none 0 0, .slice none 0 0] 35
                have hY1 := hHeld.lt
                have hne : X ≠ W4.heap.size := by omega
                have nY : W4.heap.size < W2.heap.size ∨ hi ≤ W4.heap.size := .inr hhi
                replace htX := tn_there htX hlX hb
                replace hlX := Nat.lt_of_lt_of_le hlX hb.size
                replace hSR := hSR.keep hb
                replace hhi := Nat.le_trans hhi hb.size
                have hlY : W4.heap.size < (W4.alloc (.cells #[.slice none 0 0, .slice none 0 0, .slice none 0 0] 35)).heap.size := by rw [hsz]; exact Nat.lt_succ_self _
                go_simp
                refine hK2.out _ _ (hHeld.keep hb) (fun hHeld2 => ?_)
                clear hK2 K hHeld
                have hHeld := hHeld2
                clear hHeld2
                try simp only [Act.put, List.getElem_toArray, List.getElem_cons_succ, List.getElem_cons_zero, List.setIfInBounds_toArray, List.set_cons_zero, List.set_cons_succ]
                clear hb hsz
                generalize W4.alloc (.cells #[.slice none 0 0, .slice none 0 0, .slice none 0 0] 35) = W5 at hHeld htY hlY htX hlX hSR hhi ⊢
                generalize hYe : W4.heap.size = Y at htY hY1 hlY hne nY ⊢
                clear hYe
                have hTZ := hSR.full hHeld htX htY hne hX1 hY1 hlX hlY nX nY
                have hlcd := Lib.hid hSR.ts.lc
                have hod : Hid (ds.toArray.all (·.oneCell') = true) := Lib.hid (all_oneCell_toArray hSR.ts.one)
                have hpd : Hid ((#[va, vd, vw] : Array Value).all (·.oneCell') = true) := Lib.hid (all_oneCell_toArray (three_one hSR.ra.one hSR.rv.one hSR.rx.one))
                have hsd : Hid ((Tryd.prog.info? 27).map (·.size) = some ds.toArray.size) := Lib.hid (by rw [List.size_toArray, hSR.ts.lc]; exact size_taint)
                clear hSR hhi nX nY hne
                refine wpAnyH_ready (rs := [11]) (by kernel_rfl) (by simp) (AllReadyH.cons rfl (fun K hK2 => ?_) AllReadyH.nil)
                rw [if_pos (by rfl)]
                simp only [List.getElem_toArray, List.getElem_cons_succ, List.getElem_cons_zero]
                refine wp_store_mid 27 _ _ rfl X 0 ds.toArray rfl rfl (fun j hj => htX j (by rw [List.size_toArray, hlcd.out] at hj; exact hj)) hsd.out hod.out ?_
                change K _ (World.setCells _ X 0 ds)
                refine hK2.out _ _ (hHeld.far hX1 ds) (fun hHeld2 => ?_)
                clear hK2 K hHeld
                have hHeld := hHeld2
                clear hHeld2
                try simp only [Act.put, List.getElem_toArray, List.getElem_cons_succ, List.getElem_cons_zero, List.setIfInBounds_toArray, List.set_cons_zero, List.set_cons_succ]
                refine wpAnyH_ready (rs := [12]) (by kernel_rfl) (by simp) (AllReadyH.cons rfl (fun K hK2 => ?_) AllReadyH.nil)
                rw [if_pos (by rfl)]
                simp only [List.getElem_toArray, List.getElem_cons_succ, List.getElem_cons_zero]
                refine wp_store_mid 35 _ _ rfl Y 0 #[va, vd, vw] rfl rfl (World.there_setCells htY X 0 ds) size_deps hpd.out ?_
                change K _ (World.setCells (World.setCells _ X 0 ds) Y 0 [va, vd, vw])
                refine hK2.out _ _ (hHeld.far hY1 _) (fun hHeld2 => ?_)
                clear hK2 K hHeld
                have hHeld := hHeld2
                clear hHeld2
                try simp only [Act.put, List.getElem_toArray, List.getElem_cons_succ, List.getElem_cons_zero, List.setIfInBounds_toArray, List.set_cons_zero, List.set_cons_succ]
                refine wpAnyH_take (i := 13) (v := .int .i64 E) rfl (by kernel_rfl) (by kernel_rfl) (by kernel_rfl) (fun _ _ _ h => h) (Or.inl ⟨by rfl, fun W _ => by kernel_rfl⟩) hHeld ?_
                try simp only [Act.put, List.getElem_toArray, List.getElem_cons_succ, List.getElem_cons_zero, List.setIfInBounds_toArray, List.set_cons_zero, List.set_cons_succ]
                refine wpAnyH_done (by kernel_rfl) ?_ _
                go_wp2_with fail
                go_meet
                exact ⟨X, Y, ds, va, vd, vw, rfl, rfl, rfl, hTZ⟩
            refine AllReadyH.cons rfl (fun K hK2 => ?_) ?_
            · as_aux_lemma =>
                rw [if_pos (by rfl)]
                simp only [List.getElem_toArray, List.getElem_cons_succ, List.getElem_cons_zero]
                obtain ⟨-, htY, hb, hsz⟩ := new_block W3 #[.slice none 0 0, .slice none 0 0, .slice none 0 0] 35
                have hY1 := hHeld.lt
                have nY : W3.heap.size < W2.heap.size ∨ hi ≤ W3.heap.size := .inr hhi
                replace hSR := hSR.keep hb
                replace hhi := Nat.le_trans hhi hb.size
                have hlY : W3.heap.size < (W3.alloc (.cells #[.slice none 0 0, .slice none 0 0, .slice none 0 0] 35)).heap.size := by rw [hsz]; exact Nat.lt_succ_self _
                go_simp
                refine hK2.out _ _ (hHeld.keep hb) (fun hHeld2 => ?_)
                clear hK2 K hHeld
                have hHeld := hHeld2
                clear hHeld2
                try simp only [Act.put, List.getElem_toArray, List.getElem_cons_succ, List.getElem_cons_zero, List.setIfInBounds_toArray, List.set_cons_zero, List.set_cons_succ]
                clear hb hsz
                generalize W3.alloc (.cells #[.slice none 0 0, .slice none 0 0, .slice none 0 0] 35) = W4 at hHeld htY hlY hSR hhi ⊢
                generalize hYe : W3.heap.size = Y at htY hY1 hlY nY ⊢
                clear hYe
                refine wpAnyH_ready (rs := [9]) (by kernel_rfl) (by simp) (AllReadyH.cons rfl (fun K hK2 => ?_) AllReadyH.nil)
                rw [if_pos (by rfl)]
                simp only [List.getElem_toArray, List.getElem_cons_succ, List.getElem_cons_zero]
                obtain ⟨-, htX, hb, hsz⟩ := new_block W4 #[.slice none 0 0, .slice none 0 0, .slice none 0 0, .slice none 0 0, .slice none 0 0, .slice none 0 0, .slice none 0 0, .slice none 0 0, .slice none 0 0, .slice none 0 0, .slice none 0 0, .slice none 0 0, .slice none 0 0, .slice none 0 0, .slice none 0 0, .slice none 0 0, .slice none 0 0, .slice none 0 0, .slice none 0 0, .slice none 0 0, .slice none 0 0, .slice none 0 0, .slice none 0 0, .slice none 0 0, .slice none 0 0, .slice none 0 0, .slice none 0 0, .slice none 0 0, .slice none 0 0, .slice none 0 0, .slice none 0 0, .slice none 0 0, .slice none 0 0] 27
                have hX1 := hHeld.lt
                have hne : W4.heap.size ≠ Y := by omega
                have nX : W4.heap.size < W2.heap.size ∨ hi ≤ W4.heap.size := .inr hhi
                replace htY := tn_there htY hlY hb
                replace hlY := Nat.lt_of_lt_of_le hlY hb.size
                replace hSR := hSR.keep hb
                replace hhi := Nat.le_trans hhi hb.size
                have hlX : W4.heap.size < (W4.alloc (.cells #[.slice none 0 0, .slice none 0 0, .slice none 0 0, .slice none 0 0, .slice none 0 0, .slice none 0 0, .slice none 0 0, .slice none 0 0, .slice none 0 0, .slice none 0 0, .slice none 0 0, .slice none 0 0, .slice none 0 0, .slice none 0 0, .slice none 0 0, .slice none 0 0, .slice none 0 0, .slice none 0 0, .slice none 0 0, .slice none 0 0, .slice none 0 0, .slice none 0 0, .slice none 0 0, .slice none 0 0, .slice none 0 0, .slice none 0 0, .slice none 0 0, .slice none 0 0, .slice none 0 0, .slice none 0 0, .slice none 0 0, .slice none 0 0, .slice none 0 0] 27)).heap.size := by rw [hsz]; exact Nat.lt_succ_self _
                go_simp
                refine hK2.out _ _ (hHeld.keep hb) (fun hHeld2 => ?_)
                clear hK2 K hHeld
                have hHeld := hHeld2
                clear hHeld2
                try simp only [Act.put, List.getElem_toArray, List.getElem_cons_succ, List.getElem_cons_zero, List.setIfInBounds_toArray, List.set_cons_zero, List.set_cons_succ]
                clear hb hsz
                generalize W4.alloc (.cells #[.slice none 0 0, .slice none 0 0, .slice none 0 0, .slice none 0 0, .slice none 0 0, .slice none 0 0, .slice none 0 0, .slice none 0 0, .slice none 0 0, .slice none 0 0, .slice none 0 0, .slice none 0 0, .slice none 0 0, .slice none 0 0, .slice none 0 0, .slice none 0 0, .slice none 0 0, .slice none 0 0, .slice none 0 0, .slice none 0 0, .slice none 0 0, .slice none 0 0, .slice none 0 0, .slice none 0 0, .slice none 0 0, .slice none 0 0, .slice none 0 0, .slice none 0 0, .slice none 0 0, .slice none 0 0, .slice none 0 0, .slice none 0 0, .slice none 0 0] 27) = W5 at hHeld htX hlX htY hlY hSR hhi ⊢
                generalize hXe : W4.heap.size = X at htX hX1 hlX hne nX ⊢
                clear hXe
                have hTZ := hSR.full hHeld htX htY hne hX1 hY1 hlX hlY nX nY
                have hlcd := Lib.hid hSR.ts.lc
                have hod : Hid (ds.toArray.all (·.oneCell') = true) := Lib.hid (all_oneCell_toArray hSR.ts.one)
                have hpd : Hid ((#[va, vd, vw] : Array Value).all (·.oneCell') = true) := Lib.hid (all_oneCell_toArray (three_one hSR.ra.one hSR.rv.one hSR.rx.one))
                have hsd : Hid ((Tryd.prog.info? 27).map (·.size) = some ds.toArray.size) := Lib.hid (by rw [List.size_toArray, hSR.ts.lc]; exact size_taint)
                clear hSR hhi nX nY hne
                refine wpAnyH_ready (rs := [11]) (by kernel_rfl) (by simp) (AllReadyH.cons rfl (fun K hK2 => ?_) AllReadyH.nil)
                rw [if_pos (by rfl)]
                simp only [List.getElem_toArray, List.getElem_cons_succ, List.getElem_cons_zero]
                refine wp_store_mid 27 _ _ rfl X 0 ds.toArray rfl rfl (fun j hj => htX j (by rw [List.size_toArray, hlcd.out] at hj; exact hj)) hsd.out hod.out ?_
                change K _ (World.setCells _ X 0 ds)
                refine hK2.out _ _ (hHeld.far hX1 ds) (fun hHeld2 => ?_)
                clear hK2 K hHeld
                have hHeld := hHeld2
                clear hHeld2
                try simp only [Act.put, List.getElem_toArray, List.getElem_cons_succ, List.getElem_cons_zero, List.setIfInBounds_toArray, List.set_cons_zero, List.set_cons_succ]
                refine wpAnyH_ready (rs := [12]) (by kernel_rfl) (by simp) (AllReadyH.cons rfl (fun K hK2 => ?_) AllReadyH.nil)
                rw [if_pos (by rfl)]
                simp only [List.getElem_toArray, List.getElem_cons_succ, List.getElem_cons_zero]
                refine wp_store_mid 35 _ _ rfl Y 0 #[va, vd, vw] rfl rfl (World.there_setCells htY X 0 ds) size_deps hpd.out ?_
                change K _ (World.setCells (World.setCells _ X 0 ds) Y 0 [va, vd, vw])
                refine hK2.out _ _ (hHeld.far hY1 _) (fun hHeld2 => ?_)
                clear hK2 K hHeld
                have hHeld := hHeld2
                clear hHeld2
                try simp only [Act.put, List.getElem_toArray, List.getElem_cons_succ, List.getElem_cons_zero, List.setIfInBounds_toArray, List.set_cons_zero, List.set_cons_succ]
                refine wpAnyH_take (i := 13) (v := .int .i64 E) rfl (by kernel_rfl) (by kernel_rfl) (by kernel_rfl) (fun _ _ _ h => h) (Or.inl ⟨by rfl, fun W _ => by kernel_rfl⟩) hHeld ?_
                try simp only [Act.put, List.getElem_toArray, List.getElem_cons_succ, List.getElem_cons_zero, List.setIfInBounds_toArray, List.set_cons_zero, List.set_cons_succ]
                refine wpAnyH_done (by kernel_rfl) ?_ _
                go_wp2_with fail
                go_meet
                exact ⟨X, Y, ds, va, vd, vw, rfl, rfl, rfl, hTZ⟩
            exact AllReadyH.nil
        refine AllReadyH.cons rfl (fun K hK2 => ?_) ?_
        · as_aux_lemma =>
            rw [if_pos (by rfl)]
            simp only [List.getElem_toArray, List.getElem_cons_succ, List.getElem_cons_zero]
            obtain ⟨-, htX, hb, hsz⟩ := new_block W2 #[.slice none 0 0, .slice none 0 0, .slice none 0 0, .slice none 0 0, .slice none 0 0, .slice none 0 0, .slice none 0 0, .slice none 0 0, .slice none 0 0, .slice none 0 0, .slice none 0 0, .slice none 0 0, .slice none 0 0, .slice none 0 0, .slice none 0 0, .slice none 0 0, .slice none 0 0, .slice none 0 0, .slice none 0 0, .slice none 0 0, .slice none 0 0, .slice none 0 0, .slice none 0 0, .slice none 0 0, .slice none 0 0, .slice none 0 0, .slice none 0 0, .slice none 0 0, .slice none 0 0, .slice none 0 0, .slice none 0 0, .slice none 0 0, .slice none 0 0] 27
            have hX1 := hHeld.lt
            replace hT1 := hT1.below hb
            have hlX : W2.heap.size < (W2.alloc (.cells #[.slice none 0 0, .slice none 0 0, .slice none 0 0, .slice none 0 0, .slice none 0 0, .slice none 0 0, .slice none 0 0, .slice none 0 0, .slice none 0 0, .slice none 0 0, .slice none 0 0, .slice none 0 0, .slice none 0 0, .slice none 0 0, .slice none 0 0, .slice none 0 0, .slice none 0 0, .slice none 0 0, .slice none 0 0, .slice none 0 0, .slice none 0 0, .slice none 0 0, .slice none 0 0, .slice none 0 0, .slice none 0 0, .slice none 0 0, .slice none 0 0, .slice none 0 0, .slice none 0 0, .slice none 0 0, .slice none 0 0, .slice none 0 0, .slice none 0 0] 27)).heap.size := by rw [hsz]; exact Nat.lt_succ_self _
            go_simp
            refine hK2.out _ _ (hHeld.keep hb) (fun hHeld2 => ?_)
            clear hK2 K hHeld
            have hHeld := hHeld2
            clear hHeld2
            try simp only [Act.put, List.getElem_toArray, List.getElem_cons_succ, List.getElem_cons_zero, List.setIfInBounds_toArray, List.set_cons_zero, List.set_cons_succ]
            clear hb hsz
            generalize W2.alloc (.cells #[.slice none 0 0, .slice none 0 0, .slice none 0 0, .slice none 0 0, .slice none 0 0, .slice none 0 0, .slice none 0 0, .slice none 0 0, .slice none 0 0, .slice none 0 0, .slice none 0 0, .slice none 0 0, .slice none 0 0, .slice none 0 0, .slice none 0 0, .slice none 0 0, .slice none 0 0, .slice none 0 0, .slice none 0 0, .slice none 0 0, .slice none 0 0, .slice none 0 0, .slice none 0 0, .slice none 0 0, .slice none 0 0, .slice none 0 0, .slice none 0 0, .slice none 0 0, .slice none 0 0, .slice none 0 0, .slice none 0 0, .slice none 0 0, .slice none 0 0] 27) = W3 at hHeld htX hlX hT1 ⊢
            generalize hXe : W2.heap.size = X at htX hX1 hlX ⊢
            clear hXe
            refine wpAnyH_ready (rs := [4, 10]) (by kernel_rfl) (by simp) ?_
            refine AllReadyH.cons rfl (fun K hK2 => ?_) ?_
            · as_aux_lemma =>
                rw [if_pos (by rfl)]
                simp only [List.getElem_toArray, List.getElem_cons_succ, List.getElem_cons_zero]
                have hlo : w.heap.size + 1 < W3.heap.size := hHeld.lt
                go_wp2_with (go_at_call 10; (with_reducible refine (hSt.out _ _ _ hT1 hHeld.bl).mono ?_); rintro e W4 ⟨ds, va, vd, vw, rfl, hTs, has, hds, hws, hb⟩)
                obtain ⟨hi, hhe⟩ : ∃ n, n = W4.heap.size := ⟨_, rfl⟩
                have hSR : SR W4 W3.heap.size hi ds U va vd vw da dd dw := by rw [hhe]; exact ⟨hTs.win, has.win, hds.win, hws.win⟩
                have hhi : hi ≤ W4.heap.size := Nat.le_of_eq hhe
                clear hhe
                have nX : X < W3.heap.size ∨ hi ≤ X := .inl hlX
                replace htX := tn_there htX hlX hb
                replace hlX := Nat.lt_of_lt_of_le hlX hb.size
                replace hT1 := hT1.below hb
                refine hK2.out _ _ (hHeld.keep hb) (fun hHeld2 => ?_)
                clear hK2 K hHeld
                have hHeld := hHeld2
                clear hHeld2
                try simp only [Act.put, List.getElem_toArray, List.getElem_cons_succ, List.getElem_cons_zero, List.setIfInBounds_toArray, List.set_cons_zero, List.set_cons_succ]
                clear hb hTs has hds hws hT1
                refine wpAnyH_take (i := 5) (v := .tuple #[.agg ds.toArray, .agg #[va, vd, vw], .int .i64 E]) rfl (by kernel_rfl) (by kernel_rfl) (by kernel_rfl) (fun _ _ _ h => h) (Or.inl ⟨by rfl, fun W _ => by kernel_rfl⟩) hHeld ?_
                try simp only [Act.put, List.getElem_toArray, List.getElem_cons_succ, List.getElem_cons_zero, List.setIfInBounds_toArray, List.set_cons_zero, List.set_cons_succ]
                refine wpAnyH_take (i := 6) (v := .agg ds.toArray) rfl (by kernel_rfl) (by kernel_rfl) (by kernel_rfl) (fun _ _ _ h => h) (Or.inl ⟨by rfl, fun W _ => by kernel_rfl⟩) hHeld ?_
                try simp only [Act.put, List.getElem_toArray, List.getElem_cons_succ, List.getElem_cons_zero, List.setIfInBounds_toArray, List.set_cons_zero, List.set_cons_succ]
                refine wpAnyH_take (i := 7) (v := .agg #[va, vd, vw]) rfl (by kernel_rfl) (by kernel_rfl) (by kernel_rfl) (fun _ _ _ h => h) (Or.inl ⟨by rfl, fun W _ => by kernel_rfl⟩) hHeld ?_
                try simp only [Act.put, List.getElem_toArray, List.getElem_cons_succ, List.getElem_cons_zero, List.setIfInBounds_toArray, List.set_cons_zero, List.set_cons_succ]
                refine wpAnyH_take (i := 8) (v := .int .i64 E) rfl (by kernel_rfl) (by kernel_rfl) (by kernel_rfl) (fun _ _ _ h => h) (Or.inl ⟨by rfl, fun W _ => by kernel_rfl⟩) hHeld ?_
                try simp only [Act.put, List.getElem_toArray, List.getElem_cons_succ, List.getElem_cons_zero, List.setIfInBounds_toArray, List.set_cons_zero, List.set_cons_succ]
                refine wpAnyH_ready (rs := [10]) (by kernel_rfl) (by simp) (AllReadyH.cons rfl (fun K hK2 => ?_) AllReadyH.nil)
                rw [if_pos (by rfl)]
                simp only [List.getElem_toArray, List.getElem_cons_succ, List.getElem_cons_zero]
                obtain ⟨-, htY, hb, hsz⟩ := new_block W4 #[.slice none 0 0, .slice none 0 0, .slice none 0 0] 35
                have hY1 := hHeld.lt
                have hne : X ≠ W4.heap.size := by omega
                have nY : W4.heap.size < W3.heap.size ∨ hi ≤ W4.heap.size := .inr hhi
                replace htX := tn_there htX hlX hb
                replace hlX := Nat.lt_of_lt_of_le hlX hb.size
                replace hSR := hSR.keep hb
                replace hhi := Nat.le_trans hhi hb.size
                have hlY : W4.heap.size < (W4.alloc (.cells #[.slice none 0 0, .slice none 0 0, .slice none 0 0] 35)).heap.size := by rw [hsz]; exact Nat.lt_succ_self _
                go_simp
                refine hK2.out _ _ (hHeld.keep hb) (fun hHeld2 => ?_)
                clear hK2 K hHeld
                have hHeld := hHeld2
                clear hHeld2
                try simp only [Act.put, List.getElem_toArray, List.getElem_cons_succ, List.getElem_cons_zero, List.setIfInBounds_toArray, List.set_cons_zero, List.set_cons_succ]
                clear hb hsz
                generalize W4.alloc (.cells #[.slice none 0 0, .slice none 0 0, .slice none 0 0] 35) = W5 at hHeld htY hlY htX hlX hSR hhi ⊢
                generalize hYe : W4.heap.size = Y at htY hY1 hlY hne nY ⊢
                clear hYe
                have hTZ := hSR.full hHeld htX htY hne hX1 hY1 hlX hlY nX nY
                have hlcd := Lib.hid hSR.ts.lc
                have hod : Hid (ds.toArray.all (·.oneCell') = true) := Lib.hid (all_oneCell_toArray hSR.ts.one)
                have hpd : Hid ((#[va, vd, vw] : Array Value).all (·.oneCell') = true) := Lib.hid (all_oneCell_toArray (three_one hSR.ra.one hSR.rv.one hSR.rx.one))
                have hsd : Hid ((Tryd.prog.info? 27).map (·.size) = some ds.toArray.size) := Lib.hid (by rw [List.size_toArray, hSR.ts.lc]; exact size_taint)
                clear hSR hhi nX nY hne
                refine wpAnyH_ready (rs := [11]) (by kernel_rfl) (by simp) (AllReadyH.cons rfl (fun K hK2 => ?_) AllReadyH.nil)
                rw [if_pos (by rfl)]
                simp only [List.getElem_toArray, List.getElem_cons_succ, List.getElem_cons_zero]
                refine wp_store_mid 27 _ _ rfl X 0 ds.toArray rfl rfl (fun j hj => htX j (by rw [List.size_toArray, hlcd.out] at hj; exact hj)) hsd.out hod.out ?_
                change K _ (World.setCells _ X 0 ds)
                refine hK2.out _ _ (hHeld.far hX1 ds) (fun hHeld2 => ?_)
                clear hK2 K hHeld
                have hHeld := hHeld2
                clear hHeld2
                try simp only [Act.put, List.getElem_toArray, List.getElem_cons_succ, List.getElem_cons_zero, List.setIfInBounds_toArray, List.set_cons_zero, List.set_cons_succ]
                refine wpAnyH_ready (rs := [12]) (by kernel_rfl) (by simp) (AllReadyH.cons rfl (fun K hK2 => ?_) AllReadyH.nil)
                rw [if_pos (by rfl)]
                simp only [List.getElem_toArray, List.getElem_cons_succ, List.getElem_cons_zero]
                refine wp_store_mid 35 _ _ rfl Y 0 #[va, vd, vw] rfl rfl (World.there_setCells htY X 0 ds) size_deps hpd.out ?_
                change K _ (World.setCells (World.setCells _ X 0 ds) Y 0 [va, vd, vw])
                refine hK2.out _ _ (hHeld.far hY1 _) (fun hHeld2 => ?_)
                clear hK2 K hHeld
                have hHeld := hHeld2
                clear hHeld2
                try simp only [Act.put, List.getElem_toArray, List.getElem_cons_succ, List.getElem_cons_zero, List.setIfInBounds_toArray, List.set_cons_zero, List.set_cons_succ]
                refine wpAnyH_take (i := 13) (v := .int .i64 E) rfl (by kernel_rfl) (by kernel_rfl) (by kernel_rfl) (fun _ _ _ h => h) (Or.inl ⟨by rfl, fun W _ => by kernel_rfl⟩) hHeld ?_
                try simp only [Act.put, List.getElem_toArray, List.getElem_cons_succ, List.getElem_cons_zero, List.setIfInBounds_toArray, List.set_cons_zero, List.set_cons_succ]
                refine wpAnyH_done (by kernel_rfl) ?_ _
                go_wp2_with fail
                go_meet
                exact ⟨X, Y, ds, va, vd, vw, rfl, rfl, rfl, hTZ⟩
            refine AllReadyH.cons rfl (fun K hK2 => ?_) ?_
            · as_aux_lemma =>
                rw [if_pos (by rfl)]
                simp only [List.getElem_toArray, List.getElem_cons_succ, List.getElem_cons_zero]
                obtain ⟨-, htY, hb, hsz⟩ := new_block W3 #[.slice none 0 0, .slice none 0 0, .slice none 0 0] 35
                have hY1 := hHeld.lt
                have hne : X ≠ W3.heap.size := by omega
                replace htX := tn_there htX hlX hb
                replace hlX := Nat.lt_of_lt_of_le hlX hb.size
                replace hT1 := hT1.below hb
                have hlY : W3.heap.size < (W3.alloc (.cells #[.slice none 0 0, .slice none 0 0, .slice none 0 0] 35)).heap.size := by rw [hsz]; exact Nat.lt_succ_self _
                go_simp
                refine hK2.out _ _ (hHeld.keep hb) (fun hHeld2 => ?_)
                clear hK2 K hHeld
                have hHeld := hHeld2
                clear hHeld2
                try simp only [Act.put, List.getElem_toArray, List.getElem_cons_succ, List.getElem_cons_zero, List.setIfInBounds_toArray, List.set_cons_zero, List.set_cons_succ]
                clear hb hsz
                generalize W3.alloc (.cells #[.slice none 0 0, .slice none 0 0, .slice none 0 0] 35) = W4 at hHeld htY hlY htX hlX hT1 ⊢
                generalize hYe : W3.heap.size = Y at htY hY1 hlY hne ⊢
                clear hYe
                refine wpAnyH_ready (rs := [4]) (by kernel_rfl) (by simp) (AllReadyH.cons rfl (fun K hK2 => ?_) AllReadyH.nil)
                rw [if_pos (by rfl)]
                simp only [List.getElem_toArray, List.getElem_cons_succ, List.getElem_cons_zero]
                have hlo : w.heap.size + 1 < W4.heap.size := hHeld.lt
                go_wp2_with (go_at_call 10; (with_reducible refine (hSt.out _ _ _ hT1 hHeld.bl).mono ?_); rintro e W5 ⟨ds, va, vd, vw, rfl, hTs, has, hds, hws, hb⟩)
                obtain ⟨hi, hhe⟩ : ∃ n, n = W5.heap.size := ⟨_, rfl⟩
                have hSR : SR W5 W4.heap.size hi ds U va vd vw da dd dw := by rw [hhe]; exact ⟨hTs.win, has.win, hds.win, hws.win⟩
                have hhi : hi ≤ W5.heap.size := Nat.le_of_eq hhe
                clear hhe
                have nX : X < W4.heap.size ∨ hi ≤ X := .inl hlX
                have nY : Y < W4.heap.size ∨ hi ≤ Y := .inl hlY
                replace htX := tn_there htX hlX hb
                replace hlX := Nat.lt_of_lt_of_le hlX hb.size
                replace htY := tn_there htY hlY hb
                replace hlY := Nat.lt_of_lt_of_le hlY hb.size
                replace hT1 := hT1.below hb
                refine hK2.out _ _ (hHeld.keep hb) (fun hHeld2 => ?_)
                clear hK2 K hHeld
                have hHeld := hHeld2
                clear hHeld2
                try simp only [Act.put, List.getElem_toArray, List.getElem_cons_succ, List.getElem_cons_zero, List.setIfInBounds_toArray, List.set_cons_zero, List.set_cons_succ]
                clear hb hTs has hds hws hT1
                refine wpAnyH_take (i := 5) (v := .tuple #[.agg ds.toArray, .agg #[va, vd, vw], .int .i64 E]) rfl (by kernel_rfl) (by kernel_rfl) (by kernel_rfl) (fun _ _ _ h => h) (Or.inl ⟨by rfl, fun W _ => by kernel_rfl⟩) hHeld ?_
                try simp only [Act.put, List.getElem_toArray, List.getElem_cons_succ, List.getElem_cons_zero, List.setIfInBounds_toArray, List.set_cons_zero, List.set_cons_succ]
                refine wpAnyH_take (i := 6) (v := .agg ds.toArray) rfl (by kernel_rfl) (by kernel_rfl) (by kernel_rfl) (fun _ _ _ h => h) (Or.inl ⟨by rfl, fun W _ => by kernel_rfl⟩) hHeld ?_
                try simp only [Act.put, List.getElem_toArray, List.getElem_cons_succ, List.getElem_cons_zero, List.setIfInBounds_toArray, List.set_cons_zero, List.set_cons_succ]
                refine wpAnyH_take (i := 7) (v := .agg #[va, vd, vw]) rfl (by kernel_rfl) (by kernel_rfl) (by kernel_rfl) (fun _ _ _ h => h) (Or.inl ⟨by rfl, fun W _ => by kernel_rfl⟩) hHeld ?_
                try simp only [Act.put, List.getElem_toArray, List.getElem_cons_succ, List.getElem_cons_zero, List.setIfInBounds_toArray, List.set_cons_zero, List.set_cons_succ]
                refine wpAnyH_take (i := 8) (v := .int .i64 E) rfl (by kernel_rfl) (by kernel_rfl) (by kernel_rfl) (fun _ _ _ h => h) (Or.inl ⟨by rfl, fun W _ => by kernel_rfl⟩) hHeld ?_
                try simp only [Act.put, List.getElem_toArray, List.getElem_cons_succ, List.getElem_cons_zero, List.setIfInBounds_toArray, List.set_cons_zero, List.set_cons_succ]
                have hTZ := hSR.full hHeld htX htY hne hX1 hY1 hlX hlY nX nY
                have hlcd := Lib.hid hSR.ts.lc
                have hod : Hid (ds.toArray.all (·.oneCell') = true) := Lib.hid (all_oneCell_toArray hSR.ts.one)
                have hpd : Hid ((#[va, vd, vw] : Array Value).all (·.oneCell') = true) := Lib.hid (all_oneCell_toArray (three_one hSR.ra.one hSR.rv.one hSR.rx.one))
                have hsd : Hid ((Tryd.prog.info? 27).map (·.size) = some ds.toArray.size) := Lib.hid (by rw [List.size_toArray, hSR.ts.lc]; exact size_taint)
                clear hSR hhi nX nY hne
                refine wpAnyH_ready (rs := [11]) (by kernel_rfl) (by simp) (AllReadyH.cons rfl (fun K hK2 => ?_) AllReadyH.nil)
                rw [if_pos (by rfl)]
                simp only [List.getElem_toArray, List.getElem_cons_succ, List.getElem_cons_zero]
                refine wp_store_mid 27 _ _ rfl X 0 ds.toArray rfl rfl (fun j hj => htX j (by rw [List.size_toArray, hlcd.out] at hj; exact hj)) hsd.out hod.out ?_
                change K _ (World.setCells _ X 0 ds)
                refine hK2.out _ _ (hHeld.far hX1 ds) (fun hHeld2 => ?_)
                clear hK2 K hHeld
                have hHeld := hHeld2
                clear hHeld2
                try simp only [Act.put, List.getElem_toArray, List.getElem_cons_succ, List.getElem_cons_zero, List.setIfInBounds_toArray, List.set_cons_zero, List.set_cons_succ]
                refine wpAnyH_ready (rs := [12]) (by kernel_rfl) (by simp) (AllReadyH.cons rfl (fun K hK2 => ?_) AllReadyH.nil)
                rw [if_pos (by rfl)]
                simp only [List.getElem_toArray, List.getElem_cons_succ, List.getElem_cons_zero]
                refine wp_store_mid 35 _ _ rfl Y 0 #[va, vd, vw] rfl rfl (World.there_setCells htY X 0 ds) size_deps hpd.out ?_
                change K _ (World.setCells (World.setCells _ X 0 ds) Y 0 [va, vd, vw])
                refine hK2.out _ _ (hHeld.far hY1 _) (fun hHeld2 => ?_)
                clear hK2 K hHeld
                have hHeld := hHeld2
                clear hHeld2
                try simp only [Act.put, List.getElem_toArray, List.getElem_cons_succ, List.getElem_cons_zero, List.setIfInBounds_toArray, List.set_cons_zero, List.set_cons_succ]
                refine wpAnyH_take (i := 13) (v := .int .i64 E) rfl (by kernel_rfl) (by kernel_rfl) (by kernel_rfl) (fun _ _ _ h => h) (Or.inl ⟨by rfl, fun W _ => by kernel_rfl⟩) hHeld ?_
                try simp only [Act.put, List.getElem_toArray, List.getElem_cons_succ, List.getElem_cons_zero, List.setIfInBounds_toArray, List.set_cons_zero, List.set_cons_succ]
                refine wpAnyH_done (by kernel_rfl) ?_ _
                go_wp2_with fail
                go_meet
                exact ⟨X, Y, ds, va, vd, vw, rfl, rfl, rfl, hTZ⟩
            exact AllReadyH.nil
        refine AllReadyH.cons rfl (fun K hK2 => ?_) ?_
        · as_aux_lemma =>
            rw [if_pos (by rfl)]
            simp only [List.getElem_toArray, List.getElem_cons_succ, List.getElem_cons_zero]
            obtain ⟨-, htY, hb, hsz⟩ := new_block W2 #[.slice none 0 0, .slice none 0 0, .slice none 0 0] 35
            have hY1 := hHeld.lt
            replace hT1 := hT1.below hb
            have hlY : W2.heap.size < (W2.alloc (.cells #[.slice none 0 0, .slice none 0 0, .slice none 0 0] 35)).heap.size := by rw [hsz]; exact Nat.lt_succ_self _
            go_simp
            refine hK2.out _ _ (hHeld.keep hb) (fun hHeld2 => ?_)
            clear hK2 K hHeld
            have hHeld := hHeld2
            clear hHeld2
            try simp only [Act.put, List.getElem_toArray, List.getElem_cons_succ, List.getElem_cons_zero, List.setIfInBounds_toArray, List.set_cons_zero, List.set_cons_succ]
            clear hb hsz
            generalize W2.alloc (.cells #[.slice none 0 0, .slice none 0 0, .slice none 0 0] 35) = W3 at hHeld htY hlY hT1 ⊢
            generalize hYe : W2.heap.size = Y at htY hY1 hlY ⊢
            clear hYe
            refine wpAnyH_ready (rs := [4, 9]) (by kernel_rfl) (by simp) ?_
            refine AllReadyH.cons rfl (fun K hK2 => ?_) ?_
            · as_aux_lemma =>
                rw [if_pos (by rfl)]
                simp only [List.getElem_toArray, List.getElem_cons_succ, List.getElem_cons_zero]
                have hlo : w.heap.size + 1 < W3.heap.size := hHeld.lt
                go_wp2_with (go_at_call 10; (with_reducible refine (hSt.out _ _ _ hT1 hHeld.bl).mono ?_); rintro e W4 ⟨ds, va, vd, vw, rfl, hTs, has, hds, hws, hb⟩)
                obtain ⟨hi, hhe⟩ : ∃ n, n = W4.heap.size := ⟨_, rfl⟩
                have hSR : SR W4 W3.heap.size hi ds U va vd vw da dd dw := by rw [hhe]; exact ⟨hTs.win, has.win, hds.win, hws.win⟩
                have hhi : hi ≤ W4.heap.size := Nat.le_of_eq hhe
                clear hhe
                have nY : Y < W3.heap.size ∨ hi ≤ Y := .inl hlY
                replace htY := tn_there htY hlY hb
                replace hlY := Nat.lt_of_lt_of_le hlY hb.size
                replace hT1 := hT1.below hb
                refine hK2.out _ _ (hHeld.keep hb) (fun hHeld2 => ?_)
                clear hK2 K hHeld
                have hHeld := hHeld2
                clear hHeld2
                try simp only [Act.put, List.getElem_toArray, List.getElem_cons_succ, List.getElem_cons_zero, List.setIfInBounds_toArray, List.set_cons_zero, List.set_cons_succ]
                clear hb hTs has hds hws hT1
                refine wpAnyH_take (i := 5) (v := .tuple #[.agg ds.toArray, .agg #[va, vd, vw], .int .i64 E]) rfl (by kernel_rfl) (by kernel_rfl) (by kernel_rfl) (fun _ _ _ h => h) (Or.inl ⟨by rfl, fun W _ => by kernel_rfl⟩) hHeld ?_
                try simp only [Act.put, List.getElem_toArray, List.getElem_cons_succ, List.getElem_cons_zero, List.setIfInBounds_toArray, List.set_cons_zero, List.set_cons_succ]
                refine wpAnyH_take (i := 6) (v := .agg ds.toArray) rfl (by kernel_rfl) (by kernel_rfl) (by kernel_rfl) (fun _ _ _ h => h) (Or.inl ⟨by rfl, fun W _ => by kernel_rfl⟩) hHeld ?_
                try simp only [Act.put, List.getElem_toArray, List.getElem_cons_succ, List.getElem_cons_zero, List.setIfInBounds_toArray, List.set_cons_zero, List.set_cons_succ]
                refine wpAnyH_take (i := 7) (v := .agg #[va, vd, vw]) rfl (by kernel_rfl) (by kernel_rfl) (by kernel_rfl) (fun _ _ _ h => h) (Or.inl ⟨by rfl, fun W _ => by kernel_rfl⟩) hHeld ?_
                try simp only [Act.put, List.getElem_toArray, List.getElem_cons_succ, List.getElem_cons_zero, List.setIfInBounds_toArray, List.set_cons_zero, List.set_cons_succ]
                refine wpAnyH_take (i := 8) (v := .int .i64 E) rfl (by kernel_rfl) (by kernel_rfl) (by kernel_rfl) (fun _ _ _ h => h) (Or.inl ⟨by rfl, fun W _ => by kernel_rfl⟩) hHeld ?_
                try simp only [Act.put, List.getElem_toArray, List.getElem_cons_succ, List.getElem_cons_zero, List.setIfInBounds_toArray, List.set_cons_zero, List.set_cons_succ]
                refine wpAnyH_ready (rs := [9]) (by kernel_rfl) (by simp) (AllReadyH.cons rfl (fun K hK2 => ?_) AllReadyH.nil)
                rw [if_pos (by rfl)]
                simp only [List.getElem_toArray, List.getElem_cons_succ, List.getElem_cons_zero]
                obtain ⟨-, htX, hb, hsz⟩ := new_block W4 #[.slice none 0 0, .slice none 0 0, .slice none 0 0, .slice none 0 0, .slice none 0 0, .slice none 0 0, .slice none 0 0, .slice none 0 0, .slice none 0 0, .slice none 0 0, .slice none 0 0, .slice none 0 0, .slice none 0 0, .slice none 0 0, .slice none 0 0, .slice none 0 0, .slice none 0 0, .slice none 0 0, .slice none 0 0, .slice none 0 0, .slice none 0 0, .slice none 0 0, .slice none 0 0, .slice none 0 0, .slice none 0 0, .slice none 0 0, .slice none 0 0, .slice none 0 0, .slice none 0 0, .slice none 0 0, .slice none 0 0, .slice none 0 0, .slice none 0 0] 27
                have hX1 := hHeld.lt
                have hne : W4.heap.size ≠ Y := by omega
                have nX : W4.heap.size < W3.heap.size ∨ hi ≤ W4.heap.size := .inr hhi
                replace htY := tn_there htY hlY hb
                replace hlY := Nat.lt_of_lt_of_le hlY hb.size
                replace hSR := hSR.keep hb
                replace hhi := Nat.le_trans hhi hb.size
                have hlX : W4.heap.size < (W4.alloc (.cells #[.slice none 0 0, .slice none 0 0, .slice none 0 0, .slice none 0 0, .slice none 0 0, .slice none 0 0, .slice none 0 0, .slice none 0 0, .slice none 0 0, .slice none 0 0, .slice none 0 0, .slice none 0 0, .slice none 0 0, .slice none 0 0, .slice none 0 0, .slice none 0 0, .slice none 0 0, .slice none 0 0, .slice none 0 0, .slice none 0 0, .slice none 0 0, .slice none 0 0, .slice none 0 0, .slice none 0 0, .slice none 0 0, .slice none 0 0, .slice none 0 0, .slice none 0 0, .slice none 0 0, .slice none 0 0, .slice none 0 0, .slice none 0 0, .slice none 0 0] 27)).heap.size := by rw [hsz]; exact Nat.lt_succ_self _
                go_simp
                refine hK2.out _ _ (hHeld.keep hb) (fun hHeld2 => ?_)
                clear hK2 K hHeld
                have hHeld := hHeld2
                clear hHeld2
                try simp only [Act.put, List.getElem_toArray, List.getElem_cons_succ, List.getElem_cons_zero, List.setIfInBounds_toArray, List.set_cons_zero, List.set_cons_succ]
                clear hb hsz
                generalize W4.alloc (.cells #[.slice none 0 0, .slice none 0 0, .slice none 0 0, .slice none 0 0, .slice none 0 0, .slice none 0 0, .slice none 0 0, .slice none 0 0, .slice none 0 0, .slice none 0 0, .slice none 0 0, .slice none 0 0, .slice none 0 0, .slice none 0 0, .slice none 0 0, .slice none 0 0, .slice none 0 0, .slice none 0 0, .slice none 0 0, .slice none 0 0, .slice none 0 0, .slice none 0 0, .slice none 0 0, .slice none 0 0, .slice none 0 0, .slice none 0 0, .slice none 0 0, .slice none 0 0, .slice none 0 0, .slice none 0 0, .slice none 0 0, .slice none 0 0, .slice none 0 0] 27) = W5 at hHeld htX hlX htY hlY hSR hhi ⊢
                generalize hXe : W4.heap.size = X at htX hX1 hlX hne nX ⊢
                clear hXe
                have hTZ := hSR.full hHeld htX htY hne hX1 hY1 hlX hlY nX nY
                have hlcd := Lib.hid hSR.ts.lc
                have hod : Hid (ds.toArray.all (·.oneCell') = true) := Lib.hid (all_oneCell_toArray hSR.ts.one)
                have hpd : Hid ((#[va, vd, vw] : Array Value).all (·.oneCell') = true) := Lib.hid (all_oneCell_toArray (three_one hSR.ra.one hSR.rv.one hSR.rx.one))
                have hsd : Hid ((Tryd.prog.info? 27).map (·.size) = some ds.toArray.size) := Lib.hid (by rw [List.size_toArray, hSR.ts.lc]; exact size_taint)
                clear hSR hhi nX nY hne
                refine wpAnyH_ready (rs := [11]) (by kernel_rfl) (by simp) (AllReadyH.cons rfl (fun K hK2 => ?_) AllReadyH.nil)
                rw [if_pos (by rfl)]
                simp only [List.getElem_toArray, List.getElem_cons_succ, List.getElem_cons_zero]
                refine wp_store_mid 27 _ _ rfl X 0 ds.toArray rfl rfl (fun j hj => htX j (by rw [List.size_toArray, hlcd.out] at hj; exact hj)) hsd.out hod.out ?_
                change K _ (World.setCells _ X 0 ds)
                refine hK2.out _ _ (hHeld.far hX1 ds) (fun hHeld2 => ?_)
                clear hK2 K hHeld
                have hHeld := hHeld2
                clear hHeld2
                try simp only [Act.put, List.getElem_toArray, List.getElem_cons_succ, List.getElem_cons_zero, List.setIfInBounds_toArray, List.set_cons_zero, List.set_cons_succ]
                refine wpAnyH_ready (rs := [12]) (by kernel_rfl) (by simp) (AllReadyH.cons rfl (fun K hK2 => ?_) AllReadyH.nil)
                rw [if_pos (by rfl)]
                simp only [List.getElem_toArray, List.getElem_cons_succ, List.getElem_cons_zero]
                refine wp_store_mid 35 _ _ rfl Y 0 #[va, vd, vw] rfl rfl (World.there_setCells htY X 0 ds) size_deps hpd.out ?_
                change K _ (World.setCells (World.setCells _ X 0 ds) Y 0 [va, vd, vw])
                refine hK2.out _ _ (hHeld.far hY1 _) (fun hHeld2 => ?_)
                clear hK2 K hHeld
                have hHeld := hHeld2
                clear hHeld2
                try simp only [Act.put, List.getElem_toArray, List.getElem_cons_succ, List.getElem_cons_zero, List.setIfInBounds_toArray, List.set_cons_zero, List.set_cons_succ]
                refine wpAnyH_take (i := 13) (v := .int .i64 E) rfl (by kernel_rfl) (by kernel_rfl) (by kernel_rfl) (fun _ _ _ h => h) (Or.inl ⟨by rfl, fun W _ => by kernel_rfl⟩) hHeld ?_
                try simp only [Act.put, List.getElem_toArray, List.getElem_cons_succ, List.getElem_cons_zero, List.setIfInBounds_toArray, List.set_cons_zero, List.set_cons_succ]
                refine wpAnyH_done (by kernel_rfl) ?_ _
                go_wp2_with fail
                go_meet
                exact ⟨X, Y, ds, va, vd, vw, rfl, rfl, rfl, hTZ⟩
            refine AllReadyH.cons rfl (fun K hK2 => ?_) ?_
            · as_aux_lemma =>
                rw [if_pos (by rfl)]
                simp only [List.getElem_toArray, List.getElem_cons_succ, List.getElem_cons_zero]
                obtain ⟨-, htX, hb, hsz⟩ := new_block W3 #[.slice none 0 0, .slice none 0 0, .slice none 0 0, .slice none 0 0, .slice none 0 0, .slice none 0 0, .slice none 0 0, .slice none 0 0, .slice none 0 0, .slice none 0 0, .slice none 0 0, .slice none 0 0, .slice none 0 0, .slice none 0 0, .slice none 0 0, .slice none 0 0, .slice none 0 0, .slice none 0 0, .slice none 0 0, .slice none 0 0, .slice none 0 0, .slice none 0 0, .slice none 0 0, .slice none 0 0, .slice none 0 0, .slice none 0 0, .slice none 0 0, .slice none 0 0, .slice none 0 0, .slice none 0 0, .slice none 0 0, .slice none 0 0, .slice none 0 0] 27
                have hX1 := hHeld.lt
                have hne : W3.heap.size ≠ Y := by omega
                replace htY := tn_there htY hlY hb
                replace hlY := Nat.lt_of_lt_of_le hlY hb.size
                replace hT1 := hT1.below hb
                have hlX : W3.heap.size < (W3.alloc (.cells #[.slice none 0 0, .slice none 0 0, .slice none 0 0, .slice none 0 0, .slice none 0 0, .slice none 0 0, .slice none 0 0, .slice none 0 0, .slice none 0 0, .slice none 0 0, .slice none 0 0, .slice none 0 0, .slice none 0 0, .slice none 0 0, .slice none 0 0, .slice none 0 0, .slice none 0 0, .slice none 0 0, .slice none 0 0, .slice none 0 0, .slice none 0 0, .slice none 0 0, .slice none 0 0, .slice none 0 0, .slice none 0 0, .slice none 0 0, .slice none 0 0, .slice none 0 0, .slice none 0 0, .slice none 0 0, .slice none 0 0, .slice none 0 0, .slice none 0 0] 27)).heap.size := by rw [hsz]; exact Nat.lt_succ_self _
                go_simp
                refine hK2.out _ _ (hHeld.keep hb) (fun hHeld2 => ?_)
                clear hK2 K hHeld
                have hHeld := hHeld2
                clear hHeld2
                try simp only [Act.put, List.getElem_toArray, List.getElem_cons_succ, List.getElem_cons_zero, List.setIfInBounds_toArray, List.set_cons_zero, List.set_cons_succ]
                clear hb hsz
                generalize W3.alloc (.cells #[.slice none 0 0, .slice none 0 0, .slice none 0 0, .slice none 0 0, .slice none 0 0, .slice none 0 0, .slice none 0 0, .slice none 0 0, .slice none 0 0, .slice none 0 0, .slice none 0 0, .slice none 0 0, .slice none 0 0, .slice none 0 0, .slice none 0 0, .slice none 0 0, .slice none 0 0, .slice none 0 0, .slice none 0 0, .slice none 0 0, .slice none 0 0, .slice none 0 0, .slice none 0 0, .slice none 0 0, .slice none 0 0, .slice none 0 0, .slice none 0 0, .slice none 0 0, .slice none 0 0, .slice none 0 0, .slice none 0 0, .slice none 0 0, .slice none 0 0] 27) = W4 at hHeld htX hlX htY hlY hT1 ⊢
                generalize hXe : W3.heap.size = X at htX hX1 hlX hne ⊢
                clear hXe
                refine wpAnyH_ready (rs := [4]) (by kernel_rfl) (by simp) (AllReadyH.cons rfl (fun K hK2 => ?_) AllReadyH.nil)
                rw [if_pos (by rfl)]
                simp only [List.getElem_toArray, List.getElem_cons_succ, List.getElem_cons_zero]
                have hlo : w.heap.size + 1 < W4.heap.size := hHeld.lt
                go_wp2_with (go_at_call 10; (with_reducible refine (hSt.out _ _ _ hT1 hHeld.bl).mono ?_); rintro e W5 ⟨ds, va, vd, vw, rfl, hTs, has, hds, hws, hb⟩)
                obtain ⟨hi, hhe⟩ : ∃ n, n = W5.heap.size := ⟨_, rfl⟩
                have hSR : SR W5 W4.heap.size hi ds U va vd vw da dd dw := by rw [hhe]; exact ⟨hTs.win, has.win, hds.win, hws.win⟩
                have hhi : hi ≤ W5.heap.size := Nat.le_of_eq hhe
                clear hhe
                have nY : Y < W4.heap.size ∨ hi ≤ Y := .inl hlY
                have nX : X < W4.heap.size ∨ hi ≤ X := .inl hlX
                replace htY := tn_there htY hlY hb
                replace hlY := Nat.lt_of_lt_of_le hlY hb.size
                replace htX := tn_there htX hlX hb
                replace hlX := Nat.lt_of_lt_of_le hlX hb.size
                replace hT1 := hT1.below hb
                refine hK2.out _ _ (hHeld.keep hb) (fun hHeld2 => ?_)
                clear hK2 K hHeld
                have hHeld := hHeld2
                clear hHeld2
                try simp only [Act.put, List.getElem_toArray, List.getElem_cons_succ, List.getElem_cons_zero, List.setIfInBounds_toArray, List.set_cons_zero, List.set_cons_succ]
                clear hb hTs has hds hws hT1
                refine wpAnyH_take (i := 5) (v := .tuple #[.agg ds.toArray, .agg #[va, vd, vw], .int .i64 E]) rfl (by kernel_rfl) (by kernel_rfl) (by kernel_rfl) (fun _ _ _ h => h) (Or.inl ⟨by rfl, fun W _ => by kernel_rfl⟩) hHeld ?_
                try simp only [Act.put, List.getElem_toArray, List.getElem_cons_succ, List.getElem_cons_zero, List.setIfInBounds_toArray, List.set_cons_zero, List.set_cons_succ]
                refine wpAnyH_take (i := 6) (v := .agg ds.toArray) rfl (by kernel_rfl) (by kernel_rfl) (by kernel_rfl) (fun _ _ _ h => h) (Or.inl ⟨by rfl, fun W _ => by kernel_rfl⟩) hHeld ?_
                try simp only [Act.put, List.getElem_toArray, List.getElem_cons_succ, List.getElem_cons_zero, List.setIfInBounds_toArray, List.set_cons_zero, List.set_cons_succ]
                refine wpAnyH_take (i := 7) (v := .agg #[va, vd, vw]) rfl (by kernel_rfl) (by kernel_rfl) (by kernel_rfl) (fun _ _ _ h => h) (Or.inl ⟨by rfl, fun W _ => by kernel_rfl⟩) hHeld ?_
                try simp only [Act.put, List.getElem_toArray, List.getElem_cons_succ, List.getElem_cons_zero, List.setIfInBounds_toArray, List.set_cons_zero, List.set_cons_succ]
                refine wpAnyH_take (i := 8) (v := .int .i64 E) rfl (by kernel_rfl) (by kernel_rfl) (by kernel_rfl) (fun _ _ _ h => h) (Or.inl ⟨by rfl, fun W _ => by kernel_rfl⟩) hHeld ?_
                try simp only [Act.put, List.getElem_toArray, List.getElem_cons_succ, List.getElem_cons_zero, List.setIfInBounds_toArray, List.set_cons_zero, List.set_cons_succ]
                have hTZ := hSR.full hHeld htX htY hne hX1 hY1 hlX hlY nX nY
                have hlcd := Lib.hid hSR.ts.lc
                have hod : Hid (ds.toArray.all (·.oneCell') = true) := Lib.hid (all_oneCell_toArray hSR.ts.one)
                have hpd : Hid ((#[va, vd, vw] : Array Value).all (·.oneCell') = true) := Lib.hid (all_oneCell_toArray (three_one hSR.ra.one hSR.rv.one hSR.rx.one))
                have hsd : Hid ((Tryd.prog.info? 27).map (·.size) = some ds.toArray.size) := Lib.hid (by rw [List.size_toArray, hSR.ts.lc]; exact size_taint)
                clear hSR hhi nX nY hne
                refine wpAnyH_ready (rs := [11]) (by kernel_rfl) (by simp) (AllReadyH.cons rfl (fun K hK2 => ?_) AllReadyH.nil)
                rw [if_pos (by rfl)]
                simp only [List.getElem_toArray, List.getElem_cons_succ, List.getElem_cons_zero]
                refine wp_store_mid 27 _ _ rfl X 0 ds.toArray rfl rfl (fun j hj => htX j (by rw [List.size_toArray, hlcd.out] at hj; exact hj)) hsd.out hod.out ?_
                change K _ (World.setCells _ X 0 ds)
                refine hK2.out _ _ (hHeld.far hX1 ds) (fun hHeld2 => ?_)
                clear hK2 K hHeld
                have hHeld := hHeld2
                clear hHeld2
                try simp only [Act.put, List.getElem_toArray, List.getElem_cons_succ, List.getElem_cons_zero, List.setIfInBounds_toArray, List.set_cons_zero, List.set_cons_succ]
                refine wpAnyH_ready (rs := [12]) (by kernel_rfl) (by simp) (AllReadyH.cons rfl (fun K hK2 => ?_) AllReadyH.nil)
                rw [if_pos (by rfl)]
                simp only [List.getElem_toArray, List.getElem_cons_succ, List.getElem_cons_zero]
                refine wp_store_mid 35 _ _ rfl Y 0 #[va, vd, vw] rfl rfl (World.there_setCells htY X 0 ds) size_deps hpd.out ?_
                change K _ (World.setCells (World.setCells _ X 0 ds) Y 0 [va, vd, vw])
                refine hK2.out _ _ (hHeld.far hY1 _) (fun hHeld2 => ?_)
                clear hK2 K hHeld
                have hHeld := hHeld2
                clear hHeld2
                try simp only [Act.put, List.getElem_toArray, List.getElem_cons_succ, List.getElem_cons_zero, List.setIfInBounds_toArray, List.set_cons_zero, List.set_cons_succ]
                refine wpAnyH_take (i := 13) (v := .int .i64 E) rfl (by kernel_rfl) (by kernel_rfl) (by kernel_rfl) (fun _ _ _ h => h) (Or.inl ⟨by rfl, fun W _ => by kernel_rfl⟩) hHeld ?_
                try simp only [Act.put, List.getElem_toArray, List.getElem_cons_succ, List.getElem_cons_zero, List.setIfInBounds_toArray, List.set_cons_zero, List.set_cons_succ]
                refine wpAnyH_done (by kernel_rfl) ?_ _
                go_wp2_with fail
                go_meet
                exact ⟨X, Y, ds, va, vd, vw, rfl, rfl, rfl, hTZ⟩
            exact AllReadyH.nil
        exact AllReadyH.nil
    refine AllReadyH.cons rfl (fun K hK2 => ?_) ?_
    · as_aux_lemma =>
        rw [if_pos (by rfl)]
        simp only [List.getElem_toArray, List.getElem_cons_succ, List.getElem_cons_zero]
        obtain ⟨-, htX, hb, hsz⟩ := new_block W1 #[.slice none 0 0, .slice none 0 0, .slice none 0 0, .slice none 0 0, .slice none 0 0, .slice none 0 0, .slice none 0 0, .slice none 0 0, .slice none 0 0, .slice none 0 0, .slice none 0 0, .slice none 0 0, .slice none 0 0, .slice none 0 0, .slice none 0 0, .slice none 0 0, .slice none 0 0, .slice none 0 0, .slice none 0 0, .slice none 0 0, .slice none 0 0, .slice none 0 0, .slice none 0 0, .slice none 0 0, .slice none 0 0, .slice none 0 0, .slice none 0 0, .slice none 0 0, .slice none 0 0, .slice none 0 0, .slice none 0 0, .slice none 0 0, .slice none 0 0] 27
        have hX1 := hHeld.lt
        have hlX : W1.heap.size < (W1.alloc (.cells #[.slice none 0 0, .slice none 0 0, .slice none 0 0, .slice none 0 0, .slice none 0 0, .slice none 0 0, .slice none 0 0, .slice none 0 0, .slice none 0 0, .slice none 0 0, .slice none 0 0, .slice none 0 0, .slice none 0 0, .slice none 0 0, .slice none 0 0, .slice none 0 0, .slice none 0 0, .slice none 0 0, .slice none 0 0, .slice none 0 0, .slice none 0 0, .slice none 0 0, .slice none 0 0, .slice none 0 0, .slice none 0 0, .slice none 0 0, .slice none 0 0, .slice none 0 0, .slice none 0 0, .slice none 0 0, .slice none 0 0, .slice none 0 0, .slice none 0 0] 27)).heap.size := by rw [hsz]; exact Nat.lt_succ_self _
        go_simp
        refine hK2.out _ _ (hHeld.keep hb) (fun hHeld2 => ?_)
        clear hK2 K hHeld
        have hHeld := hHeld2
        clear hHeld2
        try simp only [Act.put, List.getElem_toArray, List.getElem_cons_succ, List.getElem_cons_zero, List.setIfInBounds_toArray, List.set_cons_zero, List.set_cons_succ]
        clear hb hsz
        generalize W1.alloc (.cells #[.slice none 0 0, .slice none 0 0, .slice none 0 0, .slice none 0 0, .slice none 0 0, .slice none 0 0, .slice none 0 0, .slice none 0 0, .slice none 0 0, .slice none 0 0, .slice none 0 0, .slice none 0 0, .slice none 0 0, .slice none 0 0, .slice none 0 0, .slice none 0 0, .slice none 0 0, .slice none 0 0, .slice none 0 0, .slice none 0 0, .slice none 0 0, .slice none 0 0, .slice none 0 0, .slice none 0 0, .slice none 0 0, .slice none 0 0, .slice none 0 0, .slice none 0 0, .slice none 0 0, .slice none 0 0, .slice none 0 0, .slice none 0 0, .slice none 0 0] 27) = W2 at hHeld htX hlX ⊢
        generalize hXe : W1.heap.size = X at htX hX1 hlX ⊢
        clear hXe
        refine wpAnyH_ready (rs := [1, 10]) (by kernel_rfl) (by simp) ?_
        refine AllReadyH.cons rfl (fun K hK2 => ?_) ?_
        · as_aux_lemma =>
            rw [if_pos (by rfl)]
            simp only [List.getElem_toArray, List.getElem_cons_succ, List.getElem_cons_zero]
            go_wp2_with (go_at_call 13; (with_reducible refine (hOw.out _ hHeld).mono ?_); rintro e W3 ⟨c1, rfl, hT1, hb⟩)
            replace htX := tn_there htX hlX hb
            replace hlX := Nat.lt_of_lt_of_le hlX hb.size
            refine hK2.out _ _ (hHeld.keep hb) (fun hHeld2 => ?_)
            clear hK2 K hHeld
            have hHeld := hHeld2
            clear hHeld2
            try simp only [Act.put, List.getElem_toArray, List.getElem_cons_succ, List.getElem_cons_zero, List.setIfInBounds_toArray, List.set_cons_zero, List.set_cons_succ]
            clear hb
            refine wpAnyH_ready (rs := [4, 10]) (by kernel_rfl) (by simp) ?_
            refine AllReadyH.cons rfl (fun K hK2 => ?_) ?_
            · as_aux_lemma =>
                rw [if_pos (by rfl)]
                simp only [List.getElem_toArray, List.getElem_cons_succ, List.getElem_cons_zero]
                have hlo : w.heap.size + 1 < W3.heap.size := hHeld.lt
                go_wp2_with (go_at_call 10; (with_reducible refine (hSt.out _ _ _ hT1 hHeld.bl).mono ?_); rintro e W4 ⟨ds, va, vd, vw, rfl, hTs, has, hds, hws, hb⟩)
                obtain ⟨hi, hhe⟩ : ∃ n, n = W4.heap.size := ⟨_, rfl⟩
                have hSR : SR W4 W3.heap.size hi ds U va vd vw da dd dw := by rw [hhe]; exact ⟨hTs.win, has.win, hds.win, hws.win⟩
                have hhi : hi ≤ W4.heap.size := Nat.le_of_eq hhe
                clear hhe
                have nX : X < W3.heap.size ∨ hi ≤ X := .inl hlX
                replace htX := tn_there htX hlX hb
                replace hlX := Nat.lt_of_lt_of_le hlX hb.size
                replace hT1 := hT1.below hb
                refine hK2.out _ _ (hHeld.keep hb) (fun hHeld2 => ?_)
                clear hK2 K hHeld
                have hHeld := hHeld2
                clear hHeld2
                try simp only [Act.put, List.getElem_toArray, List.getElem_cons_succ, List.getElem_cons_zero, List.setIfInBounds_toArray, List.set_cons_zero, List.set_cons_succ]
                clear hb hTs has hds hws hT1
                refine wpAnyH_take (i := 5) (v := .tuple #[.agg ds.toArray, .agg #[va, vd, vw], .int .i64 E]) rfl (by kernel_rfl) (by kernel_rfl) (by kernel_rfl) (fun _ _ _ h => h) (Or.inl ⟨by rfl, fun W _ => by kernel_rfl⟩) hHeld ?_
                try simp only [Act.put, List.getElem_toArray, List.getElem_cons_succ, List.getElem_cons_zero, List.setIfInBounds_toArray, List.set_cons_zero, List.set_cons_succ]
                refine wpAnyH_take (i := 6) (v := .agg ds.toArray) rfl (by kernel_rfl) (by kernel_rfl) (by kernel_rfl) (fun _ _ _ h => h) (Or.inl ⟨by rfl, fun W _ => by kernel_rfl⟩) hHeld ?_
                try simp only [Act.put, List.getElem_toArray, List.getElem_cons_succ, List.getElem_cons_zero, List.setIfInBounds_toArray, List.set_cons_zero, List.set_cons_succ]
                refine wpAnyH_take (i := 7) (v := .agg #[va, vd, vw]) rfl (by kernel_rfl) (by kernel_rfl) (by kernel_rfl) (fun _ _ _ h => h) (Or.inl ⟨by rfl, fun W _ => by kernel_rfl⟩) hHeld ?_
                try simp only [Act.put, List.getElem_toArray, List.getElem_cons_succ, List.getElem_cons_zero, List.setIfInBounds_toArray, List.set_cons_zero, List.set_cons_succ]
                refine wpAnyH_take (i := 8) (v := .int .i64 E) rfl (by kernel_rfl) (by kernel_rfl) (by kernel_rfl) (fun _ _ _ h => h) (Or.inl ⟨by rfl, fun W _ => by kernel_rfl⟩) hHeld ?_
                try simp only [Act.put, List.getElem_toArray, List.getElem_cons_succ, List.getElem_cons_zero, List.setIfInBounds_toArray, List.set_cons_zero, List.set_cons_succ]
                refine wpAnyH_ready (rs := [10]) (by kernel_rfl) (by simp) (AllReadyH.cons rfl (fun K hK2 => ?_) AllReadyH.nil)
                rw [if_pos (by rfl)]
                simp only [List.getElem_toArray, List.getElem_cons_succ, List.getElem_cons_zero]
                obtain ⟨-, htY, hb, hsz⟩ := new_block W4 #[.slice none 0 0, .slice none 0 0, .slice none 0 0] 35
                have hY1 := hHeld.lt
                have hne : X ≠ W4.heap.size := by omega
                have nY : W4.heap.size < W3.heap.size ∨ hi ≤ W4.heap.size := .inr hhi
                replace htX := tn_there htX hlX hb
                replace hlX := Nat.lt_of_lt_of_le hlX hb.size
                replace hSR := hSR.keep hb
                replace hhi := Nat.le_trans hhi hb.size
                have hlY : W4.heap.size < (W4.alloc (.cells #[.slice none 0 0, .slice none 0 0, .slice none 0 0] 35)).heap.size := by rw [hsz]; exact Nat.lt_succ_self _
                go_simp
                refine hK2.out _ _ (hHeld.keep hb) (fun hHeld2 => ?_)
                clear hK2 K hHeld
                have hHeld := hHeld2
                clear hHeld2
                try simp only [Act.put, List.getElem_toArray, List.getElem_cons_succ, List.getElem_cons_zero, List.setIfInBounds_toArray, List.set_cons_zero, List.set_cons_succ]
                clear hb hsz
                generalize W4.alloc (.cells #[.slice none 0 0, .slice none 0 0, .slice none 0 0] 35) = W5 at hHeld htY hlY htX hlX hSR hhi ⊢
                generalize hYe : W4.heap.size = Y at htY hY1 hlY hne nY ⊢
                clear hYe
                have hTZ := hSR.full hHeld htX htY hne hX1 hY1 hlX hlY nX nY
                have hlcd := Lib.hid hSR.ts.lc
                have hod : Hid (ds.toArray.all (·.oneCell') = true) := Lib.hid (all_oneCell_toArray hSR.ts.one)
                have hpd : Hid ((#[va, vd, vw] : Array Value).all (·.oneCell') = true) := Lib.hid (all_oneCell_toArray (three_one hSR.ra.one hSR.rv.one hSR.rx.one))
                have hsd : Hid ((Tryd.prog.info? 27).map (·.size) = some ds.toArray.size) := Lib.hid (by rw [List.size_toArray, hSR.ts.lc]; exact size_taint)
                clear hSR hhi nX nY hne
                refine wpAnyH_ready (rs := [11]) (by kernel_rfl) (by simp) (AllReadyH.cons rfl (fun K hK2 => ?_) AllReadyH.nil)
                rw [if_pos (by rfl)]
                simp only [List.getElem_toArray, List.getElem_cons_succ, List.getElem_cons_zero]
                refine wp_store_mid 27 _ _ rfl X 0 ds.toArray rfl rfl (fun j hj => htX j (by rw [List.size_toArray, hlcd.out] at hj; exact hj)) hsd.out hod.out ?_
                change K _ (World.setCells _ X 0 ds)
                refine hK2.out _ _ (hHeld.far hX1 ds) (fun hHeld2 => ?_)
                clear hK2 K hHeld
                have hHeld := hHeld2
                clear hHeld2
                try simp only [Act.put, List.getElem_toArray, List.getElem_cons_succ, List.getElem_cons_zero, List.setIfInBounds_toArray, List.set_cons_zero, List.set_cons_succ]
                refine wpAnyH_ready (rs := [12]) (by kernel_rfl) (by simp) (AllReadyH.cons rfl (fun K hK2 => ?_) AllReadyH.nil)
                rw [if_pos (by rfl)]
                simp only [List.getElem_toArray, List.getElem_cons_succ, List.getElem_cons_zero]
                refine wp_store_mid 35 _ _ rfl Y 0 #[va, vd, vw] rfl rfl (World.there_setCells htY X 0 ds) size_deps hpd.out ?_
                change K _ (World.setCells (World.setCells _ X 0 ds) Y 0 [va, vd, vw])
                refine hK2.out _ _ (hHeld.far hY1 _) (fun hHeld2 => ?_)
                clear hK2 K hHeld
                have hHeld := hHeld2
                clear hHeld2
                try simp only [Act.put, List.getElem_toArray, List.getElem_cons_succ, List.getElem_cons_zero, List.setIfInBounds_toArray, List.set_cons_zero, List.set_cons_succ]
                refine wpAnyH_take (i := 13) (v := .int .i64 E) rfl (by kernel_rfl) (by kernel_rfl) (by kernel_rfl) (fun _ _ _ h => h) (Or.inl ⟨by rfl, fun W _ => by kernel_rfl⟩) hHeld ?_
                try simp only [Act.put, List.getElem_toArray, List.getElem_cons_succ, List.getElem_cons_zero, List.setIfInBounds_toArray, List.set_cons_zero, List.set_cons_succ]
                refine wpAnyH_done (by kernel_rfl) ?_ _
                go_wp2_with fail
                go_meet
                exact ⟨X, Y, ds, va, vd, vw, rfl, rfl, rfl, hTZ⟩
            refine AllReadyH.cons rfl (fun K hK2 => ?_) ?_
            · as_aux_lemma =>
                rw [if_pos (by rfl)]
                simp only [List.getElem_toArray, List.getElem_cons_succ, List.getElem_cons_zero]
                obtain ⟨-, htY, hb, hsz⟩ := new_block W3 #[.slice none 0 0, .slice none 0 0, .slice none 0 0] 35
                have hY1 := hHeld.lt
                have hne : X ≠ W3.heap.size := by omega
                replace htX := tn_there htX hlX hb
                replace hlX := Nat.lt_of_lt_of_le hlX hb.size
                replace hT1 := hT1.below hb
                have hlY : W3.heap.size < (W3.alloc (.cells #[.slice none 0 0, .slice none 0 0, .slice none 0 0] 35)).heap.size := by rw [hsz]; exact Nat.lt_succ_self _
                go_simp
                refine hK2.out _ _ (hHeld.keep hb) (fun hHeld2 => ?_)
                clear hK2 K hHeld
                have hHeld := hHeld2
                clear hHeld2
                try simp only [Act.put, List.getElem_toArray, List.getElem_cons_succ, List.getElem_cons_zero, List.setIfInBounds_toArray, List.set_cons_zero, List.set_cons_succ]
                clear hb hsz
                generalize W3.alloc (.cells #[.slice none 0 0, .slice none 0 0, .slice none 0 0] 35) = W4 at hHeld htY hlY htX hlX hT1 ⊢
                generalize hYe : W3.heap.size = Y at htY hY1 hlY hne ⊢
                clear hYe
                refine wpAnyH_ready (rs := [4]) (by kernel_rfl) (by simp) (AllReadyH.cons rfl (fun K hK2 => ?_) AllReadyH.nil)
                rw [if_pos (by rfl)]
                simp only [List.getElem_toArray, List.getElem_cons_succ, List.getElem_cons_zero]
                have hlo : w.heap.size + 1 < W4.heap.size := hHeld.lt
                go_wp2_with (go_at_call 10; (with_reducible refine (hSt.out _ _ _ hT1 hHeld.bl).mono ?_); rintro e W5 ⟨ds, va, vd, vw, rfl, hTs, has, hds, hws, hb⟩)
                obtain ⟨hi, hhe⟩ : ∃ n, n = W5.heap.size := ⟨_, rfl⟩
                have hSR : SR W5 W4.heap.size hi ds U va vd vw da dd dw := by rw [hhe]; exact ⟨hTs.win, has.win, hds.win, hws.win⟩
                have hhi : hi ≤ W5.heap.size := Nat.le_of_eq hhe
                clear hhe
                have nX : X < W4.heap.size ∨ hi ≤ X := .inl hlX
                have nY : Y < W4.heap.size ∨ hi ≤ Y := .inl hlY
                replace htX := tn_there htX hlX hb
                replace hlX := Nat.lt_of_lt_of_le hlX hb.size
                replace htY := tn_there htY hlY hb
                replace hlY := Nat.lt_of_lt_of_le hlY hb.size
                replace hT1 := hT1.below hb
                refine hK2.out _ _ (hHeld.keep hb) (fun hHeld2 => ?_)
                clear hK2 K hHeld
                have hHeld := hHeld2
                clear hHeld2
                try simp only [Act.put, List.getElem_toArray, List.getElem_cons_succ, List.getElem_cons_zero, List.setIfInBounds_toArray, List.set_cons_zero, List.set_cons_succ]
                clear hb hTs has hds hws hT1
                refine wpAnyH_take (i := 5) (v := .tuple #[.agg ds.toArray, .agg #[va, vd, vw], .int .i64 E]) rfl (by kernel_rfl) (by kernel_rfl) (by kernel_rfl) (fun _ _ _ h => h) (Or.inl ⟨by rfl, fun W _ => by kernel_rfl⟩) hHeld ?_
                try simp only [Act.put, List.getElem_toArray, List.getElem_cons_succ, List.getElem_cons_zero, List.setIfInBounds_toArray, List.set_cons_zero, List.set_cons_succ]
                refine wpAnyH_take (i := 6) (v := .agg ds.toArray) rfl (by kernel_rfl) (by kernel_rfl) (by kernel_rfl) (fun _ _ _ h => h) (Or.inl ⟨by rfl, fun W _ => by kernel_rfl⟩) hHeld ?_
                try simp only [Act.put, List.getElem_toArray, List.getElem_cons_succ, List.getElem_cons_zero, List.setIfInBounds_toArray, List.set_cons_zero, List.set_cons_succ]
                refine wpAnyH_take (i := 7) (v := .agg #[va, vd, vw]) rfl (by kernel_rfl) (by kernel_rfl) (by kernel_rfl) (fun _ _ _ h => h) (Or.inl ⟨by rfl, fun W _ => by kernel_rfl⟩) hHeld ?_
                try simp only [Act.put, List.getElem_toArray, List.getElem_cons_succ, List.getElem_cons_zero, List.setIfInBounds_toArray, List.set_cons_zero, List.set_cons_succ]
                refine wpAnyH_take (i := 8) (v := .int .i64 E) rfl (by kernel_rfl) (by kernel_rfl) (by kernel_rfl) (fun _ _ _ h => h) (Or.inl ⟨by rfl, fun W _ => by kernel_rfl⟩) hHeld ?_
                try simp only [Act.put, List.getElem_toArray, List.getElem_cons_succ, List.getElem_cons_zero, List.setIfInBounds_toArray, List.set_cons_zero, List.set_cons_succ]
                have hTZ := hSR.full hHeld htX htY hne hX1 hY1 hlX hlY nX nY
                have hlcd := Lib.hid hSR.ts.lc
                have hod : Hid (ds.toArray.all (·.oneCell') = true) := Lib.hid (all_oneCell_toArray hSR.ts.one)
                have hpd : Hid ((#[va, vd, vw] : Array Value).all (·.oneCell') = true) := Lib.hid (all_oneCell_toArray (three_one hSR.ra.one hSR.rv.one hSR.rx.one))
                have hsd : Hid ((Tryd.prog.info? 27).map (·.size) = some ds.toArray.size) := Lib.hid (by rw [List.size_toArray, hSR.ts.lc]; exact size_taint)
                clear hSR hhi nX nY hne
                refine wpAnyH_ready (rs := [11]) (by kernel_rfl) (by simp) (AllReadyH.cons rfl (fun K hK2 => ?_) AllReadyH.nil)
                rw [if_pos (by rfl)]
                simp only [List.getElem_toArray, List.getElem_cons_succ, List.getElem_cons_zero]
                refine wp_store_mid 27 _ _ rfl X 0 ds.toArray rfl rfl (fun j hj => htX j (by rw [List.size_toArray, hlcd.out] at hj; exact hj)) hsd.out hod.out ?_
                change K _ (World.setCells _ X 0 ds)
                refine hK2.out _ _ (hHeld.far hX1 ds) (fun hHeld2 => ?_)
                clear hK2 K hHeld
                have hHeld := hHeld2
                clear hHeld2
                try simp only [Act.put, List.getElem_toArray, List.getElem_cons_succ, List.getElem_cons_zero, List.setIfInBounds_toArray, List.set_cons_zero, List.set_cons_succ]
                refine wpAnyH_ready (rs := [12]) (by kernel_rfl) (by simp) (AllReadyH.cons rfl (fun K hK2 => ?_) AllReadyH.nil)
                rw [if_pos (by rfl)]
                simp only [List.getElem_toArray, List.getElem_cons_succ, List.getElem_cons_zero]
                refine wp_store_mid 35 _ _ rfl Y 0 #[va, vd, vw] rfl rfl (World.there_setCells htY X 0 ds) size_deps hpd.out ?_
                change K _ (World.setCells (World.setCells _ X 0 ds) Y 0 [va, vd, vw])
                refine hK2.out _ _ (hHeld.far hY1 _) (fun hHeld2 => ?_)
                clear hK2 K hHeld
                have hHeld := hHeld2
                clear hHeld2
                try simp only [Act.put, List.getElem_toArray, List.getElem_cons_succ, List.getElem_cons_zero, List.setIfInBounds_toArray, List.set_cons_zero, List.set_cons_succ]
                refine wpAnyH_take (i := 13) (v := .int .i64 E) rfl (by kernel_rfl) (by kernel_rfl) (by kernel_rfl) (fun _ _ _ h => h) (Or.inl ⟨by rfl, fun W _ => by kernel_rfl⟩) hHeld ?_
                try simp only [Act.put, List.getElem_toArray, List.getElem_cons_succ, List.getElem_cons_zero, List.setIfInBounds_toArray, List.set_cons_zero, List.set_cons_succ]
                refine wpAnyH_done (by kernel_rfl) ?_ _
                go_wp2_with fail
                go_meet
                exact ⟨X, Y, ds, va, vd, vw, rfl, rfl, rfl, hTZ⟩
            exact AllReadyH.nil
        refine AllReadyH.cons rfl (fun K hK2 => ?_) ?_
        · as_aux_lemma =>
            rw [if_pos (by rfl)]
            simp only [List.getElem_toArray, List.getElem_cons_succ, List.getElem_cons_zero]
            obtain ⟨-, htY, hb, hsz⟩ := new_block W2 #[.slice none 0 0, .slice none 0 0, .slice none 0 0] 35
            have hY1 := hHeld.lt
            have hne : X ≠ W2.heap.size := by omega
            replace htX := tn_there htX hlX hb
            replace hlX := Nat.lt_of_lt_of_le hlX hb.size
            have hlY : W2.heap.size < (W2.alloc (.cells #[.slice none 0 0, .slice none 0 0, .slice none 0 0] 35)).heap.size := by rw [hsz]; exact Nat.lt_succ_self _
            go_simp
            refine hK2.out _ _ (hHeld.keep hb) (fun hHeld2 => ?_)
            clear hK2 K hHeld
            have hHeld := hHeld2
            clear hHeld2
            try simp only [Act.put, List.getElem_toArray, List.getElem_cons_succ, List.getElem_cons_zero, List.setIfInBounds_toArray, List.set_cons_zero, List.set_cons_succ]
            clear hb hsz
            generalize W2.alloc (.cells #[.slice none 0 0, .slice none 0 0, .slice none 0 0] 35) = W3 at hHeld htY hlY htX hlX ⊢
            generalize hYe : W2.heap.size = Y at htY hY1 hlY hne ⊢
            clear hYe
            refine wpAnyH_ready (rs := [1]) (by kernel_rfl) (by simp) (AllReadyH.cons rfl (fun K hK2 => ?_) AllReadyH.nil)
            rw [if_pos (by rfl)]
            simp only [List.getElem_toArray, List.getElem_cons_succ, List.getElem_cons_zero]
            go_wp2_with (go_at_call 13; (with_reducible refine (hOw.out _ hHeld).mono ?_); rintro e W4 ⟨c1, rfl, hT1, hb⟩)
            replace htX := tn_there htX hlX hb
            replace hlX := Nat.lt_of_lt_of_le hlX hb.size
            replace htY := tn_there htY hlY hb
            replace hlY := Nat.lt_of_lt_of_le hlY hb.size
            refine hK2.out _ _ (hHeld.keep hb) (fun hHeld2 => ?_)
            clear hK2 K hHeld
            have hHeld := hHeld2
            clear hHeld2
            try simp only [Act.put, List.getElem_toArray, List.getElem_cons_succ, List.getElem_cons_zero, List.setIfInBounds_toArray, List.set_cons_zero, List.set_cons_succ]
            clear hb
            refine wpAnyH_ready (rs := [4]) (by kernel_rfl) (by simp) (AllReadyH.cons rfl (fun K hK2 => ?_) AllReadyH.nil)
            rw [if_pos (by rfl)]
            simp only [List.getElem_toArray, List.getElem_cons_succ, List.getElem_cons_zero]
            have hlo : w.heap.size + 1 < W4.heap.size := hHeld.lt
            go_wp2_with (go_at_call 10; (with_reducible refine (hSt.out _ _ _ hT1 hHeld.bl).mono ?_); rintro e W5 ⟨ds, va, vd, vw, rfl, hTs, has, hds, hws, hb⟩)
            obtain ⟨hi, hhe⟩ : ∃ n, n = W5.heap.size := ⟨_, rfl⟩
            have hSR : SR W5 W4.heap.size hi ds U va vd vw da dd dw := by rw [hhe]; exact ⟨hTs.win, has.win, hds.win, hws.win⟩
            have hhi : hi ≤ W5.heap.size := Nat.le_of_eq hhe
            clear hhe
            have nX : X < W4.heap.size ∨ hi ≤ X := .inl hlX
            have nY : Y < W4.heap.size ∨ hi ≤ Y := .inl hlY
            replace htX := tn_there htX hlX hb
            replace hlX := Nat.lt_of_lt_of_le hlX hb.size
            replace htY := tn_there htY hlY hb
            replace hlY := Nat.lt_of_lt_of_le hlY hb.size
            replace hT1 := hT1.below hb
            refine hK2.out _ _ (hHeld.keep hb) (fun hHeld2 => ?_)
            clear hK2 K hHeld
            have hHeld := hHeld2
            clear hHeld2
            try simp only [Act.put, List.getElem_toArray, List.getElem_cons_succ, List.getElem_cons_zero, List.setIfInBounds_toArray, List.set_cons_zero, List.set_cons_succ]
            clear hb hTs has hds hws hT1
            refine wpAnyH_take (i := 5) (v := .tuple #[.agg ds.toArray, .agg #[va, vd, vw], .int .i64 E]) rfl (by kernel_rfl) (by kernel_rfl) (by kernel_rfl) (fun _ _ _ h => h) (Or.inl ⟨by rfl, fun W _ => by kernel_rfl⟩) hHeld ?_
            try simp only [Act.put, List.getElem_toArray, List.getElem_cons_succ, List.getElem_cons_zero, List.setIfInBounds_toArray, List.set_cons_zero, List.set_cons_succ]
            refine wpAnyH_take (i := 6) (v := .agg ds.toArray) rfl (by kernel_rfl) (by kernel_rfl) (by kernel_rfl) (fun _ _ _ h => h) (Or.inl ⟨by rfl, fun W _ => by kernel_rfl⟩) hHeld ?_
            try simp only [Act.put, List.getElem_toArray, List.getElem_cons_succ, List.getElem_cons_zero, List.setIfInBounds_toArray, List.set_cons_zero, List.set_cons_succ]
            refine wpAnyH_take (i := 7) (v := .agg #[va, vd, vw]) rfl (by kernel_rfl) (by kernel_rfl) (by kernel_rfl) (fun _ _ _ h => h) (Or.inl ⟨by rfl, fun W _ => by kernel_rfl⟩) hHeld ?_
            try simp only [Act.put, List.getElem_toArray, List.getElem_cons_succ, List.getElem_cons_zero, List.setIfInBounds_toArray, List.set_cons_zero, List.set_cons_succ]
            refine wpAnyH_take (i := 8) (v := .int .i64 E) rfl (by kernel_rfl) (by kernel_rfl) (by kernel_rfl) (fun _ _ _ h => h) (Or.inl ⟨by rfl, fun W _ => by kernel_rfl⟩) hHeld ?_
            try simp only [Act.put, List.getElem_toArray, List.getElem_cons_succ, List.getElem_cons_zero, List.setIfInBounds_toArray, List.set_cons_zero, List.set_cons_succ]
            have hTZ := hSR.full hHeld htX htY hne hX1 hY1 hlX hlY nX nY
            have hlcd := Lib.hid hSR.ts.lc
            have hod : Hid (ds.toArray.all (·.oneCell') = true) := Lib.hid (all_oneCell_toArray hSR.ts.one)
            have hpd : Hid ((#[va, vd, vw] : Array Value).all (·.oneCell') = true) := Lib.hid (all_oneCell_toArray (three_one hSR.ra.one hSR.rv.one hSR.rx.one))
            have hsd : Hid ((Tryd.prog.info? 27).map (·.size) = some ds.toArray.size) := Lib.hid (by rw [List.size_toArray, hSR.ts.lc]; exact size_taint)
            clear hSR hhi nX nY hne
            refine wpAnyH_ready (rs := [11]) (by kernel_rfl) (by simp) (AllReadyH.cons rfl (fun K hK2 => ?_) AllReadyH.nil)
            rw [if_pos (by rfl)]
            simp only [List.getElem_toArray, List.getElem_cons_succ, List.getElem_cons_zero]
            refine wp_store_mid 27 _ _ rfl X 0 ds.toArray rfl rfl (fun j hj => htX j (by rw [List.size_toArray, hlcd.out] at hj; exact hj)) hsd.out hod.out ?_
            change K _ (World.setCells _ X 0 ds)
            refine hK2.out _ _ (hHeld.far hX1 ds) (fun hHeld2 => ?_)
            clear hK2 K hHeld
            have hHeld := hHeld2
            clear hHeld2
            try simp only [Act.put, List.getElem_toArray, List.getElem_cons_succ, List.getElem_cons_zero, List.setIfInBounds_toArray, List.set_cons_zero, List.set_cons_succ]
            refine wpAnyH_ready (rs := [12]) (by kernel_rfl) (by simp) (AllReadyH.cons rfl (fun K hK2 => ?_) AllReadyH.nil)
            rw [if_pos (by rfl)]
            simp only [List.getElem_toArray, List.getElem_cons_succ, List.getElem_cons_zero]
            refine wp_store_mid 35 _ _ rfl Y 0 #[va, vd, vw] rfl rfl (World.there_setCells htY X 0 ds) size_deps hpd.out ?_
            change K _ (World.setCells (World.setCells _ X 0 ds) Y 0 [va, vd, vw])
            refine hK2.out _ _ (hHeld.far hY1 _) (fun hHeld2 => ?_)
            clear hK2 K hHeld
            have hHeld := hHeld2
            clear hHeld2
            try simp only [Act.put, List.getElem_toArray, List.getElem_cons_succ, List.getElem_cons_zero, List.setIfInBounds_toArray, List.set_cons_zero, List.set_cons_succ]
            refine wpAnyH_take (i := 13) (v := .int .i64 E) rfl (by kernel_rfl) (by kernel_rfl) (by kernel_rfl) (fun _ _ _ h => h) (Or.inl ⟨by rfl, fun W _ => by kernel_rfl⟩) hHeld ?_
            try simp only [Act.put, List.getElem_toArray, List.getElem_cons_succ, List.getElem_cons_zero, List.setIfInBounds_toArray, List.set_cons_zero, List.set_cons_succ]
            refine wpAnyH_done (by kernel_rfl) ?_ _
            go_wp2_with fail
            go_meet
            exact ⟨X, Y, ds, va, vd, vw, rfl, rfl, rfl, hTZ⟩
        exact AllReadyH.nil
    refine AllReadyH.cons rfl (fun K hK2 => ?_) ?_
    · as_aux_lemma =>
        rw [if_pos (by rfl)]
        simp only [List.getElem_toArray, List.getElem_cons_succ, List.getElem_cons_zero]
        obtain ⟨-, htY, hb, hsz⟩ := new_block W1 #[.slice none 0 0, .slice none 0 0, .slice none 0 0] 35
        have hY1 := hHeld.lt
        have hlY : W1.heap.size < (W1.alloc (.cells #[.slice none 0 0, .slice none 0 0, .slice none 0 0] 35)).heap.size := by rw [hsz]; exact Nat.lt_succ_self _
        go_simp
        refine hK2.out _ _ (hHeld.keep hb) (fun hHeld2 => ?_)
        clear hK2 K hHeld
        have hHeld := hHeld2
        clear hHeld2
        try simp only [Act.put, List.getElem_toArray, List.getElem_cons_succ, List.getElem_cons_zero, List.setIfInBounds_toArray, List.set_cons_zero, List.set_cons_succ]
        clear hb hsz
        generalize W1.alloc (.cells #[.slice none 0 0, .slice none 0 0, .slice none 0 0] 35) = W2 at hHeld htY hlY ⊢
        generalize hYe : W1.heap.size = Y at htY hY1 hlY ⊢
        clear hYe
        refine wpAnyH_ready (rs := [1, 9]) (by kernel_rfl) (by simp) ?_
        refine AllReadyH.cons rfl (fun K hK2 => ?_) ?_
        · as_aux_lemma =>
            rw [if_pos (by rfl)]
            simp only [List.getElem_toArray, List.getElem_cons_succ, List.getElem_cons_zero]
            go_wp2_with (go_at_call 13; (with_reducible refine (hOw.out _ hHeld).mono ?_); rintro e W3 ⟨c1, rfl, hT1, hb⟩)
            replace htY := tn_there htY hlY hb
            replace hlY := Nat.lt_of_lt_of_le hlY hb.size
            refine hK2.out _ _ (hHeld.keep hb) (fun hHeld2 => ?_)
            clear hK2 K hHeld
            have hHeld := hHeld2
            clear hHeld2
            try simp only [Act.put, List.getElem_toArray, List.getElem_cons_succ, List.getElem_cons_zero, List.setIfInBounds_toArray, List.set_cons_zero, List.set_cons_succ]
            clear hb
            refine wpAnyH_ready (rs := [4, 9]) (by kernel_rfl) (by simp) ?_
            refine AllReadyH.cons rfl (fun K hK2 => ?_) ?_
            · as_aux_lemma =>
                rw [if_pos (by rfl)]
                simp only [List.getElem_toArray, List.getElem_cons_succ, List.getElem_cons_zero]
                have hlo : w.heap.size + 1 < W3.heap.size := hHeld.lt
                go_wp2_with (go_at_call 10; (with_reducible refine (hSt.out _ _ _ hT1 hHeld.bl).mono ?_); rintro e W4 ⟨ds, va, vd, vw, rfl, hTs, has, hds, hws, hb⟩)
                obtain ⟨hi, hhe⟩ : ∃ n, n = W4.heap.size := ⟨_, rfl⟩
                have hSR : SR W4 W3.heap.size hi ds U va vd vw da dd dw := by rw [hhe]; exact ⟨hTs.win, has.win, hds.win, hws.win⟩
                have hhi : hi ≤ W4.heap.size := Nat.le_of_eq hhe
                clear hhe
                have nY : Y < W3.heap.size ∨ hi ≤ Y := .inl hlY
                replace htY := tn_there htY hlY hb
                replace hlY := Nat.lt_of_lt_of_le hlY hb.size
                replace hT1 := hT1.below hb
                refine hK2.out _ _ (hHeld.keep hb) (fun hHeld2 => ?_)
                clear hK2 K hHeld
                have hHeld := hHeld2
                clear hHeld2
                try simp only [Act.put, List.getElem_toArray, List.getElem_cons_succ, List.getElem_cons_zero, List.setIfInBounds_toArray, List.set_cons_zero, List.set_cons_succ]
                clear hb hTs has hds hws hT1
                refine wpAnyH_take (i := 5) (v := .tuple #[.agg ds.toArray, .agg #[va, vd, vw], .int .i64 E]) rfl (by kernel_rfl) (by kernel_rfl) (by kernel_rfl) (fun _ _ _ h => h) (Or.inl ⟨by rfl, fun W _ => by kernel_rfl⟩) hHeld ?_
                try simp only [Act.put, List.getElem_toArray, List.getElem_cons_succ, List.getElem_cons_zero, List.setIfInBounds_toArray, List.set_cons_zero, List.set_cons_succ]
                refine wpAnyH_take (i := 6) (v := .agg ds.toArray) rfl (by kernel_rfl) (by kernel_rfl) (by kernel_rfl) (fun _ _ _ h => h) (Or.inl ⟨by rfl, fun W _ => by kernel_rfl⟩) hHeld ?_
                try simp only [Act.put, List.getElem_toArray, List.getElem_cons_succ, List.getElem_cons_zero, List.setIfInBounds_toArray, List.set_cons_zero, List.set_cons_succ]
                refine wpAnyH_take (i := 7) (v := .agg #[va, vd, vw]) rfl (by kernel_rfl) (by kernel_rfl) (by kernel_rfl) (fun _ _ _ h => h) (Or.inl ⟨by rfl, fun W _ => by kernel_rfl⟩) hHeld ?_
                try simp only [Act.put, List.getElem_toArray, List.getElem_cons_succ, List.getElem_cons_zero, List.setIfInBounds_toArray, List.set_cons_zero, List.set_cons_succ]
                refine wpAnyH_take (i := 8) (v := .int .i64 E) rfl (by kernel_rfl) (by kernel_rfl) (by kernel_rfl) (fun _ _ _ h => h) (Or.inl ⟨by rfl, fun W _ => by kernel_rfl⟩) hHeld ?_
                try simp only [Act.put, List.getElem_toArray, List.getElem_cons_succ, List.getElem_cons_zero, List.setIfInBounds_toArray, List.set_cons_zero, List.set_cons_succ]
                refine wpAnyH_ready (rs := [9]) (by kernel_rfl) (by simp) (AllReadyH.cons rfl (fun K hK2 => ?_) AllReadyH.nil)
                rw [if_pos (by rfl)]
                simp only [List.getElem_toArray, List.getElem_cons_succ, List.getElem_cons_zero]
                obtain ⟨-, htX, hb, hsz⟩ := new_block W4 #[.slice none 0 0, .slice none 0 0, .slice none 0 0, .slice none 0 0, .slice none 0 0, .slice none 0 0, .slice none 0 0, .slice none 0 0, .slice none 0 0, .slice none 0 0, .slice none 0 0, .slice none 0 0, .slice none 0 0, .slice none 0 0, .slice none 0 0, .slice none 0 0, .slice none 0 0, .slice none 0 0, .slice none 0 0, .slice none 0 0, .slice none 0 0, .slice none 0 0, .slice none 0 0, .slice none 0 0, .slice none 0 0, .slice none 0 0, .slice none 0 0, .slice none 0 0, .slice none 0 0, .slice none 0 0, .slice none 0 0, .slice none 0 0, .slice none 0 0] 27
                have hX1 := hHeld.lt
                have hne : W4.heap.size ≠ Y := by omega
                have nX : W4.heap.size < W3.heap.size ∨ hi ≤ W4.heap.size := .inr hhi
                replace htY := tn_there htY hlY hb
                replace hlY := Nat.lt_of_lt_of_le hlY hb.size
                replace hSR := hSR.keep hb
                replace hhi := Nat.le_trans hhi hb.size
                have hlX : W4.heap.size < (W4.alloc (.cells #[.slice none 0 0, .slice none 0 0, .slice none 0 0, .slice none 0 0, .slice none 0 0, .slice none 0 0, .slice none 0 0, .slice none 0 0, .slice none 0 0, .slice none 0 0, .slice none 0 0, .slice none 0 0, .slice none 0 0, .slice none 0 0, .slice none 0 0, .slice none 0 0, .slice none 0 0, .slice none 0 0, .slice none 0 0, .slice none 0 0, .slice none 0 0, .slice none 0 0, .slice none 0 0, .slice none 0 0, .slice none 0 0, .slice none 0 0, .slice none 0 0, .slice none 0 0, .slice none 0 0, .slice none 0 0, .slice none 0 0, .slice none 0 0, .slice none 0 0] 27)).heap.size := by rw [hsz]; exact Nat.lt_succ_self _
                go_simp
                refine hK2.out _ _ (hHeld.keep hb) (fun hHeld2 => ?_)
                clear hK2 K hHeld
                have hHeld := hHeld2
                clear hHeld2
                try simp only [Act.put, List.getElem_toArray, List.getElem_cons_succ, List.getElem_cons_zero, List.setIfInBounds_toArray, List.set_cons_zero, List.set_cons_succ]
                clear hb hsz
                generalize W4.alloc (.cells #[.slice none 0 0, .slice none 0 0, .slice none 0 0, .slice none 0 0, .slice none 0 0, .slice none 0 0, .slice none 0 0, .slice none 0 0, .slice none 0 0, .slice none 0 0, .slice none 0 0, .slice none 0 0, .slice none 0 0, .slice none 0 0, .slice none 0 0, .slice none 0 0, .slice none 0 0, .slice none 0 0, .slice none 0 0, .slice none 0 0, .slice none 0 0, .slice none 0 0, .slice none 0 0, .slice none 0 0, .slice none 0 0, .slice none 0 0, .slice none 0 0, .slice none 0 0, .slice none 0 0, .slice none 0 0, .slice none 0 0, .slice none 0 0, .slice none 0 0] 27) = W5 at hHeld htX hlX htY hlY hSR hhi ⊢
                generalize hXe : W4.heap.size = X at htX hX1 hlX hne nX ⊢
                clear hXe
                have hTZ := hSR.full hHeld htX htY hne hX1 hY1 hlX hlY nX nY
                have hlcd := Lib.hid hSR.ts.lc
                have hod : Hid (ds.toArray.all (·.oneCell') = true) := Lib.hid (all_oneCell_toArray hSR.ts.one)
                have hpd : Hid ((#[va, vd, vw] : Array Value).all (·.oneCell') = true) := Lib.hid (all_oneCell_toArray (three_one hSR.ra.one hSR.rv.one hSR.rx.one))
                have hsd : Hid ((Tryd.prog.info? 27).map (·.size) = some ds.toArray.size) := Lib.hid (by rw [List.size_toArray, hSR.ts.lc]; exact size_taint)
                clear hSR hhi nX nY hne
                refine wpAnyH_ready (rs := [11]) (by kernel_rfl) (by simp) (AllReadyH.cons rfl (fun K hK2 => ?_) AllReadyH.nil)
                rw [if_pos (by rfl)]
                simp only [List.getElem_toArray, List.getElem_cons_succ, List.getElem_cons_zero]
                refine wp_store_mid 27 _ _ rfl X 0 ds.toArray rfl rfl (fun j hj => htX j (by rw [List.size_toArray, hlcd.out] at hj; exact hj)) hsd.out hod.out ?_
                change K _ (World.setCells _ X 0 ds)
                refine hK2.out _ _ (hHeld.far hX1 ds) (fun hHeld2 => ?_)
                clear hK2 K hHeld
                have hHeld := hHeld2
                clear hHeld2
                try simp only [Act.put, List.getElem_toArray, List.getElem_cons_succ, List.getElem_cons_zero, List.setIfInBounds_toArray, List.set_cons_zero, List.set_cons_succ]
                refine wpAnyH_ready (rs := [12]) (by kernel_rfl) (by simp) (AllReadyH.cons rfl (fun K hK2 => ?_) AllReadyH.nil)
                rw [if_pos (by rfl)]
                simp only [List.getElem_toArray, List.getElem_cons_succ, List.getElem_cons_zero]
                refine wp_store_mid 35 _ _ rfl Y 0 #[va, vd, vw] rfl rfl (World.there_setCells htY X 0 ds) size_deps hpd.out ?_
                change K _ (World.setCells (World.setCells _ X 0 ds) Y 0 [va, vd, vw])
                refine hK2.out _ _ (hHeld.far hY1 _) (fun hHeld2 => ?_)
                clear hK2 K hHeld
                have hHeld := hHeld2
                clear hHeld2
                try simp only [Act.put, List.getElem_toArray, List.getElem_cons_succ, List.getElem_cons_zero, List.setIfInBounds_toArray, List.set_cons_zero, List.set_cons_succ]
                refine wpAnyH_take (i := 13) (v := .int .i64 E) rfl (by kernel_rfl) (by kernel_rfl) (by kernel_rfl) (fun _ _ _ h => h) (Or.inl ⟨by rfl, fun W _ => by kernel_rfl⟩) hHeld ?_
                try simp only [Act.put, List.getElem_toArray, List.getElem_cons_succ, List.getElem_cons_zero, List.setIfInBounds_toArray, List.set_cons_zero, List.set_cons_succ]
                refine wpAnyH_done (by kernel_rfl) ?_ _
                go_wp2_with fail
                go_meet
                exact ⟨X, Y, ds, va, vd, vw, rfl, rfl, rfl, hTZ⟩
            refine AllReadyH.cons rfl (fun K hK2 => ?_) ?_
            · as_aux_lemma =>
                rw [if_pos (by rfl)]
                simp only [List.getElem_toArray, List.getElem_cons_succ, List.getElem_cons_zero]
                obtain ⟨-, htX, hb, hsz⟩ := new_block W3 #[.slice none 0 0, .slice none 0 0, .slice none 0 0, .slice none 0 0, .slice none 0 0, .slice none 0 0, .slice none 0 0, .slice none 0 0, .slice none 0 0, .slice none 0 0, .slice none 0 0, .slice none 0 0, .slice none 0 0, .slice none 0 0, .slice none 0 0, .slice none 0 0, .slice none 0 0, .slice none 0 0, .slice none 0 0, .slice none 0 0, .slice none 0 0, .slice none 0 0, .slice none 0 0, .slice none 0 0, .slice none 0 0, .slice none 0 0, .slice none 0 0, .slice none 0 0, .slice none 0 0, .slice none 0 0, .slice none 0 0, .slice none 0 0, .slice none 0 0] 27
                have hX1 := hHeld.lt
                have hne : W3.heap.size ≠ Y := by omega
                replace htY := tn_there htY hlY hb
                replace hlY := Nat.lt_of_lt_of_le hlY hb.size
                replace hT1 := hT1.below hb
                have hlX : W3.heap.size < (W3.alloc (.cells #[.slice none 0 0, .slice none 0 0, .slice none 0 0, .slice none 0 0, .slice none 0 0, .slice none 0 0, .slice none 0 0, .slice none 0 0, .slice none 0 0, .slice none 0 0, .slice none 0 0, .slice none 0 0, .slice none 0 0, .slice none 0 0, .slice none 0 0, .slice none 0 0, .slice none 0 0, .slice none 0 0, .slice none 0 0, .slice none 0 0, .slice none 0 0, .slice none 0 0, .slice none 0 0, .slice none 0 0, .slice none 0 0, .slice none 0 0, .slice none 0 0, .slice none 0 0, .slice none 0 0, .slice none 0 0, .slice none 0 0, .slice none 0 0, .slice none 0 0] 27)).heap.size := by rw [hsz]; exact Nat.lt_succ_self _
                go_simp
                refine hK2.out _ _ (hHeld.keep hb) (fun hHeld2 => ?_)
                clear hK2 K hHeld
                have hHeld := hHeld2
                clear hHeld2
                try simp only [Act.put, List.getElem_toArray, List.getElem_cons_succ, List.getElem_cons_zero, List.setIfInBounds_toArray, List.set_cons_zero, List.set_cons_succ]
                clear hb hsz
                generalize W3.alloc (.cells #[.slice none 0 0, .slice none 0 0, .slice none 0 0, .slice none 0 0, .slice none 0 0, .slice none 0 0, .slice none 0 0, .slice none 0 0, .slice none 0 0, .slice none 0 0, .slice none 0 0, .slice none 0 0, .slice none 0 0, .slice none 0 0, .slice none 0 0, .slice none 0 0, .slice none 0 0, .slice none 0 0, .slice none 0 0, .slice none 0 0, .slice none 0 0, .slice none 0 0, .slice none 0 0, .slice none 0 0, .slice none 0 0, .slice none 0 0, .slice none 0 0, .slice none 0 0, .slice none 0 0, .slice none 0 0, .slice none 0 0, .slice none 0 0, .slice none 0 0] 27) = W4 at hHeld htX hlX htY hlY hT1 ⊢
                generalize hXe : W3.heap.size = X at htX hX1 hlX hne ⊢
                clear hXe
                refine wpAnyH_ready (rs := [4]) (by kernel_rfl) (by simp) (AllReadyH.cons rfl (fun K hK2 => ?_) AllReadyH.nil)
                rw [if_pos (by rfl)]
                simp only [List.getElem_toArray, List.getElem_cons_succ, List.getElem_cons_zero]
                have hlo : w.heap.size + 1 < W4.heap.size := hHeld.lt
                go_wp2_with (go_at_call 10; (with_reducible refine (hSt.out _ _ _ hT1 hHeld.bl).mono ?_); rintro e W5 ⟨ds, va, vd, vw, rfl, hTs, has, hds, hws, hb⟩)
                obtain ⟨hi, hhe⟩ : ∃ n, n = W5.heap.size := ⟨_, rfl⟩
                have hSR : SR W5 W4.heap.size hi ds U va vd vw da dd dw := by rw [hhe]; exact ⟨hTs.win, has.win, hds.win, hws.win⟩
                have hhi : hi ≤ W5.heap.size := Nat.le_of_eq hhe
                clear hhe
                have nY : Y < W4.heap.size ∨ hi ≤ Y := .inl hlY
                have nX : X < W4.heap.size ∨ hi ≤ X := .inl hlX
                replace htY := tn_there htY hlY hb
                replace hlY := Nat.lt_of_lt_of_le hlY hb.size
                replace htX := tn_there htX hlX hb
                replace hlX := Nat.lt_of_lt_of_le hlX hb.size
                replace hT1 := hT1.below hb
                refine hK2.out _ _ (hHeld.keep hb) (fun hHeld2 => ?_)
                clear hK2 K hHeld
                have hHeld := hHeld2
                clear hHeld2
                try simp only [Act.put, List.getElem_toArray, List.getElem_cons_succ, List.getElem_cons_zero, List.setIfInBounds_toArray, List.set_cons_zero, List.set_cons_succ]
                clear hb hTs has hds hws hT1
                refine wpAnyH_take (i := 5) (v := .tuple #[.agg ds.toArray, .agg #[va, vd, vw], .int .i64 E]) rfl (by kernel_rfl) (by kernel_rfl) (by kernel_rfl) (fun _ _ _ h => h) (Or.inl ⟨by rfl, fun W _ => by kernel_rfl⟩) hHeld ?_
                try simp only [Act.put, List.getElem_toArray, List.getElem_cons_succ, List.getElem_cons_zero, List.setIfInBounds_toArray, List.set_cons_zero, List.set_cons_succ]
                refine wpAnyH_take (i := 6) (v := .agg ds.toArray) rfl (by kernel_rfl) (by kernel_rfl) (by kernel_rfl) (fun _ _ _ h => h) (Or.inl ⟨by rfl, fun W _ => by kernel_rfl⟩) hHeld ?_
                try simp only [Act.put, List.getElem_toArray, List.getElem_cons_succ, List.getElem_cons_zero, List.setIfInBounds_toArray, List.set_cons_zero, List.set_cons_succ]
                refine wpAnyH_take (i := 7) (v := .agg #[va, vd, vw]) rfl (by kernel_rfl) (by kernel_rfl) (by kernel_rfl) (fun _ _ _ h => h) (Or.inl ⟨by rfl, fun W _ => by kernel_rfl⟩) hHeld ?_
                try simp only [Act.put, List.getElem_toArray, List.getElem_cons_succ, List.getElem_cons_zero, List.setIfInBounds_toArray, List.set_cons_zero, List.set_cons_succ]
                refine wpAnyH_take (i := 8) (v := .int .i64 E) rfl (by kernel_rfl) (by kernel_rfl) (by kernel_rfl) (fun _ _ _ h => h) (Or.inl ⟨by rfl, fun W _ => by kernel_rfl⟩) hHeld ?_
                try simp only [Act.put, List.getElem_toArray, List.getElem_cons_succ, List.getElem_cons_zero, List.setIfInBounds_toArray, List.set_cons_zero, List.set_cons_succ]
                have hTZ := hSR.full hHeld htX htY hne hX1 hY1 hlX hlY nX nY
                have hlcd := Lib.hid hSR.ts.lc
                have hod : Hid (ds.toArray.all (·.oneCell') = true) := Lib.hid (all_oneCell_toArray hSR.ts.one)
                have hpd : Hid ((#[va, vd, vw] : Array Value).all (·.oneCell') = true) := Lib.hid (all_oneCell_toArray (three_one hSR.ra.one hSR.rv.one hSR.rx.one))
                have hsd : Hid ((Tryd.prog.info? 27).map (·.size) = some ds.toArray.size) := Lib.hid (by rw [List.size_toArray, hSR.ts.lc]; exact size_taint)
                clear hSR hhi nX nY hne
                refine wpAnyH_ready (rs := [11]) (by kernel_rfl) (by simp) (AllReadyH.cons rfl (fun K hK2 => ?_) AllReadyH.nil)
                rw [if_pos (by rfl)]
                simp only [List.getElem_toArray, List.getElem_cons_succ, List.getElem_cons_zero]
                refine wp_store_mid 27 _ _ rfl X 0 ds.toArray rfl rfl (fun j hj => htX j (by rw [List.size_toArray, hlcd.out] at hj; exact hj)) hsd.out hod.out ?_
                change K _ (World.setCells _ X 0 ds)
                refine hK2.out _ _ (hHeld.far hX1 ds) (fun hHeld2 => ?_)
                clear hK2 K hHeld
                have hHeld := hHeld2
                clear hHeld2
                try simp only [Act.put, List.getElem_toArray, List.getElem_cons_succ, List.getElem_cons_zero, List.setIfInBounds_toArray, List.set_cons_zero, List.set_cons_succ]
                refine wpAnyH_ready (rs := [12]) (by kernel_rfl) (by simp) (AllReadyH.cons rfl (fun K hK2 => ?_) AllReadyH.nil)
                rw [if_pos (by rfl)]
                simp only [List.getElem_toArray, List.getElem_cons_succ, List.getElem_cons_zero]
                refine wp_store_mid 35 _ _ rfl Y 0 #[va, vd, vw] rfl rfl (World.there_setCells htY X 0 ds) size_deps hpd.out ?_
                change K _ (World.setCells (World.setCells _ X 0 ds) Y 0 [va, vd, vw])
                refine hK2.out _ _ (hHeld.far hY1 _) (fun hHeld2 => ?_)
                clear hK2 K hHeld
                have hHeld := hHeld2
                clear hHeld2
                try simp only [Act.put, List.getElem_toArray, List.getElem_cons_succ, List.getElem_cons_zero, List.setIfInBounds_toArray, List.set_cons_zero, List.set_cons_succ]
                refine wpAnyH_take (i := 13) (v := .int .i64 E) rfl (by kernel_rfl) (by kernel_rfl) (by kernel_rfl) (fun _ _ _ h => h) (Or.inl ⟨by rfl, fun W _ => by kernel_rfl⟩) hHeld ?_
                try simp only [Act.put, List.getElem_toArray, List.getElem_cons_succ, List.getElem_cons_zero, List.setIfInBounds_toArray, List.set_cons_zero, List.set_cons_succ]
                refine wpAnyH_done (by kernel_rfl) ?_ _
                go_wp2_with fail
                go_meet
                exact ⟨X, Y, ds, va, vd, vw, rfl, rfl, rfl, hTZ⟩
            exact AllReadyH.nil
        refine AllReadyH.cons rfl (fun K hK2 => ?_) ?_
        · as_aux_lemma =>
            rw [if_pos (by rfl)]
            simp only [List.getElem_toArray, List.getElem_cons_succ, List.getElem_cons_zero]
            obtain ⟨-, htX, hb, hsz⟩ := new_block W2 #[.slice none 0 0, .slice none 0 0, .slice none 0 0, .slice none 0 0, .slice none 0 0, .slice none 0 0, .slice none 0 0, .slice none 0 0, .slice none 0 0, .slice none 0 0, .slice none 0 0, .slice none 0 0, .slice none 0 0, .slice none 0 0, .slice none 0 0, .slice none 0 0, .slice none 0 0, .slice none 0 0, .slice none 0 0, .slice none 0 0, .slice none 0 0, .slice none 0 0, .slice none 0 0, .slice none 0 0, .slice none 0 0, .slice none 0 0, .slice none 0 0, .slice none 0 0, .slice none 0 0, .slice none 0 0, .slice none 0 0, .slice none 0 0, .slice none 0 0] 27
            have hX1 := hHeld.lt
            have hne : W2.heap.size ≠ Y := by omega
            replace htY := tn_there htY hlY hb
            replace hlY := Nat.lt_of_lt_of_le hlY hb.size
            have hlX : W2.heap.size < (W2.alloc (.cells #[.slice none 0 0, .slice none 0 0, .slice none 0 0, .slice none 0 0, .slice none 0 0, .slice none 0 0, .slice none 0 0, .slice none 0 0, .slice none 0 0, .slice none 0 0, .slice none 0 0, .slice none 0 0, .slice none 0 0, .slice none 0 0, .slice none 0 0, .slice none 0 0, .slice none 0 0, .slice none 0 0, .slice none 0 0, .slice none 0 0, .slice none 0 0, .slice none 0 0, .slice none 0 0, .slice none 0 0, .slice none 0 0, .slice none 0 0, .slice none 0 0, .slice none 0 0, .slice none 0 0, .slice none 0 0, .slice none 0 0, .slice none 0 0, .slice none 0 0] 27)).heap.size := by rw [hsz]; exact Nat.lt_succ_self _
            go_simp
            refine hK2.out _ _ (hHeld.keep hb) (fun hHeld2 => ?_)
            clear hK2 K hHeld
            have hHeld := hHeld2
            clear hHeld2
            try simp only [Act.put, List.getElem_toArray, List.getElem_cons_succ, List.getElem_cons_zero, List.setIfInBounds_toArray, List.set_cons_zero, List.set_cons_succ]
            clear hb hsz
            generalize W2.alloc (.cells #[.slice none 0 0, .slice none 0 0, .slice none 0 0, .slice none 0 0, .slice none 0 0, .slice none 0 0, .slice none 0 0, .slice none 0 0, .slice none 0 0, .slice none 0 0, .slice none 0 0, .slice none 0 0, .slice none 0 0, .slice none 0 0, .slice none 0 0, .slice none 0 0, .slice none 0 0, .slice none 0 0, .slice none 0 0, .slice none 0 0, .slice none 0 0, .slice none 0 0, .slice none 0 0, .slice none 0 0, .slice none 0 0, .slice none 0 0, .slice none 0 0, .slice none 0 0, .slice none 0 0, .slice none 0 0, .slice none 0 0, .slice none 0 0, .slice none 0 0] 27) = W3 at hHeld htX hlX htY hlY ⊢
            generalize hXe : W2.heap.size = X at htX hX1 hlX hne ⊢
            clear hXe
            refine wpAnyH_ready (rs := [1]) (by kernel_rfl) (by simp) (AllReadyH.cons rfl (fun K hK2 => ?_) AllReadyH.nil)
            rw [if_pos (by rfl)]
            simp only [List.getElem_toArray, List.getElem_cons_succ, List.getElem_cons_zero]
            go_wp2_with (go_at_call 13; (with_reducible refine (hOw.out _ hHeld).mono ?_); rintro e W4 ⟨c1, rfl, hT1, hb⟩)
            replace htY := tn_there htY hlY hb
            replace hlY := Nat.lt_of_lt_of_le hlY hb.size
            replace htX := tn_there htX hlX hb
            replace hlX := Nat.lt_of_lt_of_le hlX hb.size
            refine hK2.out _ _ (hHeld.keep hb) (fun hHeld2 => ?_)
            clear hK2 K hHeld
            have hHeld := hHeld2
            clear hHeld2
            try simp only [Act.put, List.getElem_toArray, List.getElem_cons_succ, List.getElem_cons_zero, List.setIfInBounds_toArray, List.set_cons_zero, List.set_cons_succ]
            clear hb
            refine wpAnyH_ready (rs := [4]) (by kernel_rfl) (by simp) (AllReadyH.cons rfl (fun K hK2 => ?_) AllReadyH.nil)
            rw [if_pos (by rfl)]
            simp only [List.getElem_toArray, List.getElem_cons_succ, List.getElem_cons_zero]
            have hlo : w.heap.size + 1 < W4.heap.size := hHeld.lt
            go_wp2_with (go_at_call 10; (with_reducible refine (hSt.out _ _ _ hT1 hHeld.bl).mono ?_); rintro e W5 ⟨ds, va, vd, vw, rfl, hTs, has, hds, hws, hb⟩)
            obtain ⟨hi, hhe⟩ : ∃ n, n = W5.heap.size := ⟨_, rfl⟩
            have hSR : SR W5 W4.heap.size hi ds U va vd vw da dd dw := by rw [hhe]; exact ⟨hTs.win, has.win, hds.win, hws.win⟩
            have hhi : hi ≤ W5.heap.size := Nat.le_of_eq hhe
            clear hhe
            have nY : Y < W4.heap.size ∨ hi ≤ Y := .inl hlY
            have nX : X < W4.heap.size ∨ hi ≤ X := .inl hlX
            replace htY := tn_there htY hlY hb
            replace hlY := Nat.lt_of_lt_of_le hlY hb.size
            replace htX := tn_there htX hlX hb
            replace hlX := Nat.lt_of_lt_of_le hlX hb.size
            replace hT1 := hT1.below hb
            refine hK2.out _ _ (hHeld.keep hb) (fun hHeld2 => ?_)
            clear hK2 K hHeld
            have hHeld := hHeld2
            clear hHeld2
            try simp only [Act.put, List.getElem_toArray, List.getElem_cons_succ, List.getElem_cons_zero, List.setIfInBounds_toArray, List.set_cons_zero, List.set_cons_succ]
            clear hb hTs has hds hws hT1
            refine wpAnyH_take (i := 5) (v := .tuple #[.agg ds.toArray, .agg #[va, vd, vw], .int .i64 E]) rfl (by kernel_rfl) (by kernel_rfl) (by kernel_rfl) (fun _ _ _ h => h) (Or.inl ⟨by rfl, fun W _ => by kernel_rfl⟩) hHeld ?_
            try simp only [Act.put, List.getElem_toArray, List.getElem_cons_succ, List.getElem_cons_zero, List.setIfInBounds_toArray, List.set_cons_zero, List.set_cons_succ]
            refine wpAnyH_take (i := 6) (v := .agg ds.toArray) rfl (by kernel_rfl) (by kernel_rfl) (by kernel_rfl) (fun _ _ _ h => h) (Or.inl ⟨by rfl, fun W _ => by kernel_rfl⟩) hHeld ?_
            try simp only [Act.put, List.getElem_toArray, List.getElem_cons_succ, List.getElem_cons_zero, List.setIfInBounds_toArray, List.set_cons_zero, List.set_cons_succ]
            refine wpAnyH_take (i := 7) (v := .agg #[va, vd, vw]) rfl (by kernel_rfl) (by kernel_rfl) (by kernel_rfl) (fun _ _ _ h => h) (Or.inl ⟨by rfl, fun W _ => by kernel_rfl⟩) hHeld ?_
            try simp only [Act.put, List.getElem_toArray, List.getElem_cons_succ, List.getElem_cons_zero, List.setIfInBounds_toArray, List.set_cons_zero, List.set_cons_succ]
            refine wpAnyH_take (i := 8) (v := .int .i64 E) rfl (by kernel_rfl) (by kernel_rfl) (by kernel_rfl) (fun _ _ _ h => h) (Or.inl ⟨by rfl, fun W _ => by kernel_rfl⟩) hHeld ?_
            try simp only [Act.put, List.getElem_toArray, List.getElem_cons_succ, List.getElem_cons_zero, List.setIfInBounds_toArray, List.set_cons_zero, List.set_cons_succ]
            have hTZ := hSR.full hHeld htX htY hne hX1 hY1 hlX hlY nX nY
            have hlcd := Lib.hid hSR.ts.lc
            have hod : Hid (ds.toArray.all (·.oneCell') = true) := Lib.hid (all_oneCell_toArray hSR.ts.one)
            have hpd : Hid ((#[va, vd, vw] : Array Value).all (·.oneCell') = true) := Lib.hid (all_oneCell_toArray (three_one hSR.ra.one hSR.rv.one hSR.rx.one))
            have hsd : Hid ((Tryd.prog.info? 27).map (·.size) = some ds.toArray.size) := Lib.hid (by rw [List.size_toArray, hSR.ts.lc]; exact size_taint)
            clear hSR hhi nX nY hne
            refine wpAnyH_ready (rs := [11]) (by kernel_rfl) (by simp) (AllReadyH.cons rfl (fun K hK2 => ?_) AllReadyH.nil)
            rw [if_pos (by rfl)]
            simp only [List.getElem_toArray, List.getElem_cons_succ, List.getElem_cons_zero]
            refine wp_store_mid 27 _ _ rfl X 0 ds.toArray rfl rfl (fun j hj => htX j (by rw [List.size_toArray, hlcd.out] at hj; exact hj)) hsd.out hod.out ?_
            change K _ (World.setCells _ X 0 ds)
            refine hK2.out _ _ (hHeld.far hX1 ds) (fun hHeld2 => ?_)
            clear hK2 K hHeld
            have hHeld := hHeld2
            clear hHeld2
            try simp only [Act.put, List.getElem_toArray, List.getElem_cons_succ, List.getElem_cons_zero, List.setIfInBounds_toArray, List.set_cons_zero, List.set_cons_succ]
            refine wpAnyH_ready (rs := [12]) (by kernel_rfl) (by simp) (AllReadyH.cons rfl (fun K hK2 => ?_) AllReadyH.nil)
            rw [if_pos (by rfl)]
            simp only [List.getElem_toArray, List.getElem_cons_succ, List.getElem_cons_zero]
            refine wp_store_mid 35 _ _ rfl Y 0 #[va, vd, vw] rfl rfl (World.there_setCells htY X 0 ds) size_deps hpd.out ?_
            change K _ (World.setCells (World.setCells _ X 0 ds) Y 0 [va, vd, vw])
            refine hK2.out _ _ (hHeld.far hY1 _) (fun hHeld2 => ?_)
            clear hK2 K hHeld
            have hHeld := hHeld2
            clear hHeld2
            try simp only [Act.put, List.getElem_toArray, List.getElem_cons_succ, List.getElem_cons_zero, List.setIfInBounds_toArray, List.set_cons_zero, List.set_cons_succ]
            refine wpAnyH_take (i := 13) (v := .int .i64 E) rfl (by kernel_rfl) (by kernel_rfl) (by kernel_rfl) (fun _ _ _ h => h) (Or.inl ⟨by rfl, fun W _ => by kernel_rfl⟩) hHeld ?_
            try simp only [Act.put, List.getElem_toArray, List.getElem_cons_succ, List.getElem_cons_zero, List.setIfInBounds_toArray, List.set_cons_zero, List.set_cons_succ]
            refine wpAnyH_done (by kernel_rfl) ?_ _
            go_wp2_with fail
            go_meet
            exact ⟨X, Y, ds, va, vd, vw, rfl, rfl, rfl, hTZ⟩
        exact AllReadyH.nil
    exact AllReadyH.nil
  case rest =>
  obtain ⟨X, Y, ds, va, vd, vw, rfl, rfl, rfl, hZ⟩ := hcut
  clear hL
  cases hm : mayT T i ev
  · obtain rfl : E = 2 := by rw [← hE.out]; unfold resE; rw [hm]; rfl
    have hbl := hZ.lf.bl
    clear hZ hm
    go_wp2_with fail
    go_ret
    exact ⟨rfl, hbl⟩
  · obtain rfl : E = 0 := by rw [← hE.out]; unfold resE; rw [hm]; rfl
    have hU2 : Hid (stepT T i ev = U) := Lib.hid (by rw [← hU.out]; unfold resT; rw [hm]; rfl)
    have hda2 : Hid (addrT T i = da) := Lib.hid (by rw [← hda.out]; unfold resA; rw [hm]; rfl)
    have hdd2 : Hid (dataT T i = dd) := Lib.hid (by rw [← hdd.out]; unfold resD; rw [hm]; rfl)
    have hdw2 : Hid (dw = T.getD 32 []) := Lib.hid (by rw [← hdw.out]; unfold resW; rw [hm]; rfl)
    have hmm := hm
    unfold mayT at hmm
    simp only [Bool.and_eq_true, decide_eq_true_eq] at hmm
    obtain ⟨⟨hte, hck⟩, hev⟩ := hmm
    have hfac := ok_facts i hck
    obtain ⟨rdn, hrd⟩ : ∃ n : Nat, i.rd = (n : Int) := ⟨i.rd.toNat, by omega⟩
    have hrd31 : rdn < 32 := by omega
    have hlT := h.out.lt
    have hte2 : Hid (taintE U = 0) := Lib.hid (by rw [← hU2.out]; exact stepT_ok hlT hte)
    have hoth : Hid (∀ k, k < 32 → k ≠ rdn → U.getD k [] = T.getD k []) := Lib.hid fun k hk hne => by rw [← hU2.out]; exact stepT_other hk (.inl (by rw [hrd]; omega))
    have hgr : Hid (joinL (U.getD 32 []) (T.getD 32 []) = U.getD 32 []) := Lib.hid (by rw [← hU2.out]; exact way_grows hlT hte (by omega))
    have hWr := R2Writes_ok i hck wc
    have hRd : Hid (∀ W, Calls Tryd.prog 18 #[.agg ics.toArray] W (NewInts W (readsL i))) := Lib.hid fun W => by rw [← hia.out]; exact Reads_any i hck W
    rw [hrd, hia.out] at hWr
    replace hWr := Lib.hid hWr
    have hri := hZ.lf.ri
    replace hm := Lib.hid hm
    replace hte := Lib.hid hte
    replace hck := Lib.hid hck
    replace hrd := Lib.hid hrd
    replace hfac := Lib.hid hfac
    replace hlT := Lib.hid hlT
    replace hZ := Lib.hid hZ
    go_upto_region 9 with (first | (refine wpList_load_mid rfl 33 _ rfl (w.heap.size + 1) 0 rfl ics _ hri huI rfl hsi.out ?_) | (go_at_call 14; (with_reducible refine hWr.out.mono ?_); rintro e w9 ⟨rfl, hb9⟩))
    have hZ9 := Lib.hid (hZ.out.keep hb9)
    clear hri hWr hb9 hZ
    have hund : ∀ b : Bool, (some undef = some (Value.bool b)) = False := fun b => by simp [undef]
    go_upto_region 10 with fail
    go_loopw [15] (fun i w2 => ∃ k : Nat, k ≤ 32 ∧ i = .int .i64 k ∧ ∃ q, w2 = w9.drewN q) (fun i _ => 32 - (intOf i).toNat)
    case atStart => exact ⟨0, Nat.zero_le _, rfl, 0, rfl⟩
    case round =>
      obtain ⟨k, hk, rfl, q, rfl⟩ := hrel
      by_cases hlt : k < 32
      · obtain ⟨Wq, hWq⟩ : ∃ W, W = w9.drewN q := ⟨_, rfl⟩
        have hZq : TZ w Wq cs ics T X Y ds U va vd vw da dd dw := by rw [hWq]; exact hZ9.out.keep (drewN_belowL w9 q)
        rw [← hWq]
        replace hWq := Lib.hid hWq
        have hk1 : (0 : Int) ≤ (k : Int) ∧ (k : Int) < 32 := by omega
        obtain ⟨hk1, hk2⟩ := hk1
        by_cases hkr : k = rdn
        · have e1 : ((k : Int) != (rdn : Int)) = false := by rw [hkr]; simp
          clear hZq hkr
          go_upto_region 12 with fail
          go_quiet (fail)
          go_wp2_with fail
          go_roundw
          case rel => exact ⟨k + 1, by omega, by go_num, by rw [hWq.out]; exact drew_ex _ _ _⟩
          case measure => simp [intOf]; omega
        · have e1 : ((k : Int) != (rdn : Int)) = true := by simp; omega
          obtain ⟨v1, hv1⟩ := hZq.some k (by omega)
          obtain ⟨v0, hv0⟩ : ∃ v, cs[k]? = some v := ⟨_, List.getElem?_eq_getElem (by rw [hZq.lf.ts.lc]; omega)⟩
          have c1 := hZq.cx k v1 hv1
          have c0 := hZq.lf.cell k v0 hv0
          have hSm : Hid (∀ n, Calls Tryd.prog 15 #[v1, v0] (Wq.drewN n) fun e w' => e = .returned (.bool true) ∧ ∃ m, w' = (Wq.drewN n).drewN m) := Lib.hid fun n => by
            have hZn := hZq.keep (drewN_belowL Wq n)
            exact Same_yesL v1 v0 _ _ _ (hZn.rl k v1 hv1) (hZn.lf.rl k v0 hv0) (hoth.out k hlt hkr)
          obtain ⟨A1, k1, hf1, -⟩ := (hZq.rl k v1 hv1).form
          obtain ⟨A0, k0, hf0, -⟩ := (hZq.lf.rl k v0 hv0).form
          clear hv1 hv0 hZq
          subst hf1 hf0
          go_upto_region 12 with fail
          go_quiet ((go_at_call 15; exact Calls.quiet_of (hSm.out _)))
          go_wp2_with fail
          go_roundw
          case rel => exact ⟨k + 1, by omega, by go_num, by rw [hWq.out]; exact drew_ex _ _ _⟩
          case measure => simp [intOf]; omega
      · obtain rfl : k = 32 := by omega
        have hZ := hZ9.out.keep (drewN_belowL w9 q)
        clear hZ9 hoth
        generalize w9.drewN q = w10 at hZ ⊢
        obtain ⟨vx, hx32⟩ := hZ.some 32 (by decide)
        obtain ⟨vt, ht32⟩ : ∃ v, cs[32]? = some v := ⟨_, List.getElem?_eq_getElem (by rw [hZ.lf.ts.lc]; decide)⟩
        replace hx32 := Lib.hid hx32
        replace ht32 := Lib.hid ht32
        have hsd : Hid ((Tryd.prog.info? 27).map (·.size) = some ds.length) := Lib.hid (by rw [hZ.ts.lc]; exact size_taint)
        have hCk : Hid (∀ W, TZ w W cs ics T X Y ds U va vd vw da dd dw → Calls Tryd.prog 16 #[.agg ds.toArray] W fun e w' => e = .returned (.int .i64 0) ∧ Below W.heap.size W w') := Lib.hid fun W hW => by
          have := TCheck_any ds U _ W hW.ts
          rw [hte2.out] at this; exact this
        have hJn : Hid (∀ W, TZ w W cs ics T X Y ds U va vd vw da dd dw → Calls Tryd.prog 17 #[vx, vt] W (NewRL W (U.getD 32 []))) := Lib.hid fun W hW => by
          have hl1 := hlit.out
          have := Join_any vx vt (U.getD 32 []) (T.getD 32 []) W (hW.rl 32 vx hx32.out) (hW.lf.rl 32 vt ht32.out) (by have := stepT_lens hlit.out i ev (U.getD 32 []) (by rw [← hU2.out]; exact getD_mem (by rw [stepT_len, hlT.out]; decide)); have := hlit.out (T.getD 32 []) (getD_mem (by rw [hlT.out]; decide)); have := (reads_regs i hck.out).2; omega)
          rw [hgr.out] at this; exact this
        go_upto_region 14 with fail
        refine wp_region_held_drew (S := fun W => TZ w W cs ics T X Y ds U va vd vw da dd dw) (by kernel_rfl) (hZ.keep (drew_belowL _)) (fun hHeld => ?_)
        refine wpAnyH_take (i := 0) rfl (by kernel_rfl) (by kernel_rfl) (by kernel_rfl) (fun _ _ _ h => h) (yieldsIf_load_mid (by rfl) _ _ rfl X 0 rfl ds _ (fun W hS => hS.rt) huT rfl hsd.out) hHeld ?_
        try simp only [Act.put, List.getElem_toArray, List.getElem_cons_zero, List.setIfInBounds_toArray, List.set_cons_zero, List.set_cons_succ]
        generalize World.drew _ = W1 at hHeld ⊢
        refine wpAnyH_ready (rs := [1]) (by kernel_rfl) (by simp) (AllReadyH.cons rfl (fun K hK2 => ?_) AllReadyH.nil)
        rw [if_pos (by rfl)]
        simp only [List.getElem_toArray, List.getElem_cons_succ, List.getElem_cons_zero]
        go_wp2_with (go_at_call 16; (with_reducible refine (hCk.out _ hHeld).mono ?_); rintro e W2 ⟨rfl, hb⟩)
        refine hK2.out _ _ (hHeld.keep hb) (fun hHeld2 => ?_)
        clear hK2 K hHeld
        have hHeld := hHeld2
        clear hHeld2
        try simp only [Act.put, List.getElem_toArray, List.getElem_cons_succ, List.getElem_cons_zero, List.setIfInBounds_toArray, List.set_cons_zero, List.set_cons_succ]
        clear hb
        refine wpAnyH_take (i := 2) (v := .bool false) rfl (by kernel_rfl) (by kernel_rfl) (by kernel_rfl) (fun _ _ _ h => h) (Or.inl ⟨by rfl, fun W _ => by go_simp⟩) hHeld ?_
        try simp only [Act.put, List.getElem_toArray, List.getElem_cons_succ, List.getElem_cons_zero, List.setIfInBounds_toArray, List.set_cons_zero, List.set_cons_succ]
        refine wpAnyH_take (i := 3) (v := .bool false) rfl (by kernel_rfl) (by kernel_rfl) (by kernel_rfl) (fun _ _ _ h => h) (Or.inl ⟨by rfl, fun W _ => by go_simp⟩) hHeld ?_
        try simp only [Act.put, List.getElem_toArray, List.getElem_cons_succ, List.getElem_cons_zero, List.setIfInBounds_toArray, List.set_cons_zero, List.set_cons_succ]
        refine wpAnyH_take (i := 4) (v := .pointer (some ⟨X, 32, none⟩)) rfl (by kernel_rfl) (by kernel_rfl) (by kernel_rfl) (fun _ _ _ h => h) (Or.inl ⟨by rfl, fun W _ => by kernel_rfl⟩) hHeld ?_
        try simp only [Act.put, List.getElem_toArray, List.getElem_cons_succ, List.getElem_cons_zero, List.setIfInBounds_toArray, List.set_cons_zero, List.set_cons_succ]
        refine wpAnyH_take (i := 5) (v := vx) rfl (by kernel_rfl) (by kernel_rfl) (by kernel_rfl) (fun _ _ _ h => h) (Or.inl ⟨by rfl, fun W hS => by (have k : W.cell? ⟨X, 32, none⟩ = some (vx) := hS.cx 32 vx hx32.out); go_simp⟩) hHeld ?_
        try simp only [Act.put, List.getElem_toArray, List.getElem_cons_succ, List.getElem_cons_zero, List.setIfInBounds_toArray, List.set_cons_zero, List.set_cons_succ]
        refine wpAnyH_take (i := 6) (v := .pointer (some ⟨w.heap.size, 32, none⟩)) rfl (by kernel_rfl) (by kernel_rfl) (by kernel_rfl) (fun _ _ _ h => h) (Or.inl ⟨by rfl, fun W _ => by kernel_rfl⟩) hHeld ?_
        try simp only [Act.put, List.getElem_toArray, List.getElem_cons_succ, List.getElem_cons_zero, List.setIfInBounds_toArray, List.set_cons_zero, List.set_cons_succ]
        refine wpAnyH_take (i := 7) (v := vt) rfl (by kernel_rfl) (by kernel_rfl) (by kernel_rfl) (fun _ _ _ h => h) (Or.inl ⟨by rfl, fun W hS => by (have k : W.cell? ⟨w.heap.size, 32, none⟩ = some (vt) := hS.lf.cell 32 vt ht32.out); go_simp⟩) hHeld ?_
        try simp only [Act.put, List.getElem_toArray, List.getElem_cons_succ, List.getElem_cons_zero, List.setIfInBounds_toArray, List.set_cons_zero, List.set_cons_succ]
        refine wpAnyH_take (i := 9) (v := .pointer (some ⟨X, 32, none⟩)) rfl (by kernel_rfl) (by kernel_rfl) (by kernel_rfl) (fun _ _ _ h => h) (Or.inl ⟨by rfl, fun W _ => by kernel_rfl⟩) hHeld ?_
        try simp only [Act.put, List.getElem_toArray, List.getElem_cons_succ, List.getElem_cons_zero, List.setIfInBounds_toArray, List.set_cons_zero, List.set_cons_succ]
        refine wpAnyH_take (i := 10) (v := vx) rfl (by kernel_rfl) (by kernel_rfl) (by kernel_rfl) (fun _ _ _ h => h) (Or.inl ⟨by rfl, fun W hS => by (have k : W.cell? ⟨X, 32, none⟩ = some (vx) := hS.cx 32 vx hx32.out); go_simp⟩) hHeld ?_
        try simp only [Act.put, List.getElem_toArray, List.getElem_cons_succ, List.getElem_cons_zero, List.setIfInBounds_toArray, List.set_cons_zero, List.set_cons_succ]
        refine wpAnyH_ready (rs := [8]) (by kernel_rfl) (by simp) (AllReadyH.cons rfl (fun K hK2 => ?_) AllReadyH.nil)
        rw [if_pos (by rfl)]
        simp only [List.getElem_toArray, List.getElem_cons_succ, List.getElem_cons_zero]
        go_wp2_with (go_at_call 17; (with_reducible refine (hJn.out _ hHeld).mono ?_); rintro e W3 ⟨⟨v3, rfl, r3⟩, hb⟩)
        refine hK2.out _ _ (hHeld.keep hb) (fun hHeld2 => ?_)
        clear hK2 K hHeld
        have hHeld := hHeld2
        clear hHeld2
        try simp only [Act.put, List.getElem_toArray, List.getElem_cons_succ, List.getElem_cons_zero, List.setIfInBounds_toArray, List.set_cons_zero, List.set_cons_succ]
        clear hb
        refine wpAnyH_ready (rs := [11]) (by kernel_rfl) (by simp) (AllReadyH.cons rfl (fun K hK2 => ?_) AllReadyH.nil)
        rw [if_pos (by rfl)]
        simp only [List.getElem_toArray, List.getElem_cons_succ, List.getElem_cons_zero]
        go_wp2_with (go_at_call 15; (with_reducible refine (Same_yesL v3 vx _ _ W3 r3.rl (hHeld.rl 32 vx hx32.out) rfl).mono ?_); rintro e W4 hq; obtain ⟨rfl, hb⟩ := hq.below)
        refine hK2.out _ _ (hHeld.keep hb) (fun hHeld2 => ?_)
        clear hK2 K hHeld
        have hHeld := hHeld2
        clear hHeld2
        try simp only [Act.put, List.getElem_toArray, List.getElem_cons_succ, List.getElem_cons_zero, List.setIfInBounds_toArray, List.set_cons_zero, List.set_cons_succ]
        clear hb
        refine wpAnyH_take (i := 12) (v := .bool false) rfl (by kernel_rfl) (by kernel_rfl) (by kernel_rfl) (fun _ _ _ h => h) (Or.inl ⟨by rfl, fun W _ => by go_simp⟩) hHeld ?_
        try simp only [Act.put, List.getElem_toArray, List.getElem_cons_succ, List.getElem_cons_zero, List.setIfInBounds_toArray, List.set_cons_zero, List.set_cons_succ]
        refine wpAnyH_take (i := 13) (v := .bool false) rfl (by kernel_rfl) (by kernel_rfl) (by kernel_rfl) (fun _ _ _ h => h) (Or.inl ⟨by rfl, fun W _ => by go_simp⟩) hHeld ?_
        try simp only [Act.put, List.getElem_toArray, List.getElem_cons_succ, List.getElem_cons_zero, List.setIfInBounds_toArray, List.set_cons_zero, List.set_cons_succ]
        refine wpAnyH_take (i := 14) (v := .bool false) rfl (by kernel_rfl) (by kernel_rfl) (by kernel_rfl) (fun _ _ _ h => h) (Or.inl ⟨by rfl, fun W _ => by go_simp⟩) hHeld ?_
        try simp only [Act.put, List.getElem_toArray, List.getElem_cons_succ, List.getElem_cons_zero, List.setIfInBounds_toArray, List.set_cons_zero, List.set_cons_succ]
        refine wpAnyH_take (i := 15) (v := .pointer (some ⟨Y, 2, none⟩)) rfl (by kernel_rfl) (by kernel_rfl) (by kernel_rfl) (fun _ _ _ h => h) (Or.inl ⟨by rfl, fun W _ => by kernel_rfl⟩) hHeld ?_
        try simp only [Act.put, List.getElem_toArray, List.getElem_cons_succ, List.getElem_cons_zero, List.setIfInBounds_toArray, List.set_cons_zero, List.set_cons_succ]
        refine wpAnyH_take (i := 16) (v := vw) rfl (by kernel_rfl) (by kernel_rfl) (by kernel_rfl) (fun _ _ _ h => h) (Or.inl ⟨by rfl, fun W hS => by (have k : W.cell? ⟨Y, 2, none⟩ = some (vw) := hS.cy.2.2); go_simp⟩) hHeld ?_
        try simp only [Act.put, List.getElem_toArray, List.getElem_cons_succ, List.getElem_cons_zero, List.setIfInBounds_toArray, List.set_cons_zero, List.set_cons_succ]
        refine wpAnyH_take (i := 17) (v := .pointer (some ⟨w.heap.size, 32, none⟩)) rfl (by kernel_rfl) (by kernel_rfl) (by kernel_rfl) (fun _ _ _ h => h) (Or.inl ⟨by rfl, fun W _ => by kernel_rfl⟩) hHeld ?_
        try simp only [Act.put, List.getElem_toArray, List.getElem_cons_succ, List.getElem_cons_zero, List.setIfInBounds_toArray, List.set_cons_zero, List.set_cons_succ]
        refine wpAnyH_take (i := 18) (v := vt) rfl (by kernel_rfl) (by kernel_rfl) (by kernel_rfl) (fun _ _ _ h => h) (Or.inl ⟨by rfl, fun W hS => by (have k : W.cell? ⟨w.heap.size, 32, none⟩ = some (vt) := hS.lf.cell 32 vt ht32.out); go_simp⟩) hHeld ?_
        try simp only [Act.put, List.getElem_toArray, List.getElem_cons_succ, List.getElem_cons_zero, List.setIfInBounds_toArray, List.set_cons_zero, List.set_cons_succ]
        refine wpAnyH_ready (rs := [19]) (by kernel_rfl) (by simp) (AllReadyH.cons rfl (fun K hK2 => ?_) AllReadyH.nil)
        rw [if_pos (by rfl)]
        simp only [List.getElem_toArray, List.getElem_cons_succ, List.getElem_cons_zero]
        go_wp2_with (go_at_call 15; (with_reducible refine (Same_yesL vw vt _ _ W4 hHeld.rx.rl (hHeld.lf.rl 32 vt ht32.out) hdw2.out).mono ?_); rintro e W5 hq; obtain ⟨rfl, hb⟩ := hq.below)
        refine hK2.out _ _ (hHeld.keep hb) (fun hHeld2 => ?_)
        clear hK2 K hHeld
        have hHeld := hHeld2
        clear hHeld2
        try simp only [Act.put, List.getElem_toArray, List.getElem_cons_succ, List.getElem_cons_zero, List.setIfInBounds_toArray, List.set_cons_zero, List.set_cons_succ]
        clear hb
        refine wpAnyH_take (i := 20) (v := .bool false) rfl (by kernel_rfl) (by kernel_rfl) (by kernel_rfl) (fun _ _ _ h => h) (Or.inl ⟨by rfl, fun W _ => by go_simp⟩) hHeld ?_
        try simp only [Act.put, List.getElem_toArray, List.getElem_cons_succ, List.getElem_cons_zero, List.setIfInBounds_toArray, List.set_cons_zero, List.set_cons_succ]
        refine wpAnyH_take (i := 21) (v := .bool false) rfl (by kernel_rfl) (by kernel_rfl) (by kernel_rfl) (fun _ _ _ h => h) (Or.inl ⟨by rfl, fun W _ => by go_simp⟩) hHeld ?_
        try simp only [Act.put, List.getElem_toArray, List.getElem_cons_succ, List.getElem_cons_zero, List.setIfInBounds_toArray, List.set_cons_zero, List.set_cons_succ]
        refine wpAnyH_done (by kernel_rfl) ?_ _
        have hZ := hHeld
        clear hHeld hCk hJn
        obtain ⟨pk, hpk, hPk⟩ := Pick_nat_any r 31 (by decide) (by decide)
        obtain ⟨rn, hrn⟩ : ∃ n : Nat, (n : Int) = 1 + (pk : Int) := ⟨pk + 1, by omega⟩
        have hw1 : wrap64 (1 + (pk : Int)) = 1 + (pk : Int) := IntWalk.wrap64_in _ (by omega)
        have hw2 : IntKind.i64.wrap (1 + (pk : Int)) = 1 + (pk : Int) := by rw [IntKind.wrap_i64]; omega
        have hrn1 : 1 ≤ rn ∧ rn < 32 := by omega
        obtain ⟨hrn1, hrn2⟩ := hrn1
        replace hZ := Lib.hid hZ
        go_upto_region 17 with (go_at_call 9; (with_reducible refine (hPk.out _).mono ?_); rintro e w16 ⟨rfl, rfl⟩)
        rw [← hrn]
        clear hw1 hw2 hrn hPk hpk
        have hri := hZ.out.lf.ri
        go_upto_region 18 with (first | (refine wpList_load_mid rfl 33 _ rfl (w.heap.size + 1) 0 rfl ics _ hri huI rfl hsi.out ?_) | (go_at_call 18; (with_reducible refine (hRd.out _).mono ?_); rintro e w17 ⟨⟨v17, rfl, hown⟩, hb17⟩))
        have hrL := (RP.of_own hown rfl).rl
        have hZ17 := Lib.hid (hZ.out.keep hb17)
        obtain ⟨Ar, cr, hvr, r1, r2, r3⟩ := hrL.form
        subst hvr
        unfold maxLen at r2
        have hrlen := readsL_lenL i
        obtain ⟨LR, hLR⟩ : ∃ L, readsL i = L := ⟨_, rfl⟩
        rw [hLR] at r1 r3 hrlen ⊢
        replace hLR := Lib.hid hLR
        replace r3 := Lib.hid r3
        clear hown hrL hZ hri hb17 hRd
        go_upto_region 19 with fail
        go_loopw [17] (fun i w2 => ∃ k : Nat, k ≤ LR.length ∧ i = .int .i64 k ∧ w17 = w2 ∧ Hid (∀ j x, j < k → LR[j]? = some x → x ≠ (rn : Int))) (fun i _ => LR.length - (intOf i).toNat)
        case atStart => exact ⟨0, Nat.zero_le _, rfl, by first | rfl | trivial, Lib.hid fun j x hj => absurd hj (Nat.not_lt_zero _)⟩
        case round =>
          obtain ⟨k, hk, rfl, hww, hno⟩ := hrel
          subst hww
          by_cases hlt : k < LR.length
          · obtain ⟨x, hx, -⟩ := drop_at hlt
            obtain ⟨b, o, rfl, hb, hc⟩ := r3.out.resolve_left (fun e => by rw [e] at hlt; exact absurd hlt (Nat.not_lt_zero _))
            have cx := hc k x hx
            have hkc : k < cr := by omega
            replace hc := Lib.hid hc
            by_cases hxr : x = (rn : Int)
            · have e1 : (x == (rn : Int)) = true := by rw [hxr]; simp
              have hbl := hZ17.out.lf.bl
              clear hx hxr
              go_wp2_with fail
              go_ret
              exact ⟨rfl, hbl⟩
            · have e1 : (x == (rn : Int)) = false := by simpa using hxr
              have hno2 : Hid (∀ j y, j < k + 1 → LR[j]? = some y → y ≠ (rn : Int)) := Lib.hid fun j y hj hy => by
                by_cases e : j = k
                · subst e; rw [hx] at hy; rw [← Option.some.inj hy]; exact hxr
                · exact hno.out j y (by omega) hy
              clear hx hxr
              go_wp2_with fail
              go_roundw
              case rel => exact ⟨k + 1, by omega, by go_num, by first | rfl | trivial, hno2⟩
              case measure => simp [intOf]; omega
          · obtain rfl : k = LR.length := by omega
            have hur := Lib.hid (unread_L i hck.out rn hrn1 hrn2 (by rw [hLR.out]; intro hm2; obtain ⟨j, hj, e⟩ := List.mem_iff_getElem.1 hm2; exact hno.out j _ hj (List.getElem?_eq_getElem hj) e))
            have hbl17 := Lib.hid hZ17.out.lf.bl
            have hRi := Rising_any (.slice Ao lo.length co) lo _ w17 (ho.out.below hbl17.out (Nat.le_refl _))
            clear hno r3 hLR hrlen r1 r2 hlt hk
            go_upto_region 23 with fail
            cases hro : risingB lo
            · rw [hro] at hRi
              clear hro
              go_wp2_with (go_at_call 19; (with_reducible refine hRi.mono ?_); rintro e w18 ⟨rfl, rfl⟩)
              go_ret
              exact ⟨rfl, hbl17.out⟩
            · rw [hro] at hRi
              replace hro := Lib.hid hro
              replace hRi := Lib.hid hRi
              go_upto_region 25 with (go_at_call 19; (with_reducible refine hRi.out.mono ?_); rintro e w18 ⟨rfl, rfl⟩)
              have hL25 := Lib.hid hZ17.out.lf
              have hr0 := hL25.out.r0
              clear hRi hbl17
              go_upto_region 26 with (first | (refine wpList_load_mid rfl 27 _ rfl w.heap.size 0 rfl cs _ hr0 huT rfl hsc.out ?_) | (go_at_call 13; (with_reducible refine (hOw.out _ hL25.out).mono ?_); rintro e w25 ⟨c25, rfl, hT25, hb25⟩; obtain ⟨hz25, hX25, hc25⟩ := TB.new hT25 #[.slice none 0 0, .slice none 0 0, .slice none 0 0, .slice none 0 0, .slice none 0 0, .slice none 0 0, .slice none 0 0, .slice none 0 0, .slice none 0 0, .slice none 0 0, .slice none 0 0, .slice none 0 0, .slice none 0 0, .slice none 0 0, .slice none 0 0, .slice none 0 0, .slice none 0 0, .slice none 0 0, .slice none 0 0, .slice none 0 0, .slice none 0 0, .slice none 0 0, .slice none 0 0, .slice none 0 0, .slice none 0 0, .slice none 0 0, .slice none 0 0, .slice none 0 0, .slice none 0 0, .slice none 0 0, .slice none 0 0, .slice none 0 0, .slice none 0 0] 27 rfl; have hlc25 := Lib.hid hT25.lc; have hs25 : Hid ((Tryd.prog.info? 27).map (·.size) = some c25.toArray.size) := Lib.hid (by rw [List.size_toArray, hT25.lc]; exact size_taint); have ho25 : Hid (c25.toArray.all (·.oneCell') = true) := Lib.hid (all_oneCell_toArray hT25.one)) | (refine wpList_store_mid rfl 27 _ _ rfl w25.heap.size 0 c25.toArray rfl rfl (fun j hj => hz25 j (by rw [List.size_toArray, hlc25.out] at hj; exact hj)) hs25.out ho25.out ?_; change wpList _ _ _ _ _ (World.setCells _ w25.heap.size 0 c25); generalize (w25.alloc (.cells #[.slice none 0 0, .slice none 0 0, .slice none 0 0, .slice none 0 0, .slice none 0 0, .slice none 0 0, .slice none 0 0, .slice none 0 0, .slice none 0 0, .slice none 0 0, .slice none 0 0, .slice none 0 0, .slice none 0 0, .slice none 0 0, .slice none 0 0, .slice none 0 0, .slice none 0 0, .slice none 0 0, .slice none 0 0, .slice none 0 0, .slice none 0 0, .slice none 0 0, .slice none 0 0, .slice none 0 0, .slice none 0 0, .slice none 0 0, .slice none 0 0, .slice none 0 0, .slice none 0 0, .slice none 0 0, .slice none 0 0, .slice none 0 0, .slice none 0 0] 27)).setCells w25.heap.size 0 c25 = W25 at hX25 hc25 ⊢))
              have hk25 := bl_step hb25 hc25
              have hZ25 := hZ17.out.keep hk25
              have hO := Lib.hid (KOwn_any (.slice Ao lo.length co) lo W25 ((ho.out.below hZ25.lf.bl (Nat.le_refl _)).more hZ25.lf.bl.size) (by omega))
              have hxle : w17.heap.size ≤ w25.heap.size := hb25.size
              have hX25h := Lib.hid hX25
              have hrn3 : (0 : Int) ≤ (rn : Int) ∧ (rn : Int) < 32 := by omega
              obtain ⟨hrn3, hrn4⟩ := hrn3
              clear hz25 hlc25 hs25 ho25 hT25 hb25 hc25 hL25 hr0 hX25 hZ25
              go_upto_region 27 with (go_at_call 20; (with_reducible refine hO.out.mono ?_); rintro e w26 ⟨⟨v26, rfl, r26⟩, hb26⟩; obtain ⟨A26, k26, hv26, -⟩ := r26.form; subst hv26; have hX26 := hX25h.out.keep hb26; obtain ⟨x26, cU, -⟩ := hX26.reg rn (by omega); have fU := hX26.thaw rn (by omega); have hX26h := Lib.hid hX26; clear hX26)
              have hX27 := hX26h.out.put rn (by omega) (r26.mono fun b hb => by have := hX25h.out.lt; show b ≠ w25.heap.size; omega)
              have hk27 := (bl_step hk25 hb26).setCell (p := ⟨w25.heap.size, rn, none⟩) hxle (.slice A26 lo.length k26)
              generalize (w26.setCell ⟨w25.heap.size, rn, none⟩ (.slice A26 lo.length k26)) = W27 at hX27 hk27 ⊢
              generalize hcu : c25.set rn (.slice A26 lo.length k26) = cu at hX27
              have hZ27 := hZ17.out.keep hk27
              have hteT := set_ok hlT.out hte.out hrn1 hro.out
              have hlenT : ∀ l ∈ T.set rn lo, l.length ≤ 100000 := fun l hm => by
                rcases mem_set_of hm with hm | rfl
                · exact hlen.out l hm
                · omega
              have hst := Step_ok cu (T.set rn lo) _ i ev W27 hX27.ts hlenT hteT hck.out (by have := hm.out; unfold mayT at this; simp only [Bool.and_eq_true, decide_eq_true_eq] at this; exact this.2) hop (ht.later hZ27.lf.bl (Nat.le_refl _))
              have hfc := hfac.out
              rw [addrT_set hur.out.1, dataT_set hur.out.2.1, getD_set_ne (by omega), hda2.out, hdd2.out, ← hdw2.out, hia.out] at hst
              have g32 : Hid ((stepT (T.set rn lo) i ev).getD 32 [] = U.getD 32 []) := Lib.hid (by rw [stepT_way (by rw [List.length_set]; exact hlT.out) (by omega), wayT_set hur.out.2.2 hrn2, ← hU2.out, stepT_way hlT.out (by omega)])
              have gself : Hid (rdn ≠ 0 → (stepT (T.set rn lo) i ev).getD rdn [] = U.getD rdn []) := Lib.hid fun h0 => by
                have e0 : rdn = i.rd.toNat := by rw [hrd.out]; simp
                rw [e0, stepT_self (by rw [List.length_set]; exact hlT.out) (by rw [hrd.out]; omega) (by omega), outT_set hur.out.2.2, ← hU2.out, stepT_self hlT.out (by rw [hrd.out]; omega) (by omega)]
              have gkept : Hid (rn ≠ rdn → (stepT (T.set rn lo) i ev).getD rn [] = lo) := Lib.hid fun h0 => stepT_kept hlT.out hrn2 (.inl (by rw [hrd.out]; omega))
              generalize stepT (T.set rn lo) i ev = U3 at hst g32 gself gkept
              have hri := hZ27.lf.ri
              have hxr := hX27.rt
              have hscu : Hid ((Tryd.prog.info? 27).map (·.size) = some cu.length) := Lib.hid (by rw [hX27.ts.lc]; exact size_taint)
              replace hst := Lib.hid hst
              replace hZ27 := Lib.hid hZ27
              clear hX27 hk27 hX26h hb26 hk25 hX25h r26 hO hteT hlenT hfc cU fU hcu hZ17 hOw
              go_upto_region 28 with (first | (refine wpList_load_mid rfl 27 _ rfl w25.heap.size 0 rfl cu _ hxr huT rfl hscu.out ?_) | (refine wpList_load_mid rfl 33 _ rfl (w.heap.size + 1) 0 rfl ics _ hri huI rfl hsi.out ?_) | (go_at_call 10; (with_reducible refine hst.out.mono ?_); rintro e w28 ⟨css, vas, vds, vws, rfl, hTs, has, hds, hws, hbs⟩; have hzs := T0.new w28 #[.slice none 0 0, .slice none 0 0, .slice none 0 0, .slice none 0 0, .slice none 0 0, .slice none 0 0, .slice none 0 0, .slice none 0 0, .slice none 0 0, .slice none 0 0, .slice none 0 0, .slice none 0 0, .slice none 0 0, .slice none 0 0, .slice none 0 0, .slice none 0 0, .slice none 0 0, .slice none 0 0, .slice none 0 0, .slice none 0 0, .slice none 0 0, .slice none 0 0, .slice none 0 0, .slice none 0 0, .slice none 0 0, .slice none 0 0, .slice none 0 0, .slice none 0 0, .slice none 0 0, .slice none 0 0, .slice none 0 0, .slice none 0 0, .slice none 0 0] #[.slice none 0 0, .slice none 0 0, .slice none 0 0] 27 35 rfl rfl; have hys := hzs.cells w28.heap.size (Nat.le_refl _) css; have hfs := hzs.full hTs has hds hws; have hlcs := Lib.hid hTs.lc; have hss : Hid ((Tryd.prog.info? 27).map (·.size) = some css.toArray.size) := Lib.hid (by rw [List.size_toArray, hTs.lc]; exact size_taint); have hos : Hid (css.toArray.all (·.oneCell') = true) := Lib.hid (all_oneCell_toArray hTs.one); have hps : Hid ((#[vas, vds, vws] : Array Value).all (·.oneCell') = true) := Lib.hid (all_oneCell_toArray hfs.1.one)) | (refine wpList_store_mid rfl 27 _ _ rfl w28.heap.size 0 css.toArray rfl rfl (fun j hj => hzs.tt j (by rw [List.size_toArray, hlcs.out] at hj; exact hj)) hss.out hos.out ?_; change wpList _ _ _ _ _ (World.setCells _ w28.heap.size 0 css)) | (refine wpList_store_mid rfl 35 _ _ rfl (w28.heap.size + 1) 0 #[vas, vds, vws] rfl rfl (fun j hj => hys.td j hj) size_deps hps.out ?_; change wpList _ _ _ _ _ (World.setCells (World.setCells _ w28.heap.size 0 css) (w28.heap.size + 1) 0 [vas, vds, vws]); generalize ((((w28.alloc (.cells #[.slice none 0 0, .slice none 0 0, .slice none 0 0, .slice none 0 0, .slice none 0 0, .slice none 0 0, .slice none 0 0, .slice none 0 0, .slice none 0 0, .slice none 0 0, .slice none 0 0, .slice none 0 0, .slice none 0 0, .slice none 0 0, .slice none 0 0, .slice none 0 0, .slice none 0 0, .slice none 0 0, .slice none 0 0, .slice none 0 0, .slice none 0 0, .slice none 0 0, .slice none 0 0, .slice none 0 0, .slice none 0 0, .slice none 0 0, .slice none 0 0, .slice none 0 0, .slice none 0 0, .slice none 0 0, .slice none 0 0, .slice none 0 0, .slice none 0 0] 27)).alloc (.cells #[.slice none 0 0, .slice none 0 0, .slice none 0 0] 35)).setCells w28.heap.size 0 css).setCells (w28.heap.size + 1) 0 [vas, vds, vws]) = Ws at hfs ⊢))
              obtain ⟨hXs, hcs⟩ := hfs
              have hZ28 := hZ27.out.keep (bl_step hbs hcs)
              clear hzs hys hlcs hss hos hps hTs has hds hws hbs hcs hZ27 hst hscu hxr hri
              have huD := Tryd.underlying35
              obtain ⟨us, hus⟩ := hXs.get1 32 (by decide)
              obtain ⟨usr, husr⟩ := hXs.get1 rdn (by omega)
              obtain ⟨usn, husn⟩ := hXs.get1 rn (by omega)
              obtain ⟨vxr, hvxr⟩ := hZ28.some rdn (by omega)
              replace hus := Lib.hid hus
              replace husr := Lib.hid husr
              replace husn := Lib.hid husn
              replace hvxr := Lib.hid hvxr
              have hrd3 : (0 : Int) ≤ (rdn : Int) ∧ (rdn : Int) < 32 := by omega
              obtain ⟨hrd3, hrd4⟩ := hrd3
              have hbo : Hid (∀ W, TZ w W cs ics T X Y ds U va vd vw da dd dw → RL W W.heap.size (.slice Ao lo.length co) lo) := Lib.hid fun W hW => (ho.out.below hW.lf.bl (Nat.le_refl _)).more hW.lf.bl.size
              by_cases h0 : rdn = 0
              · have e16 : ((rdn : Int) == 0) = true := by rw [h0]; rfl
                have e32 : ((rn : Int) == (rdn : Int)) = false := by simp; omega
                have hnr := Lib.hid (gkept.out (by omega))
                clear h0
                refine wp_region_held_drew (S := fun W => TZ w W cs ics T X Y ds U va vd vw da dd dw ∧ TQ W w28.heap.size css U3 vas vds vws da dd dw) (by kernel_rfl) ⟨hZ28.keep (drew_belowL _), hXs.keep (drew_belowL _)⟩ (fun hHeld => ?_)
                refine wpAnyH_take (i := 0) (v := .int .i64 0) rfl (by kernel_rfl) (by kernel_rfl) (by kernel_rfl) (fun _ _ _ h => h) (Or.inl ⟨by rfl, fun W _ => by kernel_rfl⟩) hHeld ?_
                try simp only [Act.put, List.getElem_toArray, List.getElem_cons_zero, List.setIfInBounds_toArray, List.set_cons_zero, List.set_cons_succ]
                refine wpAnyH_take (i := 1) (v := .bool true) rfl (by kernel_rfl) (by kernel_rfl) (by kernel_rfl) (fun _ _ _ h => h) (Or.inl ⟨by rfl, fun W _ => by go_simp⟩) hHeld ?_
                try simp only [Act.put, List.getElem_toArray, List.getElem_cons_succ, List.getElem_cons_zero, List.setIfInBounds_toArray, List.set_cons_zero, List.set_cons_succ]
                refine wpAnyH_take (i := 2) (v := .bool true) rfl (by kernel_rfl) (by kernel_rfl) (by kernel_rfl) (fun _ _ _ h => h) (Or.inl ⟨by rfl, fun W _ => by go_simp⟩) hHeld ?_
                try simp only [Act.put, List.getElem_toArray, List.getElem_cons_succ, List.getElem_cons_zero, List.setIfInBounds_toArray, List.set_cons_zero, List.set_cons_succ]
                refine wpAnyH_take (i := 3) rfl (by kernel_rfl) (by kernel_rfl) (by kernel_rfl) (fun _ _ _ h => h) (yieldsIf_load_mid (by rfl) _ _ rfl Y 0 rfl [va, vd, vw] _ (fun W hS => hS.1.rd) huD rfl size_deps) hHeld ?_
                try simp only [Act.put, List.getElem_toArray, List.getElem_cons_succ, List.getElem_cons_zero, List.setIfInBounds_toArray, List.set_cons_zero, List.set_cons_succ]
                refine wpAnyH_take (i := 4) rfl (by kernel_rfl) (by kernel_rfl) (by kernel_rfl) (fun _ _ _ h => h) (yieldsIf_load_mid (by rfl) _ _ rfl (w28.heap.size + 1) 0 rfl [vas, vds, vws] _ (fun W hS => hS.2.rd) huD rfl size_deps) hHeld ?_
                try simp only [Act.put, List.getElem_toArray, List.getElem_cons_succ, List.getElem_cons_zero, List.setIfInBounds_toArray, List.set_cons_zero, List.set_cons_succ]
                generalize World.drew _ = W1 at hHeld ⊢
                clear hZ28 hXs
                refine wpAnyH_ready (rs := [5]) (by kernel_rfl) (by simp) (AllReadyH.cons rfl (fun K hK2 => ?_) AllReadyH.nil)
                rw [if_pos (by rfl)]
                simp only [List.getElem_toArray, List.getElem_cons_succ, List.getElem_cons_zero]
                go_wp2_with (go_at_call 21; (with_reducible refine (Deps_yes va vd vw vas vds vws da dd dw W1 hHeld.1.ra.rl hHeld.1.rv.rl hHeld.1.rx.rl hHeld.2.ra.rl hHeld.2.rv.rl hHeld.2.rx.rl).mono ?_); rintro e W2 ⟨rfl, hb⟩)
                refine hK2.out _ _ (⟨hHeld.1.keep hb, hHeld.2.keep hb⟩) (fun hHeld2 => ?_)
                clear hK2 K hHeld
                have hHeld := hHeld2
                clear hHeld2
                try simp only [Act.put, List.getElem_toArray, List.getElem_cons_succ, List.getElem_cons_zero, List.setIfInBounds_toArray, List.set_cons_zero, List.set_cons_succ]
                clear hb
                refine wpAnyH_take (i := 6) (v := .bool true) rfl (by kernel_rfl) (by kernel_rfl) (by kernel_rfl) (fun _ _ _ h => h) (Or.inl ⟨by rfl, fun W _ => by go_simp⟩) hHeld ?_
                try simp only [Act.put, List.getElem_toArray, List.getElem_cons_succ, List.getElem_cons_zero, List.setIfInBounds_toArray, List.set_cons_zero, List.set_cons_succ]
                refine wpAnyH_take (i := 7) (v := .bool true) rfl (by kernel_rfl) (by kernel_rfl) (by kernel_rfl) (fun _ _ _ h => h) (Or.inl ⟨by rfl, fun W _ => by go_simp⟩) hHeld ?_
                try simp only [Act.put, List.getElem_toArray, List.getElem_cons_succ, List.getElem_cons_zero, List.setIfInBounds_toArray, List.set_cons_zero, List.set_cons_succ]
                refine wpAnyH_take (i := 8) (v := .pointer (some ⟨w28.heap.size, 32, none⟩)) rfl (by kernel_rfl) (by kernel_rfl) (by kernel_rfl) (fun _ _ _ h => h) (Or.inl ⟨by rfl, fun W _ => by kernel_rfl⟩) hHeld ?_
                try simp only [Act.put, List.getElem_toArray, List.getElem_cons_succ, List.getElem_cons_zero, List.setIfInBounds_toArray, List.set_cons_zero, List.set_cons_succ]
                refine wpAnyH_take (i := 9) (v := us) rfl (by kernel_rfl) (by kernel_rfl) (by kernel_rfl) (fun _ _ _ h => h) (Or.inl ⟨by rfl, fun W hS => by (have k : W.cell? ⟨w28.heap.size, 32, none⟩ = some (us) := hS.2.cx 32 us hus.out); go_simp⟩) hHeld ?_
                try simp only [Act.put, List.getElem_toArray, List.getElem_cons_succ, List.getElem_cons_zero, List.setIfInBounds_toArray, List.set_cons_zero, List.set_cons_succ]
                refine wpAnyH_take (i := 10) (v := .pointer (some ⟨X, 32, none⟩)) rfl (by kernel_rfl) (by kernel_rfl) (by kernel_rfl) (fun _ _ _ h => h) (Or.inl ⟨by rfl, fun W _ => by kernel_rfl⟩) hHeld ?_
                try simp only [Act.put, List.getElem_toArray, List.getElem_cons_succ, List.getElem_cons_zero, List.setIfInBounds_toArray, List.set_cons_zero, List.set_cons_succ]
                refine wpAnyH_take (i := 11) (v := vx) rfl (by kernel_rfl) (by kernel_rfl) (by kernel_rfl) (fun _ _ _ h => h) (Or.inl ⟨by rfl, fun W hS => by (have k : W.cell? ⟨X, 32, none⟩ = some (vx) := hS.1.cx 32 vx hx32.out); go_simp⟩) hHeld ?_
                try simp only [Act.put, List.getElem_toArray, List.getElem_cons_succ, List.getElem_cons_zero, List.setIfInBounds_toArray, List.set_cons_zero, List.set_cons_succ]
                refine wpAnyH_ready (rs := [12]) (by kernel_rfl) (by simp) (AllReadyH.cons rfl (fun K hK2 => ?_) AllReadyH.nil)
                rw [if_pos (by rfl)]
                simp only [List.getElem_toArray, List.getElem_cons_succ, List.getElem_cons_zero]
                go_wp2_with (go_at_call 15; (with_reducible refine (Same_yesL us vx _ _ _ (hHeld.2.rl 32 us hus.out) (hHeld.1.rl 32 vx hx32.out) g32.out).mono ?_); rintro e W3 hq; obtain ⟨rfl, hb⟩ := hq.below)
                refine hK2.out _ _ (⟨hHeld.1.keep hb, hHeld.2.keep hb⟩) (fun hHeld2 => ?_)
                clear hK2 K hHeld
                have hHeld := hHeld2
                clear hHeld2
                try simp only [Act.put, List.getElem_toArray, List.getElem_cons_succ, List.getElem_cons_zero, List.setIfInBounds_toArray, List.set_cons_zero, List.set_cons_succ]
                clear hb
                refine wpAnyH_take (i := 13) (v := .bool true) rfl (by kernel_rfl) (by kernel_rfl) (by kernel_rfl) (fun _ _ _ h => h) (Or.inl ⟨by rfl, fun W _ => by go_simp⟩) hHeld ?_
                try simp only [Act.put, List.getElem_toArray, List.getElem_cons_succ, List.getElem_cons_zero, List.setIfInBounds_toArray, List.set_cons_zero, List.set_cons_succ]
                refine wpAnyH_take (i := 14) (v := .bool true) rfl (by kernel_rfl) (by kernel_rfl) (by kernel_rfl) (fun _ _ _ h => h) (Or.inl ⟨by rfl, fun W _ => by go_simp⟩) hHeld ?_
                try simp only [Act.put, List.getElem_toArray, List.getElem_cons_succ, List.getElem_cons_zero, List.setIfInBounds_toArray, List.set_cons_zero, List.set_cons_succ]
                refine wpAnyH_take (i := 15) (v := .int .i64 (rdn : Int)) rfl (by kernel_rfl) (by kernel_rfl) (by kernel_rfl) (fun _ _ _ h => h) (Or.inl ⟨by rfl, fun W _ => by kernel_rfl⟩) hHeld ?_
                try simp only [Act.put, List.getElem_toArray, List.getElem_cons_succ, List.getElem_cons_zero, List.setIfInBounds_toArray, List.set_cons_zero, List.set_cons_succ]
                refine wpAnyH_take (i := 16) (v := .bool true) rfl (by kernel_rfl) (by kernel_rfl) (by kernel_rfl) (fun _ _ _ h => h) (Or.inl ⟨by rfl, fun W _ => by go_simp⟩) hHeld ?_
                try simp only [Act.put, List.getElem_toArray, List.getElem_cons_succ, List.getElem_cons_zero, List.setIfInBounds_toArray, List.set_cons_zero, List.set_cons_succ]
                refine wpAnyH_take (i := 17) (v := .bool true) rfl (by kernel_rfl) (by kernel_rfl) (by kernel_rfl) (fun _ _ _ h => h) (Or.inl ⟨by rfl, fun W _ => by go_simp⟩) hHeld ?_
                try simp only [Act.put, List.getElem_toArray, List.getElem_cons_succ, List.getElem_cons_zero, List.setIfInBounds_toArray, List.set_cons_zero, List.set_cons_succ]
                refine wpAnyH_take (i := 18) (v := undef) rfl (by kernel_rfl) (by kernel_rfl) (by kernel_rfl) (fun _ _ _ h => h) (Or.inr ⟨by rfl, rfl⟩) hHeld ?_
                try simp only [Act.put, List.getElem_toArray, List.getElem_cons_succ, List.getElem_cons_zero, List.setIfInBounds_toArray, List.set_cons_zero, List.set_cons_succ]
                refine wpAnyH_take (i := 19) (v := undef) rfl (by kernel_rfl) (by kernel_rfl) (by kernel_rfl) (fun _ _ _ h => h) (Or.inr ⟨by rfl, rfl⟩) hHeld ?_
                try simp only [Act.put, List.getElem_toArray, List.getElem_cons_succ, List.getElem_cons_zero, List.setIfInBounds_toArray, List.set_cons_zero, List.set_cons_succ]
                refine wpAnyH_take (i := 20) (v := undef) rfl (by kernel_rfl) (by kernel_rfl) (by kernel_rfl) (fun _ _ _ h => h) (Or.inr ⟨by rfl, rfl⟩) hHeld ?_
                try simp only [Act.put, List.getElem_toArray, List.getElem_cons_succ, List.getElem_cons_zero, List.setIfInBounds_toArray, List.set_cons_zero, List.set_cons_succ]
                refine wpAnyH_take (i := 21) (v := undef) rfl (by kernel_rfl) (by kernel_rfl) (by kernel_rfl) (fun _ _ _ h => h) (Or.inr ⟨by rfl, rfl⟩) hHeld ?_
                try simp only [Act.put, List.getElem_toArray, List.getElem_cons_succ, List.getElem_cons_zero, List.setIfInBounds_toArray, List.set_cons_zero, List.set_cons_succ]
                refine wpAnyH_take (i := 22) (v := undef) rfl (by kernel_rfl) (by kernel_rfl) (by kernel_rfl) (fun _ _ _ h => h) (Or.inr ⟨by rfl, rfl⟩) hHeld ?_
                try simp only [Act.put, List.getElem_toArray, List.getElem_cons_succ, List.getElem_cons_zero, List.setIfInBounds_toArray, List.set_cons_zero, List.set_cons_succ]
                refine wpAnyH_take (i := 23) (v := undef) rfl (by kernel_rfl) (by kernel_rfl) (by kernel_rfl) (fun _ _ _ h => h) (Or.inr ⟨by rfl, rfl⟩) hHeld ?_
                try simp only [Act.put, List.getElem_toArray, List.getElem_cons_succ, List.getElem_cons_zero, List.setIfInBounds_toArray, List.set_cons_zero, List.set_cons_succ]
                refine wpAnyH_take (i := 24) (v := undef) rfl (by kernel_rfl) (by kernel_rfl) (by kernel_rfl) (fun _ _ _ h => h) (Or.inr ⟨by rfl, rfl⟩) hHeld ?_
                try simp only [Act.put, List.getElem_toArray, List.getElem_cons_succ, List.getElem_cons_zero, List.setIfInBounds_toArray, List.set_cons_zero, List.set_cons_succ]
                refine wpAnyH_take (i := 25) (v := undef) rfl (by kernel_rfl) (by kernel_rfl) (by kernel_rfl) (fun _ _ _ h => h) (Or.inr ⟨by rfl, rfl⟩) hHeld ?_
                try simp only [Act.put, List.getElem_toArray, List.getElem_cons_succ, List.getElem_cons_zero, List.setIfInBounds_toArray, List.set_cons_zero, List.set_cons_succ]
                refine wpAnyH_take (i := 26) (v := undef) rfl (by kernel_rfl) (by kernel_rfl) (by kernel_rfl) (fun _ _ _ h => h) (Or.inr ⟨by rfl, rfl⟩) hHeld ?_
                try simp only [Act.put, List.getElem_toArray, List.getElem_cons_succ, List.getElem_cons_zero, List.setIfInBounds_toArray, List.set_cons_zero, List.set_cons_succ]
                refine wpAnyH_take (i := 27) (v := .bool true) rfl (by kernel_rfl) (by kernel_rfl) (by kernel_rfl) (fun _ _ _ h => h) (Or.inl ⟨by rfl, fun W _ => by go_simp⟩) hHeld ?_
                try simp only [Act.put, List.getElem_toArray, List.getElem_cons_succ, List.getElem_cons_zero, List.setIfInBounds_toArray, List.set_cons_zero, List.set_cons_succ]
                refine wpAnyH_take (i := 28) (v := .bool true) rfl (by kernel_rfl) (by kernel_rfl) (by kernel_rfl) (fun _ _ _ h => h) (Or.inl ⟨by rfl, fun W _ => by go_simp⟩) hHeld ?_
                try simp only [Act.put, List.getElem_toArray, List.getElem_cons_succ, List.getElem_cons_zero, List.setIfInBounds_toArray, List.set_cons_zero, List.set_cons_succ]
                refine wpAnyH_take (i := 29) (v := .bool true) rfl (by kernel_rfl) (by kernel_rfl) (by kernel_rfl) (fun _ _ _ h => h) (Or.inl ⟨by rfl, fun W _ => by go_simp⟩) hHeld ?_
                try simp only [Act.put, List.getElem_toArray, List.getElem_cons_succ, List.getElem_cons_zero, List.setIfInBounds_toArray, List.set_cons_zero, List.set_cons_succ]
                refine wpAnyH_take (i := 30) (v := .int .i64 (rn : Int)) rfl (by kernel_rfl) (by kernel_rfl) (by kernel_rfl) (fun _ _ _ h => h) (Or.inl ⟨by rfl, fun W _ => by kernel_rfl⟩) hHeld ?_
                try simp only [Act.put, List.getElem_toArray, List.getElem_cons_succ, List.getElem_cons_zero, List.setIfInBounds_toArray, List.set_cons_zero, List.set_cons_succ]
                refine wpAnyH_take (i := 31) (v := .int .i64 (rdn : Int)) rfl (by kernel_rfl) (by kernel_rfl) (by kernel_rfl) (fun _ _ _ h => h) (Or.inl ⟨by rfl, fun W _ => by kernel_rfl⟩) hHeld ?_
                try simp only [Act.put, List.getElem_toArray, List.getElem_cons_succ, List.getElem_cons_zero, List.setIfInBounds_toArray, List.set_cons_zero, List.set_cons_succ]
                refine wpAnyH_take (i := 32) (v := .bool false) rfl (by kernel_rfl) (by kernel_rfl) (by kernel_rfl) (fun _ _ _ h => h) (Or.inl ⟨by rfl, fun W _ => by go_simp⟩) hHeld ?_
                try simp only [Act.put, List.getElem_toArray, List.getElem_cons_succ, List.getElem_cons_zero, List.setIfInBounds_toArray, List.set_cons_zero, List.set_cons_succ]
                refine wpAnyH_take (i := 33) (v := .bool false) rfl (by kernel_rfl) (by kernel_rfl) (by kernel_rfl) (fun _ _ _ h => h) (Or.inl ⟨by rfl, fun W _ => by go_simp⟩) hHeld ?_
                try simp only [Act.put, List.getElem_toArray, List.getElem_cons_succ, List.getElem_cons_zero, List.setIfInBounds_toArray, List.set_cons_zero, List.set_cons_succ]
                refine wpAnyH_take (i := 34) (v := .int .i64 (rn : Int)) rfl (by kernel_rfl) (by kernel_rfl) (by kernel_rfl) (fun _ _ _ h => h) (Or.inl ⟨by rfl, fun W _ => by kernel_rfl⟩) hHeld ?_
                try simp only [Act.put, List.getElem_toArray, List.getElem_cons_succ, List.getElem_cons_zero, List.setIfInBounds_toArray, List.set_cons_zero, List.set_cons_succ]
                refine wpAnyH_take (i := 35) (v := .pointer (some ⟨w28.heap.size, 0, none⟩)) rfl (by kernel_rfl) (by kernel_rfl) (by kernel_rfl) (fun _ _ _ h => h) (Or.inl ⟨by rfl, fun W _ => by kernel_rfl⟩) hHeld ?_
                try simp only [Act.put, List.getElem_toArray, List.getElem_cons_succ, List.getElem_cons_zero, List.setIfInBounds_toArray, List.set_cons_zero, List.set_cons_succ]
                refine wpAnyH_take (i := 36) (v := .pointer (some ⟨w28.heap.size, rn, none⟩)) rfl (by kernel_rfl) (by kernel_rfl) (by kernel_rfl) (fun _ _ _ h => h) (Or.inl ⟨by rfl, fun W _ => by go_simp⟩) hHeld ?_
                try simp only [Act.put, List.getElem_toArray, List.getElem_cons_succ, List.getElem_cons_zero, List.setIfInBounds_toArray, List.set_cons_zero, List.set_cons_succ]
                refine wpAnyH_take (i := 37) (v := usn) rfl (by kernel_rfl) (by kernel_rfl) (by kernel_rfl) (fun _ _ _ h => h) (Or.inl ⟨by rfl, fun W hS => by (have k : W.cell? ⟨w28.heap.size, rn, none⟩ = some (usn) := hS.2.cx rn usn husn.out); go_simp⟩) hHeld ?_
                try simp only [Act.put, List.getElem_toArray, List.getElem_cons_succ, List.getElem_cons_zero, List.setIfInBounds_toArray, List.set_cons_zero, List.set_cons_succ]
                refine wpAnyH_take (i := 38) (v := .slice Ao lo.length co) rfl (by kernel_rfl) (by kernel_rfl) (by kernel_rfl) (fun _ _ _ h => h) (Or.inl ⟨by rfl, fun W _ => by kernel_rfl⟩) hHeld ?_
                try simp only [Act.put, List.getElem_toArray, List.getElem_cons_succ, List.getElem_cons_zero, List.setIfInBounds_toArray, List.set_cons_zero, List.set_cons_succ]
                refine wpAnyH_ready (rs := [39]) (by kernel_rfl) (by simp) (AllReadyH.cons rfl (fun K hK2 => ?_) AllReadyH.nil)
                rw [if_pos (by rfl)]
                simp only [List.getElem_toArray, List.getElem_cons_succ, List.getElem_cons_zero]
                go_wp2_with (go_at_call 15; (with_reducible refine (Same_yesL usn (.slice Ao lo.length co) _ _ _ (hHeld.2.rl rn usn husn.out) (hbo.out _ hHeld.1) hnr.out).mono ?_); rintro e W5 hq; obtain ⟨rfl, hb⟩ := hq.below)
                refine hK2.out _ _ (⟨hHeld.1.keep hb, hHeld.2.keep hb⟩) (fun hHeld2 => ?_)
                clear hK2 K hHeld
                have hHeld := hHeld2
                clear hHeld2
                try simp only [Act.put, List.getElem_toArray, List.getElem_cons_succ, List.getElem_cons_zero, List.setIfInBounds_toArray, List.set_cons_zero, List.set_cons_succ]
                clear hb
                refine wpAnyH_take (i := 40) (v := .bool true) rfl (by kernel_rfl) (by kernel_rfl) (by kernel_rfl) (fun _ _ _ h => h) (Or.inl ⟨by rfl, fun W _ => by go_simp⟩) hHeld ?_
                try simp only [Act.put, List.getElem_toArray, List.getElem_cons_succ, List.getElem_cons_zero, List.setIfInBounds_toArray, List.set_cons_zero, List.set_cons_succ]
                refine wpAnyH_take (i := 41) (v := .bool true) rfl (by kernel_rfl) (by kernel_rfl) (by kernel_rfl) (fun _ _ _ h => h) (Or.inl ⟨by rfl, fun W _ => by go_simp⟩) hHeld ?_
                try simp only [Act.put, List.getElem_toArray, List.getElem_cons_succ, List.getElem_cons_zero, List.setIfInBounds_toArray, List.set_cons_zero, List.set_cons_succ]
                refine wpAnyH_take (i := 42) (v := .bool true) rfl (by kernel_rfl) (by kernel_rfl) (by kernel_rfl) (fun _ _ _ h => h) (Or.inl ⟨by rfl, fun W _ => by go_simp⟩) hHeld ?_
                try simp only [Act.put, List.getElem_toArray, List.getElem_cons_succ, List.getElem_cons_zero, List.setIfInBounds_toArray, List.set_cons_zero, List.set_cons_succ]
                refine wpAnyH_done (by kernel_rfl) ?_ _
                go_wp2_with fail
                go_ret
                exact ⟨rfl, hHeld.1.lf.bl⟩
              · have e16 : ((rdn : Int) == 0) = false := by simp; omega
                have hself := Lib.hid (gself.out h0)
                by_cases hrr : rn = rdn
                · have e32 : ((rn : Int) == (rdn : Int)) = true := by rw [hrr]; simp
                  clear h0 hrr
                  refine wp_region_held_drew (S := fun W => TZ w W cs ics T X Y ds U va vd vw da dd dw ∧ TQ W w28.heap.size css U3 vas vds vws da dd dw) (by kernel_rfl) ⟨hZ28.keep (drew_belowL _), hXs.keep (drew_belowL _)⟩ (fun hHeld => ?_)
                  refine wpAnyH_take (i := 0) (v := .int .i64 0) rfl (by kernel_rfl) (by kernel_rfl) (by kernel_rfl) (fun _ _ _ h => h) (Or.inl ⟨by rfl, fun W _ => by kernel_rfl⟩) hHeld ?_
                  try simp only [Act.put, List.getElem_toArray, List.getElem_cons_zero, List.setIfInBounds_toArray, List.set_cons_zero, List.set_cons_succ]
                  refine wpAnyH_take (i := 1) (v := .bool true) rfl (by kernel_rfl) (by kernel_rfl) (by kernel_rfl) (fun _ _ _ h => h) (Or.inl ⟨by rfl, fun W _ => by go_simp⟩) hHeld ?_
                  try simp only [Act.put, List.getElem_toArray, List.getElem_cons_succ, List.getElem_cons_zero, List.setIfInBounds_toArray, List.set_cons_zero, List.set_cons_succ]
                  refine wpAnyH_take (i := 2) (v := .bool true) rfl (by kernel_rfl) (by kernel_rfl) (by kernel_rfl) (fun _ _ _ h => h) (Or.inl ⟨by rfl, fun W _ => by go_simp⟩) hHeld ?_
                  try simp only [Act.put, List.getElem_toArray, List.getElem_cons_succ, List.getElem_cons_zero, List.setIfInBounds_toArray, List.set_cons_zero, List.set_cons_succ]
                  refine wpAnyH_take (i := 3) rfl (by kernel_rfl) (by kernel_rfl) (by kernel_rfl) (fun _ _ _ h => h) (yieldsIf_load_mid (by rfl) _ _ rfl Y 0 rfl [va, vd, vw] _ (fun W hS => hS.1.rd) huD rfl size_deps) hHeld ?_
                  try simp only [Act.put, List.getElem_toArray, List.getElem_cons_succ, List.getElem_cons_zero, List.setIfInBounds_toArray, List.set_cons_zero, List.set_cons_succ]
                  refine wpAnyH_take (i := 4) rfl (by kernel_rfl) (by kernel_rfl) (by kernel_rfl) (fun _ _ _ h => h) (yieldsIf_load_mid (by rfl) _ _ rfl (w28.heap.size + 1) 0 rfl [vas, vds, vws] _ (fun W hS => hS.2.rd) huD rfl size_deps) hHeld ?_
                  try simp only [Act.put, List.getElem_toArray, List.getElem_cons_succ, List.getElem_cons_zero, List.setIfInBounds_toArray, List.set_cons_zero, List.set_cons_succ]
                  generalize World.drew _ = W1 at hHeld ⊢
                  clear hZ28 hXs
                  refine wpAnyH_ready (rs := [5]) (by kernel_rfl) (by simp) (AllReadyH.cons rfl (fun K hK2 => ?_) AllReadyH.nil)
                  rw [if_pos (by rfl)]
                  simp only [List.getElem_toArray, List.getElem_cons_succ, List.getElem_cons_zero]
                  go_wp2_with (go_at_call 21; (with_reducible refine (Deps_yes va vd vw vas vds vws da dd dw W1 hHeld.1.ra.rl hHeld.1.rv.rl hHeld.1.rx.rl hHeld.2.ra.rl hHeld.2.rv.rl hHeld.2.rx.rl).mono ?_); rintro e W2 ⟨rfl, hb⟩)
                  refine hK2.out _ _ (⟨hHeld.1.keep hb, hHeld.2.keep hb⟩) (fun hHeld2 => ?_)
                  clear hK2 K hHeld
                  have hHeld := hHeld2
                  clear hHeld2
                  try simp only [Act.put, List.getElem_toArray, List.getElem_cons_succ, List.getElem_cons_zero, List.setIfInBounds_toArray, List.set_cons_zero, List.set_cons_succ]
                  clear hb
                  refine wpAnyH_take (i := 6) (v := .bool true) rfl (by kernel_rfl) (by kernel_rfl) (by kernel_rfl) (fun _ _ _ h => h) (Or.inl ⟨by rfl, fun W _ => by go_simp⟩) hHeld ?_
                  try simp only [Act.put, List.getElem_toArray, List.getElem_cons_succ, List.getElem_cons_zero, List.setIfInBounds_toArray, List.set_cons_zero, List.set_cons_succ]
                  refine wpAnyH_take (i := 7) (v := .bool true) rfl (by kernel_rfl) (by kernel_rfl) (by kernel_rfl) (fun _ _ _ h => h) (Or.inl ⟨by rfl, fun W _ => by go_simp⟩) hHeld ?_
                  try simp only [Act.put, List.getElem_toArray, List.getElem_cons_succ, List.getElem_cons_zero, List.setIfInBounds_toArray, List.set_cons_zero, List.set_cons_succ]
                  refine wpAnyH_take (i := 8) (v := .pointer (some ⟨w28.heap.size, 32, none⟩)) rfl (by kernel_rfl) (by kernel_rfl) (by kernel_rfl) (fun _ _ _ h => h) (Or.inl ⟨by rfl, fun W _ => by kernel_rfl⟩) hHeld ?_
                  try simp only [Act.put, List.getElem_toArray, List.getElem_cons_succ, List.getElem_cons_zero, List.setIfInBounds_toArray, List.set_cons_zero, List.set_cons_succ]
                  refine wpAnyH_take (i := 9) (v := us) rfl (by kernel_rfl) (by kernel_rfl) (by kernel_rfl) (fun _ _ _ h => h) (Or.inl ⟨by rfl, fun W hS => by (have k : W.cell? ⟨w28.heap.size, 32, none⟩ = some (us) := hS.2.cx 32 us hus.out); go_simp⟩) hHeld ?_
                  try simp only [Act.put, List.getElem_toArray, List.getElem_cons_succ, List.getElem_cons_zero, List.setIfInBounds_toArray, List.set_cons_zero, List.set_cons_succ]
                  refine wpAnyH_take (i := 10) (v := .pointer (some ⟨X, 32, none⟩)) rfl (by kernel_rfl) (by kernel_rfl) (by kernel_rfl) (fun _ _ _ h => h) (Or.inl ⟨by rfl, fun W _ => by kernel_rfl⟩) hHeld ?_
                  try simp only [Act.put, List.getElem_toArray, List.getElem_cons_succ, List.getElem_cons_zero, List.setIfInBounds_toArray, List.set_cons_zero, List.set_cons_succ]
                  refine wpAnyH_take (i := 11) (v := vx) rfl (by kernel_rfl) (by kernel_rfl) (by kernel_rfl) (fun _ _ _ h => h) (Or.inl ⟨by rfl, fun W hS => by (have k : W.cell? ⟨X, 32, none⟩ = some (vx) := hS.1.cx 32 vx hx32.out); go_simp⟩) hHeld ?_
                  try simp only [Act.put, List.getElem_toArray, List.getElem_cons_succ, List.getElem_cons_zero, List.setIfInBounds_toArray, List.set_cons_zero, List.set_cons_succ]
                  refine wpAnyH_ready (rs := [12]) (by kernel_rfl) (by simp) (AllReadyH.cons rfl (fun K hK2 => ?_) AllReadyH.nil)
                  rw [if_pos (by rfl)]
                  simp only [List.getElem_toArray, List.getElem_cons_succ, List.getElem_cons_zero]
                  go_wp2_with (go_at_call 15; (with_reducible refine (Same_yesL us vx _ _ _ (hHeld.2.rl 32 us hus.out) (hHeld.1.rl 32 vx hx32.out) g32.out).mono ?_); rintro e W3 hq; obtain ⟨rfl, hb⟩ := hq.below)
                  refine hK2.out _ _ (⟨hHeld.1.keep hb, hHeld.2.keep hb⟩) (fun hHeld2 => ?_)
                  clear hK2 K hHeld
                  have hHeld := hHeld2
                  clear hHeld2
                  try simp only [Act.put, List.getElem_toArray, List.getElem_cons_succ, List.getElem_cons_zero, List.setIfInBounds_toArray, List.set_cons_zero, List.set_cons_succ]
                  clear hb
                  refine wpAnyH_take (i := 13) (v := .bool true) rfl (by kernel_rfl) (by kernel_rfl) (by kernel_rfl) (fun _ _ _ h => h) (Or.inl ⟨by rfl, fun W _ => by go_simp⟩) hHeld ?_
                  try simp only [Act.put, List.getElem_toArray, List.getElem_cons_succ, List.getElem_cons_zero, List.setIfInBounds_toArray, List.set_cons_zero, List.set_cons_succ]
                  refine wpAnyH_take (i := 14) (v := .bool true) rfl (by kernel_rfl) (by kernel_rfl) (by kernel_rfl) (fun _ _ _ h => h) (Or.inl ⟨by rfl, fun W _ => by go_simp⟩) hHeld ?_
                  try simp only [Act.put, List.getElem_toArray, List.getElem_cons_succ, List.getElem_cons_zero, List.setIfInBounds_toArray, List.set_cons_zero, List.set_cons_succ]
                  refine wpAnyH_take (i := 15) (v := .int .i64 (rdn : Int)) rfl (by kernel_rfl) (by kernel_rfl) (by kernel_rfl) (fun _ _ _ h => h) (Or.inl ⟨by rfl, fun W _ => by kernel_rfl⟩) hHeld ?_
                  try simp only [Act.put, List.getElem_toArray, List.getElem_cons_succ, List.getElem_cons_zero, List.setIfInBounds_toArray, List.set_cons_zero, List.set_cons_succ]
                  refine wpAnyH_take (i := 16) (v := .bool false) rfl (by kernel_rfl) (by kernel_rfl) (by kernel_rfl) (fun _ _ _ h => h) (Or.inl ⟨by rfl, fun W _ => by go_simp⟩) hHeld ?_
                  try simp only [Act.put, List.getElem_toArray, List.getElem_cons_succ, List.getElem_cons_zero, List.setIfInBounds_toArray, List.set_cons_zero, List.set_cons_succ]
                  refine wpAnyH_take (i := 17) (v := .bool false) rfl (by kernel_rfl) (by kernel_rfl) (by kernel_rfl) (fun _ _ _ h => h) (Or.inl ⟨by rfl, fun W _ => by go_simp⟩) hHeld ?_
                  try simp only [Act.put, List.getElem_toArray, List.getElem_cons_succ, List.getElem_cons_zero, List.setIfInBounds_toArray, List.set_cons_zero, List.set_cons_succ]
                  refine wpAnyH_take (i := 18) (v := .int .i64 (rdn : Int)) rfl (by kernel_rfl) (by kernel_rfl) (by kernel_rfl) (fun _ _ _ h => h) (Or.inl ⟨by rfl, fun W _ => by kernel_rfl⟩) hHeld ?_
                  try simp only [Act.put, List.getElem_toArray, List.getElem_cons_succ, List.getElem_cons_zero, List.setIfInBounds_toArray, List.set_cons_zero, List.set_cons_succ]
                  refine wpAnyH_take (i := 19) (v := .pointer (some ⟨w28.heap.size, 0, none⟩)) rfl (by kernel_rfl) (by kernel_rfl) (by kernel_rfl) (fun _ _ _ h => h) (Or.inl ⟨by rfl, fun W _ => by kernel_rfl⟩) hHeld ?_
                  try simp only [Act.put, List.getElem_toArray, List.getElem_cons_succ, List.getElem_cons_zero, List.setIfInBounds_toArray, List.set_cons_zero, List.set_cons_succ]
                  refine wpAnyH_take (i := 20) (v := .pointer (some ⟨w28.heap.size, rdn, none⟩)) rfl (by kernel_rfl) (by kernel_rfl) (by kernel_rfl) (fun _ _ _ h => h) (Or.inl ⟨by rfl, fun W _ => by go_simp⟩) hHeld ?_
                  try simp only [Act.put, List.getElem_toArray, List.getElem_cons_succ, List.getElem_cons_zero, List.setIfInBounds_toArray, List.set_cons_zero, List.set_cons_succ]
                  refine wpAnyH_take (i := 21) (v := usr) rfl (by kernel_rfl) (by kernel_rfl) (by kernel_rfl) (fun _ _ _ h => h) (Or.inl ⟨by rfl, fun W hS => by (have k : W.cell? ⟨w28.heap.size, rdn, none⟩ = some (usr) := hS.2.cx rdn usr husr.out); go_simp⟩) hHeld ?_
                  try simp only [Act.put, List.getElem_toArray, List.getElem_cons_succ, List.getElem_cons_zero, List.setIfInBounds_toArray, List.set_cons_zero, List.set_cons_succ]
                  refine wpAnyH_take (i := 22) (v := .int .i64 (rdn : Int)) rfl (by kernel_rfl) (by kernel_rfl) (by kernel_rfl) (fun _ _ _ h => h) (Or.inl ⟨by rfl, fun W _ => by kernel_rfl⟩) hHeld ?_
                  try simp only [Act.put, List.getElem_toArray, List.getElem_cons_succ, List.getElem_cons_zero, List.setIfInBounds_toArray, List.set_cons_zero, List.set_cons_succ]
                  refine wpAnyH_take (i := 23) (v := .pointer (some ⟨X, 0, none⟩)) rfl (by kernel_rfl) (by kernel_rfl) (by kernel_rfl) (fun _ _ _ h => h) (Or.inl ⟨by rfl, fun W _ => by kernel_rfl⟩) hHeld ?_
                  try simp only [Act.put, List.getElem_toArray, List.getElem_cons_succ, List.getElem_cons_zero, List.setIfInBounds_toArray, List.set_cons_zero, List.set_cons_succ]
                  refine wpAnyH_take (i := 24) (v := .pointer (some ⟨X, rdn, none⟩)) rfl (by kernel_rfl) (by kernel_rfl) (by kernel_rfl) (fun _ _ _ h => h) (Or.inl ⟨by rfl, fun W _ => by go_simp⟩) hHeld ?_
                  try simp only [Act.put, List.getElem_toArray, List.getElem_cons_succ, List.getElem_cons_zero, List.setIfInBounds_toArray, List.set_cons_zero, List.set_cons_succ]
                  refine wpAnyH_take (i := 25) (v := vxr) rfl (by kernel_rfl) (by kernel_rfl) (by kernel_rfl) (fun _ _ _ h => h) (Or.inl ⟨by rfl, fun W hS => by (have k : W.cell? ⟨X, rdn, none⟩ = some (vxr) := hS.1.cx rdn vxr hvxr.out); go_simp⟩) hHeld ?_
                  try simp only [Act.put, List.getElem_toArray, List.getElem_cons_succ, List.getElem_cons_zero, List.setIfInBounds_toArray, List.set_cons_zero, List.set_cons_succ]
                  refine wpAnyH_ready (rs := [26]) (by kernel_rfl) (by simp) (AllReadyH.cons rfl (fun K hK2 => ?_) AllReadyH.nil)
                  rw [if_pos (by rfl)]
                  simp only [List.getElem_toArray, List.getElem_cons_succ, List.getElem_cons_zero]
                  go_wp2_with (go_at_call 15; (with_reducible refine (Same_yesL usr vxr _ _ _ (hHeld.2.rl rdn usr husr.out) (hHeld.1.rl rdn vxr hvxr.out) hself.out).mono ?_); rintro e W4 hq; obtain ⟨rfl, hb⟩ := hq.below)
                  refine hK2.out _ _ (⟨hHeld.1.keep hb, hHeld.2.keep hb⟩) (fun hHeld2 => ?_)
                  clear hK2 K hHeld
                  have hHeld := hHeld2
                  clear hHeld2
                  try simp only [Act.put, List.getElem_toArray, List.getElem_cons_succ, List.getElem_cons_zero, List.setIfInBounds_toArray, List.set_cons_zero, List.set_cons_succ]
                  clear hb
                  refine wpAnyH_take (i := 27) (v := .bool true) rfl (by kernel_rfl) (by kernel_rfl) (by kernel_rfl) (fun _ _ _ h => h) (Or.inl ⟨by rfl, fun W _ => by go_simp⟩) hHeld ?_
                  try simp only [Act.put, List.getElem_toArray, List.getElem_cons_succ, List.getElem_cons_zero, List.setIfInBounds_toArray, List.set_cons_zero, List.set_cons_succ]
                  refine wpAnyH_take (i := 28) (v := .bool true) rfl (by kernel_rfl) (by kernel_rfl) (by kernel_rfl) (fun _ _ _ h => h) (Or.inl ⟨by rfl, fun W _ => by go_simp⟩) hHeld ?_
                  try simp only [Act.put, List.getElem_toArray, List.getElem_cons_succ, List.getElem_cons_zero, List.setIfInBounds_toArray, List.set_cons_zero, List.set_cons_succ]
                  refine wpAnyH_take (i := 29) (v := .bool true) rfl (by kernel_rfl) (by kernel_rfl) (by kernel_rfl) (fun _ _ _ h => h) (Or.inl ⟨by rfl, fun W _ => by go_simp⟩) hHeld ?_
                  try simp only [Act.put, List.getElem_toArray, List.getElem_cons_succ, List.getElem_cons_zero, List.setIfInBounds_toArray, List.set_cons_zero, List.set_cons_succ]
                  refine wpAnyH_take (i := 30) (v := .int .i64 (rn : Int)) rfl (by kernel_rfl) (by kernel_rfl) (by kernel_rfl) (fun _ _ _ h => h) (Or.inl ⟨by rfl, fun W _ => by kernel_rfl⟩) hHeld ?_
                  try simp only [Act.put, List.getElem_toArray, List.getElem_cons_succ, List.getElem_cons_zero, List.setIfInBounds_toArray, List.set_cons_zero, List.set_cons_succ]
                  refine wpAnyH_take (i := 31) (v := .int .i64 (rdn : Int)) rfl (by kernel_rfl) (by kernel_rfl) (by kernel_rfl) (fun _ _ _ h => h) (Or.inl ⟨by rfl, fun W _ => by kernel_rfl⟩) hHeld ?_
                  try simp only [Act.put, List.getElem_toArray, List.getElem_cons_succ, List.getElem_cons_zero, List.setIfInBounds_toArray, List.set_cons_zero, List.set_cons_succ]
                  refine wpAnyH_take (i := 32) (v := .bool true) rfl (by kernel_rfl) (by kernel_rfl) (by kernel_rfl) (fun _ _ _ h => h) (Or.inl ⟨by rfl, fun W _ => by go_simp⟩) hHeld ?_
                  try simp only [Act.put, List.getElem_toArray, List.getElem_cons_succ, List.getElem_cons_zero, List.setIfInBounds_toArray, List.set_cons_zero, List.set_cons_succ]
                  refine wpAnyH_take (i := 33) (v := .bool true) rfl (by kernel_rfl) (by kernel_rfl) (by kernel_rfl) (fun _ _ _ h => h) (Or.inl ⟨by rfl, fun W _ => by go_simp⟩) hHeld ?_
                  try simp only [Act.put, List.getElem_toArray, List.getElem_cons_succ, List.getElem_cons_zero, List.setIfInBounds_toArray, List.set_cons_zero, List.set_cons_succ]
                  refine wpAnyH_take (i := 34) (v := undef) rfl (by kernel_rfl) (by kernel_rfl) (by kernel_rfl) (fun _ _ _ h => h) (Or.inr ⟨by rfl, rfl⟩) hHeld ?_
                  try simp only [Act.put, List.getElem_toArray, List.getElem_cons_succ, List.getElem_cons_zero, List.setIfInBounds_toArray, List.set_cons_zero, List.set_cons_succ]
                  refine wpAnyH_take (i := 35) (v := undef) rfl (by kernel_rfl) (by kernel_rfl) (by kernel_rfl) (fun _ _ _ h => h) (Or.inr ⟨by rfl, rfl⟩) hHeld ?_
                  try simp only [Act.put, List.getElem_toArray, List.getElem_cons_succ, List.getElem_cons_zero, List.setIfInBounds_toArray, List.set_cons_zero, List.set_cons_succ]
                  refine wpAnyH_take (i := 36) (v := undef) rfl (by kernel_rfl) (by kernel_rfl) (by kernel_rfl) (fun _ _ _ h => h) (Or.inr ⟨by rfl, rfl⟩) hHeld ?_
                  try simp only [Act.put, List.getElem_toArray, List.getElem_cons_succ, List.getElem_cons_zero, List.setIfInBounds_toArray, List.set_cons_zero, List.set_cons_succ]
                  refine wpAnyH_take (i := 37) (v := undef) rfl (by kernel_rfl) (by kernel_rfl) (by kernel_rfl) (fun _ _ _ h => h) (Or.inr ⟨by rfl, rfl⟩) hHeld ?_
                  try simp only [Act.put, List.getElem_toArray, List.getElem_cons_succ, List.getElem_cons_zero, List.setIfInBounds_toArray, List.set_cons_zero, List.set_cons_succ]
                  refine wpAnyH_take (i := 38) (v := undef) rfl (by kernel_rfl) (by kernel_rfl) (by kernel_rfl) (fun _ _ _ h => h) (Or.inr ⟨by rfl, rfl⟩) hHeld ?_
                  try simp only [Act.put, List.getElem_toArray, List.getElem_cons_succ, List.getElem_cons_zero, List.setIfInBounds_toArray, List.set_cons_zero, List.set_cons_succ]
                  refine wpAnyH_take (i := 39) (v := undef) rfl (by kernel_rfl) (by kernel_rfl) (by kernel_rfl) (fun _ _ _ h => h) (Or.inr ⟨by rfl, rfl⟩) hHeld ?_
                  try simp only [Act.put, List.getElem_toArray, List.getElem_cons_succ, List.getElem_cons_zero, List.setIfInBounds_toArray, List.set_cons_zero, List.set_cons_succ]
                  refine wpAnyH_take (i := 40) (v := .bool true) rfl (by kernel_rfl) (by kernel_rfl) (by kernel_rfl) (fun _ _ _ h => h) (Or.inl ⟨by rfl, fun W _ => by go_simp⟩) hHeld ?_
                  try simp only [Act.put, List.getElem_toArray, List.getElem_cons_succ, List.getElem_cons_zero, List.setIfInBounds_toArray, List.set_cons_zero, List.set_cons_succ]
                  refine wpAnyH_take (i := 41) (v := .bool true) rfl (by kernel_rfl) (by kernel_rfl) (by kernel_rfl) (fun _ _ _ h => h) (Or.inl ⟨by rfl, fun W _ => by go_simp⟩) hHeld ?_
                  try simp only [Act.put, List.getElem_toArray, List.getElem_cons_succ, List.getElem_cons_zero, List.setIfInBounds_toArray, List.set_cons_zero, List.set_cons_succ]
                  refine wpAnyH_take (i := 42) (v := .bool true) rfl (by kernel_rfl) (by kernel_rfl) (by kernel_rfl) (fun _ _ _ h => h) (Or.inl ⟨by rfl, fun W _ => by go_simp⟩) hHeld ?_
                  try simp only [Act.put, List.getElem_toArray, List.getElem_cons_succ, List.getElem_cons_zero, List.setIfInBounds_toArray, List.set_cons_zero, List.set_cons_succ]
                  refine wpAnyH_done (by kernel_rfl) ?_ _
                  go_wp2_with fail
                  go_ret
                  exact ⟨rfl, hHeld.1.lf.bl⟩
                · have e32 : ((rn : Int) == (rdn : Int)) = false := by simp; omega
                  have hnr := Lib.hid (gkept.out hrr)
                  clear h0 hrr
                  refine wp_region_held_drew (S := fun W => TZ w W cs ics T X Y ds U va vd vw da dd dw ∧ TQ W w28.heap.size css U3 vas vds vws da dd dw) (by kernel_rfl) ⟨hZ28.keep (drew_belowL _), hXs.keep (drew_belowL _)⟩ (fun hHeld => ?_)
                  refine wpAnyH_take (i := 0) (v := .int .i64 0) rfl (by kernel_rfl) (by kernel_rfl) (by kernel_rfl) (fun _ _ _ h => h) (Or.inl ⟨by rfl, fun W _ => by kernel_rfl⟩) hHeld ?_
                  try simp only [Act.put, List.getElem_toArray, List.getElem_cons_zero, List.setIfInBounds_toArray, List.set_cons_zero, List.set_cons_succ]
                  refine wpAnyH_take (i := 1) (v := .bool true) rfl (by kernel_rfl) (by kernel_rfl) (by kernel_rfl) (fun _ _ _ h => h) (Or.inl ⟨by rfl, fun W _ => by go_simp⟩) hHeld ?_
                  try simp only [Act.put, List.getElem_toArray, List.getElem_cons_succ, List.getElem_cons_zero, List.setIfInBounds_toArray, List.set_cons_zero, List.set_cons_succ]
                  refine wpAnyH_take (i := 2) (v := .bool true) rfl (by kernel_rfl) (by kernel_rfl) (by kernel_rfl) (fun _ _ _ h => h) (Or.inl ⟨by rfl, fun W _ => by go_simp⟩) hHeld ?_
                  try simp only [Act.put, List.getElem_toArray, List.getElem_cons_succ, List.getElem_cons_zero, List.setIfInBounds_toArray, List.set_cons_zero, List.set_cons_succ]
                  refine wpAnyH_take (i := 3) rfl (by kernel_rfl) (by kernel_rfl) (by kernel_rfl) (fun _ _ _ h => h) (yieldsIf_load_mid (by rfl) _ _ rfl Y 0 rfl [va, vd, vw] _ (fun W hS => hS.1.rd) huD rfl size_deps) hHeld ?_
                  try simp only [Act.put, List.getElem_toArray, List.getElem_cons_succ, List.getElem_cons_zero, List.setIfInBounds_toArray, List.set_cons_zero, List.set_cons_succ]
                  refine wpAnyH_take (i := 4) rfl (by kernel_rfl) (by kernel_rfl) (by kernel_rfl) (fun _ _ _ h => h) (yieldsIf_load_mid (by rfl) _ _ rfl (w28.heap.size + 1) 0 rfl [vas, vds, vws] _ (fun W hS => hS.2.rd) huD rfl size_deps) hHeld ?_
                  try simp only [Act.put, List.getElem_toArray, List.getElem_cons_succ, List.getElem_cons_zero, List.setIfInBounds_toArray, List.set_cons_zero, List.set_cons_succ]
                  generalize World.drew _ = W1 at hHeld ⊢
                  clear hZ28 hXs
                  refine wpAnyH_ready (rs := [5]) (by kernel_rfl) (by simp) (AllReadyH.cons rfl (fun K hK2 => ?_) AllReadyH.nil)
                  rw [if_pos (by rfl)]
                  simp only [List.getElem_toArray, List.getElem_cons_succ, List.getElem_cons_zero]
                  go_wp2_with (go_at_call 21; (with_reducible refine (Deps_yes va vd vw vas vds vws da dd dw W1 hHeld.1.ra.rl hHeld.1.rv.rl hHeld.1.rx.rl hHeld.2.ra.rl hHeld.2.rv.rl hHeld.2.rx.rl).mono ?_); rintro e W2 ⟨rfl, hb⟩)
                  refine hK2.out _ _ (⟨hHeld.1.keep hb, hHeld.2.keep hb⟩) (fun hHeld2 => ?_)
                  clear hK2 K hHeld
                  have hHeld := hHeld2
                  clear hHeld2
                  try simp only [Act.put, List.getElem_toArray, List.getElem_cons_succ, List.getElem_cons_zero, List.setIfInBounds_toArray, List.set_cons_zero, List.set_cons_succ]
                  clear hb
                  refine wpAnyH_take (i := 6) (v := .bool true) rfl (by kernel_rfl) (by kernel_rfl) (by kernel_rfl) (fun _ _ _ h => h) (Or.inl ⟨by rfl, fun W _ => by go_simp⟩) hHeld ?_
                  try simp only [Act.put, List.getElem_toArray, List.getElem_cons_succ, List.getElem_cons_zero, List.setIfInBounds_toArray, List.set_cons_zero, List.set_cons_succ]
                  refine wpAnyH_take (i := 7) (v := .bool true) rfl (by kernel_rfl) (by kernel_rfl) (by kernel_rfl) (fun _ _ _ h => h) (Or.inl ⟨by rfl, fun W _ => by go_simp⟩) hHeld ?_
                  try simp only [Act.put, List.getElem_toArray, List.getElem_cons_succ, List.getElem_cons_zero, List.setIfInBounds_toArray, List.set_cons_zero, List.set_cons_succ]
                  refine wpAnyH_take (i := 8) (v := .pointer (some ⟨w28.heap.size, 32, none⟩)) rfl (by kernel_rfl) (by kernel_rfl) (by kernel_rfl) (fun _ _ _ h => h) (Or.inl ⟨by rfl, fun W _ => by kernel_rfl⟩) hHeld ?_
                  try simp only [Act.put, List.getElem_toArray, List.getElem_cons_succ, List.getElem_cons_zero, List.setIfInBounds_toArray, List.set_cons_zero, List.set_cons_succ]
                  refine wpAnyH_take (i := 9) (v := us) rfl (by kernel_rfl) (by kernel_rfl) (by kernel_rfl) (fun _ _ _ h => h) (Or.inl ⟨by rfl, fun W hS => by (have k : W.cell? ⟨w28.heap.size, 32, none⟩ = some (us) := hS.2.cx 32 us hus.out); go_simp⟩) hHeld ?_
                  try simp only [Act.put, List.getElem_toArray, List.getElem_cons_succ, List.getElem_cons_zero, List.setIfInBounds_toArray, List.set_cons_zero, List.set_cons_succ]
                  refine wpAnyH_take (i := 10) (v := .pointer (some ⟨X, 32, none⟩)) rfl (by kernel_rfl) (by kernel_rfl) (by kernel_rfl) (fun _ _ _ h => h) (Or.inl ⟨by rfl, fun W _ => by kernel_rfl⟩) hHeld ?_
                  try simp only [Act.put, List.getElem_toArray, List.getElem_cons_succ, List.getElem_cons_zero, List.setIfInBounds_toArray, List.set_cons_zero, List.set_cons_succ]
                  refine wpAnyH_take (i := 11) (v := vx) rfl (by kernel_rfl) (by kernel_rfl) (by kernel_rfl) (fun _ _ _ h => h) (Or.inl ⟨by rfl, fun W hS => by (have k : W.cell? ⟨X, 32, none⟩ = some (vx) := hS.1.cx 32 vx hx32.out); go_simp⟩) hHeld ?_
                  try simp only [Act.put, List.getElem_toArray, List.getElem_cons_succ, List.getElem_cons_zero, List.setIfInBounds_toArray, List.set_cons_zero, List.set_cons_succ]
                  refine wpAnyH_ready (rs := [12]) (by kernel_rfl) (by simp) (AllReadyH.cons rfl (fun K hK2 => ?_) AllReadyH.nil)
                  rw [if_pos (by rfl)]
                  simp only [List.getElem_toArray, List.getElem_cons_succ, List.getElem_cons_zero]
                  go_wp2_with (go_at_call 15; (with_reducible refine (Same_yesL us vx _ _ _ (hHeld.2.rl 32 us hus.out) (hHeld.1.rl 32 vx hx32.out) g32.out).mono ?_); rintro e W3 hq; obtain ⟨rfl, hb⟩ := hq.below)
                  refine hK2.out _ _ (⟨hHeld.1.keep hb, hHeld.2.keep hb⟩) (fun hHeld2 => ?_)
                  clear hK2 K hHeld
                  have hHeld := hHeld2
                  clear hHeld2
                  try simp only [Act.put, List.getElem_toArray, List.getElem_cons_succ, List.getElem_cons_zero, List.setIfInBounds_toArray, List.set_cons_zero, List.set_cons_succ]
                  clear hb
                  refine wpAnyH_take (i := 13) (v := .bool true) rfl (by kernel_rfl) (by kernel_rfl) (by kernel_rfl) (fun _ _ _ h => h) (Or.inl ⟨by rfl, fun W _ => by go_simp⟩) hHeld ?_
                  try simp only [Act.put, List.getElem_toArray, List.getElem_cons_succ, List.getElem_cons_zero, List.setIfInBounds_toArray, List.set_cons_zero, List.set_cons_succ]
                  refine wpAnyH_take (i := 14) (v := .bool true) rfl (by kernel_rfl) (by kernel_rfl) (by kernel_rfl) (fun _ _ _ h => h) (Or.inl ⟨by rfl, fun W _ => by go_simp⟩) hHeld ?_
                  try simp only [Act.put, List.getElem_toArray, List.getElem_cons_succ, List.getElem_cons_zero, List.setIfInBounds_toArray, List.set_cons_zero, List.set_cons_succ]
                  refine wpAnyH_take (i := 15) (v := .int .i64 (rdn : Int)) rfl (by kernel_rfl) (by kernel_rfl) (by kernel_rfl) (fun _ _ _ h => h) (Or.inl ⟨by rfl, fun W _ => by kernel_rfl⟩) hHeld ?_
                  try simp only [Act.put, List.getElem_toArray, List.getElem_cons_succ, List.getElem_cons_zero, List.setIfInBounds_toArray, List.set_cons_zero, List.set_cons_succ]
                  refine wpAnyH_take (i := 16) (v := .bool false) rfl (by kernel_rfl) (by kernel_rfl) (by kernel_rfl) (fun _ _ _ h => h) (Or.inl ⟨by rfl, fun W _ => by go_simp⟩) hHeld ?_
                  try simp only [Act.put, List.getElem_toArray, List.getElem_cons_succ, List.getElem_cons_zero, List.setIfInBounds_toArray, List.set_cons_zero, List.set_cons_succ]
                  refine wpAnyH_take (i := 17) (v := .bool false) rfl (by kernel_rfl) (by kernel_rfl) (by kernel_rfl) (fun _ _ _ h => h) (Or.inl ⟨by rfl, fun W _ => by go_simp⟩) hHeld ?_
                  try simp only [Act.put, List.getElem_toArray, List.getElem_cons_succ, List.getElem_cons_zero, List.setIfInBounds_toArray, List.set_cons_zero, List.set_cons_succ]
                  refine wpAnyH_take (i := 18) (v := .int .i64 (rdn : Int)) rfl (by kernel_rfl) (by kernel_rfl) (by kernel_rfl) (fun _ _ _ h => h) (Or.inl ⟨by rfl, fun W _ => by kernel_rfl⟩) hHeld ?_
                  try simp only [Act.put, List.getElem_toArray, List.getElem_cons_succ, List.getElem_cons_zero, List.setIfInBounds_toArray, List.set_cons_zero, List.set_cons_succ]
                  refine wpAnyH_take (i := 19) (v := .pointer (some ⟨w28.heap.size, 0, none⟩)) rfl (by kernel_rfl) (by kernel_rfl) (by kernel_rfl) (fun _ _ _ h => h) (Or.inl ⟨by rfl, fun W _ => by kernel_rfl⟩) hHeld ?_
                  try simp only [Act.put, List.getElem_toArray, List.getElem_cons_succ, List.getElem_cons_zero, List.setIfInBounds_toArray, List.set_cons_zero, List.set_cons_succ]
                  refine wpAnyH_take (i := 20) (v := .pointer (some ⟨w28.heap.size, rdn, none⟩)) rfl (by kernel_rfl) (by kernel_rfl) (by kernel_rfl) (fun _ _ _ h => h) (Or.inl ⟨by rfl, fun W _ => by go_simp⟩) hHeld ?_
                  try simp only [Act.put, List.getElem_toArray, List.getElem_cons_succ, List.getElem_cons_zero, List.setIfInBounds_toArray, List.set_cons_zero, List.set_cons_succ]
                  refine wpAnyH_take (i := 21) (v := usr) rfl (by kernel_rfl) (by kernel_rfl) (by kernel_rfl) (fun _ _ _ h => h) (Or.inl ⟨by rfl, fun W hS => by (have k : W.cell? ⟨w28.heap.size, rdn, none⟩ = some (usr) := hS.2.cx rdn usr husr.out); go_simp⟩) hHeld ?_
                  try simp only [Act.put, List.getElem_toArray, List.getElem_cons_succ, List.getElem_cons_zero, List.setIfInBounds_toArray, List.set_cons_zero, List.set_cons_succ]
                  refine wpAnyH_take (i := 22) (v := .int .i64 (rdn : Int)) rfl (by kernel_rfl) (by kernel_rfl) (by kernel_rfl) (fun _ _ _ h => h) (Or.inl ⟨by rfl, fun W _ => by kernel_rfl⟩) hHeld ?_
                  try simp only [Act.put, List.getElem_toArray, List.getElem_cons_succ, List.getElem_cons_zero, List.setIfInBounds_toArray, List.set_cons_zero, List.set_cons_succ]
                  refine wpAnyH_take (i := 23) (v := .pointer (some ⟨X, 0, none⟩)) rfl (by kernel_rfl) (by kernel_rfl) (by kernel_rfl) (fun _ _ _ h => h) (Or.inl ⟨by rfl, fun W _ => by kernel_rfl⟩) hHeld ?_
                  try simp only [Act.put, List.getElem_toArray, List.getElem_cons_succ, List.getElem_cons_zero, List.setIfInBounds_toArray, List.set_cons_zero, List.set_cons_succ]
                  refine wpAnyH_take (i := 24) (v := .pointer (some ⟨X, rdn, none⟩)) rfl (by kernel_rfl) (by kernel_rfl) (by kernel_rfl) (fun _ _ _ h => h) (Or.inl ⟨by rfl, fun W _ => by go_simp⟩) hHeld ?_
                  try simp only [Act.put, List.getElem_toArray, List.getElem_cons_succ, List.getElem_cons_zero, List.setIfInBounds_toArray, List.set_cons_zero, List.set_cons_succ]
                  refine wpAnyH_take (i := 25) (v := vxr) rfl (by kernel_rfl) (by kernel_rfl) (by kernel_rfl) (fun _ _ _ h => h) (Or.inl ⟨by rfl, fun W hS => by (have k : W.cell? ⟨X, rdn, none⟩ = some (vxr) := hS.1.cx rdn vxr hvxr.out); go_simp⟩) hHeld ?_
                  try simp only [Act.put, List.getElem_toArray, List.getElem_cons_succ, List.getElem_cons_zero, List.setIfInBounds_toArray, List.set_cons_zero, List.set_cons_succ]
                  refine wpAnyH_ready (rs := [26]) (by kernel_rfl) (by simp) (AllReadyH.cons rfl (fun K hK2 => ?_) AllReadyH.nil)
                  rw [if_pos (by rfl)]
                  simp only [List.getElem_toArray, List.getElem_cons_succ, List.getElem_cons_zero]
                  go_wp2_with (go_at_call 15; (with_reducible refine (Same_yesL usr vxr _ _ _ (hHeld.2.rl rdn usr husr.out) (hHeld.1.rl rdn vxr hvxr.out) hself.out).mono ?_); rintro e W4 hq; obtain ⟨rfl, hb⟩ := hq.below)
                  refine hK2.out _ _ (⟨hHeld.1.keep hb, hHeld.2.keep hb⟩) (fun hHeld2 => ?_)
                  clear hK2 K hHeld
                  have hHeld := hHeld2
                  clear hHeld2
                  try simp only [Act.put, List.getElem_toArray, List.getElem_cons_succ, List.getElem_cons_zero, List.setIfInBounds_toArray, List.set_cons_zero, List.set_cons_succ]
                  clear hb
                  refine wpAnyH_take (i := 27) (v := .bool true) rfl (by kernel_rfl) (by kernel_rfl) (by kernel_rfl) (fun _ _ _ h => h) (Or.inl ⟨by rfl, fun W _ => by go_simp⟩) hHeld ?_
                  try simp only [Act.put, List.getElem_toArray, List.getElem_cons_succ, List.getElem_cons_zero, List.setIfInBounds_toArray, List.set_cons_zero, List.set_cons_succ]
                  refine wpAnyH_take (i := 28) (v := .bool true) rfl (by kernel_rfl) (by kernel_rfl) (by kernel_rfl) (fun _ _ _ h => h) (Or.inl ⟨by rfl, fun W _ => by go_simp⟩) hHeld ?_
                  try simp only [Act.put, List.getElem_toArray, List.getElem_cons_succ, List.getElem_cons_zero, List.setIfInBounds_toArray, List.set_cons_zero, List.set_cons_succ]
                  refine wpAnyH_take (i := 29) (v := .bool true) rfl (by kernel_rfl) (by kernel_rfl) (by kernel_rfl) (fun _ _ _ h => h) (Or.inl ⟨by rfl, fun W _ => by go_simp⟩) hHeld ?_
                  try simp only [Act.put, List.getElem_toArray, List.getElem_cons_succ, List.getElem_cons_zero, List.setIfInBounds_toArray, List.set_cons_zero, List.set_cons_succ]
                  refine wpAnyH_take (i := 30) (v := .int .i64 (rn : Int)) rfl (by kernel_rfl) (by kernel_rfl) (by kernel_rfl) (fun _ _ _ h => h) (Or.inl ⟨by rfl, fun W _ => by kernel_rfl⟩) hHeld ?_
                  try simp only [Act.put, List.getElem_toArray, List.getElem_cons_succ, List.getElem_cons_zero, List.setIfInBounds_toArray, List.set_cons_zero, List.set_cons_succ]
                  refine wpAnyH_take (i := 31) (v := .int .i64 (rdn : Int)) rfl (by kernel_rfl) (by kernel_rfl) (by kernel_rfl) (fun _ _ _ h => h) (Or.inl ⟨by rfl, fun W _ => by kernel_rfl⟩) hHeld ?_
                  try simp only [Act.put, List.getElem_toArray, List.getElem_cons_succ, List.getElem_cons_zero, List.setIfInBounds_toArray, List.set_cons_zero, List.set_cons_succ]
                  refine wpAnyH_take (i := 32) (v := .bool false) rfl (by kernel_rfl) (by kernel_rfl) (by kernel_rfl) (fun _ _ _ h => h) (Or.inl ⟨by rfl, fun W _ => by go_simp⟩) hHeld ?_
                  try simp only [Act.put, List.getElem_toArray, List.getElem_cons_succ, List.getElem_cons_zero, List.setIfInBounds_toArray, List.set_cons_zero, List.set_cons_succ]
                  refine wpAnyH_take (i := 33) (v := .bool false) rfl (by kernel_rfl) (by kernel_rfl) (by kernel_rfl) (fun _ _ _ h => h) (Or.inl ⟨by rfl, fun W _ => by go_simp⟩) hHeld ?_
                  try simp only [Act.put, List.getElem_toArray, List.getElem_cons_succ, List.getElem_cons_zero, List.setIfInBounds_toArray, List.set_cons_zero, List.set_cons_succ]
                  refine wpAnyH_take (i := 34) (v := .int .i64 (rn : Int)) rfl (by kernel_rfl) (by kernel_rfl) (by kernel_rfl) (fun _ _ _ h => h) (Or.inl ⟨by rfl, fun W _ => by kernel_rfl⟩) hHeld ?_
                  try simp only [Act.put, List.getElem_toArray, List.getElem_cons_succ, List.getElem_cons_zero, List.setIfInBounds_toArray, List.set_cons_zero, List.set_cons_succ]
                  refine wpAnyH_take (i := 35) (v := .pointer (some ⟨w28.heap.size, 0, none⟩)) rfl (by kernel_rfl) (by kernel_rfl) (by kernel_rfl) (fun _ _ _ h => h) (Or.inl ⟨by rfl, fun W _ => by kernel_rfl⟩) hHeld ?_
                  try simp only [Act.put, List.getElem_toArray, List.getElem_cons_succ, List.getElem_cons_zero, List.setIfInBounds_toArray, List.set_cons_zero, List.set_cons_succ]
                  refine wpAnyH_take (i := 36) (v := .pointer (some ⟨w28.heap.size, rn, none⟩)) rfl (by kernel_rfl) (by kernel_rfl) (by kernel_rfl) (fun _ _ _ h => h) (Or.inl ⟨by rfl, fun W _ => by go_simp⟩) hHeld ?_
                  try simp only [Act.put, List.getElem_toArray, List.getElem_cons_succ, List.getElem_cons_zero, List.setIfInBounds_toArray, List.set_cons_zero, List.set_cons_succ]
                  refine wpAnyH_take (i := 37) (v := usn) rfl (by kernel_rfl) (by kernel_rfl) (by kernel_rfl) (fun _ _ _ h => h) (Or.inl ⟨by rfl, fun W hS => by (have k : W.cell? ⟨w28.heap.size, rn, none⟩ = some (usn) := hS.2.cx rn usn husn.out); go_simp⟩) hHeld ?_
                  try simp only [Act.put, List.getElem_toArray, List.getElem_cons_succ, List.getElem_cons_zero, List.setIfInBounds_toArray, List.set_cons_zero, List.set_cons_succ]
                  refine wpAnyH_take (i := 38) (v := .slice Ao lo.length co) rfl (by kernel_rfl) (by kernel_rfl) (by kernel_rfl) (fun _ _ _ h => h) (Or.inl ⟨by rfl, fun W _ => by kernel_rfl⟩) hHeld ?_
                  try simp only [Act.put, List.getElem_toArray, List.getElem_cons_succ, List.getElem_cons_zero, List.setIfInBounds_toArray, List.set_cons_zero, List.set_cons_succ]
                  refine wpAnyH_ready (rs := [39]) (by kernel_rfl) (by simp) (AllReadyH.cons rfl (fun K hK2 => ?_) AllReadyH.nil)
                  rw [if_pos (by rfl)]
                  simp only [List.getElem_toArray, List.getElem_cons_succ, List.getElem_cons_zero]
                  go_wp2_with (go_at_call 15; (with_reducible refine (Same_yesL usn (.slice Ao lo.length co) _ _ _ (hHeld.2.rl rn usn husn.out) (hbo.out _ hHeld.1) hnr.out).mono ?_); rintro e W5 hq; obtain ⟨rfl, hb⟩ := hq.below)
                  refine hK2.out _ _ (⟨hHeld.1.keep hb, hHeld.2.keep hb⟩) (fun hHeld2 => ?_)
                  clear hK2 K hHeld
                  have hHeld := hHeld2
                  clear hHeld2
                  try simp only [Act.put, List.getElem_toArray, List.getElem_cons_succ, List.getElem_cons_zero, List.setIfInBounds_toArray, List.set_cons_zero, List.set_cons_succ]
                  clear hb
                  refine wpAnyH_take (i := 40) (v := .bool true) rfl (by kernel_rfl) (by kernel_rfl) (by kernel_rfl) (fun _ _ _ h => h) (Or.inl ⟨by rfl, fun W _ => by go_simp⟩) hHeld ?_
                  try simp only [Act.put, List.getElem_toArray, List.getElem_cons_succ, List.getElem_cons_zero, List.setIfInBounds_toArray, List.set_cons_zero, List.set_cons_succ]
                  refine wpAnyH_take (i := 41) (v := .bool true) rfl (by kernel_rfl) (by kernel_rfl) (by kernel_rfl) (fun _ _ _ h => h) (Or.inl ⟨by rfl, fun W _ => by go_simp⟩) hHeld ?_
                  try simp only [Act.put, List.getElem_toArray, List.getElem_cons_succ, List.getElem_cons_zero, List.setIfInBounds_toArray, List.set_cons_zero, List.set_cons_succ]
                  refine wpAnyH_take (i := 42) (v := .bool true) rfl (by kernel_rfl) (by kernel_rfl) (by kernel_rfl) (fun _ _ _ h => h) (Or.inl ⟨by rfl, fun W _ => by go_simp⟩) hHeld ?_
                  try simp only [Act.put, List.getElem_toArray, List.getElem_cons_succ, List.getElem_cons_zero, List.setIfInBounds_toArray, List.set_cons_zero, List.set_cons_succ]
                  refine wpAnyH_done (by kernel_rfl) ?_ _
                  go_wp2_with fail
                  go_ret
                  exact ⟨rfl, hHeld.1.lf.bl⟩
/-- TaintLocal, whatever comes. -/
theorem TaintLocal_any (cs : List Value) (T : List (List Int)) (i : InsnV) (ev r : Int) (vo : Value) (lo : List Int) (w : World) (h : TS w (fun b => b < w.heap.size) cs T) (ho : RL w w.heap.size vo lo) (hop : i.op ≤ 9223372036854775807) (ht : Tabs w) :
    Calls Tryd.prog 4 #[.agg cs.toArray, .agg i.cells, .int .i64 ev, .int .i64 r, vo] w fun e w' => e = .returned (.bool true) ∧ Below w.heap.size w w' := by
  cases hl : lightT T
  · exact Local_long cs T i ev r vo lo w h ho hop ht (.inl hl)
  · by_cases hn : lo.length ≤ 60
    · exact Local_short cs T i ev r vo lo w h ho hop ht hl hn
    · exact Local_long cs T i ev r vo lo w h ho hop ht (.inr (by omega))
end Go.Proofs.YtebeajnaamglkaaDoor
