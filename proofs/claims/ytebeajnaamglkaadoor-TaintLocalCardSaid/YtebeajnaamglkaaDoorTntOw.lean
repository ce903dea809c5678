/- The walks of taint.own and taint.on. Conditions: the lists are not longer than a hundred thousand numbers. -/
import Derived.Test.YtebeajnaamglkaaDoorTntCk
set_option linter.unusedSimpArgs false
set_option linter.unusedVariables false
namespace Go.Proofs.YtebeajnaamglkaaDoor
open Go.RowKit
/-- A taint in memory of its own. -/
def OwnPost (w : World) (T : List (List Int)) (e : Ending) (w' : World) : Prop := ∃ cs', e = .returned (.agg cs'.toArray) ∧ TS w' (fun b => w.heap.size ≤ b) cs' T ∧ Below w.heap.size w w'
/-- Where own stands: its box, the result's block; the lists lie elsewhere. -/
structure OW (w W : World) (k : Nat) (T : List (List Int)) : Prop where
  box : ∃ cs', W.rangeAt w.heap.size 0 cs' ∧ TS W (fun b => b ≠ w.heap.size ∧ b ≠ w.heap.size + 1) cs' T ∧ ∀ j v l, j < k → cs'[j]? = some v → T[j]? = some l → RP W (fun b => w.heap.size + 2 ≤ b) v l
  th : W.there w.heap.size 0 33
  z : W.there (w.heap.size + 1) 0 33
  bl : Below w.heap.size w W
  lt : w.heap.size + 1 < W.heap.size
theorem OW.keep {w W W' : World} {k : Nat} {T : List (List Int)} (h : OW w W k T) (hb : Below W.heap.size W W') : OW w W' k T := by
  have hl : w.heap.size < W.heap.size := Nat.lt_of_succ_lt h.lt
  obtain ⟨cs', h1, h2, h3⟩ := h.box
  exact ⟨⟨cs', fun j v hv => by rw [hb.cell (p := ⟨w.heap.size, 0 + j, none⟩) hl]; exact h1 j v hv, h2.below hb, fun j v l hj e1 e2 => (h3 j v l hj e1 e2).below hb⟩,
    fun j hj => by rw [hb.cell (p := ⟨w.heap.size, 0 + j, none⟩) hl, hb.frozen (p := ⟨w.heap.size, 0 + j, none⟩) hl]; exact h.th j hj,
    fun j hj => by rw [hb.cell (p := ⟨w.heap.size + 1, 0 + j, none⟩) h.lt, hb.frozen (p := ⟨w.heap.size + 1, 0 + j, none⟩) h.lt]; exact h.z j hj,
    h.bl.trans (hb.mono (Nat.le_of_lt hl)), Nat.lt_of_lt_of_le h.lt hb.size⟩
theorem OW.put {w W : World} {k : Nat} {T : List (List Int)} (h : OW w W k T) {v : Value} {l : List Int} (hl : T[k]? = some l) (hv : RP W (fun b => w.heap.size + 2 ≤ b) v l) : OW w (W.setCell ⟨w.heap.size, k, none⟩ v) (k + 1) T := by
  obtain ⟨cs', h1, h2, h3⟩ := h.box
  have hk : k < 33 := by have := (List.getElem?_eq_some_iff.1 hl).1; rw [h2.lt] at this; exact this
  have hlc := h2.lc
  have hTk : T.set k l = T := List.ext_getElem? fun j => by
    by_cases e : k = j
    · subst e; rw [List.getElem?_set_self (by rw [h2.lt]; exact hk), hl]
    · rw [List.getElem?_set_ne e]
  have hc0 : W.cell? ⟨w.heap.size, k, none⟩ = some cs'[k] := by have := h1 k cs'[k] (List.getElem?_eq_getElem (by omega)); rwa [Nat.zero_add] at this
  have hS := (h2.set k v l (hv.mono fun b hb => ⟨by omega, by omega⟩)).setCell ⟨w.heap.size, k, none⟩ v (by simp)
  rw [hTk] at hS
  refine ⟨⟨cs'.set k v, fun j u hu => ?_, hS, fun j u m hj e1 e2 => ?_⟩, World.there_setCells h.th _ k [v], World.there_setCells h.z _ k [v], h.bl.setCell (Nat.le_refl _) v, by simpa using h.lt⟩
  · rw [Nat.zero_add]
    by_cases e : k = j
    · subst e
      rw [List.getElem?_set_self (by omega)] at hu
      cases hu
      exact World.cell?_setCell_same _ _ _ hc0
    · rw [List.getElem?_set_ne e] at hu
      rw [World.cell?_setCell_other _ _ _ _ (fun q => e (by injection q))]
      have := h1 j u hu
      rw [Nat.zero_add] at this; exact this
  · by_cases e : k = j
    · subst e
      rw [List.getElem?_set_self (by omega)] at e1
      rw [hl] at e2
      cases e1; cases e2
      exact hv.setCell _ _ (by simp)
    · rw [List.getElem?_set_ne e] at e1
      exact (h3 j u m (by omega) e1 e2).setCell _ _ (by simp)
theorem OW.old {w W : World} {k : Nat} {T : List (List Int)} (h : OW w W k T) (j : Nat) (hj : j < 33) : ∃ v, W.cell? ⟨w.heap.size, j, none⟩ = some v := by
  have := (h.th j hj).1
  rw [Nat.zero_add] at this
  exact Option.isSome_iff_exists.1 this
theorem OW.thaw {w W : World} {k : Nat} {T : List (List Int)} (h : OW w W k T) (j : Nat) (hj : j < 33) : W.frozen? ⟨w.heap.size, j, none⟩ = false := by
  have := (h.th j hj).2; rwa [Nat.zero_add] at this
theorem size_taint : (Tryd.prog.info? 27).map (·.size) = some 33 := by kernel_rfl
theorem size_rows : (Tryd.prog.info? 25).map (·.size) = some 32 := by kernel_rfl
theorem TS.old {w : World} {P : Nat → Prop} {cs : List Value} {T : List (List Int)} (h : TS w P cs T) : TS w (fun b => b < w.heap.size) cs T :=
  ⟨h.lc, h.lt, fun j v l h1 h2 => (h.at_ j v l h1 h2).rl.rp (Nat.le_refl _)⟩
theorem OW.start (w : World) (cs : List Value) (T : List (List Int)) (P : Nat → Prop) (Z : Array Value) (t : TypeId) (h : TS w P cs T) (hZ : Z.size = 33) : OW w ((w.alloc (.cells cs.toArray t)).alloc (.cells Z t)) 0 T ∧ ((w.alloc (.cells cs.toArray t)).alloc (.cells Z t)).rangeAt w.heap.size 0 cs := by
  have b1 : Below w.heap.size w (w.alloc (.cells cs.toArray t)) := (Below.refl _ _).alloc (Nat.le_refl _) _
  have s1 : (w.alloc (.cells cs.toArray t)).heap.size = w.heap.size + 1 := by simp
  have b2 : Below (w.heap.size + 1) (w.alloc (.cells cs.toArray t)) ((w.alloc (.cells cs.toArray t)).alloc (.cells Z t)) := (Below.refl _ _).alloc (by rw [s1]; exact Nat.le_refl _) _
  have hr : ((w.alloc (.cells cs.toArray t)).alloc (.cells Z t)).rangeAt w.heap.size 0 cs := fun j v hv => by
    rw [b2.cell (p := ⟨w.heap.size, 0 + j, none⟩) (Nat.lt_succ_self _), World.cell?_alloc_new, Nat.zero_add]; simpa using hv
  have bl : Below w.heap.size w ((w.alloc (.cells cs.toArray t)).alloc (.cells Z t)) := b1.trans (b2.mono (Nat.le_succ _))
  refine ⟨⟨⟨cs, hr, (h.old.below bl).mono fun b hb => ⟨by omega, by omega⟩, fun j v l hj => absurd hj (Nat.not_lt_zero _)⟩, fun j hj => ⟨?_, ?_⟩, fun j hj => ⟨?_, by rw [← s1]; simp [go_sem]⟩, bl, by simp⟩, hr⟩
  · have hj' : j < cs.length := by rw [h.lc]; exact hj
    rw [hr j cs[j] (List.getElem?_eq_getElem hj')]; rfl
  · rw [b2.frozen (p := ⟨w.heap.size, 0 + j, none⟩) (Nat.lt_succ_self _)]; simp [go_sem]
  · rw [← s1, World.cell?_alloc_new, Nat.zero_add]; simp [hZ]; omega
theorem res_cell_mid {P : Program} {fn : Func} {p : Tmp} {ty : TypeId} (h : fn.results = #[.cell p ty]) (tmps : Array Value) (w : World) (b : Nat) (v : Value)
    (hp : tmps.getD p undef = .pointer (some ⟨b, 0, none⟩)) (hl : (loadVar ty ⟨b, 0, none⟩).run P w = .ok v w) : (results fn tmps).run P w = .ok v w := by
  have hp' : tmps[p]?.getD undef = .pointer (some ⟨b, 0, none⟩) := by simpa using hp
  simp [results, h, hp', asAddr, hl]
theorem tn_size (b : Nat) : ∀ (vs : List Value) (o : Nat) (w : World), (w.setCells b o vs).heap.size = w.heap.size
  | [], _, _ => rfl
  | v :: r, o, w => by rw [World.setCells, tn_size b r]; simp
theorem tn_below {B a : Nat} {w : World} (ha : B ≤ a) : ∀ (vs : List Value) (o : Nat) (W : World), Below B w W → Below B w (W.setCells a o vs)
  | [], _, _, h => h
  | v :: r, o, W, h => tn_below ha r (o + 1) _ (h.setCell ha _)
theorem RP.cells {w : World} {P : Nat → Prop} {v : Value} {l : List Int} (h : RP w P v l) (b o : Nat) (vs : List Value) (hp : ¬ P b) : RP (w.setCells b o vs) P v l :=
  h.keep (fun q hq _ => World.cell?_setCells_out b vs o w q (fun e _ => absurd (e ▸ hq) hp)) (by rw [tn_size]; exact Nat.le_refl _)
theorem run_index_rows (k : Nat) (hk : k < 32) (A : Array Value) (v : Value) (hv : A[k]? = some v) (W : World) : (Instr.index 25 (.agg A) (.int .i64 k)).run Tryd.prog W = .ok v W := by
  have hu2 := Tryd.underlying25
  have h0 : (0 : Int) ≤ (k : Int) ∧ (k : Int) < ((32 : Nat) : Int) := by omega
  unfold Instr.index
  simp only [Sem.run_bind, asIntOf, Sem.run_pure, Result.andThen_ok, run_underlying hu2]
  rw [if_pos h0]
  simp only [Sem.run_bind, Tryd.sizeOf23, Result.andThen_ok]
  unfold part
  simp [Sem.run_bind, Tryd.isAgg23, hv]
set_option maxRecDepth 100000 in
set_option maxHeartbeats 8000000 in
/-- taint.own, whatever the taint. -/
theorem own_any (cs : List Value) (T : List (List Int)) (P : Nat → Prop) (w : World) (h : TS w P cs T) (hlen : ∀ l ∈ T, l.length ≤ 100000) :
    Calls Tryd.prog 26 #[.agg cs.toArray] w (OwnPost w T) := by
  have hlc := h.lc
  have hu := Tryd.underlying27
  have hu2 := Tryd.underlying25
  have hi2 : Hid ((Tryd.prog.info? 25).map (·.size) = some (cs.take 32).length) := Lib.hid (by rw [List.length_take, hlc]; exact size_rows)
  have hrow : Hid (∀ k, k < 33 → ∃ v l, cs[k]? = some v ∧ T[k]? = some l ∧ RP w P v l ∧ l.length ≤ 100000) := Lib.hid fun k hk => by
    obtain ⟨v, l, h1, h2, -, h4⟩ := h.get k hk
    exact ⟨v, l, h1, h2, h4, hlen l (List.mem_of_getElem? h2)⟩
  obtain ⟨hOW, hr1⟩ := OW.start w cs T P #[.slice none 0 0, .slice none 0 0, .slice none 0 0, .slice none 0 0, .slice none 0 0, .slice none 0 0, .slice none 0 0, .slice none 0 0, .slice none 0 0, .slice none 0 0, .slice none 0 0, .slice none 0 0, .slice none 0 0, .slice none 0 0, .slice none 0 0, .slice none 0 0, .slice none 0 0, .slice none 0 0, .slice none 0 0, .slice none 0 0, .slice none 0 0, .slice none 0 0, .slice none 0 0, .slice none 0 0, .slice none 0 0, .slice none 0 0, .slice none 0 0, .slice none 0 0, .slice none 0 0, .slice none 0 0, .slice none 0 0, .slice none 0 0, .slice none 0 0] 27 h rfl
  have hr2 : ((w.alloc (.cells cs.toArray 27)).alloc (.cells #[.slice none 0 0, .slice none 0 0, .slice none 0 0, .slice none 0 0, .slice none 0 0, .slice none 0 0, .slice none 0 0, .slice none 0 0, .slice none 0 0, .slice none 0 0, .slice none 0 0, .slice none 0 0, .slice none 0 0, .slice none 0 0, .slice none 0 0, .slice none 0 0, .slice none 0 0, .slice none 0 0, .slice none 0 0, .slice none 0 0, .slice none 0 0, .slice none 0 0, .slice none 0 0, .slice none 0 0, .slice none 0 0, .slice none 0 0, .slice none 0 0, .slice none 0 0, .slice none 0 0, .slice none 0 0, .slice none 0 0, .slice none 0 0, .slice none 0 0] 27)).rangeAt w.heap.size 0 (cs.take 32) := fun j v hv => hr1 j v (by
    have hj : j < 32 := by have := (List.getElem?_eq_some_iff.1 hv).1; rw [List.length_take] at this; omega
    rw [List.getElem?_take_of_lt hj] at hv; exact hv)
  go_enter Tryd.func26, Tryd.ntmps26
  go_upto_region 1 with fail
  generalize (w.alloc (.cells cs.toArray 27)).alloc _ = W1 at hOW hr2 ⊢
  clear hr1 h hlen
  go_wp2_with (refine wpList_load_mid rfl 25 _ rfl w.heap.size 0 rfl (cs.take 32) _ hr2 hu2 rfl hi2.out ?_)
  clear hr2 hu2 hi2
  go_loopw [7] (fun i wr => ∃ k : Nat, k ≤ 32 ∧ i = .int .i64 k ∧ OW w wr k T) (fun i _ => 32 - (intOf i).toNat)
  case atStart => exact ⟨0, Nat.zero_le _, rfl, hOW⟩
  case round =>
    obtain ⟨k, hk, rfl, hW⟩ := hrel
    by_cases hlt : k < 32
    · obtain ⟨v, l, e1, e2, e3, e4⟩ := hrow.out k (by omega)
      have e5 : (cs.take 32)[k]? = some v := by rw [List.getElem?_take_of_lt hlt]; exact e1
      have hCl : Hid (∀ W, Below w.heap.size w W → Calls Tryd.prog 28 #[v] W (NewRL W l)) := Lib.hid fun W hb => Clone_RL v l w.heap.size W (e3.rl.below hb (Nat.le_refl _)) (by omega)
      have hix : Hid (∀ W, (Instr.index 25 (.agg (cs.take 32).toArray) (.int .i64 k)).run Tryd.prog W = .ok v W) := Lib.hid fun W => run_index_rows k hlt _ v (by simpa using e5) W
      have hd : decide ((k : Int) < 32) = true := by simp; omega
      replace e2 := Lib.hid e2
      replace e5 := Lib.hid e5
      replace hlc := Lib.hid hlc
      clear e1 e3
      have hfz : wr.frozen? ⟨w.heap.size, k, none⟩ = false := by have := (hW.th k (by omega)).2; rwa [Nat.zero_add] at this
      have hix1 := hix.out wr
      go_upto_region 4 with fail
      clear hix1
      go_wp2_with (go_at_call 28; refine (hCl.out _ hW.bl).mono ?_; rintro e w4 ⟨⟨v', rfl, hr⟩, hb4⟩; obtain ⟨A', c', hve, -⟩ := hr.form; obtain rfl := hve; have hW4 := hW.keep hb4; have c4 := hW4.old k (by omega); obtain ⟨x4, c4⟩ := c4; have f4 := hW4.thaw k (by omega))
      have hW5 := hW4.put e2.out (hr.mono fun b hb => by have := hW.lt; omega)
      go_roundw
      case rel => exact ⟨k + 1, by omega, by go_num, hW5⟩
      case measure => simp [intOf]; omega
    · obtain rfl : k = 32 := by omega
      obtain ⟨cs', r1, r2, r3⟩ := hW.box
      obtain ⟨v, l, e1, e2, -, e3⟩ := r2.get 32 (by decide)
      obtain ⟨v9, l9, -, e9, -, e4⟩ := hrow.out 32 (by decide)
      obtain rfl : l = l9 := Option.some.inj (e2.symm.trans e9)
      have c32 : wr.cell? ⟨w.heap.size, 32, none⟩ = some v := by have := r1 32 v e1; rwa [Nat.zero_add] at this
      have hCl := Lib.hid (Clone_RL v l _ wr e3.rl (by omega))
      have hd : decide (((32 : Nat) : Int) < 32) = false := by simp
      replace e2 := Lib.hid e2
      clear e1 e3 e9 r1 r2 r3
      go_upto_region 6 with fail
      go_upto_region 7 with (go_at_call 28; refine hCl.out.mono ?_; rintro e w4 ⟨⟨v', rfl, hr⟩, hb4⟩; obtain ⟨A', c', hve, -⟩ := hr.form; obtain rfl := hve; have hW4 := hW.keep hb4; have c4 := hW4.old 32 (by decide); obtain ⟨x4, c4⟩ := c4; have f4 := hW4.thaw 32 (by decide))
      have hW5 := hW4.put e2.out (hr.mono fun b hb => by have := hW.lt; omega)
      generalize w4.setCell ⟨w.heap.size, 32, none⟩ _ = w5 at hW5 ⊢
      obtain ⟨cs', r1, r2, r3⟩ := hW5.box
      have hz := hW5.z
      have hlc2 := Lib.hid r2.lc
      have hs1 : Hid ((Tryd.prog.info? 27).map (·.size) = some cs'.length) := Lib.hid (by rw [r2.lc]; exact size_taint)
      have hs2 : Hid ((Tryd.prog.info? 27).map (·.size) = some cs'.toArray.size) := Lib.hid (by rw [List.size_toArray, r2.lc]; exact size_taint)
      have h1c : Hid (cs'.toArray.all (·.oneCell') = true) := Lib.hid (all_oneCell_toArray r2.one)
      clear hCl e4 hr c4 f4 c32 hW4 hb4 hW hrow e2
      go_wp2_with (first | (refine wpList_load_mid rfl 27 _ rfl w.heap.size 0 rfl cs' _ r1 hu rfl hs1.out ?_) | (refine wpList_store_mid rfl 27 _ _ rfl (w.heap.size + 1) 0 cs'.toArray rfl rfl (fun j hj => hz j (by rw [List.size_toArray, hlc2.out] at hj; exact hj)) hs2.out h1c.out ?_; generalize hW9 : w5.setCells (w.heap.size + 1) 0 cs'.toArray.toList = w9; replace hW9 := Lib.hid hW9))
      have hr9 : w9.rangeAt (w.heap.size + 1) 0 cs' := by
        rw [← hW9.out]
        exact World.rangeAt_setCells_same _ _ _ _ (by rw [hlc2.out]; exact hz)
      have hlv := run_loadVar_mid w9 (w.heap.size + 1) 0 27 cs' _ hr9 hu rfl hs1.out
      refine bodyPost_ret (v := .agg cs'.toArray) (res_cell_mid Tryd.results26 _ _ _ _ rfl hlv) rfl ⟨cs', rfl, ⟨r2.lc, r2.lt, fun j v l q1 q2 => ?_⟩, ?_⟩
      · have hj : j < 33 := by have := (List.getElem?_eq_some_iff.1 q2).1; rw [r2.lt] at this; exact this
        rw [← hW9.out]
        exact ((r3 j v l hj q1 q2).cells (w.heap.size + 1) 0 _ (by omega)).mono fun b hb => by omega
      · rw [← hW9.out]; exact tn_below (Nat.le_succ _) _ _ _ hW5.bl
end Go.Proofs.YtebeajnaamglkaaDoor
