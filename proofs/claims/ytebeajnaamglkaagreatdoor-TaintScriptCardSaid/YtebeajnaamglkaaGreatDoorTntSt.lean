/- The walk of taint.Step. Conditions: the lists are not longer than a hundred thousand numbers. -/
import Derived.Test.YtebeajnaamglkaaGreatDoorTntSd
import Derived.Test.YtebeajnaamglkaaGreatDoorFieldsPl
import Derived.Deep.DeepCutAuto
import Derived.Deep.RegionHeld
set_option linter.unusedSimpArgs false
set_option linter.unusedVariables false
namespace Go.Proofs.YtebeajnaamglkaaGreatDoor
open Go.RowKit
def StepPost (w : World) (T : List (List Int)) (da dd dw : List Int) (e : Ending) (w' : World) : Prop := ∃ cs' va vd vw, e = .returned (.tuple #[.agg cs'.toArray, .agg #[va, vd, vw], .int .i64 0]) ∧
  TS w' (fun b => w.heap.size ≤ b) cs' T ∧ RP w' (fun b => w.heap.size ≤ b) va da ∧ RP w' (fun b => w.heap.size ≤ b) vd dd ∧ RP w' (fun b => w.heap.size ≤ b) vw dw ∧ Below w.heap.size w w'
theorem new_block (W : World) (cs : Array Value) (t : TypeId) : (W.alloc (.cells cs t)).rangeAt W.heap.size 0 cs.toList ∧ (W.alloc (.cells cs t)).there W.heap.size 0 cs.size ∧ Below W.heap.size W (W.alloc (.cells cs t)) ∧ (W.alloc (.cells cs t)).heap.size = W.heap.size + 1 :=
  ⟨fun j v hv => by rw [World.cell?_alloc_new, Nat.zero_add]; simpa using hv, fun j hj => ⟨by rw [World.cell?_alloc_new, Nat.zero_add]; simp; omega, by simp [go_sem]⟩, (Below.refl _ _).alloc (Nat.le_refl _) _, by simp⟩
/-- The four blocks at Step's beginning. -/
structure S0 (w W : World) (cs ics : List Value) : Prop where
  r0 : W.rangeAt w.heap.size 0 cs
  th : W.there w.heap.size 0 33
  ib : W.rangeAt (w.heap.size + 1) 0 ics
  z6 : W.there (w.heap.size + 2) 0 33
  z7 : W.there (w.heap.size + 3) 0 3
  bl : Below w.heap.size w W
  lt : w.heap.size + 3 < W.heap.size
theorem S0.keep {w W W' : World} {cs ics : List Value} (h : S0 w W cs ics) (hb : Below W.heap.size W W') : S0 w W' cs ics :=
  have hl := h.lt
  ⟨tn_range h.r0 (by omega) hb, tn_there h.th (by omega) hb, tn_range h.ib (by omega) hb, tn_there h.z6 (by omega) hb, tn_there h.z7 (by omega) hb, h.bl.trans (hb.mono (by omega)), Nat.lt_of_lt_of_le h.lt hb.size⟩
theorem S0.start (w : World) (A B C D : Array Value) (t1 t2 t3 t4 : TypeId) (hA : A.size = 33) (hC : C.size = 33) (hD : D.size = 3) :
    S0 w ((((w.alloc (.cells A t1)).alloc (.cells B t2)).alloc (.cells C t3)).alloc (.cells D t4)) A.toList B.toList := by
  obtain ⟨a1, a2, a3, a4⟩ := new_block w A t1
  generalize w.alloc (.cells A t1) = W1 at *
  obtain ⟨b1, b2, b3, b4⟩ := new_block W1 B t2
  generalize W1.alloc (.cells B t2) = W2 at *
  obtain ⟨c1, c2, c3, c4⟩ := new_block W2 C t3
  generalize W2.alloc (.cells C t3) = W3 at *
  obtain ⟨d1, d2, d3, d4⟩ := new_block W3 D t4
  generalize W3.alloc (.cells D t4) = W4 at *
  rw [hA] at a2
  rw [hC] at c2
  rw [hD] at d2
  have e1 : W1.heap.size = w.heap.size + 1 := a4
  have e2 : W2.heap.size = w.heap.size + 2 := by omega
  have e3 : W3.heap.size = w.heap.size + 3 := by omega
  have b3' : Below W1.heap.size W1 W2 := b3
  refine ⟨tn_range (tn_range (tn_range a1 (by omega) b3) (by omega) c3) (by omega) d3, tn_there (tn_there (tn_there a2 (by omega) b3) (by omega) c3) (by omega) d3, ?_, ?_, ?_,
    ((a3.trans (b3.mono (by omega))).trans (c3.mono (by omega))).trans (d3.mono (by omega)), by omega⟩
  · rw [← e1]; exact tn_range (tn_range b1 (by omega) c3) (by omega) d3
  · rw [← e2]; exact tn_there c2 (by omega) d3
  · rw [← e3]; exact d2
/-- A taint stored whole into the box. -/
theorem S0.fill {w W : World} {cs ics c' : List Value} (h : S0 w W cs ics) (hl : c'.length = 33) : S0 w (W.setCells w.heap.size 0 c') c' ics :=
  ⟨World.rangeAt_setCells_same _ _ _ _ (by rw [hl]; exact h.th), World.there_setCells h.th _ _ _, World.rangeAt_setCells_apart h.ib _ _ _ (.inl (by omega)), World.there_setCells h.z6 _ _ _, World.there_setCells h.z7 _ _ _, tn_below (Nat.le_refl _) _ _ _ h.bl, by rw [tn_size]; exact h.lt⟩
theorem TS.cells {w : World} {P : Nat → Prop} {cs : List Value} {T : List (List Int)} (h : TS w P cs T) (b o : Nat) (vs : List Value) (hp : ¬ P b) : TS (w.setCells b o vs) P cs T :=
  ⟨h.lc, h.lt, fun j v l h1 h2 => (h.at_ j v l h1 h2).cells b o vs hp⟩
theorem SD.start {w W : World} {cs ics : List Value} {T : List (List Int)} (h : S0 w W cs ics) (hT : TS W (fun b => w.heap.size + 4 ≤ b) cs T) {v : Value} {dw : List Int} (hv : RP W (fun b => w.heap.size + 4 ≤ b) v dw) (t : TypeId) :
    SD w (W.alloc (.cells #[.slice none 0 0, .slice none 0 0, v] t)) ics W.heap.size T [] [] dw := by
  obtain ⟨d1, d2, d3, d4⟩ := new_block W #[.slice none 0 0, .slice none 0 0, v] t
  have hl := h.lt
  have key : ∀ {u : Value} {l : List Int}, RP W (fun b => w.heap.size + 4 ≤ b) u l → RP (W.alloc (.cells #[.slice none 0 0, .slice none 0 0, v] t)) (fun b => w.heap.size + 4 ≤ b ∧ b ≠ W.heap.size) u l := fun hu => by
    obtain ⟨A, c, rfl, q1, q2, q3⟩ := hu.form
    refine ⟨⟨A, c, rfl, q1, q2, q3.imp id ?_⟩⟩
    rintro ⟨b, o, rfl, p1, p2, p3⟩
    exact ⟨b, o, rfl, ⟨p1, by omega⟩, by omega, fun j x hx => (d3.cell (p := ⟨b, o + j, none⟩) p2).trans (p3 j x hx)⟩
  have h2 := h.keep d3
  exact ⟨⟨cs, h2.r0, ⟨hT.lc, hT.lt, fun j u l e1 e2 => key (hT.at_ j u l e1 e2)⟩⟩, h2.th, h2.ib, h2.z6, h2.z7, d2, ⟨_, _, _, d1, RP.nil _ _, RP.nil _ _, key hv⟩, h2.bl, h2.lt, by omega, by omega⟩
theorem RL.lit (W : World) (r : Int) (t : TypeId) : RL (W.alloc (.cells #[.int .i64 r] t)) (W.alloc (.cells #[.int .i64 r] t)).heap.size (.slice (some ⟨W.heap.size, 0, none⟩) 1 1) [r] :=
  ⟨⟨_, 1, rfl, Nat.le_refl _, by simp [maxLen], .inr ⟨_, _, rfl, by simp, fun j x hx => by rw [World.cell?_alloc_new, Nat.zero_add]; rcases j with _ | j <;> simp at hx ⊢; exact hx⟩⟩⟩
theorem SD.on {w W : World} {cs : List Value} {D : Nat} {T : List (List Int)} {da dd dw : List Int} (h : SD w W cs D T da dd dw) (hlen : ∀ l ∈ T, l.length ≤ 100000) (v : Value) (rs : List Int) (hv : RL W W.heap.size v rs) (hrs : ∀ r ∈ rs, 0 ≤ r ∧ r < 32) (hn : rs.length ≤ 4) :
    Calls Tryz.prog 31 #[.pointer (some ⟨w.heap.size, 0, none⟩), v] W (NewRL W (onL T rs)) := by
  obtain ⟨c', t1, t2⟩ := h.tb
  exact on_any w.heap.size c' T _ v rs W t1 (by have := h.lt; omega) t2 hlen hv hrs hn
theorem SD.cellD {w W : World} {cs : List Value} {D : Nat} {T : List (List Int)} {da dd dw : List Int} (h : SD w W cs D T da dd dw) (j : Nat) (hj : j < 3) : (∃ v, W.cell? ⟨D, j, none⟩ = some v) ∧ W.frozen? ⟨D, j, none⟩ = false := by
  have := h.dt j hj
  rw [Nat.zero_add] at this
  exact ⟨Option.isSome_iff_exists.1 this.1, this.2⟩
theorem SD.cellT {w W : World} {cs : List Value} {D : Nat} {T : List (List Int)} {da dd dw : List Int} (h : SD w W cs D T da dd dw) (j : Nat) (hj : j < 33) : (∃ v, W.cell? ⟨w.heap.size, j, none⟩ = some v) ∧ W.frozen? ⟨w.heap.size, j, none⟩ = false := by
  have := h.th j hj
  rw [Nat.zero_add] at this
  exact ⟨Option.isSome_iff_exists.1 this.1, this.2⟩
theorem SD.cellI {w W : World} {cs : List Value} {D : Nat} {T : List (List Int)} {da dd dw : List Int} (h : SD w W cs D T da dd dw) (j : Nat) (v : Value) (hj : cs[j]? = some v) : W.cell? ⟨w.heap.size + 1, j, none⟩ = some v := by
  have := h.ib j v hj; rwa [Nat.zero_add] at this
theorem reads_regs (i : InsnV) (h : checkE i = 0) : (∀ r ∈ readsP i, 0 ≤ r ∧ r < 32) ∧ (readsP i).length ≤ 2 := by
  rcases reads_form i h with e | ⟨x, e, h1, h2, -⟩ | ⟨x, y, e, h1, h2, h3, -⟩
  · rw [e]; exact ⟨fun r hr => by simp at hr, by simp⟩
  · rw [e]; exact ⟨fun r hr => by simp at hr; omega, by simp⟩
  · rw [e]; exact ⟨fun r hr => by simp at hr; omega, by simp⟩
theorem onF_len (T : List (List Int)) (h : ∀ l ∈ T, l.length ≤ 100000) : ∀ (rs acc : List Int), (onF T acc rs).length ≤ acc.length + rs.length * 100000
  | [], acc => by simp [onF]
  | r :: rs, acc => by
    have h1 := onF_len T h rs (mergeL acc (T.getD r.toNat []))
    have h2 := mergeL_len acc (T.getD r.toNat [])
    have h3 : (T.getD r.toNat []).length ≤ 100000 := by
      rw [List.getD_eq_getElem?_getD]
      cases e : T[r.toNat]? with
      | none => simp
      | some l => simpa using h l (List.mem_of_getElem? e)
    show (onF T (mergeL acc (T.getD r.toNat [])) rs).length ≤ _
    simp only [List.length_cons]
    omega
theorem set_same (T : List (List Int)) (k : Nat) (l : List Int) (h : T[k]? = some l) : T.set k l = T := List.ext_getElem? fun j => by
  by_cases e : k = j
  · subst e; rw [List.getElem?_set_self (List.getElem?_eq_some_iff.1 h).1, h]
  · rw [List.getElem?_set_ne e]
theorem RP.lit {w W : World} {cs : List Value} {D : Nat} {T : List (List Int)} {da dd dw : List Int} (h : SD w W cs D T da dd dw) (r : Int) (t : TypeId) : RP (W.alloc (.cells #[.int .i64 r] t)) (fun b => w.heap.size + 4 ≤ b ∧ b ≠ D) (.slice (some ⟨W.heap.size, 0, none⟩) 1 1) [r] :=
  ⟨⟨_, 1, rfl, Nat.le_refl _, by simp [maxLen], .inr ⟨_, _, rfl, by have := h.lt; have := h.dhi; omega, by simp, fun j x hx => by rw [World.cell?_alloc_new, Nat.zero_add]; rcases j with _ | j <;> simp at hx ⊢; exact hx⟩⟩⟩
/-- Step's end: both blocks that are read, by their cells. -/
structure SE (w W : World) (D : Nat) (c' : List Value) (va vd vw : Value) (T : List (List Int)) (da dd dw : List Int) : Prop where
  r0 : W.rangeAt w.heap.size 0 c'
  hT : TS W (fun b => w.heap.size + 4 ≤ b ∧ b ≠ D) c' T
  rD : W.rangeAt D 0 [va, vd, vw]
  pa : RP W (fun b => w.heap.size + 4 ≤ b ∧ b ≠ D) va da
  pd : RP W (fun b => w.heap.size + 4 ≤ b ∧ b ≠ D) vd dd
  pw : RP W (fun b => w.heap.size + 4 ≤ b ∧ b ≠ D) vw dw
  z6 : W.there (w.heap.size + 2) 0 33
  z7 : W.there (w.heap.size + 3) 0 3
  bl : Below w.heap.size w W
  dlo : w.heap.size + 4 ≤ D
theorem SD.se {w W : World} {cs : List Value} {D : Nat} {T : List (List Int)} {da dd dw : List Int} (h : SD w W cs D T da dd dw) : ∃ c' va vd vw, SE w W D c' va vd vw T da dd dw := by
  obtain ⟨c', t1, t2⟩ := h.tb
  obtain ⟨va, vd, vw, d1, d2, d3, d4⟩ := h.db
  exact ⟨c', va, vd, vw, t1, t2, d1, d2, d3, d4, h.z6, h.z7, h.bl, h.dlo⟩
theorem SE.drew {w W : World} {D : Nat} {c' : List Value} {va vd vw : Value} {T : List (List Int)} {da dd dw : List Int} (h : SE w W D c' va vd vw T da dd dw) : SE w W.drew D c' va vd vw T da dd dw :=
  ⟨h.r0, ⟨h.hT.lc, h.hT.lt, fun j v l e1 e2 => ⟨(h.hT.at_ j v l e1 e2).form⟩⟩, h.rD, ⟨h.pa.form⟩, ⟨h.pd.form⟩, ⟨h.pw.form⟩, h.z6, h.z7, h.bl.drew, h.dlo⟩
theorem SE.fill {w W : World} {D : Nat} {c' : List Value} {va vd vw : Value} {T : List (List Int)} {da dd dw : List Int} (h : SE w W D c' va vd vw T da dd dw) (X : Nat) (hX : X = w.heap.size + 2 ∨ X = w.heap.size + 3) (vs : List Value) : SE w (W.setCells X 0 vs) D c' va vd vw T da dd dw := by
  have hD := h.dlo
  have hp : ¬ (w.heap.size + 4 ≤ X ∧ X ≠ D) := by omega
  exact ⟨World.rangeAt_setCells_apart h.r0 _ _ _ (.inl (by omega)), h.hT.cells _ _ _ hp, World.rangeAt_setCells_apart h.rD _ _ _ (.inl (by omega)), h.pa.cells _ _ _ hp, h.pd.cells _ _ _ hp, h.pw.cells _ _ _ hp,
    World.there_setCells h.z6 _ _ _, World.there_setCells h.z7 _ _ _, tn_below (by omega) _ _ _ h.bl, hD⟩
theorem SE.one {w W : World} {D : Nat} {c' : List Value} {va vd vw : Value} {T : List (List Int)} {da dd dw : List Int} (h : SE w W D c' va vd vw T da dd dw) : ∀ v ∈ [va, vd, vw], v.oneCell' = true := fun v hv => by
  simp at hv
  rcases hv with rfl | rfl | rfl
  · exact h.pa.one
  · exact h.pd.one
  · exact h.pw.one
theorem res_3 {P : Program} {fn : Func} {p q s : Tmp} {t1 t2 : TypeId} (h : fn.results = #[.cell p t1, .cell q t2, .tmp s]) (tmps : Array Value) (w : World) (b1 b2 : Nat) (v1 v2 v3 : Value)
    (hp : tmps.getD p undef = .pointer (some ⟨b1, 0, none⟩)) (hq : tmps.getD q undef = .pointer (some ⟨b2, 0, none⟩)) (hs : tmps.getD s undef = v3) (hl1 : (loadVar t1 ⟨b1, 0, none⟩).run P w = .ok v1 w) (hl2 : (loadVar t2 ⟨b2, 0, none⟩).run P w = .ok v2 w) :
    (results fn tmps).run P w = .ok (.tuple #[v1, v2, v3]) w := by
  have hp' : tmps[p]?.getD undef = .pointer (some ⟨b1, 0, none⟩) := by simpa using hp
  have hq' : tmps[q]?.getD undef = .pointer (some ⟨b2, 0, none⟩) := by simpa using hq
  have hs' : tmps[s]?.getD undef = v3 := by simpa using hs
  simp [results, h, hp', hq', hs', asAddr, hl1, hl2]
theorem size_deps : (Tryz.prog.info? 35).map (·.size) = some 3 := by kernel_rfl
set_option maxRecDepth 100000 in
set_option maxHeartbeats 32000000 in
theorem Step_ok (cs : List Value) (T : List (List Int)) (P : Nat → Prop) (i : InsnV) (ev : Int) (w : World) (h : TS w P cs T) (hlen : ∀ l ∈ T, l.length ≤ 100000) (hE : taintE T = 0) (hc : checkE i = 0) (hev : -1 ≤ ev) (hop : i.op ≤ 9223372036854775807) (ht : Tabs w) :
    Calls Tryz.prog 9 #[.agg cs.toArray, .agg i.cells, .int .i64 ev] w (StepPost w (stepT T i ev) (addrT T i) (dataT T i) (T.getD 32 [])) := by
  have hu := Tryz.underlying28
  have hui := Tryz.underlying33
  have hlc := h.lc
  have hS := S0.start w cs.toArray i.cells #[.slice none 0 0, .slice none 0 0, .slice none 0 0, .slice none 0 0, .slice none 0 0, .slice none 0 0, .slice none 0 0, .slice none 0 0, .slice none 0 0, .slice none 0 0, .slice none 0 0, .slice none 0 0, .slice none 0 0, .slice none 0 0, .slice none 0 0, .slice none 0 0, .slice none 0 0, .slice none 0 0, .slice none 0 0, .slice none 0 0, .slice none 0 0, .slice none 0 0, .slice none 0 0, .slice none 0 0, .slice none 0 0, .slice none 0 0, .slice none 0 0, .slice none 0 0, .slice none 0 0, .slice none 0 0, .slice none 0 0, .slice none 0 0, .slice none 0 0] #[.slice none 0 0, .slice none 0 0, .slice none 0 0] 28 33 28 35 (by rw [List.size_toArray]; exact hlc) rfl rfl
  obtain ⟨ics, hics⟩ : ∃ l, l = i.cells.toList := ⟨_, rfl⟩
  have hs1 : Hid ((Tryz.prog.info? 28).map (·.size) = some cs.length) := Lib.hid (by rw [hlc]; exact size_taint)
  have hs2 : Hid ((Tryz.prog.info? 33).map (·.size) = some ics.length) := Lib.hid (by rw [hics]; kernel_rfl)
  have hKT := Lib.hid (fun W h2 => TCheck_any cs T P W h2)
  rw [hE] at hKT
  have hKI := Lib.hid (fun W hW => Check_any i hop W hW)
  rw [hc] at hKI
  have hOw := Lib.hid (fun W h2 => own_any cs T P W h2 hlen)
  have hMe := Lib.hid (fun W hW => Memory_any i.op hop W hW)
  have hFo := Lib.hid (fun W hW => Form_any i.op hop W hW)
  have hWr := Lib.hid (fun W hW => Writes_any i hop W hW)
  have hRe := Lib.hid (fun W hW => IReads_any i hop W hW)
  rw [if_pos hc] at hWr hRe
  have k0 : Hid (ics[0]? = some (.int .i64 i.op)) := Lib.hid (by rw [hics]; rfl)
  have k2 : Hid (ics[2]? = some (.int .i64 i.rs1)) := Lib.hid (by rw [hics]; rfl)
  have k3 : Hid (ics[3]? = some (.int .i64 i.rs2)) := Lib.hid (by rw [hics]; rfl)
  have hia : Hid (i.cells = ics.toArray) := Lib.hid (by rw [hics])
  rw [← hics] at hS
  rw [List.toList_toArray] at hS
  rw [hia.out] at hKI hWr hRe hS ⊢
  have hTS := h.below hS.bl
  obtain ⟨T', hT'⟩ : ∃ x, stepT T i ev = x := ⟨_, rfl⟩
  obtain ⟨da, hda⟩ : ∃ x, addrT T i = x := ⟨_, rfl⟩
  obtain ⟨dd, hdd⟩ : ∃ x, dataT T i = x := ⟨_, rfl⟩
  obtain ⟨dw, hdw⟩ : ∃ x, T.getD 32 [] = x := ⟨_, rfl⟩
  rw [hT', hda, hdd, hdw]
  replace hT' := Lib.hid hT'
  replace hda := Lib.hid hda
  replace hdd := Lib.hid hdd
  replace hdw := Lib.hid hdw
  have hev2 : decide (ev < -1) = false := by simp; omega
  clear hics
  go_enter Tryz.func9, Tryz.ntmps9
  go_upto_region 1 with fail
  generalize World.alloc _ (.cells #[.slice none 0 0, .slice none 0 0, .slice none 0 0] 35) = W1 at hS hTS ⊢
  go_upto_region 3 with (first | (refine wpList_load_midG 28 _ rfl (by rfl) w.heap.size 0 rfl cs _ hS.r0 hu rfl hs1.out ?_) | (refine wpList_load_midG 33 _ rfl (by rfl) (w.heap.size + 1) 0 rfl ics _ hS.ib hui rfl hs2.out ?_) | (go_at_call 13; refine (hKT.out _ hTS).mono ?_; rintro e w2 ⟨rfl, hb2⟩; replace hS := hS.keep hb2; replace hTS := hTS.below hb2; clear hb2) | (go_at_call 27; refine (hKI.out _ (ht.later hS.bl (Nat.le_refl _))).mono ?_; rintro e w3 ⟨rfl, hb3⟩; replace hS := hS.keep hb3; replace hTS := hTS.below hb3; clear hb3))
  have hb0 := hS.lt
  go_upto_region 4 with (first | (refine wpList_load_midG 28 _ rfl (by rfl) w.heap.size 0 rfl cs _ hS.r0 hu rfl hs1.out ?_) | (go_at_call 28; refine (hOw.out _ hTS).mono ?_; rintro e w4 ⟨c', rfl, hT4, hb4⟩; have hS4 := hS.keep hb4; have hl4 := hT4.lc; have hn4 := Lib.hid hl4; have hs4 : Hid ((Tryz.prog.info? 28).map (·.size) = some c'.toArray.size) := Lib.hid (by rw [List.size_toArray, hl4]; exact size_taint); have h14 : Hid (c'.toArray.all (·.oneCell') = true) := Lib.hid (all_oneCell_toArray hT4.one)) | (refine wpList_store_mid rfl 28 _ _ rfl w.heap.size 0 c'.toArray rfl rfl (fun j hj => hS4.th j (by rw [List.size_toArray, hn4.out] at hj; exact hj)) hs4.out h14.out ?_; generalize hW5 : w4.setCells w.heap.size 0 c'.toArray.toList = w5; replace hW5 := Lib.hid hW5))
  have hS5 : S0 w w5 c' ics := by rw [← hW5.out]; exact hS4.fill hn4.out
  have hT5 : TS w5 (fun b => w.heap.size + 4 ≤ b) c' T := by rw [← hW5.out]; exact (hT4.mono fun b hb => by omega).cells _ _ _ (by omega)
  clear hS4 hT4 hb4 hs4 h14 hW5 hl4 hS hTS hs1 hOw hKT hKI
  obtain ⟨ld, hld⟩ : ∃ x, (opOf i.op).loads = x := ⟨_, rfl⟩
  obtain ⟨st, hst⟩ : ∃ x, (opOf i.op).stores = x := ⟨_, rfl⟩
  obtain ⟨f, hfm⟩ : ∃ x, (opOf i.op).form = x := ⟨_, rfl⟩
  rw [hld, hst] at hMe
  rw [hfm] at hFo
  replace hld := Lib.hid hld
  replace hst := Lib.hid hst
  replace hfm := Lib.hid hfm
  obtain ⟨q1, g1⟩ : ∃ b, (f == 1) = b := ⟨_, rfl⟩
  obtain ⟨q2, g2⟩ : ∃ b, (f == 2) = b := ⟨_, rfl⟩
  obtain ⟨q6, g6⟩ : ∃ b, (f == 6) = b := ⟨_, rfl⟩
  obtain ⟨q4, g4⟩ : ∃ b, (i.op == 4) = b := ⟨_, rfl⟩
  obtain ⟨J, hJ⟩ : ∃ b, (q2 || q4) = b := ⟨_, rfl⟩
  obtain ⟨G, hG⟩ : ∃ b, (q6 || q4) = b := ⟨_, rfl⟩
  have hGd : Hid ((f == 6 || i.op == 4) = G) := Lib.hid (by rw [g6, g4]; exact hG)
  have hJd : Hid ((f == 2 || i.op == 4) = J) := Lib.hid (by rw [g2, g4]; exact hJ)
  have g1d := Lib.hid g1
  replace hJ := Lib.hid hJ
  replace hG := Lib.hid hG
  have c0 : w5.cell? ⟨w.heap.size + 1, 0, none⟩ = some (.int .i64 i.op) := by have := hS5.ib 0 _ k0.out; rwa [Nat.zero_add] at this
  go_upto_region 5 with (go_at_call 29; refine (hMe.out _ (ht.later hS5.bl (Nat.le_refl _))).mono ?_; rintro e w6 ⟨rfl, hb6⟩)
  have hS6 := hS5.keep hb6
  have hT6 := hT5.below hb6
  clear hS5 hT5 hb6 c0 hMe
  obtain ⟨v32, l32, e1, e2, e3, e4⟩ := hT6.get 32 (by decide)
  obtain rfl : l32 = dw := e3.symm.trans hdw.out
  have c32 : w6.cell? ⟨w.heap.size, 32, none⟩ = some v32 := by have := hS6.r0 32 _ e1; rwa [Nat.zero_add] at this
  have hCl := Lib.hid (Clone_RL v32 l32 _ w6 e4.rl (by have := hlen l32 (List.mem_of_getElem? e2); omega))
  clear e1 e2 e3 e4
  go_upto_region 6 with (go_at_call 30; refine hCl.out.mono ?_; rintro e w7 ⟨⟨v', rfl, hr7⟩, hb7⟩; obtain ⟨A7, c7, hve, -⟩ := hr7.form; obtain rfl := hve)
  have hS7 := hS6.keep hb7
  have hT7 := hT6.below hb7
  have hD := SD.start hS7 hT7 (hr7.mono fun b hb => by have := hS6.lt; omega) 35
  have hl6 := hS6.lt
  generalize w7.alloc (.cells #[.slice none 0 0, .slice none 0 0, .slice A7 l32.length c7] 35) = w8 at hD ⊢
  generalize w7.heap.size = D at hD ⊢
  clear hS6 hS7 hT6 hT7 hCl c32 hr7 hb7 hl6
  have hrg := ok_facts i hc
  have hr1 : Hid (∀ r ∈ [i.rs1], 0 ≤ r ∧ r < 32) := Lib.hid fun r hr => by rw [List.mem_singleton.1 hr]; have := hrg.2.1; omega
  have hr2 : Hid (∀ r ∈ [i.rs2], 0 ≤ r ∧ r < 32) := Lib.hid fun r hr => by rw [List.mem_singleton.1 hr]; have := hrg.2.2.1; omega
  have hda2 : Hid (da = if ld || st then onL T [i.rs1] else []) := Lib.hid (by rw [← hda.out, ← hld.out, ← hst.out]; rfl)
  have hdd2 : Hid (dd = if st then onL T [i.rs2] else []) := Lib.hid (by rw [← hdd.out, ← hst.out]; rfl)
  clear hrg
  go_cut [47] (fun s wx => s = .bool (ld || st) ∧ w8 = wx)
  case first =>
    cases ld <;> cases st <;> (go_wp2_with fail; go_meet; exact ⟨rfl, rfl⟩)
  case rest =>
  obtain ⟨rfl, rfl⟩ := hcut
  go_upto_if 47 with fail
  go_cut [51] (fun _ wx => SD w wx ics D T da [] l32)
  case first =>
    cases hm : (ld || st)
    · have hda3 : Hid (da = []) := Lib.hid (by rw [hda2.out, hm]; rfl)
      go_wp2_with fail
      go_meet
      rw [hda3.out]
      exact hD
    · have hda3 : Hid (da = onL T [i.rs1]) := Lib.hid (by rw [hda2.out, hm]; rfl)
      have c2 := hD.cellI 2 _ k2.out
      have hD9 := hD.keep ((Below.refl _ w8).alloc (Nat.le_refl _) (.cells #[.int .i64 i.rs1] 3))
      have hOn := Lib.hid (hD9.on hlen _ _ (RL.lit w8 i.rs1 3) hr1.out (by simp))
      go_wp2_with (go_at_call 31; refine hOn.out.mono ?_; rintro e w10 ⟨⟨v', rfl, hr10⟩, hb10⟩; obtain ⟨A10, c10, hve, -⟩ := hr10.form; obtain rfl := hve; have hD10 := hD9.keep hb10; obtain ⟨⟨x10, cD⟩, fD⟩ := hD10.cellD 0 (by decide))
      go_meet
      rw [hda3.out]
      exact hD10.putA (hD9.fresh hr10)
  case rest =>
  clear hD
  have hD := hcut
  clear hcut
  go_upto_if 53 with fail
  go_cut [57] (fun _ wx => SD w wx ics D T da dd l32)
  case first =>
    cases st
    · have hdd3 : Hid (dd = []) := Lib.hid (by rw [hdd2.out]; rfl)
      go_wp2_with fail
      go_meet
      rw [hdd3.out]
      exact hD
    · have hdd3 : Hid (dd = onL T [i.rs2]) := Lib.hid (by rw [hdd2.out]; rfl)
      have c3 := hD.cellI 3 _ k3.out
      have hD9 := hD.keep ((Below.refl _ wc).alloc (Nat.le_refl _) (.cells #[.int .i64 i.rs2] 3))
      have hOn := Lib.hid (hD9.on hlen _ _ (RL.lit wc i.rs2 3) hr2.out (by simp))
      go_wp2_with (go_at_call 31; refine hOn.out.mono ?_; rintro e w10 ⟨⟨v', rfl, hr10⟩, hb10⟩; obtain ⟨A10, c10, hve, -⟩ := hr10.form; obtain rfl := hve; have hD10 := hD9.keep hb10; obtain ⟨⟨x10, cD⟩, fD⟩ := hD10.cellD 1 (by decide))
      go_meet
      rw [hdd3.out]
      exact hD10.putD (hD9.fresh hr10)
  case rest =>
  clear hD
  have hD := hcut
  clear hcut
  obtain ⟨w9, rfl⟩ : ∃ x, x = wc := ⟨_, rfl⟩
  obtain ⟨R, hR⟩ : ∃ x, readT T i = x := ⟨_, rfl⟩
  have hrp := Lib.hid (reads_regs i hc)
  replace hR := Lib.hid hR
  go_upto_region 11 with (first | (refine wpList_load_midG 33 _ rfl (by rfl) (w.heap.size + 1) 0 rfl ics _ hD.ib hui rfl hs2.out ?_) | (go_at_call 32; refine (hRe.out _ (ht.later hD.bl (Nat.le_refl _))).mono ?_; rintro e w11 ⟨v11, rfl, hv11, hb11⟩; have hD11 := hD.keep hb11; have hOn := Lib.hid (hD11.on hlen v11 _ hv11 hrp.out.1 (by have := hrp.out.2; omega))) | (go_at_call 31; refine hOn.out.mono ?_; rintro e w12 ⟨⟨v12, rfl, hr12⟩, hb12⟩; obtain ⟨A12, c12, hve, -⟩ := hr12.form; obtain rfl := hve; have hD12 := hD11.keep hb12))
  have hrd := hD11.fresh hr12
  rw [show onL T (readsP i) = R from hR.out] at hrd ⊢
  clear hD hD11 hOn hv11 hb11 hr12 hb12 hRe
  have c0 := hD12.cellI 0 _ k0.out
  go_upto_region 12 with (go_at_call 33; refine (hFo.out _ (ht.later hD12.bl (Nat.le_refl _))).mono ?_; rintro e w13 ⟨rfl, hb13⟩)
  have hD := hD12.keep hb13
  replace hrd := hrd.below hb13
  clear hD12 hb13 c0 hFo
  have c0 := hD.cellI 0 _ k0.out
  go_cut [15] (fun s wx => s = .bool J ∧ w13 = wx)
  case first =>
    cases q2 <;> cases q4 <;> (go_wp2_with fail; go_meet; exact ⟨by rw [← hJ.out]; rfl, rfl⟩)
  case rest =>
  obtain ⟨rfl, rfl⟩ := hcut
  go_upto_region 13 with fail
  go_cut [78] (fun s wx => s = .bool G ∧ w13 = wx)
  case first =>
    cases q6 <;> cases q4 <;> (go_wp2_with fail; go_meet; exact ⟨by rw [← hG.out]; rfl, rfl⟩)
  case rest =>
  obtain ⟨rfl, rfl⟩ := hcut
  have hwy : Hid (wayT T i = if G then mergeL l32 R else l32) := Lib.hid (by rw [← hGd.out, ← hR.out, ← hdw.out, ← hfm.out]; rfl)
  have hRl : R.length ≤ 200000 := by rw [← hR.out]; have := onF_len T hlen (readsP i) []; have := hrp.out.2; simp only [List.length_nil] at *; unfold readT onL; omega
  obtain ⟨WY, hWY⟩ : ∃ x, wayT T i = x := ⟨_, rfl⟩
  rw [hWY] at hwy
  replace hWY := Lib.hid hWY
  have hl32 : T[32]? = some l32 := by
    obtain ⟨c', t1, t2⟩ := hD.tb
    obtain ⟨v, l, e1, e2, e3, e4⟩ := t2.get 32 (by decide)
    rw [e2, ← e3, hdw.out]
  have hl33 := hlen l32 (List.mem_of_getElem? hl32)
  replace hl32 := Lib.hid hl32
  go_upto_if 78 with fail
  go_cut [82] (fun _ wx => SD w wx ics D (T.set 32 WY) da dd l32 ∧ RP wx (fun b => w.heap.size + 4 ≤ b ∧ b ≠ D) (.slice A12 R.length c12) R)
  case first =>
    cases hg : G
    · have hT0 : Hid (T.set 32 WY = T) := Lib.hid (by rw [hwy.out, hg]; exact set_same T 32 l32 hl32.out)
      go_wp2_with fail
      go_meet
      rw [hT0.out]
      exact ⟨hD, hrd⟩
    · have hW0 : Hid (WY = mergeL l32 R) := Lib.hid (by rw [hwy.out, hg]; rfl)
      obtain ⟨c', t1, t2⟩ := hD.tb
      obtain ⟨v, l, e1, e2, e3, e4⟩ := t2.get 32 (by decide)
      obtain rfl : l = l32 := Option.some.inj (e2.symm.trans hl32.out)
      have cw : w13.cell? ⟨w.heap.size, 32, none⟩ = some v := by have := t1 32 v e1; rwa [Nat.zero_add] at this
      have hMg := Lib.hid (merge_any v (.slice A12 R.length c12) l R w13 e4.rl hrd.rl (by omega))
      have fw := (hD.cellT 32 (by decide)).2
      clear e1 e2 e3 e4 t1 t2
      go_wp2_with (go_at_call 34; refine hMg.out.mono ?_; rintro e w14 ⟨⟨v', rfl, hr14⟩, hb14⟩; obtain ⟨A14, c14, hve, -⟩ := hr14.form; obtain rfl := hve; have hD14 := hD.keep hb14; obtain ⟨⟨x14, cD⟩, fD⟩ := hD14.cellT 32 (by decide); replace hrd := hrd.below hb14)
      go_meet
      rw [hW0.out]
      exact ⟨hD14.putT 32 (by decide) (hD.fresh hr14), hrd.setCell _ _ (by simp; omega)⟩
  case rest =>
  clear hD hrd c0
  obtain ⟨hD, hrd⟩ := hcut
  obtain ⟨w15, rfl⟩ : ∃ x, x = wc := ⟨_, rfl⟩
  obtain ⟨M, hM⟩ : ∃ b, (ld || st) = b := ⟨_, rfl⟩
  obtain ⟨E, hEv⟩ : ∃ b, decide (0 ≤ ev) = b := ⟨_, rfl⟩
  obtain ⟨O, hO⟩ : ∃ x, outT T i ev = x := ⟨_, rfl⟩
  have hO2 : Hid (O = if M then (if E then [ev] else []) else if J || q1 then [] else R) := Lib.hid (by
    rw [← hO, ← hM, ← hEv, ← hJd.out, ← g1d.out, ← hld.out, ← hst.out, ← hfm.out, ← hR.out]
    unfold outT isMem bareT
    by_cases h0 : 0 ≤ ev <;> simp [h0, Bool.or_assoc])
  replace hO := Lib.hid hO
  replace hM := Lib.hid hM
  go_upto_block 0 with fail
  go_cut [13] (fun s wx => ∃ A c, s = .slice A O.length c ∧ SD w wx ics D (T.set 32 WY) da dd l32 ∧ RP wx (fun b => w.heap.size + 4 ≤ b ∧ b ≠ D) (.slice A O.length c) O)
  case first =>
    cases M
    · cases J
      · cases q1
        · have hO3 : O = R := by rw [hO2.out]; rfl
          subst hO3
          cases ld <;> cases st <;> first | (exact absurd hM.out (by decide)) | (go_wp2_with fail; go_meet; exact ⟨_, _, rfl, hD, hrd⟩)
        · have hO3 : O = [] := by rw [hO2.out]; rfl
          subst hO3
          cases ld <;> cases st <;> first | (exact absurd hM.out (by decide)) | (go_wp2_with fail; go_meet; exact ⟨_, _, rfl, hD, RP.nil _ _⟩)
      · have hO3 : O = [] := by rw [hO2.out]; rfl
        subst hO3
        cases ld <;> cases st <;> first | (exact absurd hM.out (by decide)) | (go_wp2_with fail; go_meet; exact ⟨_, _, rfl, hD, RP.nil _ _⟩)
    · cases E
      · have hO3 : O = [] := by rw [hO2.out]; rfl
        subst hO3
        cases ld <;> cases st <;> first | (exact absurd hM.out (by decide)) | (go_wp2_with fail; go_meet; exact ⟨_, _, rfl, hD, RP.nil _ _⟩)
      · have hO3 : O = [ev] := by rw [hO2.out]; rfl
        subst hO3
        cases ld <;> cases st <;> first | (exact absurd hM.out (by decide)) | (go_wp2_with fail; go_meet; exact ⟨_, _, rfl, hD.keep ((Below.refl _ _).alloc (Nat.le_refl _) _), RP.lit hD ev _⟩)
  case rest =>
  clear hD hrd
  obtain ⟨A13, c13, rfl, hD, hrd⟩ := hcut
  obtain ⟨w16, rfl⟩ : ∃ x, x = wc := ⟨_, rfl⟩
  go_upto_region 20 with (first | (refine wpList_load_midG 33 _ rfl (by rfl) (w.heap.size + 1) 0 rfl ics _ hD.ib hui rfl hs2.out ?_) | (go_at_call 35; refine (hWr.out _ (ht.later hD.bl (Nat.le_refl _))).mono ?_; rintro e w17 ⟨rfl, hb17⟩))
  have hD17 := hD.keep hb17
  have hrd17 := hrd.below hb17
  clear hD hrd hb17
  have hrdb := (ok_facts i hc).1
  have hud := Tryz.underlying35
  have hT2 : Hid (T' = if 0 < i.rd then (T.set 32 WY).set i.rd.toNat O else T.set 32 WY) := Lib.hid (by rw [← hT'.out, ← hWY.out, ← hO.out]; rfl)
  by_cases hp : 0 < i.rd
  · have hd : decide (0 < i.rd) = true := decide_eq_true hp
    have hT3 : Hid (T' = (T.set 32 WY).set i.rd.toNat O) := Lib.hid (by rw [hT2.out, if_pos hp])
    obtain ⟨⟨x17, cT⟩, fT⟩ := hD17.cellT i.rd.toNat (by omega)
    have hlt : i.rd < 32 := by omega
    have hge : 0 ≤ i.rd := by omega
    go_upto_region 22 with fail
    have hD18 := hD17.putT i.rd.toNat (by omega) hrd17
    rw [← hT3.out] at hD18
    clear hD17 hrd17 cT fT
    generalize World.setCell _ _ _ = w18 at hD18 ⊢
    obtain ⟨c9, va, vd, vw, hE9⟩ := hD18.se
    have hlc9 := Lib.hid hE9.hT.lc
    have hs9 : Hid ((Tryz.prog.info? 28).map (·.size) = some c9.length) := Lib.hid (by rw [hlc9.out]; exact size_taint)
    have h19 : Hid (c9.toArray.all (·.oneCell') = true) := Lib.hid (all_oneCell_toArray hE9.hT.one)
    have h1d : Hid ([va, vd, vw].toArray.all (·.oneCell') = true) := Lib.hid (all_oneCell_toArray hE9.one)
    clear hD18
    refine wp_region_held_drew (S := fun W => SE w W D c9 va vd vw T' da dd l32) (by kernel_rfl) hE9.drew (fun hHeld => ?_)
    refine wpAnyH_take (i := 0) rfl (by kernel_rfl) (by kernel_rfl) (by kernel_rfl) (fun _ _ _ h => h) (yieldsIf_load_mid (by rfl) 28 _ rfl w.heap.size 0 rfl c9 _ (fun W hS => hS.r0) hu rfl hs9.out) hHeld ?_
    try simp only [Act.put, List.getElem_toArray, List.getElem_cons_zero, List.setIfInBounds_toArray, List.set_cons_zero, List.set_cons_succ]
    generalize World.drew _ = W0 at hHeld ⊢
    refine wpAnyH_take (i := 1) rfl (by kernel_rfl) (by kernel_rfl) (by kernel_rfl) (fun _ _ _ h => h) (yieldsIf_load_mid (by rfl) 35 _ rfl D 0 rfl [va, vd, vw] _ (fun W hS => hS.rD) hud rfl size_deps) hHeld ?_
    try simp only [Act.put, List.getElem_toArray, List.getElem_cons_succ, List.getElem_cons_zero, List.setIfInBounds_toArray, List.set_cons_zero, List.set_cons_succ]
    refine wpAnyH_ready (rs := [2]) (by kernel_rfl) (by simp) (AllReadyH.cons rfl (fun K hK2 => ?_) AllReadyH.nil)
    rw [if_pos (by rfl)]
    simp only [List.getElem_toArray, List.getElem_cons_succ, List.getElem_cons_zero]
    refine wp_store_mid 28 _ _ rfl (w.heap.size + 2) 0 c9.toArray rfl rfl (fun j hj => hHeld.z6 j (by rw [List.size_toArray, hlc9.out] at hj; exact hj)) (by rw [List.size_toArray]; exact hs9.out) h19.out ?_
    change K _ (World.setCells _ (w.heap.size + 2) 0 c9)
    have r6 := World.rangeAt_setCells_same W0 (w.heap.size + 2) 0 c9 (by rw [hlc9.out]; exact hHeld.z6)
    refine hK2.out _ _ (hHeld.fill (w.heap.size + 2) (.inl rfl) c9) (fun hHeld2 => ?_)
    clear hK2 K hHeld
    have hHeld := hHeld2
    clear hHeld2
    try simp only [Act.put, List.getElem_toArray, List.getElem_cons_succ, List.getElem_cons_zero, List.setIfInBounds_toArray, List.set_cons_zero, List.set_cons_succ]
    generalize World.setCells W0 (w.heap.size + 2) 0 c9 = W1 at hHeld r6 ⊢
    refine wpAnyH_ready (rs := [3]) (by kernel_rfl) (by simp) (AllReadyH.cons rfl (fun K hK2 => ?_) AllReadyH.nil)
    rw [if_pos (by rfl)]
    simp only [List.getElem_toArray, List.getElem_cons_succ, List.getElem_cons_zero]
    refine wp_store_mid 35 _ _ rfl (w.heap.size + 3) 0 [va, vd, vw].toArray rfl rfl (fun j hj => hHeld.z7 j hj) size_deps h1d.out ?_
    change K _ (World.setCells _ (w.heap.size + 3) 0 [va, vd, vw])
    have r7 := World.rangeAt_setCells_same W1 (w.heap.size + 3) 0 [va, vd, vw] (fun j hj => hHeld.z7 j hj)
    replace r6 := World.rangeAt_setCells_apart r6 (w.heap.size + 3) 0 [va, vd, vw] (.inl (by omega))
    refine hK2.out _ _ (hHeld.fill (w.heap.size + 3) (.inr rfl) [va, vd, vw]) (fun hHeld2 => ?_)
    clear hK2 K hHeld
    have hHeld := hHeld2
    clear hHeld2
    try simp only [Act.put, List.getElem_toArray, List.getElem_cons_succ, List.getElem_cons_zero, List.setIfInBounds_toArray, List.set_cons_zero, List.set_cons_succ]
    generalize World.setCells W1 (w.heap.size + 3) 0 [va, vd, vw] = W2 at hHeld r6 r7 ⊢
    refine wpAnyH_take (i := 4) (v := .int .i64 0) rfl (by kernel_rfl) (by kernel_rfl) (by kernel_rfl) (fun _ _ _ h => h) (Or.inl ⟨by rfl, fun W _ => by kernel_rfl⟩) hHeld ?_
    try simp only [Act.put, List.getElem_toArray, List.getElem_cons_succ, List.getElem_cons_zero, List.setIfInBounds_toArray, List.set_cons_zero, List.set_cons_succ]
    refine wpAnyH_done (by kernel_rfl) ?_ _
    go_wp2_with fail
    have hl6 := run_loadVar_mid W2 (w.heap.size + 2) 0 28 c9 _ r6 hu rfl hs9.out
    have hl7 := run_loadVar_mid W2 (w.heap.size + 3) 0 35 [va, vd, vw] _ r7 hud rfl size_deps
    exact bodyPost_ret (v := .tuple #[.agg c9.toArray, .agg [va, vd, vw].toArray, .int .i64 0]) (res_3 Tryz.results9 _ _ _ _ _ _ _ rfl rfl rfl hl6 hl7) rfl ⟨c9, va, vd, vw, rfl, hHeld.hT.mono fun b hb => by omega, hHeld.pa.mono fun b hb => by omega, hHeld.pd.mono fun b hb => by omega, hHeld.pw.mono fun b hb => by omega, hHeld.bl⟩
  · have hd : decide (0 < i.rd) = false := decide_eq_false hp
    have hT3 : Hid (T' = T.set 32 WY) := Lib.hid (by rw [hT2.out, if_neg hp])
    go_upto_region 22 with fail
    have hD18 := hD17
    rw [← hT3.out] at hD18
    clear hD17 hrd17
    obtain ⟨c9, va, vd, vw, hE9⟩ := hD18.se
    have hlc9 := Lib.hid hE9.hT.lc
    have hs9 : Hid ((Tryz.prog.info? 28).map (·.size) = some c9.length) := Lib.hid (by rw [hlc9.out]; exact size_taint)
    have h19 : Hid (c9.toArray.all (·.oneCell') = true) := Lib.hid (all_oneCell_toArray hE9.hT.one)
    have h1d : Hid ([va, vd, vw].toArray.all (·.oneCell') = true) := Lib.hid (all_oneCell_toArray hE9.one)
    clear hD18
    refine wp_region_held_drew (S := fun W => SE w W D c9 va vd vw T' da dd l32) (by kernel_rfl) hE9.drew (fun hHeld => ?_)
    refine wpAnyH_take (i := 0) rfl (by kernel_rfl) (by kernel_rfl) (by kernel_rfl) (fun _ _ _ h => h) (yieldsIf_load_mid (by rfl) 28 _ rfl w.heap.size 0 rfl c9 _ (fun W hS => hS.r0) hu rfl hs9.out) hHeld ?_
    try simp only [Act.put, List.getElem_toArray, List.getElem_cons_zero, List.setIfInBounds_toArray, List.set_cons_zero, List.set_cons_succ]
    generalize World.drew _ = W0 at hHeld ⊢
    refine wpAnyH_take (i := 1) rfl (by kernel_rfl) (by kernel_rfl) (by kernel_rfl) (fun _ _ _ h => h) (yieldsIf_load_mid (by rfl) 35 _ rfl D 0 rfl [va, vd, vw] _ (fun W hS => hS.rD) hud rfl size_deps) hHeld ?_
    try simp only [Act.put, List.getElem_toArray, List.getElem_cons_succ, List.getElem_cons_zero, List.setIfInBounds_toArray, List.set_cons_zero, List.set_cons_succ]
    refine wpAnyH_ready (rs := [2]) (by kernel_rfl) (by simp) (AllReadyH.cons rfl (fun K hK2 => ?_) AllReadyH.nil)
    rw [if_pos (by rfl)]
    simp only [List.getElem_toArray, List.getElem_cons_succ, List.getElem_cons_zero]
    refine wp_store_mid 28 _ _ rfl (w.heap.size + 2) 0 c9.toArray rfl rfl (fun j hj => hHeld.z6 j (by rw [List.size_toArray, hlc9.out] at hj; exact hj)) (by rw [List.size_toArray]; exact hs9.out) h19.out ?_
    change K _ (World.setCells _ (w.heap.size + 2) 0 c9)
    have r6 := World.rangeAt_setCells_same W0 (w.heap.size + 2) 0 c9 (by rw [hlc9.out]; exact hHeld.z6)
    refine hK2.out _ _ (hHeld.fill (w.heap.size + 2) (.inl rfl) c9) (fun hHeld2 => ?_)
    clear hK2 K hHeld
    have hHeld := hHeld2
    clear hHeld2
    try simp only [Act.put, List.getElem_toArray, List.getElem_cons_succ, List.getElem_cons_zero, List.setIfInBounds_toArray, List.set_cons_zero, List.set_cons_succ]
    generalize World.setCells W0 (w.heap.size + 2) 0 c9 = W1 at hHeld r6 ⊢
    refine wpAnyH_ready (rs := [3]) (by kernel_rfl) (by simp) (AllReadyH.cons rfl (fun K hK2 => ?_) AllReadyH.nil)
    rw [if_pos (by rfl)]
    simp only [List.getElem_toArray, List.getElem_cons_succ, List.getElem_cons_zero]
    refine wp_store_mid 35 _ _ rfl (w.heap.size + 3) 0 [va, vd, vw].toArray rfl rfl (fun j hj => hHeld.z7 j hj) size_deps h1d.out ?_
    change K _ (World.setCells _ (w.heap.size + 3) 0 [va, vd, vw])
    have r7 := World.rangeAt_setCells_same W1 (w.heap.size + 3) 0 [va, vd, vw] (fun j hj => hHeld.z7 j hj)
    replace r6 := World.rangeAt_setCells_apart r6 (w.heap.size + 3) 0 [va, vd, vw] (.inl (by omega))
    refine hK2.out _ _ (hHeld.fill (w.heap.size + 3) (.inr rfl) [va, vd, vw]) (fun hHeld2 => ?_)
    clear hK2 K hHeld
    have hHeld := hHeld2
    clear hHeld2
    try simp only [Act.put, List.getElem_toArray, List.getElem_cons_succ, List.getElem_cons_zero, List.setIfInBounds_toArray, List.set_cons_zero, List.set_cons_succ]
    generalize World.setCells W1 (w.heap.size + 3) 0 [va, vd, vw] = W2 at hHeld r6 r7 ⊢
    refine wpAnyH_take (i := 4) (v := .int .i64 0) rfl (by kernel_rfl) (by kernel_rfl) (by kernel_rfl) (fun _ _ _ h => h) (Or.inl ⟨by rfl, fun W _ => by kernel_rfl⟩) hHeld ?_
    try simp only [Act.put, List.getElem_toArray, List.getElem_cons_succ, List.getElem_cons_zero, List.setIfInBounds_toArray, List.set_cons_zero, List.set_cons_succ]
    refine wpAnyH_done (by kernel_rfl) ?_ _
    go_wp2_with fail
    have hl6 := run_loadVar_mid W2 (w.heap.size + 2) 0 28 c9 _ r6 hu rfl hs9.out
    have hl7 := run_loadVar_mid W2 (w.heap.size + 3) 0 35 [va, vd, vw] _ r7 hud rfl size_deps
    exact bodyPost_ret (v := .tuple #[.agg c9.toArray, .agg [va, vd, vw].toArray, .int .i64 0]) (res_3 Tryz.results9 _ _ _ _ _ _ _ rfl rfl rfl hl6 hl7) rfl ⟨c9, va, vd, vw, rfl, hHeld.hT.mono fun b hb => by omega, hHeld.pa.mono fun b hb => by omega, hHeld.pd.mono fun b hb => by omega, hHeld.pw.mono fun b hb => by omega, hHeld.bl⟩
end Go.Proofs.YtebeajnaamglkaaGreatDoor
