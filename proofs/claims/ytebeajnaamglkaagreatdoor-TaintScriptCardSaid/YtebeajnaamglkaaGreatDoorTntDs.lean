/- The walk of the document's Step where it is valid. Conditions: the lists are not longer than a hundred thousand numbers. -/
import Derived.Test.YtebeajnaamglkaaGreatDoorTntDrj
import Derived.Test.YtebeajnaamglkaaGreatDoorHartS
import Derived.Test.YtebeajnaamglkaaGreatDoorRefMem
import Derived.Test.YtebeajnaamglkaaGreatDoorTntSt
import Derived.Test.YtebeajnaamglkaaGreatDoorFieldsPl
import Derived.Deep.DeepCutAuto
import Derived.Deep.RegionHeld
set_option linter.unusedSimpArgs false
set_option linter.unusedVariables false
namespace Go.Proofs.YtebeajnaamglkaaGreatDoor
open Go.RowKit
theorem mem_size_all : ((List.range 88).all fun n => decide (decide (0 < (opOf (n : Int)).size) = ((opOf (n : Int)).loads || (opOf (n : Int)).stores))) = true := by decide +kernel
theorem mem_size (n : Int) : decide (0 < (opOf n).size) = ((opOf n).loads || (opOf n).stores) := by
  by_cases h0 : n < 1
  · unfold opOf; rw [if_pos h0]; rfl
  · by_cases h1 : 87 < n
    · rw [opOf_big n h1]; rfl
    · obtain ⟨m, rfl⟩ := Int.eq_ofNat_of_zero_le (show 0 ≤ n by omega)
      have := List.all_eq_true.1 mem_size_all m (List.mem_range.2 (by omega))
      simpa using this
/-- The registers that are read, the document's list and the program's. -/
theorem mem_readsK (i : InsnV) (k : Nat) (x : Int) : x ∈ readsK i k ↔ 1 ≤ x ∧ x ≤ k ∧ (x = i.rs1 ∨ x = i.rs2) := by
  unfold readsK
  rw [List.mem_map]
  constructor
  · rintro ⟨q, hq, rfl⟩
    obtain ⟨h1, h2⟩ := List.mem_filter.1 hq
    have := List.mem_range.1 h1
    simp at h2
    omega
  · rintro ⟨h1, h2, h3⟩
    refine ⟨(x - 1).toNat, List.mem_filter.2 ⟨List.mem_range.2 (by omega), ?_⟩, by omega⟩
    simp
    omega
theorem readsK_rising (i : InsnV) : ∀ k, risingF 0 (readsK i k) = true := by
  intro k
  have key : ∀ (l : List Nat) (a : Nat), (∀ x ∈ l, a ≤ x) → l.Pairwise (· < ·) → risingF (a : Int) (l.map fun q : Nat => (q : Int) + 1) = true := by
    intro l
    induction l with
    | nil => intro a _ _; rfl
    | cons x l ih =>
      intro a h1 h2
      rw [List.map_cons, risingF_cons]
      have hx := h1 x (by simp)
      refine ⟨by omega, ?_⟩
      have h3 := List.pairwise_cons.1 h2
      have := ih (x + 1) (fun y hy => h3.1 y hy) h3.2
      rw [show ((x + 1 : Nat) : Int) = (x : Int) + 1 by omega] at this
      exact this
  unfold readsK
  exact key _ 0 (fun x _ => Nat.zero_le _) (List.Pairwise.filter _ List.pairwise_lt_range)
theorem readsL_eqP (i : InsnV) (h : checkE i = 0) : readsL i = readsP i := by
  by_cases h64 : i.op = 64
  · unfold readsL readsP
    rw [if_pos h64, if_pos h64, ms2, if_pos (by decide), compact2, if_neg (by decide)]
    rfl
  · have hf := ok_facts i h
    have hL : readsL i = readsK i 31 := by unfold readsL; rw [if_neg h64]
    rw [hL]
    have hm : ∀ x, x ∈ readsP i ↔ x ≠ 0 ∧ (x = i.rs1 ∨ x = i.rs2) := fun x => by
      unfold readsP
      rw [if_neg h64, List.mem_filter, ms2]
      by_cases hab : i.rs1 ≤ i.rs2
      · rw [if_pos hab, compact2]
        by_cases e : i.rs1 = i.rs2
        · rw [if_pos e]; simp; omega
        · rw [if_neg e]; simp; omega
      · rw [if_neg hab, compact2, if_neg (by omega)]; simp; omega
    have hP : risingF 0 (readsP i) = true := by
      rcases reads_form i h with e | ⟨y, e, y1, y2, y3⟩ | ⟨y, z, e, y1, y2, y3, y4, y5⟩
      · rw [e]; rfl
      · rw [e, risingF_cons]; exact ⟨by omega, rfl⟩
      · rw [e, risingF_cons, risingF_cons]; exact ⟨by omega, by omega, rfl⟩
    refine rising_ext _ _ 0 (readsK_rising i 31) hP fun x => ?_
    rw [mem_readsK, hm]
    constructor
    · rintro ⟨h1, h2, h3⟩; exact ⟨by omega, h3⟩
    · rintro ⟨h1, h3⟩; exact ⟨by omega, by omega, h3⟩
theorem RP.cellAt {w : World} {P : Nat → Prop} {A : Option Addr} {c : Nat} {l : List Int} (h : RP w P (.slice A l.length c) l) (j : Nat) (x : Int) (hx : l[j]? = some x) : ∃ b o, A = some ⟨b, o, none⟩ ∧ w.cell? ⟨b, o + j, none⟩ = some (.int .i64 x) ∧ j < c := by
  obtain ⟨A', c', he, h1, h2, h3⟩ := h.form
  simp only [Value.slice.injEq] at he
  obtain ⟨rfl, -, rfl⟩ := he
  have hj : j < l.length := (List.getElem?_eq_some_iff.1 hx).1
  obtain ⟨b, o, rfl, -, -, hc⟩ := h3.resolve_left (fun e => by rw [e] at hj; exact absurd hj (Nat.not_lt_zero _))
  exact ⟨b, o, rfl, hc j x hx, by omega⟩
set_option maxRecDepth 100000 in
set_option maxHeartbeats 32000000 in
theorem RStep_ok (cs : List Value) (T : List (List Int)) (P : Nat → Prop) (i : InsnV) (ev : Int) (w : World) (h : TS w P cs T) (hlen : ∀ l ∈ T, l.length ≤ 100000) (hE : taintE T = 0) (hc : checkE i = 0) (hev : -1 ≤ ev) :
    Calls Tryz.prog 10 #[.agg cs.toArray, .agg i.cells, .int .i64 ev] w (StepPost w (stepT T i ev) (addrT T i) (dataT T i) (T.getD 32 [])) := by
  have hu := Tryz.underlying28
  have hui := Tryz.underlying33
  have hlc := h.lc
  have hS := S0.start w cs.toArray i.cells #[.slice none 0 0, .slice none 0 0, .slice none 0 0, .slice none 0 0, .slice none 0 0, .slice none 0 0, .slice none 0 0, .slice none 0 0, .slice none 0 0, .slice none 0 0, .slice none 0 0, .slice none 0 0, .slice none 0 0, .slice none 0 0, .slice none 0 0, .slice none 0 0, .slice none 0 0, .slice none 0 0, .slice none 0 0, .slice none 0 0, .slice none 0 0, .slice none 0 0, .slice none 0 0, .slice none 0 0, .slice none 0 0, .slice none 0 0, .slice none 0 0, .slice none 0 0, .slice none 0 0, .slice none 0 0, .slice none 0 0, .slice none 0 0, .slice none 0 0] #[.slice none 0 0, .slice none 0 0, .slice none 0 0] 28 33 28 35 (by rw [List.size_toArray]; exact hlc) rfl rfl
  obtain ⟨ics, hics⟩ : ∃ l, l = i.cells.toList := ⟨_, rfl⟩
  have hs1 : Hid ((Tryz.prog.info? 28).map (·.size) = some cs.length) := Lib.hid (by rw [hlc]; exact size_taint)
  have hs2 : Hid ((Tryz.prog.info? 33).map (·.size) = some ics.length) := Lib.hid (by rw [hics]; kernel_rfl)
  have hKT := Lib.hid (fun W h2 => RCheck_any cs T P W h2 hlen)
  rw [hE] at hKT
  have hKI := Lib.hid (fun W => R2Check_any i W)
  rw [hc] at hKI
  have hOw := Lib.hid (fun W h2 => RCopy_any cs T P W h2 hlen)
  have hMe := Lib.hid (fun W => R2Mem_any i.op W)
  have hFo := Lib.hid (fun W => R2Form_any i.op W)
  rw [← rform_eq] at hFo
  unfold memV at hMe
  have hWr := Lib.hid (fun W => R2Writes_ok i hc W)
  have hRe := Lib.hid (fun W => Reads_any i hc W)
  rw [readsL_eqP i hc] at hRe
  have hris : Hid (∀ l ∈ T, risingB l = true) := Lib.hid ((taintE_zero h.lt).1 hE).2
  have k0 : Hid (ics[0]? = some (.int .i64 i.op)) := Lib.hid (by rw [hics]; rfl)
  have k2 : Hid (ics[2]? = some (.int .i64 i.rs1)) := Lib.hid (by rw [hics]; rfl)
  have k3 : Hid (ics[3]? = some (.int .i64 i.rs2)) := Lib.hid (by rw [hics]; rfl)
  have hia : Hid (i.cells = ics.toArray) := Lib.hid (by rw [hics])
  rw [← hics] at hS
  rw [List.toList_toArray] at hS
  rw [hia.out] at hKI hWr hRe hS ⊢
  have hTS := h.below hS.bl
  obtain ⟨T', hT'⟩ : ∃ x, stepT T i ev = x := ⟨_, rfl⟩
  obtain ⟨da, hda⟩ : ∃ x, addrT T i = x := ⟨_, rfl⟩
  obtain ⟨dd, hdd⟩ : ∃ x, dataT T i = x := ⟨_, rfl⟩
  obtain ⟨dw, hdw⟩ : ∃ x, T.getD 32 [] = x := ⟨_, rfl⟩
  rw [hT', hda, hdd, hdw]
  replace hT' := Lib.hid hT'
  replace hda := Lib.hid hda
  replace hdd := Lib.hid hdd
  replace hdw := Lib.hid hdw
  have hev2 : decide (ev < -1) = false := by simp; omega
  clear hics
  go_enter Tryz.func10, Tryz.ntmps10
  go_upto_region 1 with fail
  generalize World.alloc _ (.cells #[.slice none 0 0, .slice none 0 0, .slice none 0 0] 35) = W1 at hS hTS ⊢
  go_upto_region 3 with (first | (refine wpList_load_midG 28 _ rfl (by rfl) w.heap.size 0 rfl cs _ hS.r0 hu rfl hs1.out ?_) | (refine wpList_load_midG 33 _ rfl (by rfl) (w.heap.size + 1) 0 rfl ics _ hS.ib hui rfl hs2.out ?_) | (go_at_call 16; refine (hKT.out _ hTS).mono ?_; rintro e w2 ⟨rfl, hb2⟩; replace hS := hS.keep hb2; replace hTS := hTS.below hb2; clear hb2) | (go_at_call 36; refine (hKI.out _).mono ?_; rintro e w3 ⟨rfl, hb3⟩; replace hS := hS.keep hb3; replace hTS := hTS.below hb3; clear hb3))
  have hb0 := hS.lt
  go_upto_region 4 with (first | (refine wpList_load_midG 28 _ rfl (by rfl) w.heap.size 0 rfl cs _ hS.r0 hu rfl hs1.out ?_) | (go_at_call 37; refine (hOw.out _ hTS).mono ?_; rintro e w4 ⟨c', rfl, hT4, hb4⟩; have hS4 := hS.keep hb4; have hl4 := hT4.lc; have hn4 := Lib.hid hl4; have hs4 : Hid ((Tryz.prog.info? 28).map (·.size) = some c'.toArray.size) := Lib.hid (by rw [List.size_toArray, hl4]; exact size_taint); have h14 : Hid (c'.toArray.all (·.oneCell') = true) := Lib.hid (all_oneCell_toArray hT4.one)) | (refine wpList_store_mid rfl 28 _ _ rfl w.heap.size 0 c'.toArray rfl rfl (fun j hj => hS4.th j (by rw [List.size_toArray, hn4.out] at hj; exact hj)) hs4.out h14.out ?_; generalize hW5 : w4.setCells w.heap.size 0 c'.toArray.toList = w5; replace hW5 := Lib.hid hW5))
  have hS5 : S0 w w5 c' ics := by rw [← hW5.out]; exact hS4.fill hn4.out
  have hT5 : TS w5 (fun b => w.heap.size + 4 ≤ b) c' T := by rw [← hW5.out]; exact (hT4.mono fun b hb => by omega).cells _ _ _ (by omega)
  clear hS4 hT4 hb4 hs4 h14 hW5 hl4 hS hTS hs1 hOw hKT hKI
  obtain ⟨ld, hld⟩ : ∃ x, (opOf i.op).loads = x := ⟨_, rfl⟩
  obtain ⟨st, hst⟩ : ∃ x, (opOf i.op).stores = x := ⟨_, rfl⟩
  obtain ⟨sz, hsz⟩ : ∃ x, (opOf i.op).size = x := ⟨_, rfl⟩
  obtain ⟨f, hfm⟩ : ∃ x, (opOf i.op).form = x := ⟨_, rfl⟩
  have hms := mem_size i.op
  rw [hld, hst, hsz] at hMe hms
  rw [hfm] at hFo
  replace hms := Lib.hid hms
  replace hld := Lib.hid hld
  replace hst := Lib.hid hst
  replace hfm := Lib.hid hfm
  clear hsz
  obtain ⟨q1, g1⟩ : ∃ b, (f == 1) = b := ⟨_, rfl⟩
  obtain ⟨q2, g2⟩ : ∃ b, (f == 2) = b := ⟨_, rfl⟩
  obtain ⟨q6, g6⟩ : ∃ b, (f == 6) = b := ⟨_, rfl⟩
  obtain ⟨q4, g4⟩ : ∃ b, (i.op == 4) = b := ⟨_, rfl⟩
  obtain ⟨G, hG⟩ : ∃ b, (q6 || q4) = b := ⟨_, rfl⟩
  obtain ⟨J, hJ⟩ : ∃ b, (q1 || q2 || q4) = b := ⟨_, rfl⟩
  have hGd : Hid ((f == 6 || i.op == 4) = G) := Lib.hid (by rw [g6, g4]; exact hG)
  have hJd : Hid ((f == 2 || i.op == 4 || f == 1) = J) := Lib.hid (by rw [g1, g2, g4, ← hJ]; cases q1 <;> cases q2 <;> cases q4 <;> rfl)
  replace hJ := Lib.hid hJ
  replace hG := Lib.hid hG
  have c0 : w5.cell? ⟨w.heap.size + 1, 0, none⟩ = some (.int .i64 i.op) := by have := hS5.ib 0 _ k0.out; rwa [Nat.zero_add] at this
  go_upto_region 5 with (go_at_call 8; refine (hMe.out _).mono ?_; rintro e w6 ⟨rfl, hb6⟩)
  have hS6 := hS5.keep hb6
  have hT6 := hT5.below hb6
  clear hS5 hT5 hb6 c0 hMe
  obtain ⟨v32, l32, e1, e2, e3, e4⟩ := hT6.get 32 (by decide)
  obtain rfl : l32 = dw := e3.symm.trans hdw.out
  have c32 : w6.cell? ⟨w.heap.size, 32, none⟩ = some v32 := by have := hS6.r0 32 _ e1; rwa [Nat.zero_add] at this
  obtain ⟨Av, cv, rfl, -⟩ := e4.form
  obtain ⟨A7, c7, w7, hra, hr7, hb7⟩ := app_new Av cv l32 w6 e4.rl (by have := hlen l32 (List.mem_of_getElem? e2); omega)
  have hwl6 : w.heap.size < w6.heap.size := by have := hS6.lt; omega
  have c32b : (w6.alloc (.cells #[] 3)).cell? ⟨w.heap.size, 32, none⟩ = some (.slice Av l32.length cv) := (((Below.refl _ _).alloc (Nat.le_refl _) (.cells #[] 3) : Below w6.heap.size w6 _).cell (p := ⟨w.heap.size, 32, none⟩) hwl6).trans c32
  replace hra := Lib.hid hra
  clear e1 e2 e3 e4
  go_upto_region 6 with (at_builtin; refine wpList_app rfl (.tmp 41) (.tmp 43) 25 rfl _ _ _ rfl rfl hra.out ?_)
  have hS7 := hS6.keep hb7
  have hT7 := hT6.below hb7
  have hD := SD.start hS7 hT7 (hr7.mono fun b hb => by have := hS6.lt; omega) 35
  have hl6 := hS6.lt
  generalize w7.alloc (.cells #[.slice none 0 0, .slice none 0 0, .slice A7 l32.length c7] 35) = w8 at hD ⊢
  generalize w7.heap.size = D at hD ⊢
  clear hS6 hS7 hT6 hT7 hra c32 c32b hr7 hb7 hl6 hwl6
  have hrg := ok_facts i hc
  have hr1 : 0 ≤ i.rs1 ∧ i.rs1 < 32 := by omega
  have hr2 : 0 ≤ i.rs2 ∧ i.rs2 < 32 := by omega
  have hda2 : Hid (da = if ld || st then T.getD i.rs1.toNat [] else []) := Lib.hid (by rw [← hda.out, ← hld.out, ← hst.out, ← onL_one]; rfl)
  have hdd2 : Hid (dd = if st then T.getD i.rs2.toNat [] else []) := Lib.hid (by rw [← hdd.out, ← hst.out, ← onL_one]; rfl)
  replace hrg := Lib.hid hrg
  go_upto_if 47 with fail
  go_cut [55] (fun _ wx => SD w wx ics D T da [] l32)
  case first =>
    cases hm : (ld || st)
    · have hda3 : Hid (da = []) := Lib.hid (by rw [hda2.out, hm]; rfl)
      have hz0 : sz ≤ 0 := by have := hms.out; rw [hm] at this; have := of_decide_eq_false this; omega
      have hz1 : decide (0 < sz) = false := decide_eq_false (by omega)
      clear hm
      go_wp2_with fail
      go_meet
      rw [hda3.out]
      exact hD
    · have hda3 : Hid (da = T.getD i.rs1.toNat []) := Lib.hid (by rw [hda2.out, hm]; rfl)
      have hz0 : 0 < sz := by have := hms.out; rw [hm] at this; exact of_decide_eq_true this
      have hz1 : decide (0 < sz) = true := decide_eq_true hz0
      clear hm
      have ci := hD.cellI 2 _ k2.out
      obtain ⟨c9, t1, t2⟩ := hD.tb
      obtain ⟨vr, lr, e1, e2, e3, e4⟩ := t2.get i.rs1.toNat (by omega)
      obtain rfl : lr = T.getD i.rs1.toNat [] := e3.symm
      obtain ⟨Ar, cr, rfl, -⟩ := e4.form
      generalize hLr : T.getD i.rs1.toNat [] = lr at *
      have cr0 : w8.cell? ⟨w.heap.size, i.rs1.toNat, none⟩ = some (.slice Ar lr.length cr) := by have := t1 _ _ e1; rwa [Nat.zero_add] at this
      obtain ⟨A9, c9b, w9, hra, hr9, hb9⟩ := app_new Ar cr lr w8 e4.rl (by have := hlen lr (List.mem_of_getElem? e2); omega)
      have hwl : w.heap.size + 1 < w8.heap.size := by have := hD.lt; omega
      have hwl0 : w.heap.size < w8.heap.size := by omega
      have hal : Below w8.heap.size w8 (w8.alloc (.cells #[] 3)) := (Below.refl _ _).alloc (Nat.le_refl _) _
      have cr1 : (w8.alloc (.cells #[] 3)).cell? ⟨w.heap.size, i.rs1.toNat, none⟩ = some (.slice Ar lr.length cr) := (hal.cell (p := ⟨w.heap.size, i.rs1.toNat, none⟩) hwl0).trans cr0
      have ci1 : (w8.alloc (.cells #[] 3)).cell? ⟨w.heap.size + 1, 2, none⟩ = some (.int .i64 i.rs1) := (hal.cell (p := ⟨w.heap.size + 1, 2, none⟩) hwl).trans ci
      have hD9 := hD.keep hb9
      obtain ⟨⟨x9, cD⟩, fD⟩ := hD9.cellD 0 (by decide)
      have hP1 := Lib.hid (hD9.putA (hD.fresh hr9))
      replace hra := Lib.hid hra
      have hrA := hr1.1
      have hrB := hr1.2
      replace hLr := Lib.hid hLr
      clear t1 t2 e1 e2 e3 e4 hal cr0 ci
      go_wp2_with (at_builtin; refine wpList_app rfl (.tmp 48) (.tmp 53) 25 rfl _ _ _ rfl rfl hra.out ?_)
      go_meet
      rw [hda3.out]
      exact hP1.out
  case rest =>
  clear hD
  have hD := hcut
  clear hcut
  go_upto_if 56 with fail
  go_cut [64] (fun _ wx => SD w wx ics D T da dd l32)
  case first =>
    cases st
    · have hdd3 : Hid (dd = []) := Lib.hid (by rw [hdd2.out]; rfl)
      go_wp2_with fail
      go_meet
      rw [hdd3.out]
      exact hD
    · have hdd3 : Hid (dd = T.getD i.rs2.toNat []) := Lib.hid (by rw [hdd2.out]; rfl)
      have ci := hD.cellI 3 _ k3.out
      obtain ⟨c9, t1, t2⟩ := hD.tb
      obtain ⟨vr, lr, e1, e2, e3, e4⟩ := t2.get i.rs2.toNat (by omega)
      obtain rfl : lr = T.getD i.rs2.toNat [] := e3.symm
      obtain ⟨Ar, cr, rfl, -⟩ := e4.form
      generalize hLr : T.getD i.rs2.toNat [] = lr at *
      have cr0 : wc.cell? ⟨w.heap.size, i.rs2.toNat, none⟩ = some (.slice Ar lr.length cr) := by have := t1 _ _ e1; rwa [Nat.zero_add] at this
      obtain ⟨A9, c9b, w9, hra, hr9, hb9⟩ := app_new Ar cr lr wc e4.rl (by have := hlen lr (List.mem_of_getElem? e2); omega)
      have hwl : w.heap.size + 1 < wc.heap.size := by have := hD.lt; omega
      have hwl0 : w.heap.size < wc.heap.size := by omega
      have hal : Below wc.heap.size wc (wc.alloc (.cells #[] 3)) := (Below.refl _ _).alloc (Nat.le_refl _) _
      have cr1 : (wc.alloc (.cells #[] 3)).cell? ⟨w.heap.size, i.rs2.toNat, none⟩ = some (.slice Ar lr.length cr) := (hal.cell (p := ⟨w.heap.size, i.rs2.toNat, none⟩) hwl0).trans cr0
      have ci1 : (wc.alloc (.cells #[] 3)).cell? ⟨w.heap.size + 1, 3, none⟩ = some (.int .i64 i.rs2) := (hal.cell (p := ⟨w.heap.size + 1, 3, none⟩) hwl).trans ci
      have hD9 := hD.keep hb9
      obtain ⟨⟨x9, cD⟩, fD⟩ := hD9.cellD 1 (by decide)
      have hP1 := Lib.hid (hD9.putD (hD.fresh hr9))
      replace hra := Lib.hid hra
      have hrA := hr2.1
      have hrB := hr2.2
      replace hLr := Lib.hid hLr
      clear t1 t2 e1 e2 e3 e4 hal cr0 ci
      go_wp2_with (at_builtin; refine wpList_app rfl (.tmp 57) (.tmp 62) 25 rfl _ _ _ rfl rfl hra.out ?_)
      go_meet
      rw [hdd3.out]
      exact hP1.out
  case rest =>
  clear hD
  have hD := hcut
  clear hcut
  obtain ⟨w9, rfl⟩ : ∃ x, x = wc := ⟨_, rfl⟩
  obtain ⟨R, hR⟩ : ∃ x, readT T i = x := ⟨_, rfl⟩
  have hrp := reads_regs i hc
  replace hR := Lib.hid hR
  have hui3 := hD.ib
  go_upto_region 12 with (first | (refine wpList_load_midG 33 _ rfl (by rfl) (w.heap.size + 1) 0 rfl ics _ hui3 hui rfl hs2.out ?_) | (go_at_call 38; refine (hRe.out _).mono ?_; rintro e w11 ⟨⟨v11, rfl, hown⟩, hb11⟩))
  have hD11 := hD.keep hb11
  have hLP := hD.fresh (RP.of_own hown rfl)
  obtain ⟨LP, hLPe⟩ : ∃ x, readsP i = x := ⟨_, rfl⟩
  have hRf : Hid (onF T [] LP = R) := Lib.hid (by rw [← hR.out, ← hLPe]; rfl)
  rw [hLPe] at hLP hrp
  replace hLPe := Lib.hid hLPe
  obtain ⟨Ap, cp, rfl, p1, p2, -⟩ := hLP.form
  unfold maxLen at p2
  replace hrp := Lib.hid hrp
  clear hown hui3 hb11 hRe hD
  go_upto_region 13 with fail
  go_loopw [13, 15] (fun al ix wr => ∃ (k : Nat) (acc : List Int) (A0 : Option Addr) (c0 : Nat), k ≤ LP.length ∧ ix = .int .i64 k ∧ al = .slice A0 acc.length c0 ∧ SD w wr ics D T da dd l32 ∧ RP wr (fun b => w.heap.size + 4 ≤ b ∧ b ≠ D) (.slice A0 acc.length c0) acc ∧ RP wr (fun b => w.heap.size + 4 ≤ b ∧ b ≠ D) (.slice Ap LP.length cp) LP ∧ Hid (acc.length ≤ k * 100000 ∧ risingB acc = true) ∧ Hid (onF T acc (LP.drop k) = R)) (fun _ ix _ => LP.length - (intOf ix).toNat)
  case atStart => exact ⟨0, [], none, 0, Nat.zero_le _, rfl, rfl, hD11, RP.nil _ _, hLP, Lib.hid ⟨Nat.zero_le _, rfl⟩, Lib.hid (by rw [List.drop_zero]; exact hRf.out)⟩
  case round =>
    clear hD11 hLP
    obtain ⟨k, acc, A0, c0, hk, rfl, rfl, hD, hac, hLP, hlr, hr⟩ := hrel
    by_cases hlt : k < LP.length
    · obtain ⟨r, hx, hd⟩ := drop_at hlt
      obtain ⟨bp, op, rfl, cpk, hkc⟩ := hLP.cellAt k r hx
      obtain ⟨rr0, rr1⟩ := hrp.out.1 r (List.mem_of_getElem? hx)
      obtain ⟨c', t1, t2⟩ := hD.tb
      obtain ⟨vr, lr, e1, e2, e3, e4⟩ := t2.get r.toNat (by omega)
      have cr0 : wr.cell? ⟨w.heap.size, r.toNat, none⟩ = some vr := by have := t1 _ _ e1; rwa [Nat.zero_add] at this
      have hl1 := hlen lr (List.mem_of_getElem? e2)
      have hl2 := hrp.out.2
      have hrl := hris.out lr (List.mem_of_getElem? e2)
      have hJn := RJoin_any (.slice A0 acc.length c0) vr acc lr wr hac.rl e4.rl (by have := hlr.out.1; omega)
      rw [joinL_yes hlr.out.2 hrl] at hJn
      have hml := mergeL_len acc lr
      have hlr2 : Hid ((mergeL acc lr).length ≤ (k + 1) * 100000 ∧ risingB (mergeL acc lr) = true) := Lib.hid ⟨by have := hlr.out.1; omega, rising_mergeL hlr.out.2 hrl⟩
      have hr2 : Hid (onF T (mergeL acc lr) (LP.drop (k + 1)) = R) := Lib.hid (by rw [← hr.out, hd, ← e3]; rfl)
      generalize mergeL acc lr = M at hJn hlr2 hr2
      replace hJn := Lib.hid hJn
      replace hlr := Lib.hid hlr
      replace hd := Lib.hid hd
      have hDh := Lib.hid hD
      have hLPh := Lib.hid hLP
      clear hx t1 t2 e1 e2 e3 e4 hml hl1 hl2 hac hr hD hLP
      go_wp2_with (go_at_call 23; (with_reducible refine hJn.out.mono ?_); rintro e w5 ⟨⟨v', rfl, hr5⟩, hb5⟩; obtain ⟨A', c5, hve, -⟩ := hr5.form; obtain rfl := hve)
      go_roundw
      case rel => exact ⟨k + 1, M, A', c5, by omega, by go_num, rfl, hDh.out.keep hb5, hDh.out.fresh hr5, hLPh.out.below hb5, hlr2, hr2⟩
      case measure => simp [intOf]; omega
    · obtain rfl : k = LP.length := by omega
      have haR : acc = R := by have := hr.out; rwa [List.drop_length] at this
      subst haR
      have hrd := hac
      clear hac hLP hr
      have hJ2 := hlr.out.2
      have hlac := hlr.out.1
      replace hJ2 := Lib.hid hJ2
      have hl2 := hrp.out.2
      have hRl : acc.length ≤ 200000 := by omega
      have c0i := hD.cellI 0 _ k0.out
      clear hlac hl2 hlr hrp hRf p1 p2
      go_upto_region 16 with fail
      go_upto_region 17 with (go_at_call 26; (with_reducible refine (hFo.out _).mono ?_); rintro e w13 ⟨rfl, rfl⟩)
      go_cut [91] (fun s wx => s = .bool G ∧ wr = wx)
      case first =>
        cases q6 <;> cases q4 <;> (go_wp2_with fail; go_meet; exact ⟨by rw [← hG.out]; rfl, rfl⟩)
      case rest =>
      obtain ⟨rfl, rfl⟩ := hcut
      have hwy : Hid (wayT T i = if G then mergeL l32 acc else l32) := Lib.hid (by rw [← hGd.out, ← hR.out, ← hdw.out, ← hfm.out]; rfl)
      obtain ⟨WY, hWY⟩ : ∃ x, wayT T i = x := ⟨_, rfl⟩
      rw [hWY] at hwy
      replace hWY := Lib.hid hWY
      have hl32 : T[32]? = some l32 := by
        obtain ⟨c', t1, t2⟩ := hD.tb
        obtain ⟨v, l, e1, e2, e3, e4⟩ := t2.get 32 (by decide)
        rw [e2, ← e3, hdw.out]
      have hl33 := hlen l32 (List.mem_of_getElem? hl32)
      have hri32 := hris.out l32 (List.mem_of_getElem? hl32)
      replace hl32 := Lib.hid hl32
      go_upto_if 91 with fail
      go_cut [96] (fun _ wx => SD w wx ics D (T.set 32 WY) da dd l32 ∧ RP wx (fun b => w.heap.size + 4 ≤ b ∧ b ≠ D) (.slice A0 acc.length c0) acc)
      case first =>
        cases hg : G
        · have hT0 : Hid (T.set 32 WY = T) := Lib.hid (by rw [hwy.out, hg]; exact set_same T 32 l32 hl32.out)
          go_wp2_with fail
          go_meet
          rw [hT0.out]
          exact ⟨hD, hrd⟩
        · have hW0 : Hid (WY = mergeL l32 acc) := Lib.hid (by rw [hwy.out, hg]; rfl)
          obtain ⟨c', t1, t2⟩ := hD.tb
          obtain ⟨v, l, e1, e2, e3, e4⟩ := t2.get 32 (by decide)
          obtain rfl : l = l32 := Option.some.inj (e2.symm.trans hl32.out)
          have cw : wr.cell? ⟨w.heap.size, 32, none⟩ = some v := by have := t1 32 v e1; rwa [Nat.zero_add] at this
          have hJn := RJoin_any v (.slice A0 acc.length c0) l acc wr e4.rl hrd.rl (by omega)
          rw [joinL_yes hri32 hJ2.out] at hJn
          have hMg := Lib.hid hJn
          have fw := (hD.cellT 32 (by decide)).2
          clear e1 e2 e3 e4 t1 t2 hJn
          go_wp2_with (go_at_call 23; refine hMg.out.mono ?_; rintro e w14 ⟨⟨v', rfl, hr14⟩, hb14⟩; obtain ⟨A14, c14, hve, -⟩ := hr14.form; obtain rfl := hve; have hD14 := hD.keep hb14; obtain ⟨⟨x14, cD⟩, fD⟩ := hD14.cellT 32 (by decide); replace hrd := hrd.below hb14)
          go_meet
          rw [hW0.out]
          exact ⟨hD14.putT 32 (by decide) (hD.fresh hr14), hrd.setCell _ _ (by simp; omega)⟩
      case rest =>
      clear hD hrd c0i
      obtain ⟨hD, hrd⟩ := hcut
      obtain ⟨w15, rfl⟩ : ∃ x, x = wc := ⟨_, rfl⟩
      have c0i := hD.cellI 0 _ k0.out
      go_upto_region 19 with fail
      go_cut [107] (fun s wx => s = .bool J ∧ w15 = wx)
      case first =>
        cases q1 <;> cases q2 <;> cases q4 <;> (go_wp2_with fail; go_meet; exact ⟨by rw [← hJ.out]; rfl, rfl⟩)
      case rest =>
      obtain ⟨rfl, rfl⟩ := hcut
      clear c0i
      obtain ⟨L1, hL1⟩ : ∃ x, (if J then [] else acc) = x := ⟨_, rfl⟩
      replace hL1 := Lib.hid hL1
      go_upto_if 107 with fail
      go_cut [13] (fun s wx => ∃ A c, s = .slice A L1.length c ∧ w15 = wx ∧ RP w15 (fun b => w.heap.size + 4 ≤ b ∧ b ≠ D) (.slice A L1.length c) L1)
      case first =>
        cases hj : J
        · have e1 : acc = L1 := by rw [← hL1.out, hj]; rfl
          subst e1
          go_wp2_with fail
          go_meet
          exact ⟨_, _, rfl, rfl, hrd⟩
        · have e1 : [] = L1 := by rw [← hL1.out, hj]; rfl
          subst e1
          go_wp2_with fail
          go_meet
          exact ⟨_, _, rfl, rfl, RP.nil _ _⟩
      case rest =>
      clear hrd
      obtain ⟨A1, k1, rfl, rfl, hrd⟩ := hcut
      go_upto_region 21 with fail
      go_cut [111] (fun s wx => s = .bool (ld || st) ∧ w15 = wx)
      case first =>
        cases ld <;> cases st <;> (go_wp2_with fail; go_meet; exact ⟨rfl, rfl⟩)
      case rest =>
      obtain ⟨rfl, rfl⟩ := hcut
      obtain ⟨O, hO⟩ : ∃ x, outT T i ev = x := ⟨_, rfl⟩
      have hO2 : Hid (O = if ld || st then (if 0 ≤ ev then [ev] else []) else L1) := Lib.hid (by
        rw [← hO, ← hL1.out, ← hJd.out, ← hld.out, ← hst.out, ← hfm.out, ← hR.out]
        unfold outT isMem bareT
        rfl)
      replace hO := Lib.hid hO
      go_upto_if 111 with fail
      go_cut [13] (fun s wx => ∃ A c, s = .slice A O.length c ∧ SD w wx ics D (T.set 32 WY) da dd l32 ∧ RP wx (fun b => w.heap.size + 4 ≤ b ∧ b ≠ D) (.slice A O.length c) O)
      case first =>
        cases hm : (ld || st)
        · have e1 : L1 = O := by rw [hO2.out, hm]; rfl
          subst e1
          go_wp2_with fail
          go_meet
          exact ⟨_, _, rfl, hD, hrd⟩
        · by_cases he0 : 0 ≤ ev
          · have e1 : [ev] = O := by rw [hO2.out, hm, if_pos rfl, if_pos he0]
            subst e1
            have hv0 : decide (0 ≤ ev) = true := decide_eq_true he0
            go_wp2_with fail
            go_meet
            exact ⟨_, _, rfl, hD.keep ((Below.refl _ _).alloc (Nat.le_refl _) _), RP.lit hD ev _⟩
          · have e1 : [] = O := by rw [hO2.out, hm, if_pos rfl, if_neg he0]
            subst e1
            have hv0 : decide (0 ≤ ev) = false := decide_eq_false he0
            go_wp2_with fail
            go_meet
            exact ⟨_, _, rfl, hD, RP.nil _ _⟩
      case rest =>
      clear hD hrd
      obtain ⟨A13, c13, rfl, hD, hrd⟩ := hcut
      obtain ⟨w16, rfl⟩ : ∃ x, x = wc := ⟨_, rfl⟩
      have hui5 := hD.ib
      go_upto_region 26 with (first | (refine wpList_load_midG 33 _ rfl (by rfl) (w.heap.size + 1) 0 rfl ics _ hui5 hui rfl hs2.out ?_) | (go_at_call 39; refine (hWr.out _).mono ?_; rintro e w17 ⟨rfl, hb17⟩))
      have hD17 := hD.keep hb17
      have hrd17 := hrd.below hb17
      clear hD hrd hb17 hui5
      have hrdb := (ok_facts i hc).1
      have hud := Tryz.underlying35
      have hT2 : Hid (T' = if 0 < i.rd then (T.set 32 WY).set i.rd.toNat O else T.set 32 WY) := Lib.hid (by rw [← hT'.out, ← hWY.out, ← hO.out]; rfl)
      by_cases hp : 0 < i.rd
      · have hd : decide (0 < i.rd) = true := decide_eq_true hp
        have hT3 : Hid (T' = (T.set 32 WY).set i.rd.toNat O) := Lib.hid (by rw [hT2.out, if_pos hp])
        obtain ⟨⟨x17, cT⟩, fT⟩ := hD17.cellT i.rd.toNat (by omega)
        have hlt2 : i.rd < 32 := by omega
        have hge : 0 ≤ i.rd := by omega
        go_upto_region 28 with fail
        have hD18 := hD17.putT i.rd.toNat (by omega) hrd17
        rw [← hT3.out] at hD18
        clear hD17 hrd17 cT fT
        generalize World.setCell _ _ _ = w18 at hD18 ⊢
        obtain ⟨c9, va, vd, vw, hE9⟩ := hD18.se
        have hlc9 := Lib.hid hE9.hT.lc
        have hs9 : Hid ((Tryz.prog.info? 28).map (·.size) = some c9.length) := Lib.hid (by rw [hlc9.out]; exact size_taint)
        have h19 : Hid (c9.toArray.all (·.oneCell') = true) := Lib.hid (all_oneCell_toArray hE9.hT.one)
        have h1d : Hid ([va, vd, vw].toArray.all (·.oneCell') = true) := Lib.hid (all_oneCell_toArray hE9.one)
        clear hD18
        refine wp_region_held_drew (S := fun W => SE w W D c9 va vd vw T' da dd l32) (by kernel_rfl) hE9.drew (fun hHeld => ?_)
        refine wpAnyH_take (i := 0) rfl (by kernel_rfl) (by kernel_rfl) (by kernel_rfl) (fun _ _ _ h => h) (yieldsIf_load_mid (by rfl) 28 _ rfl w.heap.size 0 rfl c9 _ (fun W hS => hS.r0) hu rfl hs9.out) hHeld ?_
        try simp only [Act.put, List.getElem_toArray, List.getElem_cons_zero, List.setIfInBounds_toArray, List.set_cons_zero, List.set_cons_succ]
        generalize World.drew _ = W0 at hHeld ⊢
        refine wpAnyH_take (i := 1) rfl (by kernel_rfl) (by kernel_rfl) (by kernel_rfl) (fun _ _ _ h => h) (yieldsIf_load_mid (by rfl) 35 _ rfl D 0 rfl [va, vd, vw] _ (fun W hS => hS.rD) hud rfl size_deps) hHeld ?_
        try simp only [Act.put, List.getElem_toArray, List.getElem_cons_succ, List.getElem_cons_zero, List.setIfInBounds_toArray, List.set_cons_zero, List.set_cons_succ]
        refine wpAnyH_ready (rs := [2]) (by kernel_rfl) (by simp) (AllReadyH.cons rfl (fun K hK2 => ?_) AllReadyH.nil)
        rw [if_pos (by rfl)]
        simp only [List.getElem_toArray, List.getElem_cons_succ, List.getElem_cons_zero]
        refine wp_store_mid 28 _ _ rfl (w.heap.size + 2) 0 c9.toArray rfl rfl (fun j hj => hHeld.z6 j (by rw [List.size_toArray, hlc9.out] at hj; exact hj)) (by rw [List.size_toArray]; exact hs9.out) h19.out ?_
        change K _ (World.setCells _ (w.heap.size + 2) 0 c9)
        have r6 := World.rangeAt_setCells_same W0 (w.heap.size + 2) 0 c9 (by rw [hlc9.out]; exact hHeld.z6)
        refine hK2.out _ _ (hHeld.fill (w.heap.size + 2) (.inl rfl) c9) (fun hHeld2 => ?_)
        clear hK2 K hHeld
        have hHeld := hHeld2
        clear hHeld2
        try simp only [Act.put, List.getElem_toArray, List.getElem_cons_succ, List.getElem_cons_zero, List.setIfInBounds_toArray, List.set_cons_zero, List.set_cons_succ]
        generalize World.setCells W0 (w.heap.size + 2) 0 c9 = W1 at hHeld r6 ⊢
        refine wpAnyH_ready (rs := [3]) (by kernel_rfl) (by simp) (AllReadyH.cons rfl (fun K hK2 => ?_) AllReadyH.nil)
        rw [if_pos (by rfl)]
        simp only [List.getElem_toArray, List.getElem_cons_succ, List.getElem_cons_zero]
        refine wp_store_mid 35 _ _ rfl (w.heap.size + 3) 0 [va, vd, vw].toArray rfl rfl (fun j hj => hHeld.z7 j hj) size_deps h1d.out ?_
        change K _ (World.setCells _ (w.heap.size + 3) 0 [va, vd, vw])
        have r7 := World.rangeAt_setCells_same W1 (w.heap.size + 3) 0 [va, vd, vw] (fun j hj => hHeld.z7 j hj)
        replace r6 := World.rangeAt_setCells_apart r6 (w.heap.size + 3) 0 [va, vd, vw] (.inl (by omega))
        refine hK2.out _ _ (hHeld.fill (w.heap.size + 3) (.inr rfl) [va, vd, vw]) (fun hHeld2 => ?_)
        clear hK2 K hHeld
        have hHeld := hHeld2
        clear hHeld2
        try simp only [Act.put, List.getElem_toArray, List.getElem_cons_succ, List.getElem_cons_zero, List.setIfInBounds_toArray, List.set_cons_zero, List.set_cons_succ]
        generalize World.setCells W1 (w.heap.size + 3) 0 [va, vd, vw] = W2 at hHeld r6 r7 ⊢
        refine wpAnyH_take (i := 4) (v := .int .i64 0) rfl (by kernel_rfl) (by kernel_rfl) (by kernel_rfl) (fun _ _ _ h => h) (Or.inl ⟨by rfl, fun W _ => by kernel_rfl⟩) hHeld ?_
        try simp only [Act.put, List.getElem_toArray, List.getElem_cons_succ, List.getElem_cons_zero, List.setIfInBounds_toArray, List.set_cons_zero, List.set_cons_succ]
        refine wpAnyH_done (by kernel_rfl) ?_ _
        go_wp2_with fail
        have hl6 := run_loadVar_mid W2 (w.heap.size + 2) 0 28 c9 _ r6 hu rfl hs9.out
        have hl7 := run_loadVar_mid W2 (w.heap.size + 3) 0 35 [va, vd, vw] _ r7 hud rfl size_deps
        exact bodyPost_ret (v := .tuple #[.agg c9.toArray, .agg [va, vd, vw].toArray, .int .i64 0]) (res_3 Tryz.results10 _ _ _ _ _ _ _ rfl rfl rfl hl6 hl7) rfl ⟨c9, va, vd, vw, rfl, hHeld.hT.mono fun b hb => by omega, hHeld.pa.mono fun b hb => by omega, hHeld.pd.mono fun b hb => by omega, hHeld.pw.mono fun b hb => by omega, hHeld.bl⟩
      · have hd : decide (0 < i.rd) = false := decide_eq_false hp
        have hT3 : Hid (T' = T.set 32 WY) := Lib.hid (by rw [hT2.out, if_neg hp])
        go_upto_region 28 with fail
        have hD18 := hD17
        rw [← hT3.out] at hD18
        clear hD17 hrd17
        obtain ⟨c9, va, vd, vw, hE9⟩ := hD18.se
        have hlc9 := Lib.hid hE9.hT.lc
        have hs9 : Hid ((Tryz.prog.info? 28).map (·.size) = some c9.length) := Lib.hid (by rw [hlc9.out]; exact size_taint)
        have h19 : Hid (c9.toArray.all (·.oneCell') = true) := Lib.hid (all_oneCell_toArray hE9.hT.one)
        have h1d : Hid ([va, vd, vw].toArray.all (·.oneCell') = true) := Lib.hid (all_oneCell_toArray hE9.one)
        clear hD18
        refine wp_region_held_drew (S := fun W => SE w W D c9 va vd vw T' da dd l32) (by kernel_rfl) hE9.drew (fun hHeld => ?_)
        refine wpAnyH_take (i := 0) rfl (by kernel_rfl) (by kernel_rfl) (by kernel_rfl) (fun _ _ _ h => h) (yieldsIf_load_mid (by rfl) 28 _ rfl w.heap.size 0 rfl c9 _ (fun W hS => hS.r0) hu rfl hs9.out) hHeld ?_
        try simp only [Act.put, List.getElem_toArray, List.getElem_cons_zero, List.setIfInBounds_toArray, List.set_cons_zero, List.set_cons_succ]
        generalize World.drew _ = W0 at hHeld ⊢
        refine wpAnyH_take (i := 1) rfl (by kernel_rfl) (by kernel_rfl) (by kernel_rfl) (fun _ _ _ h => h) (yieldsIf_load_mid (by rfl) 35 _ rfl D 0 rfl [va, vd, vw] _ (fun W hS => hS.rD) hud rfl size_deps) hHeld ?_
        try simp only [Act.put, List.getElem_toArray, List.getElem_cons_succ, List.getElem_cons_zero, List.setIfInBounds_toArray, List.set_cons_zero, List.set_cons_succ]
        refine wpAnyH_ready (rs := [2]) (by kernel_rfl) (by simp) (AllReadyH.cons rfl (fun K hK2 => ?_) AllReadyH.nil)
        rw [if_pos (by rfl)]
        simp only [List.getElem_toArray, List.getElem_cons_succ, List.getElem_cons_zero]
        refine wp_store_mid 28 _ _ rfl (w.heap.size + 2) 0 c9.toArray rfl rfl (fun j hj => hHeld.z6 j (by rw [List.size_toArray, hlc9.out] at hj; exact hj)) (by rw [List.size_toArray]; exact hs9.out) h19.out ?_
        change K _ (World.setCells _ (w.heap.size + 2) 0 c9)
        have r6 := World.rangeAt_setCells_same W0 (w.heap.size + 2) 0 c9 (by rw [hlc9.out]; exact hHeld.z6)
        refine hK2.out _ _ (hHeld.fill (w.heap.size + 2) (.inl rfl) c9) (fun hHeld2 => ?_)
        clear hK2 K hHeld
        have hHeld := hHeld2
        clear hHeld2
        try simp only [Act.put, List.getElem_toArray, List.getElem_cons_succ, List.getElem_cons_zero, List.setIfInBounds_toArray, List.set_cons_zero, List.set_cons_succ]
        generalize World.setCells W0 (w.heap.size + 2) 0 c9 = W1 at hHeld r6 ⊢
        refine wpAnyH_ready (rs := [3]) (by kernel_rfl) (by simp) (AllReadyH.cons rfl (fun K hK2 => ?_) AllReadyH.nil)
        rw [if_pos (by rfl)]
        simp only [List.getElem_toArray, List.getElem_cons_succ, List.getElem_cons_zero]
        refine wp_store_mid 35 _ _ rfl (w.heap.size + 3) 0 [va, vd, vw].toArray rfl rfl (fun j hj => hHeld.z7 j hj) size_deps h1d.out ?_
        change K _ (World.setCells _ (w.heap.size + 3) 0 [va, vd, vw])
        have r7 := World.rangeAt_setCells_same W1 (w.heap.size + 3) 0 [va, vd, vw] (fun j hj => hHeld.z7 j hj)
        replace r6 := World.rangeAt_setCells_apart r6 (w.heap.size + 3) 0 [va, vd, vw] (.inl (by omega))
        refine hK2.out _ _ (hHeld.fill (w.heap.size + 3) (.inr rfl) [va, vd, vw]) (fun hHeld2 => ?_)
        clear hK2 K hHeld
        have hHeld := hHeld2
        clear hHeld2
        try simp only [Act.put, List.getElem_toArray, List.getElem_cons_succ, List.getElem_cons_zero, List.setIfInBounds_toArray, List.set_cons_zero, List.set_cons_succ]
        generalize World.setCells W1 (w.heap.size + 3) 0 [va, vd, vw] = W2 at hHeld r6 r7 ⊢
        refine wpAnyH_take (i := 4) (v := .int .i64 0) rfl (by kernel_rfl) (by kernel_rfl) (by kernel_rfl) (fun _ _ _ h => h) (Or.inl ⟨by rfl, fun W _ => by kernel_rfl⟩) hHeld ?_
        try simp only [Act.put, List.getElem_toArray, List.getElem_cons_succ, List.getElem_cons_zero, List.setIfInBounds_toArray, List.set_cons_zero, List.set_cons_succ]
        refine wpAnyH_done (by kernel_rfl) ?_ _
        go_wp2_with fail
        have hl6 := run_loadVar_mid W2 (w.heap.size + 2) 0 28 c9 _ r6 hu rfl hs9.out
        have hl7 := run_loadVar_mid W2 (w.heap.size + 3) 0 35 [va, vd, vw] _ r7 hud rfl size_deps
        exact bodyPost_ret (v := .tuple #[.agg c9.toArray, .agg [va, vd, vw].toArray, .int .i64 0]) (res_3 Tryz.results10 _ _ _ _ _ _ _ rfl rfl rfl hl6 hl7) rfl ⟨c9, va, vd, vw, rfl, hHeld.hT.mono fun b hb => by omega, hHeld.pa.mono fun b hb => by omega, hHeld.pd.mono fun b hb => by omega, hHeld.pw.mono fun b hb => by omega, hHeld.bl⟩
end Go.Proofs.YtebeajnaamglkaaGreatDoor
