/- AsmGoes, whatever comes. Conditions: the variables lie as their initialisers lay them. -/
import Derived.Test.YtcgflnkgekkidaaGreatDoorAsmGd
import Derived.Test.YtcgflnkgekkidaaGreatDoorAsmGF
import Derived.Deep.DeepCutAuto
set_option linter.unusedSimpArgs false
set_option linter.unusedVariables false
namespace Go.Proofs.YtcgflnkgekkidaaGreatDoor
open Go.RowKit Go.Maps
theorem keyed_intG : Go.Maps.Keyed Tryz.prog 3 := int_keyed Tryz.underlying3
theorem three_ways (c d l : Bool) (h : (l == (c && d)) = false) : (c = false ∧ l = true) ∨ (c = true ∧ d = false ∧ l = true) ∨ (c = true ∧ d = true ∧ l = false) := by
  cases c <;> cases d <;> cases l <;> simp_all
theorem nop_fit : nopV.insn.op ≤ 9223372036854775807 ∧ (Lit.int .i64 nopV.label).wf = true := by decide +kernel
theorem pad_fit {F : Nat → ItemV} {n : Nat} (hF : FitF F n) (a m : Nat) (ha : a ≤ n) : FitF (padF a m F) (n + m) := fun k hk => by
  unfold padF
  by_cases h1 : k < a
  · rw [if_pos h1]; exact hF k (by omega)
  · rw [if_neg h1]
    by_cases h2 : k < a + m
    · rw [if_pos h2]; exact nop_fit
    · rw [if_neg h2]; exact hF (k - m) (by omega)
theorem pad_op {F : Nat → ItemV} {n : Nat} (hF : ∀ k, k < n → -9223372036854775808 ≤ (F k).insn.op) (a m : Nat) (ha : a ≤ n) : ∀ k, k < n + m → -9223372036854775808 ≤ (padF a m F k).insn.op := fun k hk => by
  unfold padF
  by_cases h1 : k < a
  · rw [if_pos h1]; exact hF k (by omega)
  · rw [if_neg h1]
    by_cases h2 : k < a + m
    · rw [if_pos h2]; decide
    · rw [if_neg h2]; exact hF (k - m) (by omega)
theorem goes_pos {F : Nat → ItemV} {n k : Nat} (hc : checkV F n = 0) (hn : n ≤ 3060) (hk : k < n) (hg : (F k).kind = 3 ∨ (F k).kind = 4) : 0 < (outW F n).length := by
  obtain ⟨a, b, -, -, -, -, h⟩ := item_nat F n k hc hn hk hg
  have hne : ∃ i, (insnsV F n (longV F n) k)[0]? = some i := by
    unfold insnsV
    rw [if_neg (by omega), if_neg (by omega), if_pos (by omega)]
    split <;> exact ⟨_, rfl⟩
  obtain ⟨i, hi⟩ := hne
  have := (h 0 i hi).1
  omega
set_option maxRecDepth 100000 in
set_option maxHeartbeats 16000000 in
theorem AsmGoes_far (ao : Option Addr) (n cap : Nat) (at1 n1 : Int) (w : World) (ht : Tabs w) (hfl : Flds w) (hn : 60 < n) :
    Calls Tryz.prog 5 #[.slice ao n cap, .int .i64 at1, .int .i64 n1] w fun e w' => e = .returned (.bool true) ∧ Below w.heap.size w w' := by
  have d1 : decide ((n : Int) > 60) = true := decide_eq_true (by omega)
  have hn2 : (60 : Int) < (n : Int) := by omega
  have hLv := Lib.hid (Lives15_any w ht hfl)
  go_enter Tryz.func5, Tryz.ntmps5
  go_wp2_with (go_at_call 9; (with_reducible refine hLv.out.mono ?_); rintro e w1 ⟨rfl, hb1⟩; clear hLv)
  go_ret
  exact ⟨rfl, hb1⟩
set_option maxRecDepth 100000 in
set_option maxHeartbeats 32000000 in
theorem AsmGoes_go (ao : Option Addr) (n cap : Nat) (F : Nat → ItemV) (at1 n1 : Int) (w : World) (hI0 : ItemsAt w ao n F) (hF0 : FitF F n) (hlo0 : ∀ k, k < n → -9223372036854775808 ≤ (F k).insn.op) (ht : Tabs w) (hfl : Flds w) (hn : n ≤ 60) (hc : n ≤ cap) (hcm : cap ≤ maxLen) :
    Calls Tryz.prog 5 #[.slice ao n cap, .int .i64 at1, .int .i64 n1] w fun e w' => e = .returned (.bool true) ∧ Below w.heap.size w w' := by
  have d1 : decide ((n : Int) > 60) = false := decide_eq_false (by omega)
  have hn2 : ¬ (60 : Int) < (n : Int) := by omega
  obtain ⟨km, hkm, hPm⟩ := Pick_nat_any n1 3000 (by decide) (by decide)
  obtain ⟨ka, hka, hPd0⟩ := Padded_any ao n cap F at1 km hn hc hcm (by omega)
  have hLv := Lib.hid (Lives15_any w ht hfl)
  obtain ⟨G, hG⟩ : ∃ G, G = padF ka km F := ⟨_, rfl⟩
  obtain ⟨N, hN⟩ : ∃ N, N = n + km := ⟨_, rfl⟩
  have hF : FitF G N := by rw [hG, hN]; exact pad_fit hF0 ka km hka
  have hlo : ∀ k, k < N → -9223372036854775808 ≤ (G k).insn.op := by rw [hG, hN]; exact pad_op hlo0 ka km hka
  rw [← hG, ← hN] at hPd0
  have hN2 : N ≤ 3060 := by omega
  have hPd := Lib.hid (fun (W : World) (hW : Below w.heap.size w W) => hPd0 W (hI0.keep hW))
  have hOw := Lib.hid (fun (W : World) (A : Option Addr) (c : Nat) (hA : ItemsAt W A N G) => KOwnI_any A N c G W hA (by omega))
  have hBd := Lib.hid (fun (W : World) (A : Option Addr) (c : Nat) (hW : Below w.heap.size w W) (hA : ItemsAt W A N G) => Build_any A N c G W hA hF hlo (ht.later hW (Nat.le_refl _)) (hfl.later hW))
  have hLg := Lib.hid (fun (W : World) (A : Option Addr) (c : Nat) (hW : Below w.heap.size w W) (hA : ItemsAt W A N G) => Long_any A N c G W hA hF (ht.later hW (Nat.le_refl _)))
  have hC4 := Lib.hid (fun (hz : checkV G N = 0) (k : Nat) (hk : k < N) (h4 : (G k).kind = 4) (bw c : Nat) (W : World) (hW : VR bw (outW G N).length (fun j => .int .u32 (un32 ((outW G N).getD j 0#32))) W) => Come_item4 G N k hz hN2 hk h4 bw c W hW)
  have hC3 := Lib.hid (fun (hz : checkV G N = 0) (k : Nat) (hk : k < N) (h3 : (G k).kind = 3) (tk : Bool) (bw c : Nat) (W : World) (hW : VR bw (outW G N).length (fun j => .int .u32 (un32 ((outW G N).getD j 0#32))) W) => Come_item3 G N k hz hN2 hk h3 tk bw c W hW)
  have hT3 := Lib.hid (fun (hz : checkV G N = 0) (k : Nat) (hk : k < N) (h3 : (G k).kind = 3) (d y : Int) => goes_test G N k hz hk h3 d y)
  have hNp : Hid (checkV G N = 0 → ∀ k, k < N → (G k).kind = 3 ∨ (G k).kind = 4 → 0 < (outW G N).length) := Lib.hid fun hz k hk hg => goes_pos hz hN2 hk hg
  have hbP : Hid (∀ k, k < N → 0 ≤ placeF G (longV G N) k ∧ placeF G (longV G N) k ≤ 39780) := Lib.hid fun k hk => by have := placeF_bd G (longV G N) k; omega
  have hbL : Hid (∀ x, 0 ≤ labV G (longV G N) N x ∧ labV G (longV G N) N x ≤ 39780) := Lib.hid fun x => by have := labV_bd G (longV G N) N x; omega
  have hE1 : Hid (checkV G N = 0 → outN G N = N) := Lib.hid fun hz => if_pos hz
  have hWl : Hid (∀ k, k < N → (Lit.int .i64 (G k).label).wf = true) := Lib.hid fun k hk => (hF k hk).2
  unfold BuildR at hBd
  unfold LongR at hLg
  clear hPd0 hF hlo hF0 hlo0 ht hfl hI0 hka hn hc hcm
  generalize checkV G N = E at hBd hLg hC4 hC3 hT3 hNp hE1
  generalize outN G N = ON at hBd hLg hE1
  generalize hWS : outW G N = WS at hBd hC4 hC3 hNp
  clear hWS
  have hN0 : (0 : Int) ≤ (N : Int) := Int.natCast_nonneg N
  have hbc := Below.refl w.heap.size w
  have hmm := @run_makeMap Tryz.prog
  have tE : (E != E) = false := by simp
  have tE2 : (E == E) = true := by simp
  clear hG hN
  go_enter Tryz.func5, Tryz.ntmps5
  go_upto_region 6 with (first | (go_at_call 9; (with_reducible refine hLv.out.mono ?_); rintro e w1 ⟨rfl, hb1⟩; clear hLv; replace hbc := hbc.trans (hb1.mono hbc.size); clear hb1) | (go_at_call 10; (with_reducible refine (hPm.out _).mono ?_); rintro e w2 ⟨rfl, rfl⟩; clear hPm) | (go_at_call 20; (with_reducible refine (hPd.out _ hbc).mono ?_); rintro e w2 ⟨⟨A0, c0, rfl, hA0⟩, hb2⟩; clear hPd; replace hbc := hbc.trans (hb2.mono hbc.size); clear hb2))
  go_upto_region 7 with (first | (go_at_call 13; (with_reducible refine (hOw.out _ _ _ hA0).mono ?_); rintro e w3 ⟨⟨A3, c3, rfl, hA3, -⟩, hb3⟩; clear hOw; replace hA0 := hA0.keep hb3; replace hbc := hbc.trans (hb3.mono hbc.size); clear hb3) | (go_at_call 12; (with_reducible refine (hBd.out _ _ _ hbc hA3).mono ?_); rintro e w4 ⟨⟨v, u, rfl, hsv, hsu⟩, hb4⟩; clear hBd hA3; replace hA0 := hA0.keep hb4; replace hbc := hbc.trans (hb4.mono hbc.size); clear hb4))
  go_upto_region 8 with (go_at_call 21; (with_reducible refine (hLg.out _ _ _ hbc hA0).mono ?_); rintro e w5 ⟨⟨x, rfl, hsx⟩, hb5⟩; clear hLg; replace hA0 := hA0.keep hb5; replace hsv := hsv.keep hb5; replace hsu := hsu.keep hb5; replace hbc := hbc.trans (hb5.mono hbc.size); clear hb5)
  by_cases hz : E = 0
  case neg =>
    have tE0 : (E != 0) = true := by simpa using hz
    clear hz hsv hsu hsx hA0 hC4 hC3 hT3 hNp hbP hbL hE1 hWl
    go_wp2_with fail
    go_ret
    exact ⟨rfl, hbc⟩
  subst hz
  rw [hE1.out rfl] at hsu hsx
  replace hC4 := Lib.hid (hC4.out rfl)
  replace hC3 := Lib.hid (hC3.out rfl)
  replace hT3 := Lib.hid (hT3.out rfl)
  replace hNp := Lib.hid (hNp.out rfl)
  clear hE1
  obtain ⟨Aw, cw, rfl, -, hsv⟩ := hsv
  obtain ⟨Ap, cp, rfl, -, hsu⟩ := hsu
  obtain ⟨Al, cl, rfl, -, hsx⟩ := hsx
  generalize hWN : WS.length = WN at hsv hC4 hC3 hNp
  clear hWN
  replace hsv := Lib.hid hsv
  replace hsu := Lib.hid hsu
  replace hsx := Lib.hid hsx
  replace hA0 := Lib.hid hA0
  have tN : ((N : Int) != (N : Int)) = false := by simp
  go_upto_region 13 with fail
  have hm0 := MapAt.made 3 w5
  have hb0 : Below w5.heap.size w5 (w5.alloc (.map #[] 0)) := (Below.refl _ _).alloc (Nat.le_refl _) _
  generalize w5.alloc (.map #[] 0) = w7 at hm0 hb0 ⊢
  go_wp2_with fail
  go_loopw [13] (fun s13 wr => ∃ k : Nat, k ≤ N ∧ s13 = .int .i64 k ∧ MapAt 3 wr w5.heap.size k (labF G (longV G N) (fun _ => 0) k) ∧ Below w5.heap.size w5 wr) (fun s13 _ => N - (intOf s13).toNat)
  case atStart => exact ⟨0, Nat.zero_le _, rfl, hm0, hb0⟩
  case round =>
    obtain ⟨k, hk, rfl, hM, hb⟩ := hrel
    clear hm0 hb0
    have hk1 : (0 : Int) ≤ (k : Int) := Int.natCast_nonneg k
    by_cases hlt : k < N
    · obtain ⟨ib, ia, rfl, hib, hcc⟩ := hA0.out (by omega)
      obtain ⟨bp, rfl, -, hvp⟩ := hsu.out (by omega)
      have hM1 : Hid (labF G (longV G N) (fun _ => 0) (k + 1) = fun x => if (G k).kind = 2 ∧ x = (G k).label then placeF G (longV G N) k else labF G (longV G N) (fun _ => 0) k x) := Lib.hid rfl
      have hwk := hWl.out k hlt
      have hIk : Hid (∀ W, Below w5.heap.size w5 W → W.rangeAt ib (ia + k * 12) (G k).cells.toList) := Lib.hid fun W hW => item_range (fun j v hv => (hW.cell (p := ⟨ib, ia + k * 12 + j, none⟩) hib).trans (hcc k hlt j v hv))
      have hPk : Hid (∀ W, Below w5.heap.size w5 W → W.cell? ⟨bp, k, none⟩ = some (.int .i64 (placeF G (longV G N) k))) := Lib.hid fun W hW => (hvp.keep hW).c k hlt
      have hpb := hbP.out k hlt
      clear hcc hvp hC4 hC3 hT3 hNp hsv hsx hWl hbP hbL
      generalize placeF G (longV G N) k = pl at hM1 hPk hpb
      obtain ⟨it, hit⟩ : ∃ it, G k = it := ⟨_, rfl⟩
      rw [hit] at hM1 hwk hIk
      clear hit
      obtain ⟨kd, ins, lb, ad⟩ := it
      simp only at hM1 hwk
      have ck : wr.cell? ⟨ib, ia + k * 12, none⟩ = some (.int .i64 kd) := hIk.out wr hb 0 _ rfl
      have hcl : Hid (∀ W, Below w5.heap.size w5 W → W.cell? ⟨ib, ia + k * 12 + 10, none⟩ = some (.int .i64 lb)) := Lib.hid fun W hW => hIk.out W hW 10 _ rfl
      clear hIk
      by_cases h2 : kd = 2
      · have e : labF G (longV G N) (fun _ => 0) (k + 1) = fun y => if y = lb then pl else labF G (longV G N) (fun _ => 0) k y := by
          rw [hM1.out]; funext x
          by_cases hx : x = lb
          · rw [if_pos ⟨h2, hx⟩, if_pos hx]
          · rw [if_neg (fun hh => hx hh.2), if_neg hx]
        replace e := Lib.hid e
        have tk2 : (kd == 2) = true := by rw [h2]; rfl
        clear h2 hM1
        as_aux_lemma =>
        go_upto_region 17 with fail
        clear ck
        have hM6 := hM.keep (Below.refl _ _).drew
        refine wp_region_held_drew (S := fun W => Below w5.heap.size w5 W) (by kernel_rfl) hb.drew (fun hHeld => ?_)
        clear hM hb
        generalize World.drew _ = w6 at hHeld hM6 ⊢
        refine wpAnyH_take (i := 0) (v := .map (some w5.heap.size)) rfl (by kernel_rfl) (by kernel_rfl) (by kernel_rfl) (fun _ _ _ h => h) (Or.inl ⟨by rfl, fun W _ => by kernel_rfl⟩) hHeld ?_
        try simp only [Act.put, List.getElem_toArray, List.getElem_cons_zero, List.setIfInBounds_toArray, List.set_cons_zero, List.set_cons_succ]
        refine wpAnyH_take (i := 1) (v := .slice (some ⟨ib, ia, none⟩) N c0) rfl (by kernel_rfl) (by kernel_rfl) (by kernel_rfl) (fun _ _ _ h => h) (Or.inl ⟨by rfl, fun W _ => by kernel_rfl⟩) hHeld ?_
        try simp only [Act.put, List.getElem_toArray, List.getElem_cons_succ, List.getElem_cons_zero, List.setIfInBounds_toArray, List.set_cons_zero, List.set_cons_succ]
        refine wpAnyH_take (i := 2) (v := .int .i64 k) rfl (by kernel_rfl) (by kernel_rfl) (by kernel_rfl) (fun _ _ _ h => h) (Or.inl ⟨by rfl, fun W _ => by kernel_rfl⟩) hHeld ?_
        try simp only [Act.put, List.getElem_toArray, List.getElem_cons_succ, List.getElem_cons_zero, List.setIfInBounds_toArray, List.set_cons_zero, List.set_cons_succ]
        refine wpAnyH_take (i := 3) (v := .pointer (some ⟨ib, ia + k * 12, none⟩)) rfl (by kernel_rfl) (by kernel_rfl) (by kernel_rfl) (fun _ _ _ h => h) (Or.inl ⟨by rfl, fun W _ => by go_simp⟩) hHeld ?_
        try simp only [Act.put, List.getElem_toArray, List.getElem_cons_succ, List.getElem_cons_zero, List.setIfInBounds_toArray, List.set_cons_zero, List.set_cons_succ]
        refine wpAnyH_take (i := 4) (v := .pointer (some ⟨ib, ia + k * 12 + 10, none⟩)) rfl (by kernel_rfl) (by kernel_rfl) (by kernel_rfl) (fun _ _ _ h => h) (Or.inl ⟨by rfl, fun W _ => by go_simp⟩) hHeld ?_
        try simp only [Act.put, List.getElem_toArray, List.getElem_cons_succ, List.getElem_cons_zero, List.setIfInBounds_toArray, List.set_cons_zero, List.set_cons_succ]
        refine wpAnyH_take (i := 5) (v := .int .i64 lb) rfl (by kernel_rfl) (by kernel_rfl) (by kernel_rfl) (fun _ _ _ h => h) (Or.inl ⟨by rfl, fun W hS => by (have k4 := hcl.out W hS; go_simp)⟩) hHeld ?_
        try simp only [Act.put, List.getElem_toArray, List.getElem_cons_succ, List.getElem_cons_zero, List.setIfInBounds_toArray, List.set_cons_zero, List.set_cons_succ]
        refine wpAnyH_take (i := 6) (v := .slice (some ⟨bp, 0, none⟩) N cp) rfl (by kernel_rfl) (by kernel_rfl) (by kernel_rfl) (fun _ _ _ h => h) (Or.inl ⟨by rfl, fun W _ => by kernel_rfl⟩) hHeld ?_
        try simp only [Act.put, List.getElem_toArray, List.getElem_cons_succ, List.getElem_cons_zero, List.setIfInBounds_toArray, List.set_cons_zero, List.set_cons_succ]
        refine wpAnyH_take (i := 7) (v := .int .i64 k) rfl (by kernel_rfl) (by kernel_rfl) (by kernel_rfl) (fun _ _ _ h => h) (Or.inl ⟨by rfl, fun W _ => by kernel_rfl⟩) hHeld ?_
        try simp only [Act.put, List.getElem_toArray, List.getElem_cons_succ, List.getElem_cons_zero, List.setIfInBounds_toArray, List.set_cons_zero, List.set_cons_succ]
        refine wpAnyH_take (i := 8) (v := .pointer (some ⟨bp, k, none⟩)) rfl (by kernel_rfl) (by kernel_rfl) (by kernel_rfl) (fun _ _ _ h => h) (Or.inl ⟨by rfl, fun W _ => by go_simp⟩) hHeld ?_
        try simp only [Act.put, List.getElem_toArray, List.getElem_cons_succ, List.getElem_cons_zero, List.setIfInBounds_toArray, List.set_cons_zero, List.set_cons_succ]
        refine wpAnyH_take (i := 9) (v := .int .i64 pl) rfl (by kernel_rfl) (by kernel_rfl) (by kernel_rfl) (fun _ _ _ h => h) (Or.inl ⟨by rfl, fun W hS => by (have k4 := hPk.out W hS; go_simp)⟩) hHeld ?_
        try simp only [Act.put, List.getElem_toArray, List.getElem_cons_succ, List.getElem_cons_zero, List.setIfInBounds_toArray, List.set_cons_zero, List.set_cons_succ]
        refine wpAnyH_ready (rs := [10]) (by kernel_rfl) (by simp) (AllReadyH.cons rfl (fun K hK2 => ?_) AllReadyH.nil)
        rw [if_pos (by rfl)]
        simp only [List.getElem_toArray, List.getElem_cons_succ, List.getElem_cons_zero]
        refine wp_setM _ _ _ 56 3 rfl keyed_intG Tryz.underlying56 Tryz.underlying3 w5.heap.size k _ (by kernel_rfl) hM6 (by unfold maxLen; omega) lb pl (by kernel_rfl) (by kernel_rfl) hwk (WalkArith.wf_i64 (by omega)) ?_
        intro w8 hM8 hg8
        have hB8 : Below w5.heap.size w5 w8 := hHeld.grown hg8 hHeld.size (fun j hj => by injection hj with hj; rw [← hj]; exact Nat.le_refl _)
        refine hK2.out _ _ hB8 (fun _ => ?_)
        clear hK2 K
        try simp only [Act.put, List.getElem_toArray, List.getElem_cons_succ, List.getElem_cons_zero, List.setIfInBounds_toArray, List.set_cons_zero, List.set_cons_succ]
        refine wpAnyH_done (by kernel_rfl) ?_ _
        clear hHeld hM6 hg8
        go_wp2_with fail
        go_roundw
        case rel => exact ⟨k + 1, by omega, by go_num, by rw [e.out]; exact hM8, hB8⟩
        case measure => simp [intOf]; omega
      · have e : labF G (longV G N) (fun _ => 0) (k + 1) = labF G (longV G N) (fun _ => 0) k := by
          rw [hM1.out]; funext x; rw [if_neg (fun hh => h2 hh.1)]
        replace e := Lib.hid e
        have tk2 : (kd == 2) = false := by simpa using h2
        clear h2 hM1
        as_aux_lemma =>
        go_wp2_with fail
        go_roundw
        case rel => exact ⟨k + 1, by omega, by go_num, by rw [e.out]; exact hM.mono (Nat.le_succ _), hb⟩
        case measure => simp [intOf]; omega
    · obtain rfl : k = N := by omega
      replace hM : MapAt 3 wr w5.heap.size k (labV G (longV G k) k) := hM
      replace hA0 : Hid (ItemsAt wr A0 k G) := Lib.hid (hA0.out.keep hb)
      replace hsv : Hid (0 < WN → ∃ b, Aw = some ⟨b, 0, none⟩ ∧ VR b WN (fun j => .int .u32 (un32 (WS.getD j 0#32))) wr) := Lib.hid fun h => by obtain ⟨b, e, -, h2⟩ := hsv.out h; exact ⟨b, e, h2.keep hb⟩
      replace hsu : Hid (0 < k → ∃ b, Ap = some ⟨b, 0, none⟩ ∧ VR b k (fun j => .int .i64 (placeF G (longV G k) j)) wr) := Lib.hid fun h => by obtain ⟨b, e, -, h2⟩ := hsu.out h; exact ⟨b, e, h2.keep hb⟩
      replace hsx : Hid (0 < k → ∃ b, Al = some ⟨b, 0, none⟩ ∧ VR b k (fun j => .bool (longV G k j)) wr) := Lib.hid fun h => by obtain ⟨b, e, -, h2⟩ := hsx.out h; exact ⟨b, e, h2.keep hb⟩
      have hbt := hbc.trans (hb.mono hbc.size)
      have hM9 := Lib.hid (fun (W : World) (hW : Below wr.heap.size wr W) => hM.keep hW)
      generalize w5.heap.size = bm at hM9 ⊢
      clear hM hb hbc hlt hk
      obtain ⟨w9, hw9⟩ : ∃ w9, w9 = wr := ⟨_, rfl⟩
      rw [← hw9] at hA0 hsv hsu hsx hbt hM9 ⊢
      have hb90 : Below w9.heap.size w9 w9 := Below.refl _ _
      clear hw9 tN hkm hn2 d1
      obtain ⟨N, hN3⟩ : ∃ N, N = k := ⟨_, rfl⟩
      rw [← hN3] at hA0 hsu hsx hM9 hC4 hC3 hT3 hNp hbP hbL hWl hN2 hk1 ⊢
      clear hN3
      go_wp2_with fail
      go_loopw [14, 15, 16, 17, 18, 19, 20, 21, 22, 23] (fun s14 _ _ _ _ _ _ _ _ _ wr => ∃ k : Nat, k ≤ N ∧ s14 = .int .i64 k ∧ Below w9.heap.size w9 wr) (fun s14 _ _ _ _ _ _ _ _ _ _ => N - (intOf s14).toNat)
      case atStart => exact ⟨0, Nat.zero_le _, rfl, hb90⟩
      case round =>
        obtain ⟨k, hk, rfl, hb9⟩ := hrel
        clear hb90
        have hk1 : (0 : Int) ≤ (k : Int) := Int.natCast_nonneg k
        by_cases hlt : k < N
        · obtain ⟨ib, ia, rfl, hib, hcc⟩ := hA0.out (by omega)
          obtain ⟨bp, rfl, hvp⟩ := hsu.out (by omega)
          obtain ⟨bl, rfl, hvl⟩ := hsx.out (by omega)
          have hwk := hWl.out k hlt
          have hRk : Hid (∀ W, Below w9.heap.size w9 W → W.rangeAt ib (ia + k * 12) (G k).cells.toList) := Lib.hid fun W hW => item_range (fun j v hv => (hW.cell (p := ⟨ib, ia + k * 12 + j, none⟩) hib).trans (hcc k hlt j v hv))
          have hPk : Hid (∀ W, Below w9.heap.size w9 W → W.cell? ⟨bp, k, none⟩ = some (.int .i64 (placeF G (longV G N) k))) := Lib.hid fun W hW => (hvp.keep hW).c k hlt
          have hLk : Hid (∀ W, Below w9.heap.size w9 W → W.cell? ⟨bl, k, none⟩ = some (.bool (longV G N k))) := Lib.hid fun W hW => (hvl.keep hW).c k hlt
          have hpb := hbP.out k hlt
          have hlb := hbL.out (G k).label
          replace hC4 := Lib.hid (hC4.out k hlt)
          replace hC3 := Lib.hid (hC3.out k hlt)
          replace hT3 := Lib.hid (hT3.out k hlt)
          replace hNp := Lib.hid (hNp.out k hlt)
          clear hcc hvp hvl hWl hbP hbL
          have hto : Hid (labV G (longV G N) N (G k).label = labV G (longV G N) N (G k).label) := Lib.hid rfl
          generalize hLB : labV G (longV G N) N = LB at hM9 hlb hC4 hC3 hT3 hto
          generalize placeF G (longV G N) k = pl at hPk hpb hC4 hC3 hT3
          generalize longV G N k = lk at hLk hC4 hC3 hT3
          clear hLB hto
          obtain ⟨it, hit⟩ : ∃ it, G k = it := ⟨_, rfl⟩
          rw [hit] at hwk hRk hlb hC4 hC3 hT3 hNp
          clear hit
          obtain ⟨kd, ⟨op, rd, r1, r2, im, aq, rl, pr, su⟩, lb, ad⟩ := it
          simp only at hwk hlb hC4 hC3 hT3 hNp
          obtain ⟨to1, hto1⟩ : ∃ to1, to1 = LB lb := ⟨_, rfl⟩
          rw [← hto1] at hlb hC4 hC3 hT3
          replace hto1 := Lib.hid hto1
          have ck : wr.cell? ⟨ib, ia + k * 12, none⟩ = some (.int .i64 kd) := hRk.out wr hb9 0 _ rfl
          have cb : wr.cell? ⟨ib, ia + k * 12 + 10, none⟩ = some (.int .i64 lb) := hRk.out wr hb9 10 _ rfl
          have hIk : Hid (∀ W, Below w9.heap.size w9 W → W.rangeAt ib (ia + k * 12 + 1) [.int .i64 op, .int .i64 rd, .int .i64 r1, .int .i64 r2, .int .i64 im, .bool aq, .bool rl, .int .i64 pr, .int .i64 su]) := Lib.hid fun W hW j v hv => by
            have h := hRk.out W hW (1 + j) v (by
              rcases (show j = 0 ∨ j = 1 ∨ j = 2 ∨ j = 3 ∨ j = 4 ∨ j = 5 ∨ j = 6 ∨ j = 7 ∨ j = 8 ∨ 9 ≤ j by omega) with rfl | rfl | rfl | rfl | rfl | rfl | rfl | rfl | rfl | h9
              all_goals first | exact hv | (rw [List.getElem?_eq_none (by simpa using h9)] at hv; cases hv))
            rwa [← Nat.add_assoc] at h
          have hMw := Lib.hid (hM9.out wr hb9)
          clear hRk hM9
          go_upto_region 22 with (refine wpList_lookM _ (by first | rfl | kernel_rfl) _ _ 56 3 rfl keyed_intG Tryz.underlying56 Tryz.underlying3 bm N LB rfl hMw.out lb rfl hwk ?_; rw [← hto1.out])

          clear hMw cb hto1
          by_cases h4 : kd = 4
          · have t4 : (kd == 4) = true := by rw [h4]; rfl
            obtain ⟨bw, rfl, hvw⟩ := hsv.out (hNp.out (.inr h4))
            have hC : Hid (∀ W, Below w9.heap.size w9 W → Calls Tryz.prog 22 #[.slice (some ⟨bw, 0, none⟩) WN cw, .int .i64 pl, .agg #[.int .i64 op, .int .i64 rd, .int .i64 r1, .int .i64 r2, .int .i64 im, .bool aq, .bool rl, .int .i64 pr, .int .i64 su], .bool true, .bool false] W fun e w' => (∃ b : Bool, e = .returned (.tuple #[.int .i64 to1, .bool b])) ∧ Below W.heap.size W w') := Lib.hid fun W hW => hC4.out h4 bw cw W (hvw.keep hW)
            clear hC4 hC3 hT3 hNp hvw h4 hLk
            as_aux_lemma =>
            go_upto_region 24 with fail
            clear ck
            refine wp_region_held_drew (S := fun W => Below w9.heap.size w9 W) (by kernel_rfl) hb9.drew (fun hHeld => ?_)
            generalize World.drew _ = w6 at hHeld ⊢
            refine wpAnyH_take (i := 0) (v := .slice (some ⟨bw, 0, none⟩) WN cw) rfl (by kernel_rfl) (by kernel_rfl) (by kernel_rfl) (fun _ _ _ h => h) (Or.inl ⟨by rfl, fun W _ => by kernel_rfl⟩) hHeld ?_
            try simp only [Act.put, List.getElem_toArray, List.getElem_cons_zero, List.setIfInBounds_toArray, List.set_cons_zero, List.set_cons_succ]
            refine wpAnyH_take (i := 1) (v := .slice (some ⟨bp, 0, none⟩) N cp) rfl (by kernel_rfl) (by kernel_rfl) (by kernel_rfl) (fun _ _ _ h => h) (Or.inl ⟨by rfl, fun W _ => by kernel_rfl⟩) hHeld ?_
            try simp only [Act.put, List.getElem_toArray, List.getElem_cons_succ, List.getElem_cons_zero, List.setIfInBounds_toArray, List.set_cons_zero, List.set_cons_succ]
            refine wpAnyH_take (i := 2) (v := .int .i64 k) rfl (by kernel_rfl) (by kernel_rfl) (by kernel_rfl) (fun _ _ _ h => h) (Or.inl ⟨by rfl, fun W _ => by kernel_rfl⟩) hHeld ?_
            try simp only [Act.put, List.getElem_toArray, List.getElem_cons_succ, List.getElem_cons_zero, List.setIfInBounds_toArray, List.set_cons_zero, List.set_cons_succ]
            refine wpAnyH_take (i := 3) (v := .pointer (some ⟨bp, k, none⟩)) rfl (by kernel_rfl) (by kernel_rfl) (by kernel_rfl) (fun _ _ _ h => h) (Or.inl ⟨by rfl, fun W _ => by go_simp⟩) hHeld ?_
            try simp only [Act.put, List.getElem_toArray, List.getElem_cons_succ, List.getElem_cons_zero, List.setIfInBounds_toArray, List.set_cons_zero, List.set_cons_succ]
            refine wpAnyH_take (i := 4) (v := .int .i64 pl) rfl (by kernel_rfl) (by kernel_rfl) (by kernel_rfl) (fun _ _ _ h => h) (Or.inl ⟨by rfl, fun W hS => by (have k4 := hPk.out W hS; go_simp)⟩) hHeld ?_
            try simp only [Act.put, List.getElem_toArray, List.getElem_cons_succ, List.getElem_cons_zero, List.setIfInBounds_toArray, List.set_cons_zero, List.set_cons_succ]
            refine wpAnyH_take (i := 5) (v := .slice (some ⟨ib, ia, none⟩) N c0) rfl (by kernel_rfl) (by kernel_rfl) (by kernel_rfl) (fun _ _ _ h => h) (Or.inl ⟨by rfl, fun W _ => by kernel_rfl⟩) hHeld ?_
            try simp only [Act.put, List.getElem_toArray, List.getElem_cons_succ, List.getElem_cons_zero, List.setIfInBounds_toArray, List.set_cons_zero, List.set_cons_succ]
            refine wpAnyH_take (i := 6) (v := .int .i64 k) rfl (by kernel_rfl) (by kernel_rfl) (by kernel_rfl) (fun _ _ _ h => h) (Or.inl ⟨by rfl, fun W _ => by kernel_rfl⟩) hHeld ?_
            try simp only [Act.put, List.getElem_toArray, List.getElem_cons_succ, List.getElem_cons_zero, List.setIfInBounds_toArray, List.set_cons_zero, List.set_cons_succ]
            refine wpAnyH_take (i := 7) (v := .pointer (some ⟨ib, ia + k * 12, none⟩)) rfl (by kernel_rfl) (by kernel_rfl) (by kernel_rfl) (fun _ _ _ h => h) (Or.inl ⟨by rfl, fun W _ => by go_simp⟩) hHeld ?_
            try simp only [Act.put, List.getElem_toArray, List.getElem_cons_succ, List.getElem_cons_zero, List.setIfInBounds_toArray, List.set_cons_zero, List.set_cons_succ]
            refine wpAnyH_take (i := 8) (v := .pointer (some ⟨ib, ia + k * 12 + 1, none⟩)) rfl (by kernel_rfl) (by kernel_rfl) (by kernel_rfl) (fun _ _ _ h => h) (Or.inl ⟨by rfl, fun W _ => by go_simp⟩) hHeld ?_
            try simp only [Act.put, List.getElem_toArray, List.getElem_cons_succ, List.getElem_cons_zero, List.setIfInBounds_toArray, List.set_cons_zero, List.set_cons_succ]
            refine wpAnyH_take (i := 9) rfl (by kernel_rfl) (by kernel_rfl) (by kernel_rfl) (fun _ _ _ h => h) (yieldsIf_load_mid (by rfl) _ _ rfl ib (ia + k * 12 + 1) rfl [.int .i64 op, .int .i64 rd, .int .i64 r1, .int .i64 r2, .int .i64 im, .bool aq, .bool rl, .int .i64 pr, .int .i64 su] _ (fun W hS => hIk.out W hS) Tryz.underlying26 rfl (by kernel_rfl)) hHeld ?_
            try simp only [Act.put, List.getElem_toArray, List.getElem_cons_succ, List.getElem_cons_zero, List.setIfInBounds_toArray, List.set_cons_zero, List.set_cons_succ]
            refine wpAnyH_ready (rs := [10]) (by kernel_rfl) (by simp) (AllReadyH.cons rfl (fun K hK2 => ?_) AllReadyH.nil)
            rw [if_pos (by rfl)]
            simp only [List.getElem_toArray, List.getElem_cons_succ, List.getElem_cons_zero]
            go_wp2_with (go_at_call 22; refine (hC.out _ hHeld).mono ?_; rintro e w8 ⟨⟨tb, rfl⟩, hb8⟩)
            refine hK2.out _ _ (hHeld.trans (hb8.mono hHeld.size)) (fun hHeld2 => ?_)
            clear hK2 K hHeld
            have hHeld := hHeld2
            clear hHeld2
            try simp only [Act.put, List.getElem_toArray, List.getElem_cons_succ, List.getElem_cons_zero, List.setIfInBounds_toArray, List.set_cons_zero, List.set_cons_succ]
            refine wpAnyH_take (i := 11) (v := .tuple #[.int .i64 to1, .bool tb]) rfl (by kernel_rfl) (by kernel_rfl) (by kernel_rfl) (fun _ _ _ h => h) (Or.inl ⟨by rfl, fun W _ => by kernel_rfl⟩) hHeld ?_
            try simp only [Act.put, List.getElem_toArray, List.getElem_cons_succ, List.getElem_cons_zero, List.setIfInBounds_toArray, List.set_cons_zero, List.set_cons_succ]
            refine wpAnyH_take (i := 12) (v := .int .i64 to1) rfl (by kernel_rfl) (by kernel_rfl) (by kernel_rfl) (fun _ _ _ h => h) (Or.inl ⟨by rfl, fun W _ => by kernel_rfl⟩) hHeld ?_
            try simp only [Act.put, List.getElem_toArray, List.getElem_cons_succ, List.getElem_cons_zero, List.setIfInBounds_toArray, List.set_cons_zero, List.set_cons_succ]
            refine wpAnyH_take (i := 13) (v := .bool tb) rfl (by kernel_rfl) (by kernel_rfl) (by kernel_rfl) (fun _ _ _ h => h) (Or.inl ⟨by rfl, fun W _ => by kernel_rfl⟩) hHeld ?_
            try simp only [Act.put, List.getElem_toArray, List.getElem_cons_succ, List.getElem_cons_zero, List.setIfInBounds_toArray, List.set_cons_zero, List.set_cons_succ]
            refine wpAnyH_take (i := 14) (v := .int .i64 to1) rfl (by kernel_rfl) (by kernel_rfl) (by kernel_rfl) (fun _ _ _ h => h) (Or.inl ⟨by rfl, fun W _ => by kernel_rfl⟩) hHeld ?_
            try simp only [Act.put, List.getElem_toArray, List.getElem_cons_succ, List.getElem_cons_zero, List.setIfInBounds_toArray, List.set_cons_zero, List.set_cons_succ]
            refine wpAnyH_take (i := 15) (v := .bool tb) rfl (by kernel_rfl) (by kernel_rfl) (by kernel_rfl) (fun _ _ _ h => h) (Or.inl ⟨by rfl, fun W _ => by kernel_rfl⟩) hHeld ?_
            try simp only [Act.put, List.getElem_toArray, List.getElem_cons_succ, List.getElem_cons_zero, List.setIfInBounds_toArray, List.set_cons_zero, List.set_cons_succ]
            refine wpAnyH_done (by kernel_rfl) ?_ _
            clear hb9
            have g5 : (to1 != to1) = false := by simp
            go_wp2_with fail
            go_roundw
            case rel => exact ⟨k + 1, by omega, by go_num, hHeld⟩
            case measure => simp [intOf]; omega
          · have t4 : (kd == 4) = false := by rw [beq_eq_false_iff_ne]; exact h4
            by_cases h3 : kd = 3
            · have t3 : (kd == 3) = true := by rw [h3]; rfl
              obtain ⟨bw, rfl, hvw⟩ := hsv.out (hNp.out (.inl h3))
              have hC : Hid (∀ tk W, Below w9.heap.size w9 W → Calls Tryz.prog 22 #[.slice (some ⟨bw, 0, none⟩) WN cw, .int .i64 pl, .agg #[.int .i64 op, .int .i64 rd, .int .i64 r1, .int .i64 r2, .int .i64 im, .bool aq, .bool rl, .int .i64 pr, .int .i64 su], .bool tk, .bool lk] W fun e w' => (∃ (x : Int) (b : Bool), e = .returned (.tuple #[.int .i64 x, .bool b]) ∧ (b = true → x = if tk = true then to1 else pl + (if lk = true then 2 else 1))) ∧ Below W.heap.size W w') := Lib.hid fun tk W hW => hC3.out h3 tk bw cw W (hvw.keep hW)
              have hCa := Lib.hid (hC.out true)
              have hCb := Lib.hid (hC.out false)
              replace hT3 := Lib.hid (hT3.out h3 (to1 - pl))
              clear hC4 hC3 hC hNp hvw h3 h4
              have cL := hLk.out wr hb9
              have cP := hPk.out wr hb9
              obtain ⟨sz, hsz⟩ : ∃ sz : Int, sz = if lk = true then 2 else 1 := ⟨_, rfl⟩
              rw [← hsz] at hCa hCb
              have hszb : 1 ≤ sz ∧ sz ≤ 2 := by rw [hsz]; cases lk <;> decide
              go_upto_if 133 with fail
              go_cut [18] (fun s wx => s = .int .i64 sz ∧ wr = wx)
              case first =>
                cases lk
                · obtain rfl := hsz
                  go_wp2_with fail
                  go_meet
                  exact ⟨rfl, rfl⟩
                · obtain rfl := hsz
                  go_wp2_with fail
                  go_meet
                  exact ⟨rfl, rfl⟩
              case rest =>
                as_aux_lemma =>
                obtain ⟨rfl, rfl⟩ := hcut
                replace hsz := Lib.hid hsz
                go_upto_if 146 with fail
                obtain ⟨y, hy⟩ : ∃ y : Int, y = if 0 < to1 - pl then 4 * (to1 - pl) - 4 * (sz - 1) else 4 * (to1 - pl) := ⟨_, rfl⟩
                go_cut [19] (fun s wx => s = .int .i64 y ∧ wr = wx)
                case first =>
                  by_cases hd : pl < to1
                  · have td : decide (pl < to1) = true := decide_eq_true hd
                    rw [if_pos (by omega)] at hy
                    subst hy
                    go_wp2_with fail
                    go_meet
                    exact ⟨by first | rfl | (congr 1; omega), rfl⟩
                  · have td : decide (pl < to1) = false := decide_eq_false hd
                    rw [if_neg (by omega)] at hy
                    subst hy
                    go_wp2_with fail
                    go_meet
                    exact ⟨by first | rfl | (congr 1; omega), rfl⟩
                case rest =>
                  as_aux_lemma =>
                  obtain ⟨rfl, rfl⟩ := hcut
                  have hTy : (lk == (decide (-4096 ≤ y) && decide (y ≤ 4094))) = false := hT3.out y rfl (by rw [← hsz.out]; exact hy)
                  replace hTy := Lib.hid hTy
                  replace hy := Lib.hid hy
                  clear hT3 cL cP ck
                  go_upto_region 34 with fail
                  refine wp_region_held_drew (S := fun W => Below w9.heap.size w9 W) (by kernel_rfl) hb9.drew (fun hHeld => ?_)
                  generalize World.drew _ = w6 at hHeld ⊢
                  refine wpAnyH_take (i := 0) (v := .slice (some ⟨bw, 0, none⟩) WN cw) rfl (by kernel_rfl) (by kernel_rfl) (by kernel_rfl) (fun _ _ _ h => h) (Or.inl ⟨by rfl, fun W _ => by kernel_rfl⟩) hHeld ?_
                  try simp only [Act.put, List.getElem_toArray, List.getElem_cons_zero, List.setIfInBounds_toArray, List.set_cons_zero, List.set_cons_succ]
                  refine wpAnyH_take (i := 1) (v := .slice (some ⟨bp, 0, none⟩) N cp) rfl (by kernel_rfl) (by kernel_rfl) (by kernel_rfl) (fun _ _ _ h => h) (Or.inl ⟨by rfl, fun W _ => by kernel_rfl⟩) hHeld ?_
                  try simp only [Act.put, List.getElem_toArray, List.getElem_cons_succ, List.getElem_cons_zero, List.setIfInBounds_toArray, List.set_cons_zero, List.set_cons_succ]
                  refine wpAnyH_take (i := 2) (v := .int .i64 k) rfl (by kernel_rfl) (by kernel_rfl) (by kernel_rfl) (fun _ _ _ h => h) (Or.inl ⟨by rfl, fun W _ => by kernel_rfl⟩) hHeld ?_
                  try simp only [Act.put, List.getElem_toArray, List.getElem_cons_succ, List.getElem_cons_zero, List.setIfInBounds_toArray, List.set_cons_zero, List.set_cons_succ]
                  refine wpAnyH_take (i := 3) (v := .pointer (some ⟨bp, k, none⟩)) rfl (by kernel_rfl) (by kernel_rfl) (by kernel_rfl) (fun _ _ _ h => h) (Or.inl ⟨by rfl, fun W _ => by go_simp⟩) hHeld ?_
                  try simp only [Act.put, List.getElem_toArray, List.getElem_cons_succ, List.getElem_cons_zero, List.setIfInBounds_toArray, List.set_cons_zero, List.set_cons_succ]
                  refine wpAnyH_take (i := 4) (v := .int .i64 pl) rfl (by kernel_rfl) (by kernel_rfl) (by kernel_rfl) (fun _ _ _ h => h) (Or.inl ⟨by rfl, fun W hS => by (have k4 := hPk.out W hS; go_simp)⟩) hHeld ?_
                  try simp only [Act.put, List.getElem_toArray, List.getElem_cons_succ, List.getElem_cons_zero, List.setIfInBounds_toArray, List.set_cons_zero, List.set_cons_succ]
                  refine wpAnyH_take (i := 5) (v := .slice (some ⟨ib, ia, none⟩) N c0) rfl (by kernel_rfl) (by kernel_rfl) (by kernel_rfl) (fun _ _ _ h => h) (Or.inl ⟨by rfl, fun W _ => by kernel_rfl⟩) hHeld ?_
                  try simp only [Act.put, List.getElem_toArray, List.getElem_cons_succ, List.getElem_cons_zero, List.setIfInBounds_toArray, List.set_cons_zero, List.set_cons_succ]
                  refine wpAnyH_take (i := 6) (v := .int .i64 k) rfl (by kernel_rfl) (by kernel_rfl) (by kernel_rfl) (fun _ _ _ h => h) (Or.inl ⟨by rfl, fun W _ => by kernel_rfl⟩) hHeld ?_
                  try simp only [Act.put, List.getElem_toArray, List.getElem_cons_succ, List.getElem_cons_zero, List.setIfInBounds_toArray, List.set_cons_zero, List.set_cons_succ]
                  refine wpAnyH_take (i := 7) (v := .pointer (some ⟨ib, ia + k * 12, none⟩)) rfl (by kernel_rfl) (by kernel_rfl) (by kernel_rfl) (fun _ _ _ h => h) (Or.inl ⟨by rfl, fun W _ => by go_simp⟩) hHeld ?_
                  try simp only [Act.put, List.getElem_toArray, List.getElem_cons_succ, List.getElem_cons_zero, List.setIfInBounds_toArray, List.set_cons_zero, List.set_cons_succ]
                  refine wpAnyH_take (i := 8) (v := .pointer (some ⟨ib, ia + k * 12 + 1, none⟩)) rfl (by kernel_rfl) (by kernel_rfl) (by kernel_rfl) (fun _ _ _ h => h) (Or.inl ⟨by rfl, fun W _ => by go_simp⟩) hHeld ?_
                  try simp only [Act.put, List.getElem_toArray, List.getElem_cons_succ, List.getElem_cons_zero, List.setIfInBounds_toArray, List.set_cons_zero, List.set_cons_succ]
                  refine wpAnyH_take (i := 9) rfl (by kernel_rfl) (by kernel_rfl) (by kernel_rfl) (fun _ _ _ h => h) (yieldsIf_load_mid (by rfl) _ _ rfl ib (ia + k * 12 + 1) rfl [.int .i64 op, .int .i64 rd, .int .i64 r1, .int .i64 r2, .int .i64 im, .bool aq, .bool rl, .int .i64 pr, .int .i64 su] _ (fun W hS => hIk.out W hS) Tryz.underlying26 rfl (by kernel_rfl)) hHeld ?_
                  try simp only [Act.put, List.getElem_toArray, List.getElem_cons_succ, List.getElem_cons_zero, List.setIfInBounds_toArray, List.set_cons_zero, List.set_cons_succ]
                  refine wpAnyH_take (i := 10) (v := .slice (some ⟨bl, 0, none⟩) N cl) rfl (by kernel_rfl) (by kernel_rfl) (by kernel_rfl) (fun _ _ _ h => h) (Or.inl ⟨by rfl, fun W _ => by kernel_rfl⟩) hHeld ?_
                  try simp only [Act.put, List.getElem_toArray, List.getElem_cons_succ, List.getElem_cons_zero, List.setIfInBounds_toArray, List.set_cons_zero, List.set_cons_succ]
                  refine wpAnyH_take (i := 11) (v := .int .i64 k) rfl (by kernel_rfl) (by kernel_rfl) (by kernel_rfl) (fun _ _ _ h => h) (Or.inl ⟨by rfl, fun W _ => by kernel_rfl⟩) hHeld ?_
                  try simp only [Act.put, List.getElem_toArray, List.getElem_cons_succ, List.getElem_cons_zero, List.setIfInBounds_toArray, List.set_cons_zero, List.set_cons_succ]
                  refine wpAnyH_take (i := 12) (v := .pointer (some ⟨bl, k, none⟩)) rfl (by kernel_rfl) (by kernel_rfl) (by kernel_rfl) (fun _ _ _ h => h) (Or.inl ⟨by rfl, fun W _ => by go_simp⟩) hHeld ?_
                  try simp only [Act.put, List.getElem_toArray, List.getElem_cons_succ, List.getElem_cons_zero, List.setIfInBounds_toArray, List.set_cons_zero, List.set_cons_succ]
                  refine wpAnyH_take (i := 13) (v := .bool lk) rfl (by kernel_rfl) (by kernel_rfl) (by kernel_rfl) (fun _ _ _ h => h) (Or.inl ⟨by rfl, fun W hS => by (have k4 := hLk.out W hS; go_simp)⟩) hHeld ?_
                  try simp only [Act.put, List.getElem_toArray, List.getElem_cons_succ, List.getElem_cons_zero, List.setIfInBounds_toArray, List.set_cons_zero, List.set_cons_succ]
                  refine wpAnyH_ready (rs := [14]) (by kernel_rfl) (by simp) (AllReadyH.cons rfl (fun K hK2 => ?_) AllReadyH.nil)
                  rw [if_pos (by rfl)]
                  simp only [List.getElem_toArray, List.getElem_cons_succ, List.getElem_cons_zero]
                  go_wp2_with (go_at_call 22; refine (hCa.out _ hHeld).mono ?_; rintro e w8 ⟨⟨x1, t1, rfl, hx1⟩, hb8⟩)
                  refine hK2.out _ _ (hHeld.trans (hb8.mono hHeld.size)) (fun hHeld2 => ?_)
                  clear hK2 K hHeld
                  have hHeld := hHeld2
                  clear hHeld2
                  try simp only [Act.put, List.getElem_toArray, List.getElem_cons_succ, List.getElem_cons_zero, List.setIfInBounds_toArray, List.set_cons_zero, List.set_cons_succ]
                  refine wpAnyH_take (i := 15) (v := .tuple #[.int .i64 x1, .bool t1]) rfl (by kernel_rfl) (by kernel_rfl) (by kernel_rfl) (fun _ _ _ h => h) (Or.inl ⟨by rfl, fun W _ => by kernel_rfl⟩) hHeld ?_
                  try simp only [Act.put, List.getElem_toArray, List.getElem_cons_succ, List.getElem_cons_zero, List.setIfInBounds_toArray, List.set_cons_zero, List.set_cons_succ]
                  refine wpAnyH_take (i := 16) (v := .int .i64 x1) rfl (by kernel_rfl) (by kernel_rfl) (by kernel_rfl) (fun _ _ _ h => h) (Or.inl ⟨by rfl, fun W _ => by kernel_rfl⟩) hHeld ?_
                  try simp only [Act.put, List.getElem_toArray, List.getElem_cons_succ, List.getElem_cons_zero, List.setIfInBounds_toArray, List.set_cons_zero, List.set_cons_succ]
                  refine wpAnyH_take (i := 17) (v := .bool t1) rfl (by kernel_rfl) (by kernel_rfl) (by kernel_rfl) (fun _ _ _ h => h) (Or.inl ⟨by rfl, fun W _ => by kernel_rfl⟩) hHeld ?_
                  try simp only [Act.put, List.getElem_toArray, List.getElem_cons_succ, List.getElem_cons_zero, List.setIfInBounds_toArray, List.set_cons_zero, List.set_cons_succ]
                  refine wpAnyH_take (i := 18) (v := .int .i64 x1) rfl (by kernel_rfl) (by kernel_rfl) (by kernel_rfl) (fun _ _ _ h => h) (Or.inl ⟨by rfl, fun W _ => by kernel_rfl⟩) hHeld ?_
                  try simp only [Act.put, List.getElem_toArray, List.getElem_cons_succ, List.getElem_cons_zero, List.setIfInBounds_toArray, List.set_cons_zero, List.set_cons_succ]
                  refine wpAnyH_take (i := 19) (v := .bool t1) rfl (by kernel_rfl) (by kernel_rfl) (by kernel_rfl) (fun _ _ _ h => h) (Or.inl ⟨by rfl, fun W _ => by kernel_rfl⟩) hHeld ?_
                  try simp only [Act.put, List.getElem_toArray, List.getElem_cons_succ, List.getElem_cons_zero, List.setIfInBounds_toArray, List.set_cons_zero, List.set_cons_succ]
                  refine wpAnyH_done (by kernel_rfl) ?_ _
                  clear hb9 hb8
                  replace hb9 := hHeld
                  clear hHeld
                  replace hx1 := Lib.hid hx1
                  as_aux_lemma =>
                  go_upto_region 35 with fail
                  refine wp_region_held_drew (S := fun W => Below w9.heap.size w9 W) (by kernel_rfl) hb9.drew (fun hHeld => ?_)
                  generalize World.drew _ = w6 at hHeld ⊢
                  refine wpAnyH_take (i := 0) (v := .slice (some ⟨bw, 0, none⟩) WN cw) rfl (by kernel_rfl) (by kernel_rfl) (by kernel_rfl) (fun _ _ _ h => h) (Or.inl ⟨by rfl, fun W _ => by kernel_rfl⟩) hHeld ?_
                  try simp only [Act.put, List.getElem_toArray, List.getElem_cons_zero, List.setIfInBounds_toArray, List.set_cons_zero, List.set_cons_succ]
                  refine wpAnyH_take (i := 1) (v := .slice (some ⟨bp, 0, none⟩) N cp) rfl (by kernel_rfl) (by kernel_rfl) (by kernel_rfl) (fun _ _ _ h => h) (Or.inl ⟨by rfl, fun W _ => by kernel_rfl⟩) hHeld ?_
                  try simp only [Act.put, List.getElem_toArray, List.getElem_cons_succ, List.getElem_cons_zero, List.setIfInBounds_toArray, List.set_cons_zero, List.set_cons_succ]
                  refine wpAnyH_take (i := 2) (v := .int .i64 k) rfl (by kernel_rfl) (by kernel_rfl) (by kernel_rfl) (fun _ _ _ h => h) (Or.inl ⟨by rfl, fun W _ => by kernel_rfl⟩) hHeld ?_
                  try simp only [Act.put, List.getElem_toArray, List.getElem_cons_succ, List.getElem_cons_zero, List.setIfInBounds_toArray, List.set_cons_zero, List.set_cons_succ]
                  refine wpAnyH_take (i := 3) (v := .pointer (some ⟨bp, k, none⟩)) rfl (by kernel_rfl) (by kernel_rfl) (by kernel_rfl) (fun _ _ _ h => h) (Or.inl ⟨by rfl, fun W _ => by go_simp⟩) hHeld ?_
                  try simp only [Act.put, List.getElem_toArray, List.getElem_cons_succ, List.getElem_cons_zero, List.setIfInBounds_toArray, List.set_cons_zero, List.set_cons_succ]
                  refine wpAnyH_take (i := 4) (v := .int .i64 pl) rfl (by kernel_rfl) (by kernel_rfl) (by kernel_rfl) (fun _ _ _ h => h) (Or.inl ⟨by rfl, fun W hS => by (have k4 := hPk.out W hS; go_simp)⟩) hHeld ?_
                  try simp only [Act.put, List.getElem_toArray, List.getElem_cons_succ, List.getElem_cons_zero, List.setIfInBounds_toArray, List.set_cons_zero, List.set_cons_succ]
                  refine wpAnyH_take (i := 5) (v := .slice (some ⟨ib, ia, none⟩) N c0) rfl (by kernel_rfl) (by kernel_rfl) (by kernel_rfl) (fun _ _ _ h => h) (Or.inl ⟨by rfl, fun W _ => by kernel_rfl⟩) hHeld ?_
                  try simp only [Act.put, List.getElem_toArray, List.getElem_cons_succ, List.getElem_cons_zero, List.setIfInBounds_toArray, List.set_cons_zero, List.set_cons_succ]
                  refine wpAnyH_take (i := 6) (v := .int .i64 k) rfl (by kernel_rfl) (by kernel_rfl) (by kernel_rfl) (fun _ _ _ h => h) (Or.inl ⟨by rfl, fun W _ => by kernel_rfl⟩) hHeld ?_
                  try simp only [Act.put, List.getElem_toArray, List.getElem_cons_succ, List.getElem_cons_zero, List.setIfInBounds_toArray, List.set_cons_zero, List.set_cons_succ]
                  refine wpAnyH_take (i := 7) (v := .pointer (some ⟨ib, ia + k * 12, none⟩)) rfl (by kernel_rfl) (by kernel_rfl) (by kernel_rfl) (fun _ _ _ h => h) (Or.inl ⟨by rfl, fun W _ => by go_simp⟩) hHeld ?_
                  try simp only [Act.put, List.getElem_toArray, List.getElem_cons_succ, List.getElem_cons_zero, List.setIfInBounds_toArray, List.set_cons_zero, List.set_cons_succ]
                  refine wpAnyH_take (i := 8) (v := .pointer (some ⟨ib, ia + k * 12 + 1, none⟩)) rfl (by kernel_rfl) (by kernel_rfl) (by kernel_rfl) (fun _ _ _ h => h) (Or.inl ⟨by rfl, fun W _ => by go_simp⟩) hHeld ?_
                  try simp only [Act.put, List.getElem_toArray, List.getElem_cons_succ, List.getElem_cons_zero, List.setIfInBounds_toArray, List.set_cons_zero, List.set_cons_succ]
                  refine wpAnyH_take (i := 9) rfl (by kernel_rfl) (by kernel_rfl) (by kernel_rfl) (fun _ _ _ h => h) (yieldsIf_load_mid (by rfl) _ _ rfl ib (ia + k * 12 + 1) rfl [.int .i64 op, .int .i64 rd, .int .i64 r1, .int .i64 r2, .int .i64 im, .bool aq, .bool rl, .int .i64 pr, .int .i64 su] _ (fun W hS => hIk.out W hS) Tryz.underlying26 rfl (by kernel_rfl)) hHeld ?_
                  try simp only [Act.put, List.getElem_toArray, List.getElem_cons_succ, List.getElem_cons_zero, List.setIfInBounds_toArray, List.set_cons_zero, List.set_cons_succ]
                  refine wpAnyH_take (i := 10) (v := .slice (some ⟨bl, 0, none⟩) N cl) rfl (by kernel_rfl) (by kernel_rfl) (by kernel_rfl) (fun _ _ _ h => h) (Or.inl ⟨by rfl, fun W _ => by kernel_rfl⟩) hHeld ?_
                  try simp only [Act.put, List.getElem_toArray, List.getElem_cons_succ, List.getElem_cons_zero, List.setIfInBounds_toArray, List.set_cons_zero, List.set_cons_succ]
                  refine wpAnyH_take (i := 11) (v := .int .i64 k) rfl (by kernel_rfl) (by kernel_rfl) (by kernel_rfl) (fun _ _ _ h => h) (Or.inl ⟨by rfl, fun W _ => by kernel_rfl⟩) hHeld ?_
                  try simp only [Act.put, List.getElem_toArray, List.getElem_cons_succ, List.getElem_cons_zero, List.setIfInBounds_toArray, List.set_cons_zero, List.set_cons_succ]
                  refine wpAnyH_take (i := 12) (v := .pointer (some ⟨bl, k, none⟩)) rfl (by kernel_rfl) (by kernel_rfl) (by kernel_rfl) (fun _ _ _ h => h) (Or.inl ⟨by rfl, fun W _ => by go_simp⟩) hHeld ?_
                  try simp only [Act.put, List.getElem_toArray, List.getElem_cons_succ, List.getElem_cons_zero, List.setIfInBounds_toArray, List.set_cons_zero, List.set_cons_succ]
                  refine wpAnyH_take (i := 13) (v := .bool lk) rfl (by kernel_rfl) (by kernel_rfl) (by kernel_rfl) (fun _ _ _ h => h) (Or.inl ⟨by rfl, fun W hS => by (have k4 := hLk.out W hS; go_simp)⟩) hHeld ?_
                  try simp only [Act.put, List.getElem_toArray, List.getElem_cons_succ, List.getElem_cons_zero, List.setIfInBounds_toArray, List.set_cons_zero, List.set_cons_succ]
                  refine wpAnyH_ready (rs := [14]) (by kernel_rfl) (by simp) (AllReadyH.cons rfl (fun K hK2 => ?_) AllReadyH.nil)
                  rw [if_pos (by rfl)]
                  simp only [List.getElem_toArray, List.getElem_cons_succ, List.getElem_cons_zero]
                  go_wp2_with (go_at_call 22; refine (hCb.out _ hHeld).mono ?_; rintro e w8 ⟨⟨x2, t2, rfl, hx2⟩, hb8⟩)
                  refine hK2.out _ _ (hHeld.trans (hb8.mono hHeld.size)) (fun hHeld2 => ?_)
                  clear hK2 K hHeld
                  have hHeld := hHeld2
                  clear hHeld2
                  try simp only [Act.put, List.getElem_toArray, List.getElem_cons_succ, List.getElem_cons_zero, List.setIfInBounds_toArray, List.set_cons_zero, List.set_cons_succ]
                  refine wpAnyH_take (i := 15) (v := .tuple #[.int .i64 x2, .bool t2]) rfl (by kernel_rfl) (by kernel_rfl) (by kernel_rfl) (fun _ _ _ h => h) (Or.inl ⟨by rfl, fun W _ => by kernel_rfl⟩) hHeld ?_
                  try simp only [Act.put, List.getElem_toArray, List.getElem_cons_succ, List.getElem_cons_zero, List.setIfInBounds_toArray, List.set_cons_zero, List.set_cons_succ]
                  refine wpAnyH_take (i := 16) (v := .int .i64 x2) rfl (by kernel_rfl) (by kernel_rfl) (by kernel_rfl) (fun _ _ _ h => h) (Or.inl ⟨by rfl, fun W _ => by kernel_rfl⟩) hHeld ?_
                  try simp only [Act.put, List.getElem_toArray, List.getElem_cons_succ, List.getElem_cons_zero, List.setIfInBounds_toArray, List.set_cons_zero, List.set_cons_succ]
                  refine wpAnyH_take (i := 17) (v := .bool t2) rfl (by kernel_rfl) (by kernel_rfl) (by kernel_rfl) (fun _ _ _ h => h) (Or.inl ⟨by rfl, fun W _ => by kernel_rfl⟩) hHeld ?_
                  try simp only [Act.put, List.getElem_toArray, List.getElem_cons_succ, List.getElem_cons_zero, List.setIfInBounds_toArray, List.set_cons_zero, List.set_cons_succ]
                  refine wpAnyH_take (i := 18) (v := .int .i64 x2) rfl (by kernel_rfl) (by kernel_rfl) (by kernel_rfl) (fun _ _ _ h => h) (Or.inl ⟨by rfl, fun W _ => by kernel_rfl⟩) hHeld ?_
                  try simp only [Act.put, List.getElem_toArray, List.getElem_cons_succ, List.getElem_cons_zero, List.setIfInBounds_toArray, List.set_cons_zero, List.set_cons_succ]
                  refine wpAnyH_take (i := 19) (v := .bool t2) rfl (by kernel_rfl) (by kernel_rfl) (by kernel_rfl) (fun _ _ _ h => h) (Or.inl ⟨by rfl, fun W _ => by kernel_rfl⟩) hHeld ?_
                  try simp only [Act.put, List.getElem_toArray, List.getElem_cons_succ, List.getElem_cons_zero, List.setIfInBounds_toArray, List.set_cons_zero, List.set_cons_succ]
                  refine wpAnyH_done (by kernel_rfl) ?_ _
                  clear hb9 hb8
                  replace hb9 := hHeld
                  clear hHeld
                  replace hx2 := Lib.hid hx2
                  as_aux_lemma =>
                  have cL := hLk.out _ hb9
                  have cP := hPk.out _ hb9
                  clear hCa hCb hIk
                  have q1 : t1 = false ∨ (t1 = true ∧ (x1 != to1) = false) := by
                    cases t1 with
                    | false => exact .inl rfl
                    | true => exact .inr ⟨rfl, by rw [hx1.out rfl]; simp⟩
                  have q2 : t2 = false ∨ (t2 = true ∧ (x2 != pl + sz) = false) := by
                    cases t2 with
                    | false => exact .inl rfl
                    | true => exact .inr ⟨rfl, by rw [hx2.out rfl]; simp⟩
                  have q3 : (decide (-4096 ≤ y) = false ∧ lk = true) ∨ (decide (-4096 ≤ y) = true ∧ decide (y ≤ 4094) = false ∧ lk = true) ∨ (decide (-4096 ≤ y) = true ∧ decide (y ≤ 4094) = true ∧ lk = false) := by
                    exact three_ways _ _ _ hTy.out
                  clear hx1 hx2 hTy hy hsz
                  go_upto_region 36 with fail
                  go_cut [219] (fun s wx => s = .bool false ∧ Below w9.heap.size w9 wx)
                  case first =>
                    rcases q1 with rfl | ⟨rfl, e1⟩ <;> rcases q2 with rfl | ⟨rfl, e2⟩ <;> rcases q3 with ⟨e3, rfl⟩ | ⟨e3, e4, rfl⟩ | ⟨e3, e4, rfl⟩
                    all_goals as_aux_lemma =>
                      go_wp2_with fail
                      go_meet
                      exact ⟨rfl, hb9⟩
                  case rest =>
                    obtain ⟨rfl, hb⟩ := hcut
                    clear cL cP hb9 q1 q2 q3
                    go_wp2_with fail
                    go_roundw
                    case rel => exact ⟨k + 1, by omega, by go_num, hb⟩
                    case measure => simp [intOf]; omega
            · have t3 : (kd == 3) = false := by rw [beq_eq_false_iff_ne]; exact h3
              as_aux_lemma =>
              go_wp2_with fail
              go_roundw
              case rel => exact ⟨k + 1, by omega, by go_num, hb9⟩
              case measure => simp [intOf]; omega
        · obtain rfl : k = N := by omega
          go_wp2_with fail
          go_ret
          exact ⟨rfl, hbt.trans (hb9.mono hbt.size)⟩
/-- AsmGoes, whatever comes. -/
theorem AsmGoes_any (ao : Option Addr) (n cap : Nat) (F : Nat → ItemV) (at1 n1 : Int) (w : World) (hI : ItemsAt w ao n F) (hF : FitF F n) (hlo : ∀ k, k < n → -9223372036854775808 ≤ (F k).insn.op) (hc : n ≤ cap ∧ cap ≤ maxLen) (ht : Tabs w) (hfl : Flds w) :
    Calls Tryz.prog 5 #[.slice ao n cap, .int .i64 at1, .int .i64 n1] w fun e w' => e = .returned (.bool true) ∧ Below w.heap.size w w' := by
  by_cases hn : 60 < n
  · exact AsmGoes_far ao n cap at1 n1 w ht hfl hn
  · exact AsmGoes_go ao n cap F at1 n1 w hI hF hlo ht hfl (by omega) hc.1 hc.2
end Go.Proofs.YtcgflnkgekkidaaGreatDoor
