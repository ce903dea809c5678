/- AsmNumbers, whatever comes: the walk. Conditions: the variables lie as their initialisers lay them. -/
import Derived.Test.YtcgflnkgekkidaaGreatDoorAsmSu
import Derived.Test.YtcgflnkgekkidaaGreatDoorAsmLv
set_option linter.unusedSimpArgs false
set_option linter.unusedVariables false
namespace Go.Proofs.YtcgflnkgekkidaaGreatDoor
open Go.RowKit Go.Maps
def pcN (j : Nat) : BitVec 64 := BitVec.ofNat 64 (4 * j)
theorem pcN_S (j : Nat) : pcN j + 4#64 = pcN (j + 1) := by
  unfold pcN
  apply BitVec.eq_of_toNat_eq
  simp only [BitVec.toNat_add, BitVec.toNat_ofNat]
  omega
theorem pcN_un (j : Nat) (hj : j ≤ 8) : un (pcN j) = 4 * (j : Int) := by
  unfold pcN un
  rw [BitVec.toNat_ofNat]
  omega
theorem take_fold (l : List InsnV) (was : BitVec 64) (j : Nat) (i : InsnV) (hi : l[j]? = some i) : execV ((l.take j).foldl execV was) i = (l.take (j + 1)).foldl execV was := by
  rw [List.take_add_one, hi, List.foldl_append]; rfl
set_option maxRecDepth 100000 in
set_option maxHeartbeats 4000000 in
theorem hart_eql (h : HartV) (w : World) : (binOp .eql 47 (.agg (hartL h).toArray) (.agg (hartL h).toArray)).run Tryz.prog w = .ok (.bool true) w := by
  have hq := regs_equalIn 9997 h.x h.x w
  rw [show (9997 + 2 : Nat) = 9999 from rfl, show ((List.range 32).all fun j => h.x j == h.x j) = true by simp] at hq
  have e0 : (hartL h).toArray[0]? = some (.int .u64 (un h.pc)) := by rw [List.getElem?_toArray]; exact hartL_at h 0 (by decide)
  have e33 : (hartL h).toArray[33]? = some (.int .i64 h.fin) := by rw [List.getElem?_toArray]; exact hartL_at h 33 (by decide)
  have e34 : (hartL h).toArray[34]? = some (.int .u64 (un h.code)) := by rw [List.getElem?_toArray]; exact hartL_at h 34 (by decide)
  have ex : (hartL h).toArray.extract 1 33 = (regL h.x).toArray := by
    refine Array.ext' (List.ext_getElem? fun j => ?_)
    rw [Array.toList_extract]
    by_cases hj : j < 32
    · rw [List.extract_eq_take_drop, List.getElem?_take_of_lt (by omega), List.getElem?_drop, hartL_at h (1 + j) (by omega), regL_at h.x j hj, hartCell_x h j hj]
    · rw [List.getElem?_eq_none (by simp [hartL_len]; omega), List.getElem?_eq_none (by show (regL h.x).length ≤ j; rw [regL_len]; omega)]
  generalize (hartL h).toArray = A at *
  rw [run_eql_struct]
  simp [go_sem, e0, e33, e34, ex, hq]
theorem wpList_eqlH {ops : Array Oper} {rest : List Oper} {op : Oper} {a : Act} {w : World} {Q : Exit → Act → World → Prop} (hw : Region.wanted op (yielded ops a.tmps) = true) (x y : Operand) (t : TypeId) (ho : op.op = .binOp .eql 47 x y t) (A B : Array Value) (b : Bool)
    (hx : a.eval x = .agg A) (hy : a.eval y = .agg B) (hq : ∀ w, (binOp .eql 47 (.agg A) (.agg B)).run Tryz.prog w = .ok (.bool b) w) (h : wpList Tryz.prog ops Q rest (a.put op.dst (.bool b)) w) : wpList Tryz.prog ops Q (op :: rest) a w :=
  wpList_yieldsT (S := fun W => W = w) (.inl ⟨hw, fun w _ => by
    unfold execOp
    simp only [ho, hx, hy, Sem.run_bind, run_eqGuard_agg w .eql 47 x y A B Tryz.eqGuardType47, hq, Result.andThen_ok, Sem.run_pure]⟩) rfl h
section
attribute [local irreducible] un sn hartL
set_option maxRecDepth 100000 in
set_option maxHeartbeats 16000000 in
theorem AsmNumbers_any (rd1 : Int) (n was : BitVec 64) (w : World) (ht : Tabs w) (hfl : Flds w) :
    Calls Tryz.prog 4 #[.int .i64 rd1, .int .u64 (un n), .int .u64 (un was)] w fun e w' => e = .returned (.bool true) ∧ Below w.heap.size w w' := by
  obtain ⟨k, hk, hPk⟩ := Pick_nat_any rd1 31 (by decide) (by decide)
  have hLv := Lib.hid (Lives15_any w ht hfl)
  have hu := Tryz.underlying47
  have hu2 := Tryz.underlying26
  clear ht hfl
  obtain ⟨r, hr⟩ : ∃ r : Nat, r = k + 1 := ⟨_, rfl⟩
  have hr1 : 1 ≤ r := by omega
  have hr2 : r < 32 := by omega
  have h1k : (1 : Int) + (k : Int) = (r : Int) := by omega
  have hrI : 0 ≤ (r : Int) ∧ (r : Int) < 32 := by omega
  obtain ⟨l, hl⟩ : ∃ l, l = numV r n := ⟨_, rfl⟩
  have hln : l.length ≤ 8 := by rw [hl]; exact num_len8 _ _
  have hlp : 1 ≤ l.length := by rw [hl]; exact num_pos _ _
  have hex : Hid (l.foldl execV was = n) := Lib.hid (by rw [hl]; exact num_execV r (by omega) n was)
  have hok : Hid (∀ i ∈ l, numOk r i) := Lib.hid (by rw [hl]; exact num_ok r 6 n)
  have hck : Hid (∀ i ∈ l, checkE i = 0) := Lib.hid (by rw [hl]; exact numV_ok r n (by omega))
  have hNm : Hid (∀ W, Calls Tryz.prog 17 #[.int .i64 r, .int .u64 (un n)] W fun e w' => (∃ v, e = .returned (.tuple #[v, .int .i64 0]) ∧ w'.ownsRow W.heap.size 26 9 v l.length (insnsC l)) ∧ Below W.heap.size W w') := Lib.hid fun W => by
    have := Number_any r n W
    unfold NumR at this
    rw [if_pos (by omega), if_pos (by omega), ← hl] at this
    exact this
  have hNw0 : Hid (∀ W, Calls Tryz.prog 18 #[.int .u64 0] W fun e w' => e = .returned (.agg (hartL (newV 0#64)).toArray) ∧ Below W.heap.size W w') := Lib.hid fun W => by
    have := RNew_any 0#64 W
    rwa [show un 0#64 = 0 by decide +kernel] at this
  have hNw1 : Hid (∀ W, Calls Tryz.prog 18 #[.int .u64 (4 * (l.length : Int))] W fun e w' => e = .returned (.agg (hartL (newV (pcN l.length))).toArray) ∧ Below W.heap.size W w') := Lib.hid fun W => by
    have := RNew_any (pcN l.length) W
    rwa [pcN_un _ hln] at this
  clear hl hr
  have hund : ∀ b : Bool, (some undef = some (Value.bool b)) = False := fun b => by simp [undef]
  go_enter Tryz.func4, Tryz.ntmps4
  go_upto_region 4 with (first | (go_at_call 9; (with_reducible refine hLv.out.mono ?_); rintro e w1 ⟨rfl, hb1⟩; clear hLv) | (go_at_call 10; (with_reducible refine (hPk.out _).mono ?_); rintro e w2 ⟨rfl, rfl⟩; clear hPk))

  clear h1k hk
  go_upto_region 7 with (go_at_call 17; (with_reducible refine (hNm.out _).mono ?_); rintro e w2 ⟨⟨v, rfl, hown⟩, hb2⟩; obtain ⟨A, c7, rfl⟩ := own_sliceN hown)
  have hIr := InsR.of hown
  have hB2 := hb1.trans (hb2.mono hb1.size)
  have hAg : ∃ g, A = some ⟨g, 0, none⟩ := by
    obtain ⟨i, hi⟩ : ∃ i, l[0]? = some i := ⟨_, List.getElem?_eq_getElem (by omega)⟩
    obtain ⟨g, e, -⟩ := hIr 0 i hi
    exact ⟨g, e⟩
  obtain ⟨g, rfl⟩ := hAg
  clear hown hb2 hb1 hNm
  go_upto_region 8 with (first | (go_at_call 18; (with_reducible refine (hNw0.out _).mono ?_); rintro e w3 ⟨rfl, hb3⟩) | (refine wpList_store_mid rfl 47 _ _ rfl w3.heap.size 0 (hartL (newV 0#64)).toArray rfl rfl (there_hart (zeros_there w3 47) _) (size_hartA _) (hartL_one _) ?_))
  have hza := zeros_there w3 47
  have hlta : w3.heap.size < (w3.alloc (.cells #[.int .u64 0, .int .u64 0, .int .u64 0, .int .u64 0, .int .u64 0, .int .u64 0, .int .u64 0, .int .u64 0, .int .u64 0, .int .u64 0, .int .u64 0, .int .u64 0, .int .u64 0, .int .u64 0, .int .u64 0, .int .u64 0, .int .u64 0, .int .u64 0, .int .u64 0, .int .u64 0, .int .u64 0, .int .u64 0, .int .u64 0, .int .u64 0, .int .u64 0, .int .u64 0, .int .u64 0, .int .u64 0, .int .u64 0, .int .u64 0, .int .u64 0, .int .u64 0, .int .u64 0, .int .i64 0, .int .u64 0] 47)).heap.size := by simp
  have hala : Below w3.heap.size w3 (w3.alloc (.cells #[.int .u64 0, .int .u64 0, .int .u64 0, .int .u64 0, .int .u64 0, .int .u64 0, .int .u64 0, .int .u64 0, .int .u64 0, .int .u64 0, .int .u64 0, .int .u64 0, .int .u64 0, .int .u64 0, .int .u64 0, .int .u64 0, .int .u64 0, .int .u64 0, .int .u64 0, .int .u64 0, .int .u64 0, .int .u64 0, .int .u64 0, .int .u64 0, .int .u64 0, .int .u64 0, .int .u64 0, .int .u64 0, .int .u64 0, .int .u64 0, .int .u64 0, .int .u64 0, .int .u64 0, .int .i64 0, .int .u64 0] 47)) := (Below.refl _ _).alloc (Nat.le_refl _) _
  obtain ⟨hsta, hYa, ltYa, htYa⟩ := put_hart hza hlta (newV 0#64)
  replace hsta := hala.trans hsta
  clear hza hlta hala
  generalize World.setCells _ w3.heap.size 0 (hartL (newV 0#64)) = W7 at hsta hYa ltYa htYa ⊢
  have qa : W7.cell? ⟨w3.heap.size, 1 + r, none⟩ = some (.int .u64 (un 0#64)) := (hYa (1 + r) (by omega)).trans (congrArg some (hartCell_x (newV 0#64) r hr2))
  have fa : W7.frozen? ⟨w3.heap.size, 1 + r, none⟩ = false := by have := (htYa (1 + r) (by omega)).2; rwa [Nat.zero_add] at this
  go_upto_region 9 with fail
  clear qa fa
  have hca := hYa.setX r hr2 was
  have hB3 := hB2.trans (hb3.mono hB2.size)
  have hB7 := hB3.trans (hsta.mono hB3.size)
  have hN0 : NB w w3.heap.size W7.heap.size (runH (pcN 0) r ((l.take 0).foldl execV was)) (some ⟨g, 0, none⟩) l (W7.setCell ⟨w3.heap.size, 1 + r, none⟩ (.int .u64 (un was))) := by
    refine ⟨hca, fun j hj => by rw [World.frozen?_setCell]; have := (htYa j hj).2; rwa [Nat.zero_add] at this, ltYa, fun j i hi => ?_, hB7.setCell (p := ⟨w3.heap.size, 1 + r, none⟩) hB3.size _, hB3.size, by rw [World.size_setCell]; exact Nat.le_refl _⟩
    obtain ⟨g1, e1, -, hg1, hr9⟩ := hIr j i hi
    have hg3 : g1 < w3.heap.size := Nat.lt_of_lt_of_le hg1 hb3.size
    refine ⟨g1, e1, Nat.lt_of_lt_of_le hg3 hsta.size, Nat.ne_of_lt hg3, fun m v hv => ?_⟩
    rw [World.cell?_setCell_far _ _ _ _ (show w3.heap.size ≠ g1 from Nat.ne_of_gt hg3), hsta.cell (p := ⟨g1, j * 9 + m, none⟩) hg3, hb3.cell (p := ⟨g1, j * 9 + m, none⟩) hg1]
    exact hr9 m v hv
  generalize W7.setCell ⟨w3.heap.size, 1 + r, none⟩ _ = W8 at hN0 ⊢
  generalize W7.heap.size = Bm at hN0
  clear hca hYa ltYa htYa hsta hB3 hB7 hb3 hIr hB2
  generalize w3.heap.size = H at hN0 ⊢
  go_wp2_with fail
  go_loopw [10, 11, 12] (fun s10 s11 s12 wr => ∃ j : Nat, j ≤ l.length ∧ s10 = .int .i64 j ∧ NB w H Bm (runH (pcN j) r ((l.take j).foldl execV was)) (some ⟨g, 0, none⟩) l wr) (fun s10 _ _ _ => l.length - (intOf s10).toNat)
  case atStart => exact ⟨0, Nat.zero_le _, rfl, hN0⟩
  case round =>
    obtain ⟨j, hj, rfl, hN⟩ := hrel
    clear hN0
    by_cases hjl : j < l.length
    · obtain ⟨i, hi⟩ : ∃ i, l[j]? = some i := ⟨_, List.getElem?_eq_getElem hjl⟩
      have hmem := List.mem_of_getElem? hi
      have hst1 := Lib.hid (fun W => Step_num (pcN j) ((l.take j).foldl execV was) r hr1 hr2 i (hok.out i hmem) (hck.out i hmem) W)
      rw [take_fold l was j i hi, pcN_S] at hst1
      obtain ⟨hh, hhe⟩ : ∃ hh, hh = runH (pcN j) r ((l.take j).foldl execV was) := ⟨_, rfl⟩
      obtain ⟨y, hye⟩ : ∃ y, y = runH (pcN (j + 1)) r ((l.take (j + 1)).foldl execV was) := ⟨_, rfl⟩
      rw [← hhe] at hN hst1
      rw [← hye] at hst1
      have hyf : Hid (y.fin = 0) := Lib.hid (by rw [hye]; rfl)
      replace hye := Lib.hid hye
      have hSt : Hid (∀ W, Calls Tryz.prog 19 #[.agg (hartL hh).toArray, .agg i.cells.toList.toArray, .int .u64 0, .bool false] W fun e w' => e = .returned (.tuple #[.agg (hartL y).toArray, .int .i64 0]) ∧ Below W.heap.size W w') := hst1
      have hIr : Hid (∀ W, NB w H Bm hh (some ⟨g, 0, none⟩) l W → W.rangeAt g (j * 9) i.cells.toList) := Lib.hid fun W hW => by
        obtain ⟨g1, e1, -, -, h1⟩ := hW.ir j i hi
        injection e1 with e1
        injection e1 with e1 _ _
        rw [e1]; exact h1
      have hi2 := Lib.hid (size_insn i)
      clear hst1 hhe hmem hi
      have m1 : (0 : Int) ≤ (j : Int) := Int.natCast_nonneg j
      have m2 : (j : Int) < (l.length : Int) := Int.ofNat_lt.2 hjl
      have m3 : decide ((j : Int) < (l.length : Int)) = true := decide_eq_true m2
      replace hN := hN
      go_upto_region 12 with fail
      go_cut [11, 12] (fun s11 s12 wx => ∃ X, s11 = .pointer (some ⟨X, 0, none⟩) ∧ s12 = .int .i64 0 ∧ NB w H Bm hh (some ⟨g, 0, none⟩) l wx ∧ HC X y wx ∧ Bm ≤ X ∧ X < wx.heap.size)
      case first =>
        refine wp_region_held_drew (S := fun W => NB w H Bm hh (some ⟨g, 0, none⟩) l W) (by kernel_rfl) (hN.kept (Below.refl _ _).drew) (fun hHeld => ?_)
        refine wpAnyH_take (i := 0) rfl (by kernel_rfl) (by kernel_rfl) (by kernel_rfl) (fun _ _ _ h => h) (yieldsIf_load_mid (by rfl) _ _ rfl H 0 rfl (hartL hh) _ (fun W hS => HC.range (hS.hc)) hu rfl (size_hart _)) hHeld ?_
        try simp only [Act.put, List.getElem_toArray, List.getElem_cons_zero, List.setIfInBounds_toArray, List.set_cons_zero, List.set_cons_succ]
        refine wpAnyH_take (i := 1) (v := .slice (some ⟨g, 0, none⟩) l.length c7) rfl (by kernel_rfl) (by kernel_rfl) (by kernel_rfl) (fun _ _ _ h => h) (Or.inl ⟨by rfl, fun W _ => by kernel_rfl⟩) hHeld ?_
        try simp only [Act.put, List.getElem_toArray, List.getElem_cons_succ, List.getElem_cons_zero, List.setIfInBounds_toArray, List.set_cons_zero, List.set_cons_succ]
        refine wpAnyH_take (i := 2) (v := .int .i64 j) rfl (by kernel_rfl) (by kernel_rfl) (by kernel_rfl) (fun _ _ _ h => h) (Or.inl ⟨by rfl, fun W _ => by kernel_rfl⟩) hHeld ?_
        try simp only [Act.put, List.getElem_toArray, List.getElem_cons_succ, List.getElem_cons_zero, List.setIfInBounds_toArray, List.set_cons_zero, List.set_cons_succ]
        refine wpAnyH_take (i := 3) (v := .pointer (some ⟨g, j * 9, none⟩)) rfl (by kernel_rfl) (by kernel_rfl) (by kernel_rfl) (fun _ _ _ h => h) (Or.inl ⟨by rfl, fun W _ => by go_simp⟩) hHeld ?_
        try simp only [Act.put, List.getElem_toArray, List.getElem_cons_succ, List.getElem_cons_zero, List.setIfInBounds_toArray, List.set_cons_zero, List.set_cons_succ]
        refine wpAnyH_take (i := 4) rfl (by kernel_rfl) (by kernel_rfl) (by kernel_rfl) (fun _ _ _ h => h) (yieldsIf_load_mid (by rfl) _ _ rfl g (j * 9) (by first | rfl | simp) i.cells.toList _ (fun W hS => hIr.out W hS) hu2 rfl hi2.out) hHeld ?_
        try simp only [Act.put, List.getElem_toArray, List.getElem_cons_succ, List.getElem_cons_zero, List.setIfInBounds_toArray, List.set_cons_zero, List.set_cons_succ]
        generalize World.drew _ = W1 at hHeld ⊢
        refine wpAnyH_ready (rs := [5, 9]) (by kernel_rfl) (by simp) ?_
        refine AllReadyH.cons rfl (fun K hK2 => ?_) ?_
        · rw [if_pos (by rfl)]
          simp only [List.getElem_toArray, List.getElem_cons_succ, List.getElem_cons_zero]
          go_wp2_with (go_at_call 19; refine (hSt.out _).mono ?_; rintro e w4 ⟨rfl, hb4⟩)
          refine hK2.out _ _ (hHeld.kept hb4) (fun hHeld2 => ?_)
          clear hK2 K hHeld
          have hHeld := hHeld2
          clear hHeld2
          try simp only [Act.put, List.getElem_toArray, List.getElem_cons_succ, List.getElem_cons_zero, List.setIfInBounds_toArray, List.set_cons_zero, List.set_cons_succ]
          refine wpAnyH_take (i := 6) (v := .tuple #[.agg (hartL y).toArray, .int .i64 0]) rfl (by kernel_rfl) (by kernel_rfl) (by kernel_rfl) (fun _ _ _ h => h) (Or.inl ⟨by rfl, fun W _ => by kernel_rfl⟩) hHeld ?_
          try simp only [Act.put, List.getElem_toArray, List.getElem_cons_succ, List.getElem_cons_zero, List.setIfInBounds_toArray, List.set_cons_zero, List.set_cons_succ]
          refine wpAnyH_take (i := 7) (v := .agg (hartL y).toArray) rfl (by kernel_rfl) (by kernel_rfl) (by kernel_rfl) (fun _ _ _ h => h) (Or.inl ⟨by rfl, fun W _ => by kernel_rfl⟩) hHeld ?_
          try simp only [Act.put, List.getElem_toArray, List.getElem_cons_succ, List.getElem_cons_zero, List.setIfInBounds_toArray, List.set_cons_zero, List.set_cons_succ]
          refine wpAnyH_take (i := 8) (v := .int .i64 0) rfl (by kernel_rfl) (by kernel_rfl) (by kernel_rfl) (fun _ _ _ h => h) (Or.inl ⟨by rfl, fun W _ => by kernel_rfl⟩) hHeld ?_
          try simp only [Act.put, List.getElem_toArray, List.getElem_cons_succ, List.getElem_cons_zero, List.setIfInBounds_toArray, List.set_cons_zero, List.set_cons_succ]
          refine wpAnyH_ready (rs := [9]) (by kernel_rfl) (by simp) ?_
          refine AllReadyH.cons rfl (fun K hK2 => ?_) ?_
          · rw [if_pos (by rfl)]
            simp only [List.getElem_toArray, List.getElem_cons_succ, List.getElem_cons_zero]
            obtain ⟨X, hX⟩ : ∃ X, X = w4.heap.size := ⟨_, rfl⟩
            have hz := zeros_there w4 47
            have hlX : w4.heap.size < (w4.alloc (.cells #[.int .u64 0, .int .u64 0, .int .u64 0, .int .u64 0, .int .u64 0, .int .u64 0, .int .u64 0, .int .u64 0, .int .u64 0, .int .u64 0, .int .u64 0, .int .u64 0, .int .u64 0, .int .u64 0, .int .u64 0, .int .u64 0, .int .u64 0, .int .u64 0, .int .u64 0, .int .u64 0, .int .u64 0, .int .u64 0, .int .u64 0, .int .u64 0, .int .u64 0, .int .u64 0, .int .u64 0, .int .u64 0, .int .u64 0, .int .u64 0, .int .u64 0, .int .u64 0, .int .u64 0, .int .i64 0, .int .u64 0] 47)).heap.size := by simp
            have hAX := hHeld.sz
            have hal : Below w4.heap.size w4 (w4.alloc (.cells #[.int .u64 0, .int .u64 0, .int .u64 0, .int .u64 0, .int .u64 0, .int .u64 0, .int .u64 0, .int .u64 0, .int .u64 0, .int .u64 0, .int .u64 0, .int .u64 0, .int .u64 0, .int .u64 0, .int .u64 0, .int .u64 0, .int .u64 0, .int .u64 0, .int .u64 0, .int .u64 0, .int .u64 0, .int .u64 0, .int .u64 0, .int .u64 0, .int .u64 0, .int .u64 0, .int .u64 0, .int .u64 0, .int .u64 0, .int .u64 0, .int .u64 0, .int .u64 0, .int .u64 0, .int .i64 0, .int .u64 0] 47)) := (Below.refl _ _).alloc (Nat.le_refl _) _
            go_simp
            refine hK2.out _ _ (hHeld.kept hal) (fun hHeld2 => ?_)
            clear hK2 K hHeld
            have hHeld := hHeld2
            clear hHeld2
            try simp only [Act.put, List.getElem_toArray, List.getElem_cons_succ, List.getElem_cons_zero, List.setIfInBounds_toArray, List.set_cons_zero, List.set_cons_succ]
            generalize World.alloc _ _ = w5 at hz hlX hHeld hal ⊢
            rw [← hX] at hz hlX hAX ⊢
            clear hX hal
            refine wpAnyH_ready (rs := [10]) (by kernel_rfl) (by simp) (AllReadyH.cons rfl (fun K hK2 => ?_) AllReadyH.nil)
            rw [if_pos (by rfl)]
            simp only [List.getElem_toArray, List.getElem_cons_succ, List.getElem_cons_zero]
            obtain ⟨hst, hY, ltY, -⟩ := put_hart hz hlX y
            refine wp_store_mid 47 _ _ rfl X 0 (hartL y).toArray rfl rfl (there_hart hz _) (size_hartA _) (hartL_one _) ?_
            replace hHeld := hHeld.keep hst hAX
            change K _ (World.setCells _ X 0 (hartL y))
            generalize World.setCells _ X 0 (hartL y) = w6 at hst hY ltY hHeld ⊢
            refine hK2.out _ _ hHeld (fun _ => ?_)
            clear hK2 K hst hz hlX
            refine wpAnyH_take (i := 11) (v := .int .i64 0) rfl (by kernel_rfl) (by kernel_rfl) (by kernel_rfl) (fun _ _ _ h => h) (Or.inl ⟨by rfl, fun W _ => by kernel_rfl⟩) hHeld ?_
            try simp only [Act.put, List.getElem_toArray, List.getElem_cons_succ, List.getElem_cons_zero, List.setIfInBounds_toArray, List.set_cons_zero, List.set_cons_succ]
            refine wpAnyH_done (by kernel_rfl) ?_ _
            go_wp2_with fail
            go_meet
            exact ⟨X, rfl, rfl, hHeld, hY, hAX, ltY⟩
          exact AllReadyH.nil
        refine AllReadyH.cons rfl (fun K hK2 => ?_) ?_
        · rw [if_pos (by rfl)]
          simp only [List.getElem_toArray, List.getElem_cons_succ, List.getElem_cons_zero]
          obtain ⟨X, hX⟩ : ∃ X, X = W1.heap.size := ⟨_, rfl⟩
          have hz := zeros_there W1 47
          have hlX : W1.heap.size < (W1.alloc (.cells #[.int .u64 0, .int .u64 0, .int .u64 0, .int .u64 0, .int .u64 0, .int .u64 0, .int .u64 0, .int .u64 0, .int .u64 0, .int .u64 0, .int .u64 0, .int .u64 0, .int .u64 0, .int .u64 0, .int .u64 0, .int .u64 0, .int .u64 0, .int .u64 0, .int .u64 0, .int .u64 0, .int .u64 0, .int .u64 0, .int .u64 0, .int .u64 0, .int .u64 0, .int .u64 0, .int .u64 0, .int .u64 0, .int .u64 0, .int .u64 0, .int .u64 0, .int .u64 0, .int .u64 0, .int .i64 0, .int .u64 0] 47)).heap.size := by simp
          have hAX := hHeld.sz
          have hal : Below W1.heap.size W1 (W1.alloc (.cells #[.int .u64 0, .int .u64 0, .int .u64 0, .int .u64 0, .int .u64 0, .int .u64 0, .int .u64 0, .int .u64 0, .int .u64 0, .int .u64 0, .int .u64 0, .int .u64 0, .int .u64 0, .int .u64 0, .int .u64 0, .int .u64 0, .int .u64 0, .int .u64 0, .int .u64 0, .int .u64 0, .int .u64 0, .int .u64 0, .int .u64 0, .int .u64 0, .int .u64 0, .int .u64 0, .int .u64 0, .int .u64 0, .int .u64 0, .int .u64 0, .int .u64 0, .int .u64 0, .int .u64 0, .int .i64 0, .int .u64 0] 47)) := (Below.refl _ _).alloc (Nat.le_refl _) _
          go_simp
          refine hK2.out _ _ (hHeld.kept hal) (fun hHeld2 => ?_)
          clear hK2 K hHeld
          have hHeld := hHeld2
          clear hHeld2
          try simp only [Act.put, List.getElem_toArray, List.getElem_cons_succ, List.getElem_cons_zero, List.setIfInBounds_toArray, List.set_cons_zero, List.set_cons_succ]
          generalize World.alloc _ _ = w5 at hz hlX hHeld hal ⊢
          rw [← hX] at hz hlX hAX ⊢
          clear hX hal
          refine wpAnyH_ready (rs := [5]) (by kernel_rfl) (by simp) ?_
          refine AllReadyH.cons rfl (fun K hK2 => ?_) ?_
          · rw [if_pos (by rfl)]
            simp only [List.getElem_toArray, List.getElem_cons_succ, List.getElem_cons_zero]
            go_wp2_with (go_at_call 19; refine (hSt.out _).mono ?_; rintro e w4 ⟨rfl, hb4⟩)
            replace hz := there_keep hz hlX hb4
            replace hlX := Nat.lt_of_lt_of_le hlX hb4.size
            refine hK2.out _ _ (hHeld.kept hb4) (fun hHeld2 => ?_)
            clear hK2 K hHeld
            have hHeld := hHeld2
            clear hHeld2
            try simp only [Act.put, List.getElem_toArray, List.getElem_cons_succ, List.getElem_cons_zero, List.setIfInBounds_toArray, List.set_cons_zero, List.set_cons_succ]
            refine wpAnyH_take (i := 6) (v := .tuple #[.agg (hartL y).toArray, .int .i64 0]) rfl (by kernel_rfl) (by kernel_rfl) (by kernel_rfl) (fun _ _ _ h => h) (Or.inl ⟨by rfl, fun W _ => by kernel_rfl⟩) hHeld ?_
            try simp only [Act.put, List.getElem_toArray, List.getElem_cons_succ, List.getElem_cons_zero, List.setIfInBounds_toArray, List.set_cons_zero, List.set_cons_succ]
            refine wpAnyH_take (i := 7) (v := .agg (hartL y).toArray) rfl (by kernel_rfl) (by kernel_rfl) (by kernel_rfl) (fun _ _ _ h => h) (Or.inl ⟨by rfl, fun W _ => by kernel_rfl⟩) hHeld ?_
            try simp only [Act.put, List.getElem_toArray, List.getElem_cons_succ, List.getElem_cons_zero, List.setIfInBounds_toArray, List.set_cons_zero, List.set_cons_succ]
            refine wpAnyH_take (i := 8) (v := .int .i64 0) rfl (by kernel_rfl) (by kernel_rfl) (by kernel_rfl) (fun _ _ _ h => h) (Or.inl ⟨by rfl, fun W _ => by kernel_rfl⟩) hHeld ?_
            try simp only [Act.put, List.getElem_toArray, List.getElem_cons_succ, List.getElem_cons_zero, List.setIfInBounds_toArray, List.set_cons_zero, List.set_cons_succ]
            refine wpAnyH_ready (rs := [10]) (by kernel_rfl) (by simp) (AllReadyH.cons rfl (fun K hK2 => ?_) AllReadyH.nil)
            rw [if_pos (by rfl)]
            simp only [List.getElem_toArray, List.getElem_cons_succ, List.getElem_cons_zero]
            obtain ⟨hst, hY, ltY, -⟩ := put_hart hz hlX y
            refine wp_store_mid 47 _ _ rfl X 0 (hartL y).toArray rfl rfl (there_hart hz _) (size_hartA _) (hartL_one _) ?_
            replace hHeld := hHeld.keep hst hAX
            change K _ (World.setCells _ X 0 (hartL y))
            generalize World.setCells _ X 0 (hartL y) = w6 at hst hY ltY hHeld ⊢
            refine hK2.out _ _ hHeld (fun _ => ?_)
            clear hK2 K hst hz hlX
            refine wpAnyH_take (i := 11) (v := .int .i64 0) rfl (by kernel_rfl) (by kernel_rfl) (by kernel_rfl) (fun _ _ _ h => h) (Or.inl ⟨by rfl, fun W _ => by kernel_rfl⟩) hHeld ?_
            try simp only [Act.put, List.getElem_toArray, List.getElem_cons_succ, List.getElem_cons_zero, List.setIfInBounds_toArray, List.set_cons_zero, List.set_cons_succ]
            refine wpAnyH_done (by kernel_rfl) ?_ _
            go_wp2_with fail
            go_meet
            exact ⟨X, rfl, rfl, hHeld, hY, hAX, ltY⟩
          exact AllReadyH.nil
        exact AllReadyH.nil
      case rest =>
        obtain ⟨X, rfl, rfl, hN2, hY2, hBX, hlX⟩ := hcut
        clear hN hSt hIr hi2
        have k33 : wc.cell? ⟨X, 33, none⟩ = some (.int .i64 0) := by rw [← hyf.out]; exact hY2 33 (by decide)
        have hR2 := Lib.hid (HC.range hY2)
        have hT2 := Lib.hid hN2.there
        go_wp2_with (first | (refine wpList_load_mid rfl 47 _ rfl X 0 rfl (hartL y) _ hR2.out hu rfl (size_hart _) ?_) | (refine wpList_store_mid rfl 47 _ _ rfl H 0 (hartL y).toArray rfl rfl (there_hart hT2.out _) (size_hartA _) (hartL_one _) ?_; have hN3 : NB w H Bm y (some ⟨g, 0, none⟩) l (World.setCells wc H 0 (hartL y).toArray.toList) := hN2.put y; generalize World.setCells wc H 0 _ = w9 at hN3 ⊢))
        go_roundw
        case rel => exact ⟨j + 1, by omega, by go_num, by rw [← hye.out]; exact hN3⟩
        case measure => simp [intOf]; omega
    · obtain rfl : l.length = j := by omega
      rw [List.take_length, hex.out] at hN
      have hBr := hN.bl
      have m3 : decide ((l.length : Int) < (l.length : Int)) = false := by simp
      go_upto_region 17 with (first | (go_at_call 18; (with_reducible refine (hNw1.out _).mono ?_); rintro e w8 ⟨rfl, hb8⟩) | (refine wpList_store_mid rfl 47 _ _ rfl w8.heap.size 0 (hartL (newV (pcN l.length))).toArray rfl rfl (there_hart (zeros_there w8 47) _) (size_hartA _) (hartL_one _) ?_))
      have hzb := zeros_there w8 47
      have hltb : w8.heap.size < (w8.alloc (.cells #[.int .u64 0, .int .u64 0, .int .u64 0, .int .u64 0, .int .u64 0, .int .u64 0, .int .u64 0, .int .u64 0, .int .u64 0, .int .u64 0, .int .u64 0, .int .u64 0, .int .u64 0, .int .u64 0, .int .u64 0, .int .u64 0, .int .u64 0, .int .u64 0, .int .u64 0, .int .u64 0, .int .u64 0, .int .u64 0, .int .u64 0, .int .u64 0, .int .u64 0, .int .u64 0, .int .u64 0, .int .u64 0, .int .u64 0, .int .u64 0, .int .u64 0, .int .u64 0, .int .u64 0, .int .i64 0, .int .u64 0] 47)).heap.size := by simp
      have halb : Below w8.heap.size w8 (w8.alloc (.cells #[.int .u64 0, .int .u64 0, .int .u64 0, .int .u64 0, .int .u64 0, .int .u64 0, .int .u64 0, .int .u64 0, .int .u64 0, .int .u64 0, .int .u64 0, .int .u64 0, .int .u64 0, .int .u64 0, .int .u64 0, .int .u64 0, .int .u64 0, .int .u64 0, .int .u64 0, .int .u64 0, .int .u64 0, .int .u64 0, .int .u64 0, .int .u64 0, .int .u64 0, .int .u64 0, .int .u64 0, .int .u64 0, .int .u64 0, .int .u64 0, .int .u64 0, .int .u64 0, .int .u64 0, .int .i64 0, .int .u64 0] 47)) := (Below.refl _ _).alloc (Nat.le_refl _) _
      obtain ⟨hstb, hYb, ltYb, htYb⟩ := put_hart hzb hltb (newV (pcN l.length))
      replace hstb := halb.trans hstb
      clear hzb hltb halb
      generalize World.setCells _ w8.heap.size 0 (hartL (newV (pcN l.length))) = W9 at hstb hYb ltYb htYb ⊢
      have qb : W9.cell? ⟨w8.heap.size, 1 + r, none⟩ = some (.int .u64 (un 0#64)) := (hYb (1 + r) (by omega)).trans (congrArg some (hartCell_x (newV (pcN l.length)) r hr2))
      have fb : W9.frozen? ⟨w8.heap.size, 1 + r, none⟩ = false := by have := (htYb (1 + r) (by omega)).2; rwa [Nat.zero_add] at this
      go_upto_region 18 with fail
      have hcb : HC w8.heap.size (runH (pcN l.length) r n) (W9.setCell ⟨w8.heap.size, 1 + r, none⟩ (.int .u64 (un n))) := hYb.setX r hr2 n
      have hbC : Below w8.heap.size w8 (W9.setCell ⟨w8.heap.size, 1 + r, none⟩ (.int .u64 (un n))) := hstb.setCell (p := ⟨w8.heap.size, 1 + r, none⟩) (Nat.le_refl _) _
      have hN4 := (hN.kept hb8).kept hbC
      clear qb fb hYb ltYb htYb hstb hbC hN hb8
      generalize W9.setCell ⟨w8.heap.size, 1 + r, none⟩ _ = WA at hcb hN4 ⊢
      have hBz := hN4.bl
      have hRa := Lib.hid (HC.range hN4.hc)
      have hRb := Lib.hid (HC.range hcb)
      clear hN4 hcb
      generalize w8.heap.size = H8 at hRb ⊢
      go_wp2_with (first | (refine wpList_load_mid rfl 47 _ rfl H 0 rfl (hartL (runH (pcN l.length) r n)) _ hRa.out hu rfl (size_hart _) ?_) | (refine wpList_load_mid rfl 47 _ rfl H8 0 rfl (hartL (runH (pcN l.length) r n)) _ hRb.out hu rfl (size_hart _) ?_) | (refine wpList_eqlH (by rfl) _ _ _ rfl _ _ true rfl rfl (fun W => hart_eql _ W) ?_))
      go_ret
      exact ⟨rfl, hBz⟩
end
end Go.Proofs.YtcgflnkgekkidaaGreatDoor
