/- TaintChains, whatever the lists. Conditions: the library's table of ASCII spaces lies as its initialiser lays it. -/
import Derived.Test.YtebeajnaamglkaaDoorTntCm
import Derived.Deep.DeepCutAuto
import Derived.Deep.RegionHeld
import Derived.Deep.QuietTactic
import Derived.BigQuiet
set_option linter.unusedSimpArgs false
set_option linter.unusedVariables false
namespace Go.Proofs.YtebeajnaamglkaaDoor
open Go.RowKit
/-- The law's lists are too long. -/
def longC (F : List (Int × Int)) (l : List Int) : Bool := decide (60 < F.length) || decide (60 < l.length)
theorem i9_one (a b c d e : Int) : (#[.int .i64 a, .int .i64 b, .int .i64 c, .int .i64 d, .int .i64 e, .bool false, .bool false, .int .i64 0, .int .i64 0] : Array Value).all (·.oneCell') = true :=
  all_oneCell_toArray (cs := [.int .i64 a, .int .i64 b, .int .i64 c, .int .i64 d, .int .i64 e, .bool false, .bool false, .int .i64 0, .int .i64 0]) fun v hv => by
    simp only [List.mem_cons, List.not_mem_nil, or_false] at hv
    rcases hv with rfl | rfl | rfl | rfl | rfl | rfl | rfl | rfl | rfl <;> rfl
theorem t9 {w W : World} {X : Nat} {cs : List Value} (h : BK w W X cs) (a b c d e : Int) : W.there X 0 (#[.int .i64 a, .int .i64 b, .int .i64 c, .int .i64 d, .int .i64 e, .bool false, .bool false, .int .i64 0, .int .i64 0] : Array Value).size := h.t
theorem sizeI_insn1 : (Tryd.prog.info? 33).map (·.size) = some 9 := by kernel_rfl
theorem upd_zero {rd : Nat} {n : Int} {m : Nat → Int} (h : rd = 0) : (fun r : Nat => if 0 < (rd : Int) ∧ (r : Int) = (rd : Int) then n else m r) = m := by
  funext r; rw [if_neg (by omega)]
theorem upd_pos {rd : Nat} {n : Int} {m : Nat → Int} (h : ¬ rd = 0) : (fun r : Nat => if 0 < (rd : Int) ∧ (r : Int) = (rd : Int) then n else m r) = fun r => if r = rd then n else m r := by
  funext r
  by_cases e : r = rd
  · rw [if_pos e, if_pos (by omega)]
  · rw [if_neg e, if_neg (by omega)]
theorem drewN_below (w : World) (n : Nat) : Below w.heap.size w (w.drewN n) := ⟨rfl, rfl, rfl, Nat.le_refl _, fun _ _ => rfl⟩
theorem drew_below (w : World) : Below w.heap.size w w.drew := ⟨rfl, rfl, rfl, Nat.le_refl _, fun _ _ => rfl⟩
set_option maxRecDepth 100000 in
set_option maxHeartbeats 8000000 in
theorem Chains_long (a b : Value) (F : List (Int × Int)) (l : List Int) (w : World) (ha : PL w a F) (hb : RL w w.heap.size b l) (ht : Tabs w) (hL : longC F l = true) :
    Calls Tryd.prog 3 #[a, b] w fun e w' => e = .returned (.bool true) ∧ Below w.heap.size w w' := by
  have hLv := Lib.hid (lives_any w ht)
  obtain ⟨A1, c1, rfl, -⟩ := ha.form
  obtain ⟨A2, c2, rfl, -⟩ := hb.form
  clear ha hb ht
  unfold longC at hL
  by_cases h1 : 60 < F.length
  · have d1 : decide (60 < (F.length : Int)) = true := by simp; omega
    clear hL
    go_enter Tryd.func3, Tryd.ntmps3
    go_wp2_with (go_at_call 7; (with_reducible refine hLv.out.mono ?_); rintro e w1 ⟨rfl, hb1⟩)
    go_ret
    exact ⟨rfl, hb1⟩
  · have d1 : decide (60 < (F.length : Int)) = false := by simp; omega
    have h3 : 60 < l.length := by simpa [h1] using hL
    have d3 : decide (60 < (l.length : Int)) = true := by simp; omega
    clear hL
    go_enter Tryd.func3, Tryd.ntmps3
    go_wp2_with (go_at_call 7; (with_reducible refine hLv.out.mono ?_); rintro e w1 ⟨rfl, hb1⟩)
    go_ret
    exact ⟨rfl, hb1⟩
set_option maxRecDepth 100000 in
set_option maxHeartbeats 16000000 in
theorem Chains_short (a b : Value) (F : List (Int × Int)) (l : List Int) (w : World) (ha : PL w a F) (hb : RL w w.heap.size b l) (ht : Tabs w) (hL : longC F l = false) :
    Calls Tryd.prog 3 #[a, b] w fun e w' => e = .returned (.bool true) ∧ Below w.heap.size w w' := by
  have huT := Tryd.underlying27
  have huI := Tryd.underlying33
  have hLv := Lib.hid (lives_any w ht)
  have hNew := Lib.hid (fun W => New_any W)
  have hlen : F.length ≤ 60 ∧ l.length ≤ 60 := by unfold longC at hL; simp at hL; omega
  have d1 : decide (60 < (F.length : Int)) = false := by simp; omega
  have d2 : decide (60 < (l.length : Int)) = false := by simp; omega
  obtain ⟨A1, c1, rfl, f1, f2, f3⟩ := ha.form
  obtain ⟨A2, c2, rfl, g1, g2, g3⟩ := hb.form
  unfold maxLen at f2 g2
  obtain ⟨n1, n2⟩ := hlen
  have hrF : Hid (∀ W k, Below w.heap.size w W → k < F.length → ∃ b o x y, A1 = some ⟨b, o, none⟩ ∧ W.cell? ⟨b, o + k * 2, none⟩ = some (.int .i64 x) ∧ W.cell? ⟨b, o + k * 2 + 1, none⟩ = some (.int .i64 y) ∧ k < c1) := Lib.hid fun W k hW hk => by
    obtain ⟨b, o, rfl, hb, hc⟩ := f3.resolve_left (fun e => by rw [e] at hk; exact absurd hk (Nat.not_lt_zero _))
    obtain ⟨e1, e2⟩ := hc k F[k].1 F[k].2 (List.getElem?_eq_getElem hk)
    exact ⟨b, o, _, _, rfl, (hW.cell (p := ⟨b, o + k * 2, none⟩) hb).trans e1, (hW.cell (p := ⟨b, o + k * 2 + 1, none⟩) hb).trans e2, by omega⟩
  have hrl : Hid (∀ W k, Below w.heap.size w W → k < l.length → ∃ b o x, A2 = some ⟨b, o, none⟩ ∧ W.cell? ⟨b, o + k, none⟩ = some (.int .i64 x) ∧ k < c2) := Lib.hid fun W k hW hk => by
    obtain ⟨b, o, rfl, hb, hc⟩ := g3.resolve_left (fun e => by rw [e] at hk; exact absurd hk (Nat.not_lt_zero _))
    exact ⟨b, o, l[k], rfl, (hW.cell (p := ⟨b, o + k, none⟩) hb).trans (hc k _ (List.getElem?_eq_getElem hk)), by omega⟩
  have hTb : Hid (∀ W, Below w.heap.size w W → Tabs W) := Lib.hid fun W hW => ht.later hW (Nat.le_refl _)
  clear ha hb hL ht f1 f3 g1 g3
  go_enter Tryd.func3, Tryd.ntmps3
  go_upto_region 5 with (go_at_call 7; (with_reducible refine hLv.out.mono ?_); rintro e w1 ⟨rfl, hb1⟩)
  clear hLv d1 d2
  go_upto_region 6 with (first | (go_at_call 8; refine (hNew.out _).mono ?_; rintro e w2 ⟨rfl, hb2⟩; obtain ⟨hz2, hX2, hc2⟩ := TB.new (zeroTS w2 (fun _ => True)) #[.slice none 0 0, .slice none 0 0, .slice none 0 0, .slice none 0 0, .slice none 0 0, .slice none 0 0, .slice none 0 0, .slice none 0 0, .slice none 0 0, .slice none 0 0, .slice none 0 0, .slice none 0 0, .slice none 0 0, .slice none 0 0, .slice none 0 0, .slice none 0 0, .slice none 0 0, .slice none 0 0, .slice none 0 0, .slice none 0 0, .slice none 0 0, .slice none 0 0, .slice none 0 0, .slice none 0 0, .slice none 0 0, .slice none 0 0, .slice none 0 0, .slice none 0 0, .slice none 0 0, .slice none 0 0, .slice none 0 0, .slice none 0 0, .slice none 0 0] 27 rfl) | (refine wpList_store_mid rfl 27 _ _ rfl w2.heap.size 0 zeroTL.toArray rfl rfl (fun j hj => hz2 j hj) size_taint zeroTL_one ?_; change wpList _ _ _ _ _ (World.setCells _ w2.heap.size 0 zeroTL); generalize (w2.alloc (.cells #[.slice none 0 0, .slice none 0 0, .slice none 0 0, .slice none 0 0, .slice none 0 0, .slice none 0 0, .slice none 0 0, .slice none 0 0, .slice none 0 0, .slice none 0 0, .slice none 0 0, .slice none 0 0, .slice none 0 0, .slice none 0 0, .slice none 0 0, .slice none 0 0, .slice none 0 0, .slice none 0 0, .slice none 0 0, .slice none 0 0, .slice none 0 0, .slice none 0 0, .slice none 0 0, .slice none 0 0, .slice none 0 0, .slice none 0 0, .slice none 0 0, .slice none 0 0, .slice none 0 0, .slice none 0 0, .slice none 0 0, .slice none 0 0, .slice none 0 0] 27)).setCells w2.heap.size 0 zeroTL = W2 at hX2 hc2 ⊢))
  have hM := MD.new W2 29
  have hal : Below W2.heap.size W2 (W2.alloc (.cells #[.int .i64 0, .int .i64 0, .int .i64 0, .int .i64 0, .int .i64 0, .int .i64 0, .int .i64 0, .int .i64 0, .int .i64 0, .int .i64 0, .int .i64 0, .int .i64 0, .int .i64 0, .int .i64 0, .int .i64 0, .int .i64 0, .int .i64 0, .int .i64 0, .int .i64 0, .int .i64 0, .int .i64 0, .int .i64 0, .int .i64 0, .int .i64 0, .int .i64 0, .int .i64 0, .int .i64 0, .int .i64 0, .int .i64 0, .int .i64 0, .int .i64 0, .int .i64 0] 29)) := (Below.refl _ _).alloc (Nat.le_refl _) _
  have hlt2 := hX2.lt
  have hB2 := bl_step (bl_step hb1 hb2) hc2
  have hC : CL w (W2.alloc (.cells #[.int .i64 0, .int .i64 0, .int .i64 0, .int .i64 0, .int .i64 0, .int .i64 0, .int .i64 0, .int .i64 0, .int .i64 0, .int .i64 0, .int .i64 0, .int .i64 0, .int .i64 0, .int .i64 0, .int .i64 0, .int .i64 0, .int .i64 0, .int .i64 0, .int .i64 0, .int .i64 0, .int .i64 0, .int .i64 0, .int .i64 0, .int .i64 0, .int .i64 0, .int .i64 0, .int .i64 0, .int .i64 0, .int .i64 0, .int .i64 0, .int .i64 0, .int .i64 0] 29)) w2.heap.size W2.heap.size zeroTL zeroT (fun _ => 0) :=
    ⟨⟨tn_range hX2.rt hlt2 hal, tn_there hX2.tt hlt2 hal, zeroTS _ _, Nat.lt_of_lt_of_le hlt2 hal.size, fun h => h.1 rfl⟩, hM, Chain.start, bl_step hB2 hal, by have := hb1.size; have := hb2.size; omega, by have := hB2.size; omega, by omega⟩
  obtain ⟨X, hX⟩ : ∃ n, n = w2.heap.size := ⟨_, rfl⟩
  obtain ⟨M, hMe⟩ : ∃ n, n = W2.heap.size := ⟨_, rfl⟩
  rw [← hX, ← hMe] at hC
  clear hNew hX2 hz2 hc2 hM hB2 hb1 hb2 hal hlt2
  go_upto_region 8 with fail
  rw [← hX, ← hMe]
  generalize W2.alloc (.cells #[.int .i64 0, .int .i64 0, .int .i64 0, .int .i64 0, .int .i64 0, .int .i64 0, .int .i64 0, .int .i64 0, .int .i64 0, .int .i64 0, .int .i64 0, .int .i64 0, .int .i64 0, .int .i64 0, .int .i64 0, .int .i64 0, .int .i64 0, .int .i64 0, .int .i64 0, .int .i64 0, .int .i64 0, .int .i64 0, .int .i64 0, .int .i64 0, .int .i64 0, .int .i64 0, .int .i64 0, .int .i64 0, .int .i64 0, .int .i64 0, .int .i64 0, .int .i64 0] 29) = W3 at hC ⊢
  clear hX hMe
  go_loopw [7] (fun i wr => ∃ (k : Nat) (cs : List Value) (T : List (List Int)) (m : Nat → Int), k ≤ F.length ∧ i = .int .i64 k ∧ CL w wr X M cs T m ∧ ∀ r, m r ≤ k) (fun i _ => F.length - (intOf i).toNat)
  case atStart => exact ⟨0, zeroTL, zeroT, fun _ => 0, Nat.zero_le _, rfl, hC, fun _ => Int.le_refl _⟩
  case round =>
    clear hC
    obtain ⟨k, cs, T, m, hk, rfl, hC, hm⟩ := hrel
    by_cases hlt : k < F.length
    · obtain ⟨b, o, x, y, rfl, cx, cy, hkc⟩ := hrF.out wr k hC.bl hlt
      obtain ⟨rd, hrd, hP1⟩ := Pick_nat_any x 32 (by decide) (by decide)
      obtain ⟨rs, hrs, hP2⟩ := Pick_nat_any y 32 (by decide) (by decide)
      have hk1 : (0 : Int) ≤ (k : Int) ∧ (k : Int) < (F.length : Int) := by omega
      obtain ⟨hk1, hk2⟩ := hk1
      have hbl := hC.bl
      replace hC := Lib.hid hC
      replace hm := Lib.hid hm
      go_upto_region 10 with fail
      go_quiet ((go_at_call 9; first | (with_reducible exact quiet_same (hP1.out _)) | (with_reducible exact quiet_same (hP2.out _))))
      have hC4 := Lib.hid (hC.out.keep (drewN_below wr nq))
      have hb4 := hC4.out.bl
      clear hbl hC hP1 hP2 cx cy
      generalize wr.drewN nq = W4 at hC4 hb4 ⊢
      go_upto_if 50 with fail
      go_cut [10] (fun s wx => ∃ q : Int, (q = 0 ∨ q = 1 ∨ q = 2) ∧ s = .int .i64 q ∧ W4 = wx)
      case first =>
        by_cases hw : k < l.length
        · obtain ⟨b', o', z, rfl, cz, hkc2⟩ := hrl.out W4 k hb4 hw
          obtain ⟨q, hq, hP3⟩ := Pick_nat_any z 3 (by decide) (by decide)
          have hd : decide ((k : Int) < (l.length : Int)) = true := by simp; omega
          have hk3 : (k : Int) < (l.length : Int) := by omega
          go_wp2_with (go_at_call 9; (with_reducible refine (hP3.out _).mono ?_); rintro e w5 ⟨rfl, rfl⟩)
          go_meet
          exact ⟨(q : Int), by omega, rfl, rfl⟩
        · have hd : decide ((k : Int) < (l.length : Int)) = false := by simp; omega
          go_wp2_with fail
          go_meet
          exact ⟨0, .inl rfl, rfl, rfl⟩
      case rest =>
      obtain ⟨q, hq, rfl, rfl⟩ := hcut
      go_upto_region 14 with fail
      refine wp_region_held_drew (S := fun W => CL w W X M cs T m) (by kernel_rfl) (hC4.out.keep (drew_below _)) (fun hHeld => ?_)
      refine wpAnyH_take (i := 0) (v := .int .i64 (rd : Int)) rfl (by kernel_rfl) (by kernel_rfl) (by kernel_rfl) (fun _ _ _ h => h) (Or.inl ⟨by rfl, fun W _ => by kernel_rfl⟩) hHeld ?_
      try simp only [Act.put, List.getElem_toArray, List.getElem_cons_zero, List.setIfInBounds_toArray, List.set_cons_zero, List.set_cons_succ]
      refine wpAnyH_take (i := 1) (v := .int .i64 (rs : Int)) rfl (by kernel_rfl) (by kernel_rfl) (by kernel_rfl) (fun _ _ _ h => h) (Or.inl ⟨by rfl, fun W _ => by kernel_rfl⟩) hHeld ?_
      try simp only [Act.put, List.getElem_toArray, List.getElem_cons_succ, List.getElem_cons_zero, List.setIfInBounds_toArray, List.set_cons_zero, List.set_cons_succ]
      refine wpAnyH_take (i := 2) (v := .agg #[.int .i64 22, .int .i64 (rd : Int), .int .i64 (rs : Int), .int .i64 0, .int .i64 0, .bool false, .bool false, .int .i64 0, .int .i64 0]) rfl (by kernel_rfl) (by kernel_rfl) (by kernel_rfl) (fun _ _ _ h => h) (Or.inl ⟨by rfl, fun W _ => by kernel_rfl⟩) hHeld ?_
      try simp only [Act.put, List.getElem_toArray, List.getElem_cons_succ, List.getElem_cons_zero, List.setIfInBounds_toArray, List.set_cons_zero, List.set_cons_succ]
      refine wpAnyH_take (i := 3) (v := .int .i64 (rs : Int)) rfl (by kernel_rfl) (by kernel_rfl) (by kernel_rfl) (fun _ _ _ h => h) (Or.inl ⟨by rfl, fun W _ => by kernel_rfl⟩) hHeld ?_
      try simp only [Act.put, List.getElem_toArray, List.getElem_cons_succ, List.getElem_cons_zero, List.setIfInBounds_toArray, List.set_cons_zero, List.set_cons_succ]
      refine wpAnyH_take (i := 4) (v := .pointer (some ⟨M, rs, none⟩)) rfl (by kernel_rfl) (by kernel_rfl) (by kernel_rfl) (fun _ _ _ h => h) (Or.inl ⟨by rfl, fun W _ => by go_simp⟩) hHeld ?_
      try simp only [Act.put, List.getElem_toArray, List.getElem_cons_succ, List.getElem_cons_zero, List.setIfInBounds_toArray, List.set_cons_zero, List.set_cons_succ]
      refine wpAnyH_take (i := 5) (v := .int .i64 (m rs)) rfl (by kernel_rfl) (by kernel_rfl) (by kernel_rfl) (fun _ _ _ h => h) (Or.inl ⟨by rfl, fun W hS => by (have k : W.cell? ⟨M, rs, none⟩ = some (.int .i64 (m rs)) := hS.md.c rs (by omega)); go_simp⟩) hHeld ?_
      try simp only [Act.put, List.getElem_toArray, List.getElem_cons_succ, List.getElem_cons_zero, List.setIfInBounds_toArray, List.set_cons_zero, List.set_cons_succ]
      generalize World.drew _ = W5 at hHeld ⊢
      have hx := BK.new (w := w) (W := W5) #[.int .i64 0, .int .i64 0, .int .i64 0, .int .i64 0, .int .i64 0, .bool false, .bool false, .int .i64 0, .int .i64 0] 33 rfl (by have := hHeld.tb.lt; have := hHeld.xl; omega)
      have al : Below W5.heap.size W5 (W5.alloc (.cells #[.int .i64 0, .int .i64 0, .int .i64 0, .int .i64 0, .int .i64 0, .bool false, .bool false, .int .i64 0, .int .i64 0] 33)) := (Below.refl _ _).alloc (Nat.le_refl _) _
      have hS5 := hHeld
      refine wpAnyH_ready (rs := [6]) (by kernel_rfl) (by simp) (AllReadyH.cons rfl (fun K hK2 => ?_) AllReadyH.nil)
      rw [if_pos (by rfl)]
      simp only [List.getElem_toArray, List.getElem_cons_succ, List.getElem_cons_zero]
      go_simp
      refine hK2.out _ _ (hHeld.keep al) (fun hHeld2 => ?_)
      clear hK2 K hHeld
      have hHeld := hHeld2
      clear hHeld2
      try simp only [Act.put, List.getElem_toArray, List.getElem_cons_succ, List.getElem_cons_zero, List.setIfInBounds_toArray, List.set_cons_zero, List.set_cons_succ]
      refine wpAnyH_ready (rs := [7]) (by kernel_rfl) (by simp) (AllReadyH.cons rfl (fun K hK2 => ?_) AllReadyH.nil)
      rw [if_pos (by rfl)]
      simp only [List.getElem_toArray, List.getElem_cons_succ, List.getElem_cons_zero]
      refine wp_store_mid 33 _ _ rfl W5.heap.size 0 #[.int .i64 22, .int .i64 (rd : Int), .int .i64 (rs : Int), .int .i64 0, .int .i64 0, .bool false, .bool false, .int .i64 0, .int .i64 0] rfl rfl (fun j hj => hx.t j hj) sizeI_insn1 (i9_one _ _ _ _ _) ?_
      change K _ (World.setCells _ W5.heap.size 0 (#[.int .i64 22, .int .i64 (rd : Int), .int .i64 (rs : Int), .int .i64 0, .int .i64 0, .bool false, .bool false, .int .i64 0, .int .i64 0] : Array Value).toList)
      refine hK2.out _ _ (hS5.keep (tn_below (Nat.le_refl _) _ 0 _ al)) (fun hHeld2 => ?_)
      clear hK2 K hHeld
      have hHeld := hHeld2
      clear hHeld2
      try simp only [Act.put, List.getElem_toArray, List.getElem_cons_succ, List.getElem_cons_zero, List.setIfInBounds_toArray, List.set_cons_zero, List.set_cons_succ]
      replace hx := hx.fill (cs' := (#[.int .i64 22, .int .i64 (rd : Int), .int .i64 (rs : Int), .int .i64 0, .int .i64 0, .bool false, .bool false, .int .i64 0, .int .i64 0] : Array Value).toList) rfl
      have hb6 := tn_below (Nat.le_refl W5.heap.size) (#[.int .i64 22, .int .i64 (rd : Int), .int .i64 (rs : Int), .int .i64 0, .int .i64 0, .bool false, .bool false, .int .i64 0, .int .i64 0] : Array Value).toList 0 _ al
      clear al
      generalize World.setCells (World.alloc _ _) _ _ _ = W6 at hHeld hx hb6 ⊢
      refine wpAnyH_take (i := 8) (v := .int .i64 (-1)) rfl (by kernel_rfl) (by kernel_rfl) (by kernel_rfl) (fun _ _ _ h => h) (Or.inl ⟨by rfl, fun W _ => by kernel_rfl⟩) hHeld ?_
      try simp only [Act.put, List.getElem_toArray, List.getElem_cons_succ, List.getElem_cons_zero, List.setIfInBounds_toArray, List.set_cons_zero, List.set_cons_succ]
      refine wpAnyH_take (i := 9) (v := .int .i64 (m rs)) rfl (by kernel_rfl) (by kernel_rfl) (by kernel_rfl) (fun _ _ _ h => h) (Or.inl ⟨by rfl, fun W _ => by kernel_rfl⟩) hHeld ?_
      try simp only [Act.put, List.getElem_toArray, List.getElem_cons_succ, List.getElem_cons_zero, List.setIfInBounds_toArray, List.set_cons_zero, List.set_cons_succ]
      refine wpAnyH_done (by kernel_rfl) ?_ _
      clear hHeld hC4 hb4
      have hrd2 : rd < 32 := by omega
      have hrs2 : rs < 32 := by omega
      have hwk : wrap64 ((k : Int) + 1) = (k : Int) + 1 := IntWalk.wrap64_in _ (by omega)
      have hwk2 : IntKind.i64.wrap ((k : Int) + 1) = (k : Int) + 1 := by rw [IntKind.wrap_i64]; omega
      have hund : ∀ b : Bool, (some undef = some (Value.bool b)) = False := fun b => by simp [undef]
      rcases hq with rfl | rfl | rfl
      · go_upto_region 19 with fail
        obtain ⟨W7, hW7⟩ : ∃ W, W = W6 := ⟨_, rfl⟩
        rw [← hW7] at hb6 hx ⊢
        have hb7 := hb6
        clear hW7
        have hC7 := hS5.keep hb7
        have hxr := hx.r
        have hst := Step_ok cs T _ (addiI rd rs) (-1) W7 hC7.tb.ts hC7.ch.short hC7.ch.ok (addi_ok ⟨by omega, by omega⟩ ⟨by omega, by omega⟩) (by omega) (by show (22 : Int) ≤ 9223372036854775807; decide) (hTb.out _ hC7.bl)
        rw [hC7.ch.way] at hst
        have hch := (hC7.ch.addi hrd2 hrs2)
        have hTl := hC7.tb.lt
        have hMl := hC7.md.lt
        have htr := hC7.tb.rt
        have hsc : Hid ((Tryd.prog.info? 27).map (·.size) = some cs.length) := Lib.hid (by rw [hC7.tb.ts.lc]; exact size_taint)
        generalize hT0 : stepT T (addiI rd rs) (-1) = T1 at hst hch
        clear hT0
        generalize hD0 : dataT T (addiI rd rs) = D1 at hst
        clear hD0
        generalize hA0 : addrT T (addiI rd rs) = D0 at hst
        clear hA0
        have hSt : Hid (Calls Tryd.prog 10 #[.agg cs.toArray, .agg #[.int .i64 22, .int .i64 (rd : Int), .int .i64 (rs : Int), .int .i64 0, .int .i64 0, .bool false, .bool false, .int .i64 0, .int .i64 0], .int .i64 (-1)] W7 (StepPost W7 T1 D0 D1 [])) := Lib.hid hst
        clear hst
        replace hC7 := Lib.hid hC7
        replace hch := Lib.hid hch
        clear hx hb7
        go_upto_region 20 with (first | (refine wpList_load_mid rfl 27 _ rfl X 0 rfl cs _ htr huT rfl hsc.out ?_) | (refine wpList_load_mid rfl 33 _ rfl W5.heap.size 0 rfl [.int .i64 22, .int .i64 (rd : Int), .int .i64 (rs : Int), .int .i64 0, .int .i64 0, .bool false, .bool false, .int .i64 0, .int .i64 0] _ hxr huI rfl sizeI_insn1 ?_) | (go_at_call 10; (with_reducible refine hSt.out.mono ?_); rintro e w3 ⟨css, vas, vds, vws, rfl, hTs, has, hds, hws, hbs⟩; have hzs := T0.new w3 #[.slice none 0 0, .slice none 0 0, .slice none 0 0, .slice none 0 0, .slice none 0 0, .slice none 0 0, .slice none 0 0, .slice none 0 0, .slice none 0 0, .slice none 0 0, .slice none 0 0, .slice none 0 0, .slice none 0 0, .slice none 0 0, .slice none 0 0, .slice none 0 0, .slice none 0 0, .slice none 0 0, .slice none 0 0, .slice none 0 0, .slice none 0 0, .slice none 0 0, .slice none 0 0, .slice none 0 0, .slice none 0 0, .slice none 0 0, .slice none 0 0, .slice none 0 0, .slice none 0 0, .slice none 0 0, .slice none 0 0, .slice none 0 0, .slice none 0 0] #[.slice none 0 0, .slice none 0 0, .slice none 0 0] 27 35 rfl rfl; have hys := hzs.cells w3.heap.size (Nat.le_refl _) css; have hfs := hzs.full hTs has hds hws; have hlcs := Lib.hid hTs.lc; have hss : Hid ((Tryd.prog.info? 27).map (·.size) = some css.toArray.size) := Lib.hid (by rw [List.size_toArray, hTs.lc]; exact size_taint); have hos : Hid (css.toArray.all (·.oneCell') = true) := Lib.hid (all_oneCell_toArray hTs.one); have hps : Hid ((#[vas, vds, vws] : Array Value).all (·.oneCell') = true) := Lib.hid (all_oneCell_toArray hfs.1.one)) | (refine wpList_store_mid rfl 27 _ _ rfl w3.heap.size 0 css.toArray rfl rfl (fun j hj => hzs.tt j (by rw [List.size_toArray, hlcs.out] at hj; exact hj)) hss.out hos.out ?_; change wpList _ _ _ _ _ (World.setCells _ w3.heap.size 0 css)) | (refine wpList_store_mid rfl 35 _ _ rfl (w3.heap.size + 1) 0 #[vas, vds, vws] rfl rfl (fun j hj => hys.td j hj) size_deps hps.out ?_; change wpList _ _ _ _ _ (World.setCells (World.setCells _ w3.heap.size 0 css) (w3.heap.size + 1) 0 [vas, vds, vws]); generalize ((((w3.alloc (.cells #[.slice none 0 0, .slice none 0 0, .slice none 0 0, .slice none 0 0, .slice none 0 0, .slice none 0 0, .slice none 0 0, .slice none 0 0, .slice none 0 0, .slice none 0 0, .slice none 0 0, .slice none 0 0, .slice none 0 0, .slice none 0 0, .slice none 0 0, .slice none 0 0, .slice none 0 0, .slice none 0 0, .slice none 0 0, .slice none 0 0, .slice none 0 0, .slice none 0 0, .slice none 0 0, .slice none 0 0, .slice none 0 0, .slice none 0 0, .slice none 0 0, .slice none 0 0, .slice none 0 0, .slice none 0 0, .slice none 0 0, .slice none 0 0, .slice none 0 0] 27)).alloc (.cells #[.slice none 0 0, .slice none 0 0, .slice none 0 0] 35)).setCells w3.heap.size 0 css).setCells (w3.heap.size + 1) 0 [vas, vds, vws]) = Ws at hfs ⊢))
        obtain ⟨hXs, hcs⟩ := hfs
        have hltX := Lib.hid hXs.lt
        have hks := Lib.hid (bl_step hbs hcs)
        have hC8 := Lib.hid (hC7.out.keep hks.out)
        have hTs2 := Lib.hid (hTs.below hcs)
        obtain ⟨Aw, cw, hvw, -⟩ := hXs.rx.form
        have cway : Ws.cell? ⟨w3.heap.size + 1, 2, none⟩ = some (.slice Aw 0 cw) := by have := hXs.rd 2 _ rfl; rw [Nat.zero_add, hvw] at this; exact this
        clear hvw
        have hXt := Lib.hid hXs.rt
        have hlcs := Lib.hid hXs.ts.lc
        have hocs : Hid (css.toArray.all (·.oneCell') = true) := Lib.hid (all_oneCell_toArray hXs.ts.one)
        have hscs : Hid ((Tryd.prog.info? 27).map (·.size) = some css.length) := Lib.hid (by rw [hXs.ts.lc]; exact size_taint)
        clear hzs hys hss hos hps hTs has hds hws hbs hcs hC7 hsc htr hxr hXs
        go_quiet (fail)
        go_upto_region 22 with fail
        clear cway
        generalize hWd : Ws.drewN _ = Wd
        have hbd : Below Ws.heap.size Ws Wd := by rw [← hWd]; exact drewN_below Ws _
        clear hWd
        have hC9 := hC8.out.keep hbd
        have hT9 := hTs2.out.below hbd
        have hsz9 := (bl_step (bl_step hks.out hbd) (Below.refl _ _)).size
        have hr9 := tn_range hXt.out (by have := hks.out.size; have := hltX.out; omega) hbd
        have htt9 := hC9.tb.tt
        have hT8 : TS Wd (fun b => b ≠ X ∧ b ≠ M) css T1 := hT9.mono fun b hb => by omega
        have hF := hC9.tb.fill hT8
        have hMf := hC9.md.far hC9.ne.symm 0 css
        have hBf := tn_below hC9.xl css 0 _ hC9.bl
        have hxl := hC9.xl
        have hml := hC9.ml
        have hne := hC9.ne
        clear hC9 hC8 hT9 hT8 hXt hTs2 hks hS5
        go_upto_region 23 with (first | (refine wpList_load_mid rfl 27 _ rfl w3.heap.size 0 rfl css _ hr9 huT rfl hscs.out ?_) | (refine wpList_store_mid rfl 27 _ _ rfl X 0 css.toArray rfl rfl (fun j hj => htt9 j (by rw [List.size_toArray, hlcs.out] at hj; exact hj)) (by rw [List.size_toArray]; exact hscs.out) hocs.out ?_; change wpList _ _ _ _ _ (World.setCells _ X 0 css)))
        generalize Wd.setCells X 0 css = We at hF hMf hBf ⊢
        by_cases hr0 : rd = 0
        · have hch2 := hch.out
          rw [upd_zero hr0] at hch2
          have hd0 : decide (0 < (rd : Int)) = false := by simp; omega
          go_upto_if 105 with fail
          go_wp2_with fail
          go_roundw
          case rel => exact ⟨k + 1, css, T1, m, by omega, by go_num, ⟨hF, hMf, hch2, hBf, hxl, hml, hne⟩, fun r => by have := hm.out r; omega⟩
          case measure => simp [intOf]; omega
        · have hch2 := hch.out
          rw [upd_pos hr0] at hch2
          have hd0 : decide (0 < (rd : Int)) = true := by simp; omega
          have cm := hMf.c rd hrd2
          have fm := hMf.t rd hrd2
          have hMp := hMf.put rd hrd2 (m rs)
          have hFp := hF.far hne (fun h => h.2 rfl) rd [.int .i64 (m rs)]
          have hBp := hBf.setCell (p := ⟨M, rd, none⟩) hml (.int .i64 (m rs))
          have hrd0 : (0 : Int) ≤ (rd : Int) := by omega
          go_upto_if 105 with fail
          go_wp2_with fail
          go_roundw
          case rel => exact ⟨k + 1, css, T1, _, by omega, by go_num, ⟨hFp, hMp, hch2, hBp, hxl, hml, hne⟩, fun r => by have := hm.out r; have := hm.out rs; show (if r = rd then _ else _) ≤ _; split <;> omega⟩
          case measure => simp [intOf]; omega
      · go_upto_region 16 with fail
        refine wp_region_list ?_
        simp only [List.toList_toArray]
        refine Go.Great.wpList_runTo rfl _ rfl (.int .i64 (rd : Int)) W6 (rfl) ?_
        simp only [Act.put, List.setIfInBounds_toArray, List.set_cons_zero, List.set_cons_succ]
        refine Go.Great.wpList_runTo rfl _ rfl (.int .i64 (rs : Int)) W6 (rfl) ?_
        simp only [Act.put, List.setIfInBounds_toArray, List.set_cons_zero, List.set_cons_succ]
        refine Go.Great.wpList_runTo rfl _ rfl (.agg #[.int .i64 14, .int .i64 (rd : Int), .int .i64 (rs : Int), .int .i64 0, .int .i64 0, .bool false, .bool false, .int .i64 0, .int .i64 0]) W6 (by kernel_rfl) ?_
        simp only [Act.put, List.setIfInBounds_toArray, List.set_cons_zero, List.set_cons_succ]
        refine Go.Great.wpList_runTo rfl _ rfl (.int .i64 (k : Int)) W6 (rfl) ?_
        simp only [Act.put, List.setIfInBounds_toArray, List.set_cons_zero, List.set_cons_succ]
        refine Go.Great.wpList_runTo rfl _ rfl (.int .i64 (k : Int)) W6 (rfl) ?_
        simp only [Act.put, List.setIfInBounds_toArray, List.set_cons_zero, List.set_cons_succ]
        refine Go.Great.wpList_runTo rfl _ rfl (.int .i64 (IntKind.i64.wrap ((k : Int) + 1))) W6 (by kernel_rfl) ?_
        simp only [Act.put, List.setIfInBounds_toArray, List.set_cons_zero, List.set_cons_succ]
        rw [hwk2]
        refine wpList_store_mid rfl 33 _ _ rfl W5.heap.size 0 #[.int .i64 14, .int .i64 (rd : Int), .int .i64 (rs : Int), .int .i64 0, .int .i64 0, .bool false, .bool false, .int .i64 0, .int .i64 0] rfl rfl (t9 hx _ _ _ _ _) sizeI_insn1 (i9_one _ _ _ _ _) ?_
        change wpList _ _ _ _ _ (World.setCells W6 W5.heap.size 0 [.int .i64 14, .int .i64 (rd : Int), .int .i64 (rs : Int), .int .i64 0, .int .i64 0, .bool false, .bool false, .int .i64 0, .int .i64 0])
        simp only [Act.put, List.setIfInBounds_toArray, List.set_cons_zero, List.set_cons_succ]
        have hb7 := tn_below (Nat.le_refl W5.heap.size) [.int .i64 14, .int .i64 (rd : Int), .int .i64 (rs : Int), .int .i64 0, .int .i64 0, .bool false, .bool false, .int .i64 0, .int .i64 0] 0 _ hb6
        replace hx := hx.fill (cs' := [.int .i64 14, .int .i64 (rd : Int), .int .i64 (rs : Int), .int .i64 0, .int .i64 0, .bool false, .bool false, .int .i64 0, .int .i64 0]) rfl
        generalize World.setCells W6 _ _ _ = W7 at hb7 hx ⊢
        go_upto_region 19 with fail
        have hC7 := hS5.keep hb7
        have hxr := hx.r
        have hst := Step_ok cs T _ (ldI rd rs) (k : Int) W7 hC7.tb.ts hC7.ch.short hC7.ch.ok (ld_ok ⟨by omega, by omega⟩ ⟨by omega, by omega⟩) (by omega) (by show (14 : Int) ≤ 9223372036854775807; decide) (hTb.out _ hC7.bl)
        rw [hC7.ch.way] at hst
        have hch := (hC7.ch.ld (k := k) hrd2 hrs2).1
        have had := (hC7.ch.ld (k := k) hrd2 hrs2).2
        rw [had] at hst
        clear had
        have hTl := hC7.tb.lt
        have hMl := hC7.md.lt
        have htr := hC7.tb.rt
        have hsc : Hid ((Tryd.prog.info? 27).map (·.size) = some cs.length) := Lib.hid (by rw [hC7.tb.ts.lc]; exact size_taint)
        generalize hT0 : stepT T (ldI rd rs) (k : Int) = T1 at hst hch
        clear hT0
        generalize hD0 : dataT T (ldI rd rs) = D1 at hst
        clear hD0
        have hSt : Hid (Calls Tryd.prog 10 #[.agg cs.toArray, .agg #[.int .i64 14, .int .i64 (rd : Int), .int .i64 (rs : Int), .int .i64 0, .int .i64 0, .bool false, .bool false, .int .i64 0, .int .i64 0], .int .i64 (k : Int)] W7 (StepPost W7 T1 (oneL (m rs)) D1 [])) := Lib.hid hst
        clear hst
        replace hC7 := Lib.hid hC7
        replace hch := Lib.hid hch
        clear hx hb7
        go_upto_region 20 with (first | (refine wpList_load_mid rfl 27 _ rfl X 0 rfl cs _ htr huT rfl hsc.out ?_) | (refine wpList_load_mid rfl 33 _ rfl W5.heap.size 0 rfl [.int .i64 14, .int .i64 (rd : Int), .int .i64 (rs : Int), .int .i64 0, .int .i64 0, .bool false, .bool false, .int .i64 0, .int .i64 0] _ hxr huI rfl sizeI_insn1 ?_) | (go_at_call 10; (with_reducible refine hSt.out.mono ?_); rintro e w3 ⟨css, vas, vds, vws, rfl, hTs, has, hds, hws, hbs⟩; have hzs := T0.new w3 #[.slice none 0 0, .slice none 0 0, .slice none 0 0, .slice none 0 0, .slice none 0 0, .slice none 0 0, .slice none 0 0, .slice none 0 0, .slice none 0 0, .slice none 0 0, .slice none 0 0, .slice none 0 0, .slice none 0 0, .slice none 0 0, .slice none 0 0, .slice none 0 0, .slice none 0 0, .slice none 0 0, .slice none 0 0, .slice none 0 0, .slice none 0 0, .slice none 0 0, .slice none 0 0, .slice none 0 0, .slice none 0 0, .slice none 0 0, .slice none 0 0, .slice none 0 0, .slice none 0 0, .slice none 0 0, .slice none 0 0, .slice none 0 0, .slice none 0 0] #[.slice none 0 0, .slice none 0 0, .slice none 0 0] 27 35 rfl rfl; have hys := hzs.cells w3.heap.size (Nat.le_refl _) css; have hfs := hzs.full hTs has hds hws; have hlcs := Lib.hid hTs.lc; have hss : Hid ((Tryd.prog.info? 27).map (·.size) = some css.toArray.size) := Lib.hid (by rw [List.size_toArray, hTs.lc]; exact size_taint); have hos : Hid (css.toArray.all (·.oneCell') = true) := Lib.hid (all_oneCell_toArray hTs.one); have hps : Hid ((#[vas, vds, vws] : Array Value).all (·.oneCell') = true) := Lib.hid (all_oneCell_toArray hfs.1.one)) | (refine wpList_store_mid rfl 27 _ _ rfl w3.heap.size 0 css.toArray rfl rfl (fun j hj => hzs.tt j (by rw [List.size_toArray, hlcs.out] at hj; exact hj)) hss.out hos.out ?_; change wpList _ _ _ _ _ (World.setCells _ w3.heap.size 0 css)) | (refine wpList_store_mid rfl 35 _ _ rfl (w3.heap.size + 1) 0 #[vas, vds, vws] rfl rfl (fun j hj => hys.td j hj) size_deps hps.out ?_; change wpList _ _ _ _ _ (World.setCells (World.setCells _ w3.heap.size 0 css) (w3.heap.size + 1) 0 [vas, vds, vws]); generalize ((((w3.alloc (.cells #[.slice none 0 0, .slice none 0 0, .slice none 0 0, .slice none 0 0, .slice none 0 0, .slice none 0 0, .slice none 0 0, .slice none 0 0, .slice none 0 0, .slice none 0 0, .slice none 0 0, .slice none 0 0, .slice none 0 0, .slice none 0 0, .slice none 0 0, .slice none 0 0, .slice none 0 0, .slice none 0 0, .slice none 0 0, .slice none 0 0, .slice none 0 0, .slice none 0 0, .slice none 0 0, .slice none 0 0, .slice none 0 0, .slice none 0 0, .slice none 0 0, .slice none 0 0, .slice none 0 0, .slice none 0 0, .slice none 0 0, .slice none 0 0, .slice none 0 0] 27)).alloc (.cells #[.slice none 0 0, .slice none 0 0, .slice none 0 0] 35)).setCells w3.heap.size 0 css).setCells (w3.heap.size + 1) 0 [vas, vds, vws]) = Ws at hfs ⊢))
        obtain ⟨hXs, hcs⟩ := hfs
        have hltX := Lib.hid hXs.lt
        have hks := Lib.hid (bl_step hbs hcs)
        have hC8 := Lib.hid (hC7.out.keep hks.out)
        have hTs2 := Lib.hid (hTs.below hcs)
        obtain ⟨Aw, cw, hvw, -⟩ := hXs.rx.form
        have cway : Ws.cell? ⟨w3.heap.size + 1, 2, none⟩ = some (.slice Aw 0 cw) := by have := hXs.rd 2 _ rfl; rw [Nat.zero_add, hvw] at this; exact this
        clear hvw
        have hXt := Lib.hid hXs.rt
        have hlcs := Lib.hid hXs.ts.lc
        have hocs : Hid (css.toArray.all (·.oneCell') = true) := Lib.hid (all_oneCell_toArray hXs.ts.one)
        have hscs : Hid ((Tryd.prog.info? 27).map (·.size) = some css.length) := Lib.hid (by rw [hXs.ts.lc]; exact size_taint)
        obtain ⟨Aa, ca, hva, -⟩ := hXs.ra.form
        have caddr : Ws.cell? ⟨w3.heap.size + 1, 0, none⟩ = some vas := by have := hXs.rd 0 _ rfl; rwa [Nat.zero_add] at this
        have cmod : Ws.cell? ⟨M, rs, none⟩ = some (.int .i64 (m rs)) := hC8.out.md.c rs hrs2
        have hSm : Hid (∀ n, Calls Tryd.prog 11 #[vas, .int .i64 (m rs)] (Ws.drewN n) fun e w' => e = .returned (.bool true) ∧ Ws.drewN n = w') := Lib.hid fun n => Same1_any vas (m rs) _ (Ws.drewN n) (hC8.out.ch.pos rs) (by have := hm.out rs; omega) ((hXs.ra.below (drewN_below Ws n)).rl)
        obtain rfl := hva
        clear hzs hys hss hos hps hTs has hds hws hbs hcs hC7 hsc htr hxr hXs
        go_quiet ((go_at_call 11; (with_reducible exact quiet_same (hSm.out _))))
        go_upto_region 22 with fail
        clear cway caddr cmod
        generalize hWd : Ws.drewN _ = Wd
        have hbd : Below Ws.heap.size Ws Wd := by rw [← hWd]; exact drewN_below Ws _
        clear hWd
        have hC9 := hC8.out.keep hbd
        have hT9 := hTs2.out.below hbd
        have hsz9 := (bl_step (bl_step hks.out hbd) (Below.refl _ _)).size
        have hr9 := tn_range hXt.out (by have := hks.out.size; have := hltX.out; omega) hbd
        have htt9 := hC9.tb.tt
        have hT8 : TS Wd (fun b => b ≠ X ∧ b ≠ M) css T1 := hT9.mono fun b hb => by omega
        have hF := hC9.tb.fill hT8
        have hMf := hC9.md.far hC9.ne.symm 0 css
        have hBf := tn_below hC9.xl css 0 _ hC9.bl
        have hxl := hC9.xl
        have hml := hC9.ml
        have hne := hC9.ne
        clear hC9 hC8 hT9 hT8 hXt hTs2 hks hS5
        go_upto_region 23 with (first | (refine wpList_load_mid rfl 27 _ rfl w3.heap.size 0 rfl css _ hr9 huT rfl hscs.out ?_) | (refine wpList_store_mid rfl 27 _ _ rfl X 0 css.toArray rfl rfl (fun j hj => htt9 j (by rw [List.size_toArray, hlcs.out] at hj; exact hj)) (by rw [List.size_toArray]; exact hscs.out) hocs.out ?_; change wpList _ _ _ _ _ (World.setCells _ X 0 css)))
        generalize Wd.setCells X 0 css = We at hF hMf hBf ⊢
        by_cases hr0 : rd = 0
        · have hch2 := hch.out
          rw [upd_zero hr0] at hch2
          have hd0 : decide (0 < (rd : Int)) = false := by simp; omega
          go_upto_if 105 with fail
          go_wp2_with fail
          go_roundw
          case rel => exact ⟨k + 1, css, T1, m, by omega, by go_num, ⟨hF, hMf, hch2, hBf, hxl, hml, hne⟩, fun r => by have := hm.out r; omega⟩
          case measure => simp [intOf]; omega
        · have hch2 := hch.out
          rw [upd_pos hr0] at hch2
          have hd0 : decide (0 < (rd : Int)) = true := by simp; omega
          have cm := hMf.c rd hrd2
          have fm := hMf.t rd hrd2
          have hMp := hMf.put rd hrd2 (((k : Int) + 1))
          have hFp := hF.far hne (fun h => h.2 rfl) rd [.int .i64 (((k : Int) + 1))]
          have hBp := hBf.setCell (p := ⟨M, rd, none⟩) hml (.int .i64 (((k : Int) + 1)))
          have hrd0 : (0 : Int) ≤ (rd : Int) := by omega
          go_upto_if 105 with fail
          go_wp2_with fail
          go_roundw
          case rel => exact ⟨k + 1, css, T1, _, by omega, by go_num, ⟨hFp, hMp, hch2, hBp, hxl, hml, hne⟩, fun r => by have := hm.out r; have := hm.out rs; show (if r = rd then _ else _) ≤ _; split <;> omega⟩
          case measure => simp [intOf]; omega
      · go_upto_region 18 with fail
        refine wp_region_list ?_
        simp only [List.toList_toArray]
        refine Go.Great.wpList_runTo rfl _ rfl (.int .i64 (rd : Int)) W6 (rfl) ?_
        simp only [Act.put, List.setIfInBounds_toArray, List.set_cons_zero, List.set_cons_succ]
        refine Go.Great.wpList_runTo rfl _ rfl (.agg #[.int .i64 1, .int .i64 (rd : Int), .int .i64 0, .int .i64 0, .int .i64 1, .bool false, .bool false, .int .i64 0, .int .i64 0]) W6 (by kernel_rfl) ?_
        simp only [Act.put, List.setIfInBounds_toArray, List.set_cons_zero, List.set_cons_succ]
        refine wpList_store_mid rfl 33 _ _ rfl W5.heap.size 0 #[.int .i64 1, .int .i64 (rd : Int), .int .i64 0, .int .i64 0, .int .i64 1, .bool false, .bool false, .int .i64 0, .int .i64 0] rfl rfl (t9 hx _ _ _ _ _) sizeI_insn1 (i9_one _ _ _ _ _) ?_
        change wpList _ _ _ _ _ (World.setCells W6 W5.heap.size 0 [.int .i64 1, .int .i64 (rd : Int), .int .i64 0, .int .i64 0, .int .i64 1, .bool false, .bool false, .int .i64 0, .int .i64 0])
        simp only [Act.put, List.setIfInBounds_toArray, List.set_cons_zero, List.set_cons_succ]
        have hb7 := tn_below (Nat.le_refl W5.heap.size) [.int .i64 1, .int .i64 (rd : Int), .int .i64 0, .int .i64 0, .int .i64 1, .bool false, .bool false, .int .i64 0, .int .i64 0] 0 _ hb6
        replace hx := hx.fill (cs' := [.int .i64 1, .int .i64 (rd : Int), .int .i64 0, .int .i64 0, .int .i64 1, .bool false, .bool false, .int .i64 0, .int .i64 0]) rfl
        generalize World.setCells W6 _ _ _ = W7 at hb7 hx ⊢
        go_upto_region 19 with fail
        have hC7 := hS5.keep hb7
        have hxr := hx.r
        have hst := Step_ok cs T _ (luiI rd) (-1) W7 hC7.tb.ts hC7.ch.short hC7.ch.ok (lui_ok ⟨by omega, by omega⟩) (by omega) (by show (1 : Int) ≤ 9223372036854775807; decide) (hTb.out _ hC7.bl)
        rw [hC7.ch.way] at hst
        have hch := (hC7.ch.lui hrd2)
        have hTl := hC7.tb.lt
        have hMl := hC7.md.lt
        have htr := hC7.tb.rt
        have hsc : Hid ((Tryd.prog.info? 27).map (·.size) = some cs.length) := Lib.hid (by rw [hC7.tb.ts.lc]; exact size_taint)
        generalize hT0 : stepT T (luiI rd) (-1) = T1 at hst hch
        clear hT0
        generalize hD0 : dataT T (luiI rd) = D1 at hst
        clear hD0
        generalize hA0 : addrT T (luiI rd) = D0 at hst
        clear hA0
        have hSt : Hid (Calls Tryd.prog 10 #[.agg cs.toArray, .agg #[.int .i64 1, .int .i64 (rd : Int), .int .i64 0, .int .i64 0, .int .i64 1, .bool false, .bool false, .int .i64 0, .int .i64 0], .int .i64 (-1)] W7 (StepPost W7 T1 D0 D1 [])) := Lib.hid hst
        clear hst
        replace hC7 := Lib.hid hC7
        replace hch := Lib.hid hch
        clear hx hb7
        go_upto_region 20 with (first | (refine wpList_load_mid rfl 27 _ rfl X 0 rfl cs _ htr huT rfl hsc.out ?_) | (refine wpList_load_mid rfl 33 _ rfl W5.heap.size 0 rfl [.int .i64 1, .int .i64 (rd : Int), .int .i64 0, .int .i64 0, .int .i64 1, .bool false, .bool false, .int .i64 0, .int .i64 0] _ hxr huI rfl sizeI_insn1 ?_) | (go_at_call 10; (with_reducible refine hSt.out.mono ?_); rintro e w3 ⟨css, vas, vds, vws, rfl, hTs, has, hds, hws, hbs⟩; have hzs := T0.new w3 #[.slice none 0 0, .slice none 0 0, .slice none 0 0, .slice none 0 0, .slice none 0 0, .slice none 0 0, .slice none 0 0, .slice none 0 0, .slice none 0 0, .slice none 0 0, .slice none 0 0, .slice none 0 0, .slice none 0 0, .slice none 0 0, .slice none 0 0, .slice none 0 0, .slice none 0 0, .slice none 0 0, .slice none 0 0, .slice none 0 0, .slice none 0 0, .slice none 0 0, .slice none 0 0, .slice none 0 0, .slice none 0 0, .slice none 0 0, .slice none 0 0, .slice none 0 0, .slice none 0 0, .slice none 0 0, .slice none 0 0, .slice none 0 0, .slice none 0 0] #[.slice none 0 0, .slice none 0 0, .slice none 0 0] 27 35 rfl rfl; have hys := hzs.cells w3.heap.size (Nat.le_refl _) css; have hfs := hzs.full hTs has hds hws; have hlcs := Lib.hid hTs.lc; have hss : Hid ((Tryd.prog.info? 27).map (·.size) = some css.toArray.size) := Lib.hid (by rw [List.size_toArray, hTs.lc]; exact size_taint); have hos : Hid (css.toArray.all (·.oneCell') = true) := Lib.hid (all_oneCell_toArray hTs.one); have hps : Hid ((#[vas, vds, vws] : Array Value).all (·.oneCell') = true) := Lib.hid (all_oneCell_toArray hfs.1.one)) | (refine wpList_store_mid rfl 27 _ _ rfl w3.heap.size 0 css.toArray rfl rfl (fun j hj => hzs.tt j (by rw [List.size_toArray, hlcs.out] at hj; exact hj)) hss.out hos.out ?_; change wpList _ _ _ _ _ (World.setCells _ w3.heap.size 0 css)) | (refine wpList_store_mid rfl 35 _ _ rfl (w3.heap.size + 1) 0 #[vas, vds, vws] rfl rfl (fun j hj => hys.td j hj) size_deps hps.out ?_; change wpList _ _ _ _ _ (World.setCells (World.setCells _ w3.heap.size 0 css) (w3.heap.size + 1) 0 [vas, vds, vws]); generalize ((((w3.alloc (.cells #[.slice none 0 0, .slice none 0 0, .slice none 0 0, .slice none 0 0, .slice none 0 0, .slice none 0 0, .slice none 0 0, .slice none 0 0, .slice none 0 0, .slice none 0 0, .slice none 0 0, .slice none 0 0, .slice none 0 0, .slice none 0 0, .slice none 0 0, .slice none 0 0, .slice none 0 0, .slice none 0 0, .slice none 0 0, .slice none 0 0, .slice none 0 0, .slice none 0 0, .slice none 0 0, .slice none 0 0, .slice none 0 0, .slice none 0 0, .slice none 0 0, .slice none 0 0, .slice none 0 0, .slice none 0 0, .slice none 0 0, .slice none 0 0, .slice none 0 0] 27)).alloc (.cells #[.slice none 0 0, .slice none 0 0, .slice none 0 0] 35)).setCells w3.heap.size 0 css).setCells (w3.heap.size + 1) 0 [vas, vds, vws]) = Ws at hfs ⊢))
        obtain ⟨hXs, hcs⟩ := hfs
        have hltX := Lib.hid hXs.lt
        have hks := Lib.hid (bl_step hbs hcs)
        have hC8 := Lib.hid (hC7.out.keep hks.out)
        have hTs2 := Lib.hid (hTs.below hcs)
        obtain ⟨Aw, cw, hvw, -⟩ := hXs.rx.form
        have cway : Ws.cell? ⟨w3.heap.size + 1, 2, none⟩ = some (.slice Aw 0 cw) := by have := hXs.rd 2 _ rfl; rw [Nat.zero_add, hvw] at this; exact this
        clear hvw
        have hXt := Lib.hid hXs.rt
        have hlcs := Lib.hid hXs.ts.lc
        have hocs : Hid (css.toArray.all (·.oneCell') = true) := Lib.hid (all_oneCell_toArray hXs.ts.one)
        have hscs : Hid ((Tryd.prog.info? 27).map (·.size) = some css.length) := Lib.hid (by rw [hXs.ts.lc]; exact size_taint)
        clear hzs hys hss hos hps hTs has hds hws hbs hcs hC7 hsc htr hxr hXs
        go_quiet (fail)
        go_upto_region 22 with fail
        clear cway
        generalize hWd : Ws.drewN _ = Wd
        have hbd : Below Ws.heap.size Ws Wd := by rw [← hWd]; exact drewN_below Ws _
        clear hWd
        have hC9 := hC8.out.keep hbd
        have hT9 := hTs2.out.below hbd
        have hsz9 := (bl_step (bl_step hks.out hbd) (Below.refl _ _)).size
        have hr9 := tn_range hXt.out (by have := hks.out.size; have := hltX.out; omega) hbd
        have htt9 := hC9.tb.tt
        have hT8 : TS Wd (fun b => b ≠ X ∧ b ≠ M) css T1 := hT9.mono fun b hb => by omega
        have hF := hC9.tb.fill hT8
        have hMf := hC9.md.far hC9.ne.symm 0 css
        have hBf := tn_below hC9.xl css 0 _ hC9.bl
        have hxl := hC9.xl
        have hml := hC9.ml
        have hne := hC9.ne
        clear hC9 hC8 hT9 hT8 hXt hTs2 hks hS5
        go_upto_region 23 with (first | (refine wpList_load_mid rfl 27 _ rfl w3.heap.size 0 rfl css _ hr9 huT rfl hscs.out ?_) | (refine wpList_store_mid rfl 27 _ _ rfl X 0 css.toArray rfl rfl (fun j hj => htt9 j (by rw [List.size_toArray, hlcs.out] at hj; exact hj)) (by rw [List.size_toArray]; exact hscs.out) hocs.out ?_; change wpList _ _ _ _ _ (World.setCells _ X 0 css)))
        generalize Wd.setCells X 0 css = We at hF hMf hBf ⊢
        by_cases hr0 : rd = 0
        · have hch2 := hch.out
          rw [upd_zero hr0] at hch2
          have hd0 : decide (0 < (rd : Int)) = false := by simp; omega
          go_upto_if 105 with fail
          go_wp2_with fail
          go_roundw
          case rel => exact ⟨k + 1, css, T1, m, by omega, by go_num, ⟨hF, hMf, hch2, hBf, hxl, hml, hne⟩, fun r => by have := hm.out r; omega⟩
          case measure => simp [intOf]; omega
        · have hch2 := hch.out
          rw [upd_pos hr0] at hch2
          have hd0 : decide (0 < (rd : Int)) = true := by simp; omega
          have cm := hMf.c rd hrd2
          have fm := hMf.t rd hrd2
          have hMp := hMf.put rd hrd2 (0)
          have hFp := hF.far hne (fun h => h.2 rfl) rd [.int .i64 (0)]
          have hBp := hBf.setCell (p := ⟨M, rd, none⟩) hml (.int .i64 (0))
          have hrd0 : (0 : Int) ≤ (rd : Int) := by omega
          go_upto_if 105 with fail
          go_wp2_with fail
          go_roundw
          case rel => exact ⟨k + 1, css, T1, _, by omega, by go_num, ⟨hFp, hMp, hch2, hBp, hxl, hml, hne⟩, fun r => by have := hm.out r; have := hm.out rs; show (if r = rd then _ else _) ≤ _; split <;> omega⟩
          case measure => simp [intOf]; omega
    · obtain rfl : k = F.length := by omega
      have hd : decide ((F.length : Int) < (F.length : Int)) = false := by simp
      clear hrF hrl hTb
      go_upto_region 25 with fail
      go_upto_region 26 with fail
      go_loopw [17] (fun i w2 => ∃ r : Nat, r ≤ 32 ∧ i = .int .i64 r ∧ ∃ q, w2 = wr.drewN q) (fun i _ => 32 - (intOf i).toNat)
      case atStart => exact ⟨0, Nat.zero_le _, rfl, 0, rfl⟩
      case round =>
        obtain ⟨r, hr, rfl, q, rfl⟩ := hrel
        by_cases hlr : r < 32
        · obtain ⟨Wq, hWq⟩ : ∃ W, W = wr.drewN q := ⟨_, rfl⟩
          have hCq : CL w Wq X M cs T m := by rw [hWq]; exact hC.keep (drewN_below wr q)
          rw [← hWq]
          replace hWq := Lib.hid hWq
          obtain ⟨v, cv, rv⟩ := hCq.tb.reg r (by omega)
          rw [hC.ch.reg r hlr] at rv
          have cm := hCq.md.c r hlr
          clear hCq
          have hSm : Hid (∀ n, Calls Tryd.prog 11 #[v, .int .i64 (m r)] (Wq.drewN n) fun e w' => e = .returned (.bool true) ∧ Wq.drewN n = w') := Lib.hid fun n => Same1_any v (m r) _ _ (hC.ch.pos r) (by have := hm r; omega) (rv.below (drewN_below Wq n)).rl
          have hr1 : (0 : Int) ≤ (r : Int) ∧ (r : Int) < 32 := by omega
          obtain ⟨hr1, hr2⟩ := hr1
          obtain ⟨Av, cav, hva, -⟩ := rv.form
          have hvb := Lib.hid hva
          clear rv
          replace hC := Lib.hid hC
          replace hm := Lib.hid hm
          subst hva
          go_upto_region 28 with fail
          go_quiet ((go_at_call 11; (with_reducible exact quiet_same (hSm.out _))))
          go_wp2_with fail
          go_roundw
          case rel => exact ⟨r + 1, by omega, by go_num, by rw [hWq.out]; exact drew_ex _ _ _⟩
          case measure => simp [intOf]; omega
        · obtain rfl : r = 32 := by omega
          obtain ⟨v, cv, rv⟩ := hC.tb.reg 32 (by decide)
          rw [hC.ch.way] at rv
          obtain ⟨Av, cav, hva, -⟩ := rv.form
          rw [show ([] : List Int).length = 0 from rfl] at hva
          subst hva
          have hbl := hC.bl
          clear rv
          replace hC := Lib.hid hC
          go_wp2_with fail
          go_ret
          exact ⟨rfl, hbl.trans (drewN_below _ _ |>.mono hbl.size)⟩
/-- TaintChains, whatever the lists. -/
theorem TaintChains_any (a b : Value) (F : List (Int × Int)) (l : List Int) (w : World) (ha : PL w a F) (hb : RL w w.heap.size b l) (ht : Tabs w) :
    Calls Tryd.prog 3 #[a, b] w fun e w' => e = .returned (.bool true) ∧ Below w.heap.size w w' := by
  cases hL : longC F l
  · exact Chains_short a b F l w ha hb ht hL
  · exact Chains_long a b F l w ha hb ht hL
end Go.Proofs.YtebeajnaamglkaaDoor
