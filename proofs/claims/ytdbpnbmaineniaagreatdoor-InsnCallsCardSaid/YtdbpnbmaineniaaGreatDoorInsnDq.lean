/- What the document's Named, Reads and Writes answer is what the program's do. Conditions: none. -/
import Derived.Test.YtdbpnbmaineniaaGreatDoorInsnRe
import Derived.Test.YtdbpnbmaineniaaGreatDoorHartS
import Derived.Test.YtdbpnbmaineniaaGreatDoorReadD
import Derived.Test.YtdbpnbmaineniaaGreatDoorNamedPl
set_option linter.unusedSimpArgs false
set_option linter.unusedVariables false
namespace Go.Proofs.YtdbpnbmaineniaaGreatDoor
open Go.RowKit
theorem named_eq (s : ByteArray) : ((namedN s : Nat) : Int) = namedOf s.toList := by
  rcases named_spec s.toList with h0 | ⟨h1, h2, h3⟩
  · rw [h0]
    have : namedN s = 0 := named_none fun j h1 hj hn => by
      rw [rnames_at j hj] at hn
      have := named_name j (by omega)
      rw [Option.some.inj hn, h0] at this
      omega
    rw [this]; rfl
  · obtain ⟨m, hm⟩ := Int.eq_ofNat_of_zero_le (show 0 ≤ namedOf s.toList by omega)
    rw [hm] at h1 h2 h3 ⊢
    have : namedN s = m := named_at (by omega) (by omega) (by rw [rnames_at m (by omega), h3]) fun j j1 j2 hn => by
      rw [rnames_at j (by omega)] at hn
      have := named_name j (by omega)
      rw [Option.some.inj hn, hm] at this
      omega
    rw [this]
theorem risingF_cons {c x : Int} {l : List Int} : risingF c (x :: l) = true ↔ c < x ∧ risingF x l = true := by simp [risingF]
theorem risingF_lo : ∀ {l : List Int} {c x : Int}, risingF c l = true → x ∈ l → c < x
  | [], _, _, _, hx => absurd hx (by simp)
  | y :: l, c, x, h, hx => by
    rw [risingF_cons] at h
    rcases List.mem_cons.1 hx with rfl | hx
    · exact h.1
    · have := risingF_lo h.2 hx; omega
theorem rising_ext : ∀ (l m : List Int) (c : Int), risingF c l = true → risingF c m = true → (∀ x, x ∈ l ↔ x ∈ m) → l = m
  | [], [], _, _, _, _ => rfl
  | [], y :: m, _, _, _, h => absurd ((h y).2 (by simp)) (by simp)
  | y :: l, [], _, _, _, h => absurd ((h y).1 (by simp)) (by simp)
  | y :: l, z :: m, c, hl, hm, h => by
    rw [risingF_cons] at hl hm
    have e : y = z := by
      have h1 := (h y).1 (by simp)
      have h2 := (h z).2 (by simp)
      rcases List.mem_cons.1 h1 with h1 | h1
      · exact h1
      · rcases List.mem_cons.1 h2 with h2 | h2
        · exact h2.symm
        · have := risingF_lo hl.2 h2; have := risingF_lo hm.2 h1; omega
    subst e
    rw [rising_ext l m y hl.2 hm.2 fun x => ⟨fun hx => ?_, fun hx => ?_⟩]
    · have := risingF_lo hl.2 hx
      rcases List.mem_cons.1 ((h x).1 (by simp [hx])) with e | e
      · omega
      · exact e
    · have := risingF_lo hm.2 hx
      rcases List.mem_cons.1 ((h x).2 (by simp [hx])) with e | e
      · omega
      · exact e
theorem compact2 (a b : Int) : Lib.compact [a, b] = if a = b then [a] else [a, b] := by
  unfold Lib.compact Lib.compactUpTo
  by_cases h : a = b
  · subst h; simp [List.range_succ, Lib.keeps]
  · simp [List.range_succ, Lib.keeps, h, fun e => h (Eq.symm e), eq_comm]
/-- What is read: ascending, each among the registers, at most two. -/
theorem reads_form (i : InsnV) (h : checkE i = 0) : readsP i = [] ∨ (∃ x, readsP i = [x] ∧ 1 ≤ x ∧ x ≤ 31 ∧ (i.op = 64 ∨ x = i.rs1 ∨ x = i.rs2)) ∨
    ∃ x y, readsP i = [x, y] ∧ 1 ≤ x ∧ x < y ∧ y ≤ 31 ∧ (i.op = 64 ∨ x = i.rs1 ∨ x = i.rs2) ∧ (i.op = 64 ∨ y = i.rs1 ∨ y = i.rs2) := by
  obtain ⟨-, r1, r2, -⟩ := ok_facts i h
  unfold readsP
  by_cases h64 : i.op = 64
  · rw [if_pos h64, ms2, if_pos (by decide), compact2, if_neg (by decide)]
    exact .inr (.inr ⟨10, 17, rfl, by decide, by decide, by decide, .inl h64, .inl h64⟩)
  · rw [if_neg h64, ms2]
    generalize i.rs1 = a at *
    generalize i.rs2 = b at *
    have key : ∀ x y : Int, 0 ≤ x → x ≤ y → y ≤ 31 → (x = a ∨ x = b) → (y = a ∨ y = b) → (Lib.compact [x, y]).filter (fun x => !(x == 0)) = [] ∨ (∃ z, (Lib.compact [x, y]).filter (fun x => !(x == 0)) = [z] ∧ 1 ≤ z ∧ z ≤ 31 ∧ (i.op = 64 ∨ z = a ∨ z = b)) ∨
        ∃ z t, (Lib.compact [x, y]).filter (fun x => !(x == 0)) = [z, t] ∧ 1 ≤ z ∧ z < t ∧ t ≤ 31 ∧ (i.op = 64 ∨ z = a ∨ z = b) ∧ (i.op = 64 ∨ t = a ∨ t = b) := by
      intro x y h0 hxy h31 hx hy
      rw [compact2]
      by_cases e : x = y
      · rw [if_pos e]
        by_cases z : x = 0
        · exact .inl (by simp [z])
        · exact .inr (.inl ⟨x, by simp [z], by omega, by omega, .inr hx⟩)
      · rw [if_neg e]
        by_cases z : x = 0
        · exact .inr (.inl ⟨y, by simp [z, show y ≠ 0 by omega], by omega, by omega, .inr hy⟩)
        · exact .inr (.inr ⟨x, y, by simp [z, show y ≠ 0 by omega], by omega, by omega, by omega, .inr hx, .inr hy⟩)
    by_cases hab : a ≤ b
    · rw [if_pos hab]; exact key a b r1.1 hab r2.2 (.inl rfl) (.inr rfl)
    · rw [if_neg hab]; exact key b a r2.1 (by omega) r1.2 (.inr rfl) (.inl rfl)
theorem mem_readsK (i : InsnV) (k : Nat) (x : Int) : x ∈ readsK i k ↔ 1 ≤ x ∧ x ≤ k ∧ (x = i.rs1 ∨ x = i.rs2) := by
  unfold readsK
  rw [List.mem_map]
  constructor
  · rintro ⟨q, hq, rfl⟩
    obtain ⟨h1, h2⟩ := List.mem_filter.1 hq
    have := List.mem_range.1 h1
    simp at h2
    omega
  · rintro ⟨h1, h2, h3⟩
    refine ⟨(x - 1).toNat, List.mem_filter.2 ⟨List.mem_range.2 (by omega), ?_⟩, by omega⟩
    simp
    omega
theorem readsK_rising (i : InsnV) : ∀ k, risingF 0 (readsK i k) = true := by
  intro k
  have key : ∀ (l : List Nat) (a : Nat), (∀ x ∈ l, a ≤ x) → l.Pairwise (· < ·) → risingF (a : Int) (l.map fun q : Nat => (q : Int) + 1) = true := by
    intro l
    induction l with
    | nil => intro a _ _; rfl
    | cons x l ih =>
      intro a h1 h2
      rw [List.map_cons, risingF_cons]
      have hx := h1 x (by simp)
      refine ⟨by omega, ?_⟩
      have h3 := List.pairwise_cons.1 h2
      have := ih (x + 1) (fun y hy => h3.1 y hy) h3.2
      rw [show ((x + 1 : Nat) : Int) = (x : Int) + 1 by omega] at this
      exact this
  unfold readsK
  exact key _ 0 (fun x _ => Nat.zero_le _) (List.Pairwise.filter _ List.pairwise_lt_range)
theorem readsL_eqP (i : InsnV) (h : checkE i = 0) : readsL i = readsP i := by
  by_cases h64 : i.op = 64
  · unfold readsL readsP
    rw [if_pos h64, if_pos h64, ms2, if_pos (by decide), compact2, if_neg (by decide)]
    rfl
  · have hf := ok_facts i h
    have hL : readsL i = readsK i 31 := by unfold readsL; rw [if_neg h64]
    rw [hL]
    have hm : ∀ x, x ∈ readsP i ↔ x ≠ 0 ∧ (x = i.rs1 ∨ x = i.rs2) := fun x => by
      unfold readsP
      rw [if_neg h64, List.mem_filter, ms2]
      by_cases hab : i.rs1 ≤ i.rs2
      · rw [if_pos hab, compact2]
        by_cases e : i.rs1 = i.rs2
        · rw [if_pos e]; simp; omega
        · rw [if_neg e]; simp; omega
      · rw [if_neg hab, compact2, if_neg (by omega)]; simp; omega
    have hP : risingF 0 (readsP i) = true := by
      rcases reads_form i h with e | ⟨y, e, y1, y2, y3⟩ | ⟨y, z, e, y1, y2, y3, y4, y5⟩
      · rw [e]; rfl
      · rw [e, risingF_cons]; exact ⟨by omega, rfl⟩
      · rw [e, risingF_cons, risingF_cons]; exact ⟨by omega, by omega, rfl⟩
    refine rising_ext _ _ 0 (readsK_rising i 31) hP fun x => ?_
    rw [mem_readsK, hm]
    constructor
    · rintro ⟨h1, h2, h3⟩; exact ⟨by omega, h3⟩
    · rintro ⟨h1, h3⟩; exact ⟨by omega, by omega, h3⟩
set_option maxRecDepth 100000 in
set_option maxHeartbeats 2000000 in
theorem R2Writes_no (i : InsnV) (hc : checkE i ≠ 0) (w : World) : Calls Tryz.prog 43 #[.agg i.cells] w (fun e w' => e = .returned (.int .i64 0) ∧ Below w.heap.size w w') := by
  have hK := Lib.hid (fun W => R2Check_any i W)
  have h2 : checkE i = 2 := by unfold checkE at hc ⊢; cases hk : checkOk i <;> simp_all
  rw [h2] at hK
  have hu := Tryz.underlying23
  have hi : Hid ((Tryz.prog.info? 23).map (·.size) = some i.cells.toList.length) := Lib.hid (by kernel_rfl)
  have hr : (w.alloc (.cells i.cells 23)).rangeAt w.heap.size 0 i.cells.toList := fun j v hv => by rw [World.cell?_alloc_new, Nat.zero_add]; simpa using hv
  clear hc h2
  have hB : Below w.heap.size w (w.alloc (.cells i.cells 23)) := (Below.refl _ _).alloc (Nat.le_refl _) _
  generalize i.cells = cs at *
  go_enter Tryz.func43, Tryz.ntmps43
  go_wp2_with (first | (refine wpList_load_mid rfl 23 _ rfl w.heap.size 0 rfl cs.toList _ hr hu rfl hi.out ?_) | (go_at_call 38; refine (hK.out _).mono ?_; rintro e w1 ⟨rfl, hb1⟩; replace hB := hB.trans (hb1.mono hB.size)))
  go_ret
  exact ⟨rfl, hB⟩
set_option maxRecDepth 100000 in
set_option maxHeartbeats 2000000 in
theorem R2Reads_no (i : InsnV) (hc : checkE i ≠ 0) (w : World) : Calls Tryz.prog 44 #[.agg i.cells] w (ReadsPost w []) := by
  have hK := Lib.hid (fun W => R2Check_any i W)
  have h2 : checkE i = 2 := by unfold checkE at hc ⊢; cases hk : checkOk i <;> simp_all
  rw [h2] at hK
  have hu := Tryz.underlying23
  have hi : Hid ((Tryz.prog.info? 23).map (·.size) = some i.cells.toList.length) := Lib.hid (by kernel_rfl)
  have hr : (w.alloc (.cells i.cells 23)).rangeAt w.heap.size 0 i.cells.toList := fun j v hv => by rw [World.cell?_alloc_new, Nat.zero_add]; simpa using hv
  clear hc h2
  have hB : Below w.heap.size w (w.alloc (.cells i.cells 23)) := (Below.refl _ _).alloc (Nat.le_refl _) _
  generalize i.cells = cs at *
  go_enter Tryz.func44, Tryz.ntmps44
  go_wp2_with (first | (refine wpList_load_mid rfl 23 _ rfl w.heap.size 0 rfl cs.toList _ hr hu rfl hi.out ?_) | (go_at_call 38; refine (hK.out _).mono ?_; rintro e w1 ⟨rfl, hb1⟩; replace hB := hB.trans (hb1.mono hB.size)))
  go_ret
  exact ⟨_, rfl, RL.nil _ _, hB⟩
theorem R2Writes_any (i : InsnV) (w : World) : Calls Tryz.prog 43 #[.agg i.cells] w fun e w' => e = .returned (.int .i64 (if checkE i = 0 then i.rd else 0)) ∧ Below w.heap.size w w' := by
  by_cases hc : checkE i = 0
  · rw [if_pos hc]; exact R2Writes_ok i hc w
  · rw [if_neg hc]; exact R2Writes_no i hc w
theorem R2Reads_any (i : InsnV) (w : World) : Calls Tryz.prog 44 #[.agg i.cells] w (ReadsPost w (if checkE i = 0 then readsP i else [])) := by
  by_cases hc : checkE i = 0
  · rw [if_pos hc, ← readsL_eqP i hc]
    refine (Reads_any i hc w).mono fun e w' hh => ?_
    obtain ⟨v, e1, e2⟩ := hh.ret
    exact ⟨v, e1, RL.of_own e2 rfl, hh.below⟩
  · rw [if_neg hc]; exact R2Reads_no i hc w
end Go.Proofs.YtdbpnbmaineniaaGreatDoor
