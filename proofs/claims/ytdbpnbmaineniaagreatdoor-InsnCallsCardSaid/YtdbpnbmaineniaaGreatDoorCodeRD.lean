/- Plain: whatever instruction's text is read back as that instruction. No program in sight. Plain: the lines of a dump. No program in sight. Conditions: as each theorem says. -/
import Derived.Test.YtdbpnbmaineniaaGreatDoorTextAB
import Derived.Test.YtdbpnbmaineniaaGreatDoorReadAD
import Derived.Test.YtdbpnbmaineniaaGreatDoorInsnDf
import Derived.Test.YtdbpnbmaineniaaGreatDoorCodeHX
import Derived.Test.YtdbpnbmaineniaaGreatDoorCodePn
import Derived.Test.YtdbpnbmaineniaaGreatDoorShapePl
set_option linter.unusedSimpArgs false
set_option linter.unusedVariables false
namespace Go.Proofs.YtdbpnbmaineniaaGreatDoor
theorem bs_data (l : List UInt8) : (bs l).data.toList = l := by simp [bs]
theorem bs_extract (l : List UInt8) (a b : Nat) : (bs l).extract a b = bs ((l.drop a).take (b - a)) := by
  apply ByteArray.ext
  apply Array.toList_inj.1
  rw [ByteArray.data_extract, Array.toList_extract]
  simp [bs, List.extract]
theorem stop_app (t a : List UInt8) (r : List UInt8) (ha : ∀ c ∈ a, t.contains c = false) (hr : r = [] ∨ ∃ c q, r = c :: q ∧ t.contains c = true) : stopB (bs t) (bs (a ++ r)) = a.length := by
  unfold stopB
  rw [bs_data, bs_data, List.findIdx_append]
  have h1 : a.findIdx (fun c => t.contains c) = a.length := List.findIdx_eq_length_of_false ha
  rw [h1, if_neg (Nat.lt_irrefl _)]
  rcases hr with rfl | ⟨c, q, rfl, hc⟩
  · simp
  · rw [List.findIdx_cons, hc]; simp
theorem take_head (a r : List UInt8) (n : Nat) (hn : n = a.length) : ((a ++ r).drop 0).take (n - 0) = a := by subst hn; simp
theorem take_rest (a r : List UInt8) : ((a ++ r).drop a.length).take ((a ++ r).length - a.length) = r := by simp
def signsT : List UInt8 := [44, 32, 40, 41]
theorem signsB_eq : signsB = bs signsT := rfl
/-- What may follow a number. -/
def Stops (r : List UInt8) : Prop := r = [] ∨ ∃ c q, r = c :: q ∧ signsT.contains c = true
def Plain (a : List UInt8) : Prop := ∀ c ∈ a, signsT.contains c = false
theorem head_app {a r : List UInt8} (ha : Plain a) (hr : Stops r) : headB (bs (a ++ r)) = bs a ∧ restB (bs (a ++ r)) = bs r := by
  unfold headB restB
  rw [signsB_eq, stop_app signsT a r ha hr, bs_size, bs_extract, bs_extract]
  exact ⟨by rw [take_head a r _ rfl], by rw [take_rest]⟩
theorem eat_app (t r : List UInt8) (b : Bool) : eatB (bs t) (bs (t ++ r), b) = (bs r, b) := by
  unfold eatB
  have e : ((bs (t ++ r)).extract 0 t.length).toList = t := by rw [bs_extract, take_head t r _ rfl, bs_toList]
  simp only [bs_size]
  rw [if_pos ⟨by simp, by rw [e, bs_toList]⟩, bs_extract, take_rest]
theorem dig_one (m : Nat) (h : m < 10) : isDig (UInt8.ofNat (48 + m)) = true ∧ (UInt8.ofNat (48 + m)).toNat = 48 + m ∧ signsT.contains (UInt8.ofNat (48 + m)) = false := by
  have : ∀ m : Fin 10, isDig (UInt8.ofNat (48 + m.1)) = true ∧ (UInt8.ofNat (48 + m.1)).toNat = 48 + m.1 ∧ signsT.contains (UInt8.ofNat (48 + m.1)) = false := by decide +kernel
  exact this ⟨m, h⟩
theorem digF_good : ∀ (k n : Nat), n < 10 ^ (k + 1) → (∀ c ∈ digF k n, isDig c = true ∧ signsT.contains c = false) ∧ valN (digF k n) = n
  | 0, n, h => by
    have hd := dig_one (n % 10) (by omega)
    unfold digF
    refine ⟨fun c hc => ?_, ?_⟩
    · rw [List.mem_singleton] at hc; subst hc; exact ⟨hd.1, hd.2.2⟩
    · unfold valN; rw [List.foldl_cons, List.foldl_nil, hd.2.1]; rw [Nat.zero_add, Nat.pow_one] at h; omega
  | k + 1, n, h => by
    have hd := dig_one (n % 10) (by omega)
    unfold digF
    by_cases h9 : 9 < n
    · rw [if_pos h9]
      obtain ⟨g1, g2⟩ := digF_good k (n / 10) (by rw [Nat.pow_succ] at h; omega)
      refine ⟨fun c hc => ?_, ?_⟩
      · rw [List.mem_append, List.mem_singleton] at hc
        rcases hc with hc | rfl
        · exact g1 c hc
        · exact ⟨hd.1, hd.2.2⟩
      · unfold valN at g2 ⊢
        rw [List.foldl_append, g2, List.foldl_cons, List.foldl_nil, hd.2.1]; omega
    · rw [if_neg h9]
      refine ⟨fun c hc => ?_, ?_⟩
      · rw [List.mem_singleton] at hc; subst hc; exact ⟨hd.1, hd.2.2⟩
      · unfold valN; rw [List.foldl_cons, List.foldl_nil, hd.2.1]; omega
theorem digF_pos : ∀ (k n : Nat), 1 ≤ (digF k n).length
  | 0, n => by simp [digF]
  | k + 1, n => by unfold digF; split <;> simp
theorem digN_small (n : Nat) (h : n < 1000000000) : digN n = digF 8 n := by
  have key : ∀ j : Nat, digF (8 + j) n = digF 8 n := fun j => by
    induction j with
    | zero => rfl
    | succ j ih =>
      rw [← Nat.add_assoc, digF_le (8 + j) n (Nat.lt_of_lt_of_le (show n < 10 ^ 9 from h) (Nat.pow_le_pow_right (by decide) (by omega))), ih]
  exact key 12
theorem digN_good (n : Nat) (h : n < 1000000000) : (∀ c ∈ digN n, isDig c = true) ∧ Plain (digN n) ∧ valN (digN n) = n ∧ 1 ≤ (digN n).length ∧ (digN n).length ≤ 9 := by
  rw [digN_small n h]
  obtain ⟨g1, g2⟩ := digF_good 8 n h
  exact ⟨fun c hc => (g1 c hc).1, fun c hc => (g1 c hc).2, g2, digF_pos 8 n, digF_len 8 n⟩
theorem val_dig (n : Nat) (h : n < 1000000000) : valB (bs (digN n)) = ((n : Int), true) := by
  obtain ⟨g1, g2, g3, g4, g5⟩ := digN_good n h
  unfold valB
  rw [bs_size, bs_data, if_pos ⟨g4, g5, List.all_eq_true.2 g1⟩, g3]
theorem reg_app (n : Int) (r : List UInt8) (b : Bool) (h0 : 0 ≤ n) (h1 : n < 1000000000) (hr : Stops r) : regB (bs (regT n ++ r), b) = (n, bs r, b) := by
  unfold regB regT
  have e : eatB { data := #[120] } (bs (120 :: digN n.toNat ++ r), b) = (bs (digN n.toNat ++ r), b) := eat_app [120] (digN n.toNat ++ r) b
  simp only [e]
  obtain ⟨-, g2, -⟩ := digN_good n.toNat (by omega)
  obtain ⟨q1, q2⟩ := head_app g2 hr
  rw [q1, q2, val_dig n.toNat (by omega)]
  simp; omega
theorem head_digit {l : List UInt8} (h : ∀ c ∈ l, isDig c = true) (h1 : 1 ≤ l.length) (r : List UInt8) : ((l ++ r).headD 0 == 45) = false := by
  cases l with
  | nil => cases h1
  | cons c q =>
    have := h c (by simp)
    show (c == 45) = false
    cases hc : c == 45 with
    | false => rfl
    | true => rw [beq_iff_eq] at hc; subst hc; exact absurd this (by decide)
theorem drop_first (c : UInt8) (l : List UInt8) : (bs (c :: l)).extract 1 (c :: l).length = bs l := by rw [bs_extract]; simp
theorem imm_app (n : Int) (r : List UInt8) (b : Bool) (h0 : -1000000000 < n) (h1 : n < 1000000000) (hr : Stops r) : immB (bs (signL n ++ r), b) = (n, bs r, b) := by
  obtain ⟨g1, g2, -, g4, -⟩ := digN_good n.natAbs (by omega)
  obtain ⟨q1, q2⟩ := head_app g2 hr
  unfold immB signL
  simp only [bs_size, bs_data]
  by_cases hn : n < 0
  · rw [if_pos hn]
    have hm : (decide (0 < (45 :: digN n.natAbs ++ r).length) && ((45 :: digN n.natAbs ++ r).headD 0 == 45)) = true := by simp
    rw [hm]
    have e : (bs (45 :: digN n.natAbs ++ r)).extract 1 (45 :: digN n.natAbs ++ r).length = bs (digN n.natAbs ++ r) := by rw [List.cons_append]; exact drop_first _ _
    simp only [e, if_true]
    rw [q1, q2, val_dig n.natAbs (by omega)]
    simp; omega
  · rw [if_neg hn, head_digit g1 g4 r]
    simp only [Bool.and_false, Bool.false_eq_true, if_false]
    rw [q1, q2, val_dig n.natAbs (by omega)]
    simp; omega
theorem part_known : ∀ n : Fin 16, whichB (bs (partT n.1)) = n.1 ∧ ∀ c ∈ partT n.1, signsT.contains c = false := by decide +kernel
theorem part_app (n : Int) (r : List UInt8) (b : Bool) (h0 : 0 ≤ n) (h1 : n ≤ 15) (hr : Stops r) : partB (bs (partT n.toNat ++ r), b) = (n, bs r, b) := by
  obtain ⟨k1, k2⟩ := part_known ⟨n.toNat, by omega⟩
  obtain ⟨q1, q2⟩ := head_app k2 hr
  unfold partB
  simp only [q1, q2]
  rw [show whichB (bs (partT n.toNat)) = n.toNat from k1, if_pos (by omega)]
  rw [Int.toNat_of_nonneg h0]
/-- An operation's name with its flags. -/
def headF (op : Int) (aq rl : Bool) : List UInt8 := headT ⟨op, 0, 0, 0, 0, aq, rl, 0, 0⟩
theorem headT_isF (i : InsnV) : headT i = headF i.op i.aq i.rl := rfl
theorem head_known : ((List.range 88).all fun n => n == 0 || ([true, false].all fun a => [true, false].all fun r => opB (bs (headF (n : Nat) a r)) 4 == ((n : Int), a, r) && ((headF (n : Nat) a r).all fun c => c != 32))) = true := by decide +kernel
theorem head_at (op : Int) (aq rl : Bool) (h1 : 1 ≤ op) (h2 : op ≤ 87) : opB (bs (headF op aq rl)) 4 = (op, aq, rl) ∧ ∀ c ∈ headF op aq rl, ([32] : List UInt8).contains c = false := by
  obtain ⟨m, rfl⟩ := Int.eq_ofNat_of_zero_le (show 0 ≤ op by omega)
  have := List.all_eq_true.1 head_known m (List.mem_range.2 (by omega))
  simp only [List.all_cons, List.all_nil, Bool.and_true, Bool.and_eq_true, Bool.or_eq_true, beq_iff_eq] at this
  rcases this with h0 | ⟨⟨h3, h4⟩, h5, h6⟩
  · omega
  · have key : ∀ l : List UInt8, (l.all fun c => c != 32) = true → ∀ c ∈ l, ([32] : List UInt8).contains c = false := fun l hl c hc => by
      have := List.all_eq_true.1 hl c hc
      simpa using this
    cases aq <;> cases rl
    · exact ⟨h6.1, key _ h6.2⟩
    · exact ⟨h5.1, key _ h5.2⟩
    · exact ⟨h4.1, key _ h4.2⟩
    · exact ⟨h3.1, key _ h3.2⟩
-- form by form
theorem spB_eq : spB = bs [32] := rfl
theorem pre_some (i : InsnV) (h1 : 1 ≤ i.op) (h2 : i.op ≤ 87) (tail : List UInt8) (hf : rform i.op ≠ 10) : preB (bs (headT i ++ ([32] ++ tail))) = fieldsB (rform i.op) (opI (i.op, i.aq, i.rl)) (bs tail, false) := by
  obtain ⟨k1, k2⟩ := head_at i.op i.aq i.rl h1 h2
  rw [← headT_isF] at k1 k2
  have hs : stopB spB (bs (headT i ++ ([32] ++ tail))) = (headT i).length := stop_app [32] _ _ k2 (.inr ⟨32, tail, rfl, by decide⟩)
  unfold preB
  simp only [hs]
  rw [bs_extract, bs_extract, take_head (headT i) _ _ rfl, bs_size, take_rest, k1]
  simp only
  rw [if_neg hf, spB_eq, eat_app]
theorem pre_sys (i : InsnV) (h1 : 1 ≤ i.op) (h2 : i.op ≤ 87) (hf : rform i.op = 10) : preB (bs (headT i)) = (opI (i.op, i.aq, i.rl), (bs [], false)) := by
  obtain ⟨k1, k2⟩ := head_at i.op i.aq i.rl h1 h2
  rw [← headT_isF] at k1 k2
  have hs : stopB spB (bs (headT i ++ [])) = (headT i).length := stop_app [32] _ _ k2 (.inl rfl)
  rw [List.append_nil] at hs
  unfold preB
  simp only [hs]
  have e1 := take_head (headT i) [] _ rfl
  have e2 := take_rest (headT i) []
  rw [List.append_nil] at e1 e2
  rw [bs_extract, bs_extract, e1, bs_size, e2, k1]
  simp only
  rw [if_pos hf, hf]
  unfold fieldsB
  simp
theorem reg_end (n : Int) (b : Bool) (h0 : 0 ≤ n) (h1 : n < 1000000000) : regB (bs (regT n), b) = (n, bs [], b) := by
  have := reg_app n [] b h0 h1 (.inl rfl)
  rwa [List.append_nil] at this
theorem imm_end (n : Int) (b : Bool) (h0 : -1000000000 < n) (h1 : n < 1000000000) : immB (bs (signL n), b) = (n, bs [], b) := by
  have := imm_app n [] b h0 h1 (.inl rfl)
  rwa [List.append_nil] at this
theorem part_end (n : Int) (b : Bool) (h0 : 0 ≤ n) (h1 : n ≤ 15) : partB (bs (partT n.toNat), b) = (n, bs [], b) := by
  have := part_app n [] b h0 h1 (.inl rfl)
  rwa [List.append_nil] at this
theorem eat_end (t : List UInt8) (b : Bool) : eatB (bs t) (bs t, b) = (bs [], b) := by
  have := eat_app t [] b
  rwa [List.append_nil] at this
theorem cmB_eq : cmB = bs [44, 32] := rfl
theorem loB_eq : loB = bs [40] := rfl
theorem roB_eq : roB = bs [41] := rfl
theorem stops_cons (c : UInt8) (t : List UInt8) (r : List UInt8) (h : signsT.contains c = true) : Stops (c :: t ++ r) := .inr ⟨c, t ++ r, rfl, h⟩
theorem stops_one (c : UInt8) (h : signsT.contains c = true) : Stops [c] := .inr ⟨c, [], rfl, h⟩
theorem head_bare (i : InsnV) (ha : i.aq = false) (hr : i.rl = false) : headT i = (opOf i.op).name := by unfold headT; rw [ha, hr]; rfl
theorem fields_1_1 (i : InsnV) (s : Bool) (hi : -1000000000 < i.imm ∧ i.imm < 1000000000) (hr : (0 ≤ i.rd ∧ i.rd ≤ 31) ∧ (0 ≤ i.rs1 ∧ i.rs1 ≤ 31) ∧ (0 ≤ i.rs2 ∧ i.rs2 ≤ 31) ∧ (0 ≤ i.pred ∧ i.pred ≤ 15) ∧ (0 ≤ i.succ ∧ i.succ ≤ 15)) (h : formOk 1 s i = true) : fieldsB 1 (opI (i.op, i.aq, i.rl)) (bs (regT i.rd ++ ([44, 32] ++ (signL i.imm))), false) = (i, (bs [], false)) := by
  obtain ⟨⟨d0, d1⟩, ⟨x0, x1⟩, ⟨y0, y1⟩, ⟨p0, p1⟩, ⟨s0, s1⟩⟩ := hr
  obtain ⟨i0, i1⟩ := hi
  have a0 : regB (bs (regT i.rd ++ ([44, 32] ++ (signL i.imm))), false) = (i.rd, bs ([44, 32] ++ (signL i.imm)), false) := reg_app i.rd _ false (by omega) (by omega) (stops_cons _ _ _ (by decide))
  have a1 : eatB cmB (bs ([44, 32] ++ (signL i.imm)), false) = (bs (signL i.imm), false) := eat_app [44, 32] _ _
  have a2 : immB (bs (signL i.imm), false) = (i.imm, bs ([]), false) := imm_end i.imm false (by omega) (by omega)
  skip
  unfold fieldsB
  rw [if_pos (by omega)]
  simp only [a0, a1, a2]
  unfold formOk at h
  obtain ⟨op, rd, rs1, rs2, imm, aq, rl, pred, succ⟩ := i
  simp [badIn] at h
  simp only [opI, Prod.mk.injEq, InsnV.mk.injEq, and_true, true_and]
  simp [h]
theorem fields_1_2 (i : InsnV) (s : Bool) (hi : -1000000000 < i.imm ∧ i.imm < 1000000000) (hr : (0 ≤ i.rd ∧ i.rd ≤ 31) ∧ (0 ≤ i.rs1 ∧ i.rs1 ≤ 31) ∧ (0 ≤ i.rs2 ∧ i.rs2 ≤ 31) ∧ (0 ≤ i.pred ∧ i.pred ≤ 15) ∧ (0 ≤ i.succ ∧ i.succ ≤ 15)) (h : formOk 2 s i = true) : fieldsB 2 (opI (i.op, i.aq, i.rl)) (bs (regT i.rd ++ ([44, 32] ++ (signL i.imm))), false) = (i, (bs [], false)) := by
  obtain ⟨⟨d0, d1⟩, ⟨x0, x1⟩, ⟨y0, y1⟩, ⟨p0, p1⟩, ⟨s0, s1⟩⟩ := hr
  obtain ⟨i0, i1⟩ := hi
  have a0 : regB (bs (regT i.rd ++ ([44, 32] ++ (signL i.imm))), false) = (i.rd, bs ([44, 32] ++ (signL i.imm)), false) := reg_app i.rd _ false (by omega) (by omega) (stops_cons _ _ _ (by decide))
  have a1 : eatB cmB (bs ([44, 32] ++ (signL i.imm)), false) = (bs (signL i.imm), false) := eat_app [44, 32] _ _
  have a2 : immB (bs (signL i.imm), false) = (i.imm, bs ([]), false) := imm_end i.imm false (by omega) (by omega)
  skip
  unfold fieldsB
  rw [if_pos (by omega)]
  simp only [a0, a1, a2]
  unfold formOk at h
  obtain ⟨op, rd, rs1, rs2, imm, aq, rl, pred, succ⟩ := i
  simp [badIn] at h
  simp only [opI, Prod.mk.injEq, InsnV.mk.injEq, and_true, true_and]
  simp [h]
theorem fields_3_3 (i : InsnV) (s : Bool) (hi : -1000000000 < i.imm ∧ i.imm < 1000000000) (hr : (0 ≤ i.rd ∧ i.rd ≤ 31) ∧ (0 ≤ i.rs1 ∧ i.rs1 ≤ 31) ∧ (0 ≤ i.rs2 ∧ i.rs2 ≤ 31) ∧ (0 ≤ i.pred ∧ i.pred ≤ 15) ∧ (0 ≤ i.succ ∧ i.succ ≤ 15)) (h : formOk 3 s i = true) (ho : i.op ≠ 4) : fieldsB 3 (opI (i.op, i.aq, i.rl)) (bs (regT i.rd ++ ([44, 32] ++ (regT i.rs1 ++ ([44, 32] ++ (signL i.imm))))), false) = (i, (bs [], false)) := by
  obtain ⟨⟨d0, d1⟩, ⟨x0, x1⟩, ⟨y0, y1⟩, ⟨p0, p1⟩, ⟨s0, s1⟩⟩ := hr
  obtain ⟨i0, i1⟩ := hi
  have a0 : regB (bs (regT i.rd ++ ([44, 32] ++ (regT i.rs1 ++ ([44, 32] ++ (signL i.imm))))), false) = (i.rd, bs ([44, 32] ++ (regT i.rs1 ++ ([44, 32] ++ (signL i.imm)))), false) := reg_app i.rd _ false (by omega) (by omega) (stops_cons _ _ _ (by decide))
  have a1 : eatB cmB (bs ([44, 32] ++ (regT i.rs1 ++ ([44, 32] ++ (signL i.imm)))), false) = (bs (regT i.rs1 ++ ([44, 32] ++ (signL i.imm))), false) := eat_app [44, 32] _ _
  have a2 : regB (bs (regT i.rs1 ++ ([44, 32] ++ (signL i.imm))), false) = (i.rs1, bs ([44, 32] ++ (signL i.imm)), false) := reg_app i.rs1 _ false (by omega) (by omega) (stops_cons _ _ _ (by decide))
  have a3 : eatB cmB (bs ([44, 32] ++ (signL i.imm)), false) = (bs (signL i.imm), false) := eat_app [44, 32] _ _
  have a4 : immB (bs (signL i.imm), false) = (i.imm, bs ([]), false) := imm_end i.imm false (by omega) (by omega)
  have hoI : (opI (i.op, i.aq, i.rl)).op ≠ 4 := ho
  unfold fieldsB
  rw [if_neg (by omega), if_pos (by omega), if_neg (by omega)]
  simp only [a0, a1, a2, a3, a4]
  unfold formOk at h
  obtain ⟨op, rd, rs1, rs2, imm, aq, rl, pred, succ⟩ := i
  simp [badIn] at h
  simp only [opI, Prod.mk.injEq, InsnV.mk.injEq, and_true, true_and]
  simp [h]
theorem fields_3_7 (i : InsnV) (s : Bool) (hi : -1000000000 < i.imm ∧ i.imm < 1000000000) (hr : (0 ≤ i.rd ∧ i.rd ≤ 31) ∧ (0 ≤ i.rs1 ∧ i.rs1 ≤ 31) ∧ (0 ≤ i.rs2 ∧ i.rs2 ≤ 31) ∧ (0 ≤ i.pred ∧ i.pred ≤ 15) ∧ (0 ≤ i.succ ∧ i.succ ≤ 15)) (h : formOk 7 s i = true) (ho : i.op ≠ 4) : fieldsB 7 (opI (i.op, i.aq, i.rl)) (bs (regT i.rd ++ ([44, 32] ++ (regT i.rs1 ++ ([44, 32] ++ (signL i.imm))))), false) = (i, (bs [], false)) := by
  obtain ⟨⟨d0, d1⟩, ⟨x0, x1⟩, ⟨y0, y1⟩, ⟨p0, p1⟩, ⟨s0, s1⟩⟩ := hr
  obtain ⟨i0, i1⟩ := hi
  have a0 : regB (bs (regT i.rd ++ ([44, 32] ++ (regT i.rs1 ++ ([44, 32] ++ (signL i.imm))))), false) = (i.rd, bs ([44, 32] ++ (regT i.rs1 ++ ([44, 32] ++ (signL i.imm)))), false) := reg_app i.rd _ false (by omega) (by omega) (stops_cons _ _ _ (by decide))
  have a1 : eatB cmB (bs ([44, 32] ++ (regT i.rs1 ++ ([44, 32] ++ (signL i.imm)))), false) = (bs (regT i.rs1 ++ ([44, 32] ++ (signL i.imm))), false) := eat_app [44, 32] _ _
  have a2 : regB (bs (regT i.rs1 ++ ([44, 32] ++ (signL i.imm))), false) = (i.rs1, bs ([44, 32] ++ (signL i.imm)), false) := reg_app i.rs1 _ false (by omega) (by omega) (stops_cons _ _ _ (by decide))
  have a3 : eatB cmB (bs ([44, 32] ++ (signL i.imm)), false) = (bs (signL i.imm), false) := eat_app [44, 32] _ _
  have a4 : immB (bs (signL i.imm), false) = (i.imm, bs ([]), false) := imm_end i.imm false (by omega) (by omega)
  have hoI : (opI (i.op, i.aq, i.rl)).op ≠ 4 := ho
  unfold fieldsB
  rw [if_neg (by omega), if_pos (by omega), if_neg (by omega)]
  simp only [a0, a1, a2, a3, a4]
  unfold formOk at h
  obtain ⟨op, rd, rs1, rs2, imm, aq, rl, pred, succ⟩ := i
  simp [badIn] at h
  simp only [opI, Prod.mk.injEq, InsnV.mk.injEq, and_true, true_and]
  simp [h]
theorem fields_3j_3 (i : InsnV) (s : Bool) (hi : -1000000000 < i.imm ∧ i.imm < 1000000000) (hr : (0 ≤ i.rd ∧ i.rd ≤ 31) ∧ (0 ≤ i.rs1 ∧ i.rs1 ≤ 31) ∧ (0 ≤ i.rs2 ∧ i.rs2 ≤ 31) ∧ (0 ≤ i.pred ∧ i.pred ≤ 15) ∧ (0 ≤ i.succ ∧ i.succ ≤ 15)) (h : formOk 3 s i = true) (ho : i.op = 4) : fieldsB 3 (opI (i.op, i.aq, i.rl)) (bs (regT i.rd ++ ([44, 32] ++ (signL i.imm ++ ([40] ++ (regT i.rs1 ++ ([41])))))), false) = (i, (bs [], false)) := by
  obtain ⟨⟨d0, d1⟩, ⟨x0, x1⟩, ⟨y0, y1⟩, ⟨p0, p1⟩, ⟨s0, s1⟩⟩ := hr
  obtain ⟨i0, i1⟩ := hi
  have a0 : regB (bs (regT i.rd ++ ([44, 32] ++ (signL i.imm ++ ([40] ++ (regT i.rs1 ++ ([41])))))), false) = (i.rd, bs ([44, 32] ++ (signL i.imm ++ ([40] ++ (regT i.rs1 ++ ([41]))))), false) := reg_app i.rd _ false (by omega) (by omega) (stops_cons _ _ _ (by decide))
  have a1 : eatB cmB (bs ([44, 32] ++ (signL i.imm ++ ([40] ++ (regT i.rs1 ++ ([41]))))), false) = (bs (signL i.imm ++ ([40] ++ (regT i.rs1 ++ ([41])))), false) := eat_app [44, 32] _ _
  have a2 : immB (bs (signL i.imm ++ ([40] ++ (regT i.rs1 ++ ([41])))), false) = (i.imm, bs ([40] ++ (regT i.rs1 ++ ([41]))), false) := imm_app i.imm _ false (by omega) (by omega) (stops_cons _ _ _ (by decide))
  have a3 : eatB loB (bs ([40] ++ (regT i.rs1 ++ ([41]))), false) = (bs (regT i.rs1 ++ ([41])), false) := eat_app [40] _ _
  have a4 : regB (bs (regT i.rs1 ++ ([41])), false) = (i.rs1, bs ([41]), false) := reg_app i.rs1 _ false (by omega) (by omega) (stops_one _ (by decide))
  have a5 : eatB roB (bs ([41]), false) = (bs ([]), false) := eat_end _ _
  have hoI : (opI (i.op, i.aq, i.rl)).op = 4 := ho
  unfold fieldsB
  rw [if_neg (by omega), if_pos (by omega), if_pos (by omega)]
  simp only [a0, a1, a2, a3, a4, a5]
  unfold formOk at h
  obtain ⟨op, rd, rs1, rs2, imm, aq, rl, pred, succ⟩ := i
  simp [badIn] at h
  simp only [opI, Prod.mk.injEq, InsnV.mk.injEq, and_true, true_and]
  simp [h]
theorem fields_4_4 (i : InsnV) (s : Bool) (hi : -1000000000 < i.imm ∧ i.imm < 1000000000) (hr : (0 ≤ i.rd ∧ i.rd ≤ 31) ∧ (0 ≤ i.rs1 ∧ i.rs1 ≤ 31) ∧ (0 ≤ i.rs2 ∧ i.rs2 ≤ 31) ∧ (0 ≤ i.pred ∧ i.pred ≤ 15) ∧ (0 ≤ i.succ ∧ i.succ ≤ 15)) (h : formOk 4 s i = true) : fieldsB 4 (opI (i.op, i.aq, i.rl)) (bs (regT i.rd ++ ([44, 32] ++ (signL i.imm ++ ([40] ++ (regT i.rs1 ++ ([41])))))), false) = (i, (bs [], false)) := by
  obtain ⟨⟨d0, d1⟩, ⟨x0, x1⟩, ⟨y0, y1⟩, ⟨p0, p1⟩, ⟨s0, s1⟩⟩ := hr
  obtain ⟨i0, i1⟩ := hi
  have a0 : regB (bs (regT i.rd ++ ([44, 32] ++ (signL i.imm ++ ([40] ++ (regT i.rs1 ++ ([41])))))), false) = (i.rd, bs ([44, 32] ++ (signL i.imm ++ ([40] ++ (regT i.rs1 ++ ([41]))))), false) := reg_app i.rd _ false (by omega) (by omega) (stops_cons _ _ _ (by decide))
  have a1 : eatB cmB (bs ([44, 32] ++ (signL i.imm ++ ([40] ++ (regT i.rs1 ++ ([41]))))), false) = (bs (signL i.imm ++ ([40] ++ (regT i.rs1 ++ ([41])))), false) := eat_app [44, 32] _ _
  have a2 : immB (bs (signL i.imm ++ ([40] ++ (regT i.rs1 ++ ([41])))), false) = (i.imm, bs ([40] ++ (regT i.rs1 ++ ([41]))), false) := imm_app i.imm _ false (by omega) (by omega) (stops_cons _ _ _ (by decide))
  have a3 : eatB loB (bs ([40] ++ (regT i.rs1 ++ ([41]))), false) = (bs (regT i.rs1 ++ ([41])), false) := eat_app [40] _ _
  have a4 : regB (bs (regT i.rs1 ++ ([41])), false) = (i.rs1, bs ([41]), false) := reg_app i.rs1 _ false (by omega) (by omega) (stops_one _ (by decide))
  have a5 : eatB roB (bs ([41]), false) = (bs ([]), false) := eat_end _ _
  skip
  unfold fieldsB
  rw [if_neg (by omega), if_pos (by omega), if_pos (by omega)]
  simp only [a0, a1, a2, a3, a4, a5]
  unfold formOk at h
  obtain ⟨op, rd, rs1, rs2, imm, aq, rl, pred, succ⟩ := i
  simp [badIn] at h
  simp only [opI, Prod.mk.injEq, InsnV.mk.injEq, and_true, true_and]
  simp [h]
theorem fields_5_5 (i : InsnV) (s : Bool) (hi : -1000000000 < i.imm ∧ i.imm < 1000000000) (hr : (0 ≤ i.rd ∧ i.rd ≤ 31) ∧ (0 ≤ i.rs1 ∧ i.rs1 ≤ 31) ∧ (0 ≤ i.rs2 ∧ i.rs2 ≤ 31) ∧ (0 ≤ i.pred ∧ i.pred ≤ 15) ∧ (0 ≤ i.succ ∧ i.succ ≤ 15)) (h : formOk 5 s i = true) : fieldsB 5 (opI (i.op, i.aq, i.rl)) (bs (regT i.rs2 ++ ([44, 32] ++ (signL i.imm ++ ([40] ++ (regT i.rs1 ++ ([41])))))), false) = (i, (bs [], false)) := by
  obtain ⟨⟨d0, d1⟩, ⟨x0, x1⟩, ⟨y0, y1⟩, ⟨p0, p1⟩, ⟨s0, s1⟩⟩ := hr
  obtain ⟨i0, i1⟩ := hi
  have a0 : regB (bs (regT i.rs2 ++ ([44, 32] ++ (signL i.imm ++ ([40] ++ (regT i.rs1 ++ ([41])))))), false) = (i.rs2, bs ([44, 32] ++ (signL i.imm ++ ([40] ++ (regT i.rs1 ++ ([41]))))), false) := reg_app i.rs2 _ false (by omega) (by omega) (stops_cons _ _ _ (by decide))
  have a1 : eatB cmB (bs ([44, 32] ++ (signL i.imm ++ ([40] ++ (regT i.rs1 ++ ([41]))))), false) = (bs (signL i.imm ++ ([40] ++ (regT i.rs1 ++ ([41])))), false) := eat_app [44, 32] _ _
  have a2 : immB (bs (signL i.imm ++ ([40] ++ (regT i.rs1 ++ ([41])))), false) = (i.imm, bs ([40] ++ (regT i.rs1 ++ ([41]))), false) := imm_app i.imm _ false (by omega) (by omega) (stops_cons _ _ _ (by decide))
  have a3 : eatB loB (bs ([40] ++ (regT i.rs1 ++ ([41]))), false) = (bs (regT i.rs1 ++ ([41])), false) := eat_app [40] _ _
  have a4 : regB (bs (regT i.rs1 ++ ([41])), false) = (i.rs1, bs ([41]), false) := reg_app i.rs1 _ false (by omega) (by omega) (stops_one _ (by decide))
  have a5 : eatB roB (bs ([41]), false) = (bs ([]), false) := eat_end _ _
  skip
  unfold fieldsB
  rw [if_neg (by omega), if_neg (by omega), if_pos (by omega)]
  simp only [a0, a1, a2, a3, a4, a5]
  unfold formOk at h
  obtain ⟨op, rd, rs1, rs2, imm, aq, rl, pred, succ⟩ := i
  simp [badIn] at h
  simp only [opI, Prod.mk.injEq, InsnV.mk.injEq, and_true, true_and]
  simp [h]
theorem fields_6_6 (i : InsnV) (s : Bool) (hi : -1000000000 < i.imm ∧ i.imm < 1000000000) (hr : (0 ≤ i.rd ∧ i.rd ≤ 31) ∧ (0 ≤ i.rs1 ∧ i.rs1 ≤ 31) ∧ (0 ≤ i.rs2 ∧ i.rs2 ≤ 31) ∧ (0 ≤ i.pred ∧ i.pred ≤ 15) ∧ (0 ≤ i.succ ∧ i.succ ≤ 15)) (h : formOk 6 s i = true) : fieldsB 6 (opI (i.op, i.aq, i.rl)) (bs (regT i.rs1 ++ ([44, 32] ++ (regT i.rs2 ++ ([44, 32] ++ (signL i.imm))))), false) = (i, (bs [], false)) := by
  obtain ⟨⟨d0, d1⟩, ⟨x0, x1⟩, ⟨y0, y1⟩, ⟨p0, p1⟩, ⟨s0, s1⟩⟩ := hr
  obtain ⟨i0, i1⟩ := hi
  have a0 : regB (bs (regT i.rs1 ++ ([44, 32] ++ (regT i.rs2 ++ ([44, 32] ++ (signL i.imm))))), false) = (i.rs1, bs ([44, 32] ++ (regT i.rs2 ++ ([44, 32] ++ (signL i.imm)))), false) := reg_app i.rs1 _ false (by omega) (by omega) (stops_cons _ _ _ (by decide))
  have a1 : eatB cmB (bs ([44, 32] ++ (regT i.rs2 ++ ([44, 32] ++ (signL i.imm)))), false) = (bs (regT i.rs2 ++ ([44, 32] ++ (signL i.imm))), false) := eat_app [44, 32] _ _
  have a2 : regB (bs (regT i.rs2 ++ ([44, 32] ++ (signL i.imm))), false) = (i.rs2, bs ([44, 32] ++ (signL i.imm)), false) := reg_app i.rs2 _ false (by omega) (by omega) (stops_cons _ _ _ (by decide))
  have a3 : eatB cmB (bs ([44, 32] ++ (signL i.imm)), false) = (bs (signL i.imm), false) := eat_app [44, 32] _ _
  have a4 : immB (bs (signL i.imm), false) = (i.imm, bs ([]), false) := imm_end i.imm false (by omega) (by omega)
  skip
  unfold fieldsB
  rw [if_neg (by omega), if_neg (by omega), if_neg (by omega), if_pos (by omega)]
  simp only [a0, a1, a2, a3, a4]
  unfold formOk at h
  obtain ⟨op, rd, rs1, rs2, imm, aq, rl, pred, succ⟩ := i
  simp [badIn] at h
  simp only [opI, Prod.mk.injEq, InsnV.mk.injEq, and_true, true_and]
  simp [h]
theorem fields_8_8 (i : InsnV) (s : Bool) (hi : -1000000000 < i.imm ∧ i.imm < 1000000000) (hr : (0 ≤ i.rd ∧ i.rd ≤ 31) ∧ (0 ≤ i.rs1 ∧ i.rs1 ≤ 31) ∧ (0 ≤ i.rs2 ∧ i.rs2 ≤ 31) ∧ (0 ≤ i.pred ∧ i.pred ≤ 15) ∧ (0 ≤ i.succ ∧ i.succ ≤ 15)) (h : formOk 8 s i = true) : fieldsB 8 (opI (i.op, i.aq, i.rl)) (bs (regT i.rd ++ ([44, 32] ++ (regT i.rs1 ++ ([44, 32] ++ (regT i.rs2))))), false) = (i, (bs [], false)) := by
  obtain ⟨⟨d0, d1⟩, ⟨x0, x1⟩, ⟨y0, y1⟩, ⟨p0, p1⟩, ⟨s0, s1⟩⟩ := hr
  obtain ⟨i0, i1⟩ := hi
  have a0 : regB (bs (regT i.rd ++ ([44, 32] ++ (regT i.rs1 ++ ([44, 32] ++ (regT i.rs2))))), false) = (i.rd, bs ([44, 32] ++ (regT i.rs1 ++ ([44, 32] ++ (regT i.rs2)))), false) := reg_app i.rd _ false (by omega) (by omega) (stops_cons _ _ _ (by decide))
  have a1 : eatB cmB (bs ([44, 32] ++ (regT i.rs1 ++ ([44, 32] ++ (regT i.rs2)))), false) = (bs (regT i.rs1 ++ ([44, 32] ++ (regT i.rs2))), false) := eat_app [44, 32] _ _
  have a2 : regB (bs (regT i.rs1 ++ ([44, 32] ++ (regT i.rs2))), false) = (i.rs1, bs ([44, 32] ++ (regT i.rs2)), false) := reg_app i.rs1 _ false (by omega) (by omega) (stops_cons _ _ _ (by decide))
  have a3 : eatB cmB (bs ([44, 32] ++ (regT i.rs2)), false) = (bs (regT i.rs2), false) := eat_app [44, 32] _ _
  have a4 : regB (bs (regT i.rs2), false) = (i.rs2, bs ([]), false) := reg_end i.rs2 false (by omega) (by omega)
  skip
  unfold fieldsB
  rw [if_neg (by omega), if_neg (by omega), if_neg (by omega), if_neg (by omega), if_pos (by omega)]
  simp only [a0, a1, a2, a3, a4]
  unfold formOk at h
  obtain ⟨op, rd, rs1, rs2, imm, aq, rl, pred, succ⟩ := i
  simp [badIn] at h
  simp only [opI, Prod.mk.injEq, InsnV.mk.injEq, and_true, true_and]
  simp [h]
theorem fields_9_9 (i : InsnV) (s : Bool) (hi : -1000000000 < i.imm ∧ i.imm < 1000000000) (hr : (0 ≤ i.rd ∧ i.rd ≤ 31) ∧ (0 ≤ i.rs1 ∧ i.rs1 ≤ 31) ∧ (0 ≤ i.rs2 ∧ i.rs2 ≤ 31) ∧ (0 ≤ i.pred ∧ i.pred ≤ 15) ∧ (0 ≤ i.succ ∧ i.succ ≤ 15)) (h : formOk 9 s i = true) : fieldsB 9 (opI (i.op, i.aq, i.rl)) (bs (partT i.pred.toNat ++ ([44, 32] ++ (partT i.succ.toNat))), false) = (i, (bs [], false)) := by
  obtain ⟨⟨d0, d1⟩, ⟨x0, x1⟩, ⟨y0, y1⟩, ⟨p0, p1⟩, ⟨s0, s1⟩⟩ := hr
  obtain ⟨i0, i1⟩ := hi
  have a0 : partB (bs (partT i.pred.toNat ++ ([44, 32] ++ (partT i.succ.toNat))), false) = (i.pred, bs ([44, 32] ++ (partT i.succ.toNat)), false) := part_app i.pred _ false (by omega) (by omega) (stops_cons _ _ _ (by decide))
  have a1 : eatB cmB (bs ([44, 32] ++ (partT i.succ.toNat)), false) = (bs (partT i.succ.toNat), false) := eat_app [44, 32] _ _
  have a2 : partB (bs (partT i.succ.toNat), false) = (i.succ, bs ([]), false) := part_end i.succ false (by omega) (by omega)
  skip
  unfold fieldsB
  rw [if_neg (by omega), if_neg (by omega), if_neg (by omega), if_neg (by omega), if_neg (by omega), if_pos (by omega)]
  simp only [a0, a1, a2]
  unfold formOk at h
  obtain ⟨op, rd, rs1, rs2, imm, aq, rl, pred, succ⟩ := i
  simp [badIn] at h
  simp only [opI, Prod.mk.injEq, InsnV.mk.injEq, and_true, true_and]
  simp [h]
theorem fields_11_11 (i : InsnV) (s : Bool) (hi : -1000000000 < i.imm ∧ i.imm < 1000000000) (hr : (0 ≤ i.rd ∧ i.rd ≤ 31) ∧ (0 ≤ i.rs1 ∧ i.rs1 ≤ 31) ∧ (0 ≤ i.rs2 ∧ i.rs2 ≤ 31) ∧ (0 ≤ i.pred ∧ i.pred ≤ 15) ∧ (0 ≤ i.succ ∧ i.succ ≤ 15)) (h : formOk 11 s i = true) : fieldsB 11 (opI (i.op, i.aq, i.rl)) (bs (regT i.rd ++ ([44, 32] ++ ([40] ++ (regT i.rs1 ++ ([41]))))), false) = (i, (bs [], false)) := by
  obtain ⟨⟨d0, d1⟩, ⟨x0, x1⟩, ⟨y0, y1⟩, ⟨p0, p1⟩, ⟨s0, s1⟩⟩ := hr
  obtain ⟨i0, i1⟩ := hi
  have a0 : regB (bs (regT i.rd ++ ([44, 32] ++ ([40] ++ (regT i.rs1 ++ ([41]))))), false) = (i.rd, bs ([44, 32] ++ ([40] ++ (regT i.rs1 ++ ([41])))), false) := reg_app i.rd _ false (by omega) (by omega) (stops_cons _ _ _ (by decide))
  have a1 : eatB cmB (bs ([44, 32] ++ ([40] ++ (regT i.rs1 ++ ([41])))), false) = (bs ([40] ++ (regT i.rs1 ++ ([41]))), false) := eat_app [44, 32] _ _
  have a2 : eatB loB (bs ([40] ++ (regT i.rs1 ++ ([41]))), false) = (bs (regT i.rs1 ++ ([41])), false) := eat_app [40] _ _
  have a3 : regB (bs (regT i.rs1 ++ ([41])), false) = (i.rs1, bs ([41]), false) := reg_app i.rs1 _ false (by omega) (by omega) (stops_one _ (by decide))
  have a4 : eatB roB (bs ([41]), false) = (bs ([]), false) := eat_end _ _
  skip
  unfold fieldsB
  rw [if_neg (by omega), if_neg (by omega), if_neg (by omega), if_neg (by omega), if_neg (by omega), if_neg (by omega), if_pos (by omega)]
  simp only [a0, a1, a2, a3, a4]
  unfold formOk at h
  obtain ⟨op, rd, rs1, rs2, imm, aq, rl, pred, succ⟩ := i
  simp [badIn] at h
  simp only [opI, Prod.mk.injEq, InsnV.mk.injEq, and_true, true_and]
  simp [h]
theorem fields_12_12 (i : InsnV) (s : Bool) (hi : -1000000000 < i.imm ∧ i.imm < 1000000000) (hr : (0 ≤ i.rd ∧ i.rd ≤ 31) ∧ (0 ≤ i.rs1 ∧ i.rs1 ≤ 31) ∧ (0 ≤ i.rs2 ∧ i.rs2 ≤ 31) ∧ (0 ≤ i.pred ∧ i.pred ≤ 15) ∧ (0 ≤ i.succ ∧ i.succ ≤ 15)) (h : formOk 12 s i = true) : fieldsB 12 (opI (i.op, i.aq, i.rl)) (bs (regT i.rd ++ ([44, 32] ++ (regT i.rs2 ++ ([44, 32] ++ ([40] ++ (regT i.rs1 ++ ([41]))))))), false) = (i, (bs [], false)) := by
  obtain ⟨⟨d0, d1⟩, ⟨x0, x1⟩, ⟨y0, y1⟩, ⟨p0, p1⟩, ⟨s0, s1⟩⟩ := hr
  obtain ⟨i0, i1⟩ := hi
  have a0 : regB (bs (regT i.rd ++ ([44, 32] ++ (regT i.rs2 ++ ([44, 32] ++ ([40] ++ (regT i.rs1 ++ ([41]))))))), false) = (i.rd, bs ([44, 32] ++ (regT i.rs2 ++ ([44, 32] ++ ([40] ++ (regT i.rs1 ++ ([41])))))), false) := reg_app i.rd _ false (by omega) (by omega) (stops_cons _ _ _ (by decide))
  have a1 : eatB cmB (bs ([44, 32] ++ (regT i.rs2 ++ ([44, 32] ++ ([40] ++ (regT i.rs1 ++ ([41])))))), false) = (bs (regT i.rs2 ++ ([44, 32] ++ ([40] ++ (regT i.rs1 ++ ([41]))))), false) := eat_app [44, 32] _ _
  have a2 : regB (bs (regT i.rs2 ++ ([44, 32] ++ ([40] ++ (regT i.rs1 ++ ([41]))))), false) = (i.rs2, bs ([44, 32] ++ ([40] ++ (regT i.rs1 ++ ([41])))), false) := reg_app i.rs2 _ false (by omega) (by omega) (stops_cons _ _ _ (by decide))
  have a3 : eatB cmB (bs ([44, 32] ++ ([40] ++ (regT i.rs1 ++ ([41])))), false) = (bs ([40] ++ (regT i.rs1 ++ ([41]))), false) := eat_app [44, 32] _ _
  have a4 : eatB loB (bs ([40] ++ (regT i.rs1 ++ ([41]))), false) = (bs (regT i.rs1 ++ ([41])), false) := eat_app [40] _ _
  have a5 : regB (bs (regT i.rs1 ++ ([41])), false) = (i.rs1, bs ([41]), false) := reg_app i.rs1 _ false (by omega) (by omega) (stops_one _ (by decide))
  have a6 : eatB roB (bs ([41]), false) = (bs ([]), false) := eat_end _ _
  skip
  unfold fieldsB
  rw [if_neg (by omega), if_neg (by omega), if_neg (by omega), if_neg (by omega), if_neg (by omega), if_neg (by omega), if_neg (by omega), if_pos (by omega)]
  simp only [a0, a1, a2, a3, a4, a5, a6]
  unfold formOk at h
  obtain ⟨op, rd, rs1, rs2, imm, aq, rl, pred, succ⟩ := i
  simp [badIn] at h
  simp only [opI, Prod.mk.injEq, InsnV.mk.injEq, and_true, true_and]
  simp [h]
theorem fits_bd {v : Int} {n : Nat} (h1 : 1 ≤ n) (h : n ≤ 64) (hf : Fits v n = true) : -(2 ^ (n - 1) : Int) ≤ v ∧ v < 2 ^ (n - 1) := by
  have e : sn (Sign (bv v) n) = v := by unfold Fits at hf; simpa using hf
  have := (Fits_iff (Sign (bv v) n) n h1 h).1 (by rw [e]; exact hf)
  rwa [e] at this
theorem imm_small (i : InsnV) (h : checkE i = 0) : -1000000000 < i.imm ∧ i.imm < 1000000000 := by
  have hok : checkOk i = true := by
    unfold checkE at h
    cases hk : checkOk i with
    | true => rfl
    | false => rw [hk] at h; cases h
  unfold checkOk at hok
  obtain ⟨-, -, -, -, -, -, f1, f12⟩ := ok_facts i h
  generalize (opOf i.op).form = f at *
  generalize shortName (opOf i.op).name = s at *
  rcases (show f = 1 ∨ f = 2 ∨ f = 3 ∨ f = 4 ∨ f = 5 ∨ f = 6 ∨ f = 7 ∨ f = 8 ∨ f = 9 ∨ f = 10 ∨ f = 11 ∨ f = 12 by omega) with rfl | rfl | rfl | rfl | rfl | rfl | rfl | rfl | rfl | rfl | rfl | rfl
  · have hf : Fits i.imm 20 = true := by unfold formOk at hok; simp at hok; simp [hok]
    have := fits_bd (n := 20) (by decide) (by decide) hf
    omega
  · have hf : Fits i.imm 21 = true := by unfold formOk at hok; simp at hok; simp [hok]
    have := fits_bd (n := 21) (by decide) (by decide) hf
    omega
  · have hf : Fits i.imm 12 = true := by unfold formOk at hok; simp at hok; simp [hok]
    have := fits_bd (n := 12) (by decide) (by decide) hf
    omega
  · have hf : Fits i.imm 12 = true := by unfold formOk at hok; simp at hok; simp [hok]
    have := fits_bd (n := 12) (by decide) (by decide) hf
    omega
  · have hf : Fits i.imm 12 = true := by unfold formOk at hok; simp at hok; simp [hok]
    have := fits_bd (n := 12) (by decide) (by decide) hf
    omega
  · have hf : Fits i.imm 13 = true := by unfold formOk at hok; simp at hok; simp [hok]
    have := fits_bd (n := 13) (by decide) (by decide) hf
    omega
  · unfold formOk at hok; simp at hok; omega
  · have hz : i.imm = 0 := by unfold formOk at hok; simp at hok; simp [hok]
    rw [hz]; omega
  · have hz : i.imm = 0 := by unfold formOk at hok; simp at hok; simp [hok]
    rw [hz]; omega
  · have hz : i.imm = 0 := by unfold formOk at hok; simp at hok; simp [hok]
    rw [hz]; omega
  · have hz : i.imm = 0 := by unfold formOk at hok; simp at hok; simp [hok]
    rw [hz]; omega
  · have hz : i.imm = 0 := by unfold formOk at hok; simp at hok; simp [hok]
    rw [hz]; omega
theorem pre_text (i : InsnV) (h : checkE i = 0) : preB (bs (bodyT i)) = (i, (bs [], false)) := by
  have hi := imm_small i h
  obtain ⟨q1, q2, q3, q4, q5, q6, f1, f12⟩ := ok_facts i h
  have hr := And.intro q1 (And.intro q2 (And.intro q3 (And.intro q4 q5)))
  have hok : checkOk i = true := by
    unfold checkE at h
    cases hk : checkOk i with
    | true => rfl
    | false => rw [hk] at h; cases h
  unfold checkOk at hok
  have ho : 1 ≤ i.op ∧ i.op ≤ 87 := by
    by_cases h0 : i.op < 1
    · unfold opOf at f1; rw [if_pos h0] at f1; exact absurd f1 (by decide)
    · by_cases h8 : 87 < i.op
      · rw [opOf_big i.op h8] at f1; exact absurd f1 (by decide)
      · omega
  obtain ⟨o1, o87⟩ := ho
  have hfe := rform_eq i.op
  obtain ⟨f, hf⟩ : ∃ f, (opOf i.op).form = f := ⟨_, rfl⟩
  have hb : bodyT i = bodyT i := rfl
  conv at hb => rhs; unfold bodyT
  rw [hf] at hb hok f1 f12 hfe q6
  rcases (show f = 1 ∨ f = 2 ∨ f = 3 ∨ f = 4 ∨ f = 5 ∨ f = 6 ∨ f = 7 ∨ f = 8 ∨ f = 9 ∨ f = 10 ∨ f = 11 ∨ f = 12 by omega) with rfl | rfl | rfl | rfl | rfl | rfl | rfl | rfl | rfl | rfl | rfl | rfl
  · have e : bodyT i = headT i ++ ([32] ++ (regT i.rd ++ ([44, 32] ++ (signL i.imm)))) := by rw [hb]; simp
    rw [e, pre_some i o1 o87 _ (by omega), ← hfe]
    exact fields_1_1 i _ hi hr hok
  · have e : bodyT i = headT i ++ ([32] ++ (regT i.rd ++ ([44, 32] ++ (signL i.imm)))) := by rw [hb]; simp
    rw [e, pre_some i o1 o87 _ (by omega), ← hfe]
    exact fields_1_2 i _ hi hr hok
  · by_cases h4 : i.op = 4
    · have hbare : headT i = (opOf i.op).name := by
        rcases q6 with q | q | q
        · omega
        · omega
        · exact head_bare i q.1 q.2
      have e : bodyT i = headT i ++ ([32] ++ (regT i.rd ++ ([44, 32] ++ (signL i.imm ++ ([40] ++ (regT i.rs1 ++ ([41]))))))) := by rw [hb]; simp [h4, hbare]
      rw [e, pre_some i o1 o87 _ (by omega), ← hfe]
      exact fields_3j_3 i _ hi hr hok h4
    · have e : bodyT i = headT i ++ ([32] ++ (regT i.rd ++ ([44, 32] ++ (regT i.rs1 ++ ([44, 32] ++ (signL i.imm)))))) := by rw [hb]; simp [h4]
      rw [e, pre_some i o1 o87 _ (by omega), ← hfe]
      exact fields_3_3 i _ hi hr hok h4
  · have e : bodyT i = headT i ++ ([32] ++ (regT i.rd ++ ([44, 32] ++ (signL i.imm ++ ([40] ++ (regT i.rs1 ++ ([41]))))))) := by rw [hb]; simp
    rw [e, pre_some i o1 o87 _ (by omega), ← hfe]
    exact fields_4_4 i _ hi hr hok
  · have e : bodyT i = headT i ++ ([32] ++ (regT i.rs2 ++ ([44, 32] ++ (signL i.imm ++ ([40] ++ (regT i.rs1 ++ ([41]))))))) := by rw [hb]; simp
    rw [e, pre_some i o1 o87 _ (by omega), ← hfe]
    exact fields_5_5 i _ hi hr hok
  · have e : bodyT i = headT i ++ ([32] ++ (regT i.rs1 ++ ([44, 32] ++ (regT i.rs2 ++ ([44, 32] ++ (signL i.imm)))))) := by rw [hb]; simp
    rw [e, pre_some i o1 o87 _ (by omega), ← hfe]
    exact fields_6_6 i _ hi hr hok
  · have h4 : i.op ≠ 4 := fun h4 => by rw [h4] at hfe; exact absurd hfe (by decide +kernel)
    have e : bodyT i = headT i ++ ([32] ++ (regT i.rd ++ ([44, 32] ++ (regT i.rs1 ++ ([44, 32] ++ (signL i.imm)))))) := by rw [hb]; simp [h4]
    rw [e, pre_some i o1 o87 _ (by omega), ← hfe]
    exact fields_3_7 i _ hi hr hok h4
  · have e : bodyT i = headT i ++ ([32] ++ (regT i.rd ++ ([44, 32] ++ (regT i.rs1 ++ ([44, 32] ++ (regT i.rs2)))))) := by rw [hb]; simp
    rw [e, pre_some i o1 o87 _ (by omega), ← hfe]
    exact fields_8_8 i _ hi hr hok
  · have e : bodyT i = headT i ++ ([32] ++ (partT i.pred.toNat ++ ([44, 32] ++ (partT i.succ.toNat)))) := by rw [hb]; simp
    rw [e, pre_some i o1 o87 _ (by omega), ← hfe]
    exact fields_9_9 i _ hi hr hok
  · have e : bodyT i = headT i := by rw [hb]; simp
    rw [e, pre_sys i o1 o87 hfe.symm]
    obtain ⟨op, rd, rs1, rs2, imm, aq, rl, pred, succ⟩ := i
    unfold formOk at hok
    simp [badIn] at hok
    simp only [opI, Prod.mk.injEq, InsnV.mk.injEq, and_true, true_and]
    simp [hok]
  · have e : bodyT i = headT i ++ ([32] ++ (regT i.rd ++ ([44, 32] ++ ([40] ++ (regT i.rs1 ++ ([41])))))) := by rw [hb]; simp
    rw [e, pre_some i o1 o87 _ (by omega), ← hfe]
    exact fields_11_11 i _ hi hr hok
  · have e : bodyT i = headT i ++ ([32] ++ (regT i.rd ++ ([44, 32] ++ (regT i.rs2 ++ ([44, 32] ++ ([40] ++ (regT i.rs1 ++ ([41])))))))) := by rw [hb]; simp
    rw [e, pre_some i o1 o87 _ (by omega), ← hfe]
    exact fields_12_12 i _ hi hr hok
/-- Whatever instruction's text is read back. -/
theorem read_text (i : InsnV) (h : checkE i = 0) : readB (bs (textT i)) = (i, 0) := by
  have hp := pre_text i h
  have ht : textT i = bodyT i := if_pos h
  unfold readB
  rw [ht]
  simp only [hp]
  rw [if_neg]
  rintro (q | q | q)
  · cases q
  · exact q h
  · rw [ht, bs_toList] at q; exact q rfl
/-- A text that does not end with a blank. -/
def EndsOk (l : List UInt8) : Prop := ∃ c, l.getLast? = some c ∧ c ≠ 32
theorem EndsOk.app {l : List UInt8} (h : EndsOk l) (a : List UInt8) : EndsOk (a ++ l) := by
  obtain ⟨c, h1, h2⟩ := h
  exact ⟨c, by rw [List.getLast?_append, h1]; rfl, h2⟩
theorem digF_ends : ∀ (k n : Nat), EndsOk (digF k n)
  | 0, n => by
    have hd := dig_one (n % 10) (by omega)
    refine ⟨UInt8.ofNat (48 + n % 10), by unfold digF; rfl, fun e => ?_⟩
    rw [e] at hd; exact absurd hd.1 (by decide)
  | k + 1, n => by
    have hd := dig_one (n % 10) (by omega)
    have hk : EndsOk [UInt8.ofNat (48 + n % 10)] := ⟨UInt8.ofNat (48 + n % 10), rfl, fun e => by rw [e] at hd; exact absurd hd.1 (by decide)⟩
    unfold digF
    split
    · exact hk.app _
    · exact hk
theorem digN_ends (n : Nat) : EndsOk (digN n) := digF_ends 20 n
theorem regT_ends (n : Int) : EndsOk (regT n) := (digN_ends _).app [120]
theorem signL_ends (n : Int) : EndsOk (signL n) := by
  unfold signL; split
  · exact (digN_ends _).app [45]
  · exact digN_ends _
theorem partT_ends (n : Int) (h0 : 0 ≤ n) (h1 : n ≤ 15) : EndsOk (partT n.toNat) := by
  have : ∀ n : Fin 16, ((partT n.1).getLast?.getD 32 != 32) = true := by decide +kernel
  have := this ⟨n.toNat, by omega⟩
  cases h : (partT n.toNat).getLast? with
  | none => rw [h] at this; exact absurd this (by decide)
  | some c => rw [h] at this; exact ⟨c, h, by simpa using this⟩
theorem heads_ends : ((List.range 88).all fun n => n == 0 || ([true, false].all fun a => [true, false].all fun r => ((headF (n : Nat) a r).getLast?.getD 32 != 32) && ((headF (n : Nat) a r).headD 32 != 32))) = true := by decide +kernel
theorem headT_ends (i : InsnV) (h1 : 1 ≤ i.op) (h2 : i.op ≤ 87) : EndsOk (headT i) ∧ (headT i).headD 32 ≠ 32 := by
  obtain ⟨m, hm⟩ := Int.eq_ofNat_of_zero_le (show 0 ≤ i.op by omega)
  have := List.all_eq_true.1 heads_ends m (List.mem_range.2 (by omega))
  rw [headT_isF, hm]
  simp only [List.all_cons, List.all_nil, Bool.and_true, Bool.and_eq_true, Bool.or_eq_true, beq_iff_eq, bne_iff_ne] at this
  rcases this with h0 | ⟨⟨h3, h4⟩, h5, h6⟩
  · omega
  · have key : ∀ l : List UInt8, l.getLast?.getD 32 ≠ 32 → EndsOk l := fun l hl => by
      cases h : l.getLast? with
      | none => rw [h] at hl; exact absurd rfl hl
      | some c => rw [h] at hl; exact ⟨c, h, hl⟩
    cases i.aq <;> cases i.rl
    · exact ⟨key _ h6.1, h6.2⟩
    · exact ⟨key _ h5.1, h5.2⟩
    · exact ⟨key _ h4.1, h4.2⟩
    · exact ⟨key _ h3.1, h3.2⟩
theorem head_app1 {a : List UInt8} (h : a.headD 32 ≠ 32) (b : List UInt8) : (a ++ b).headD 32 ≠ 32 := by
  cases a with
  | nil => exact absurd rfl h
  | cons c q => exact h
theorem body_ends (i : InsnV) (h : checkE i = 0) : EndsOk (bodyT i) ∧ (bodyT i).headD 32 ≠ 32 := by
  obtain ⟨q1, q2, q3, q4, q5, q6, f1, f12⟩ := ok_facts i h
  have ho : 1 ≤ i.op ∧ i.op ≤ 87 := by
    by_cases h0 : i.op < 1
    · unfold opOf at f1; rw [if_pos h0] at f1; exact absurd f1 (by decide)
    · by_cases h8 : 87 < i.op
      · rw [opOf_big i.op h8] at f1; exact absurd f1 (by decide)
      · omega
  obtain ⟨k1, k2⟩ := headT_ends i ho.1 ho.2
  have hn : i.op = 4 → headT i = (opOf i.op).name := fun h4 => by
    rcases q6 with q | q | q
    · rw [h4] at q; exact absurd q (by decide +kernel)
    · rw [h4] at q; exact absurd q (by decide +kernel)
    · exact head_bare i q.1 q.2
  have one : EndsOk [41] := ⟨41, rfl, by decide⟩
  unfold bodyT
  simp only
  repeat' split
  all_goals try simp only [List.append_assoc]
  all_goals first
    | exact ⟨k1, k2⟩
    | (refine ⟨EndsOk.app ?_ _, head_app1 k2 _⟩; refine EndsOk.app ?_ _; refine EndsOk.app ?_ _; refine EndsOk.app ?_ _; exact signL_ends _)
    | (refine ⟨EndsOk.app ?_ _, head_app1 k2 _⟩; refine EndsOk.app ?_ _; refine EndsOk.app ?_ _; refine EndsOk.app ?_ _; refine EndsOk.app ?_ _; refine EndsOk.app ?_ _; exact signL_ends _)
    | (refine ⟨EndsOk.app ?_ _, head_app1 k2 _⟩; refine EndsOk.app ?_ _; refine EndsOk.app ?_ _; refine EndsOk.app ?_ _; refine EndsOk.app ?_ _; refine EndsOk.app ?_ _; exact regT_ends _)
    | (refine ⟨EndsOk.app ?_ _, head_app1 k2 _⟩; refine EndsOk.app ?_ _; refine EndsOk.app ?_ _; refine EndsOk.app ?_ _; exact partT_ends _ q5.1 q5.2)
    | (refine ⟨EndsOk.app ?_ _, head_app1 k2 _⟩; refine EndsOk.app ?_ _; refine EndsOk.app ?_ _; refine EndsOk.app ?_ _; refine EndsOk.app ?_ _; refine EndsOk.app ?_ _; exact one)
    | (refine ⟨EndsOk.app ?_ _, head_app1 k2 _⟩; refine EndsOk.app ?_ _; refine EndsOk.app ?_ _; refine EndsOk.app ?_ _; refine EndsOk.app ?_ _; refine EndsOk.app ?_ _; refine EndsOk.app ?_ _; exact one)
    | (refine ⟨EndsOk.app ?_ _, head_app1 k2 _⟩; refine EndsOk.app ?_ _; refine EndsOk.app ?_ _; refine EndsOk.app ?_ _; refine EndsOk.app ?_ _; refine EndsOk.app ?_ _; refine EndsOk.app ?_ _; refine EndsOk.app ?_ _; exact one)
    | (refine ⟨EndsOk.app ?_ _, head_app1 k2 _⟩; refine EndsOk.app ?_ _; refine EndsOk.app ?_ _; refine EndsOk.app ?_ _; refine EndsOk.app ?_ _; exact one)
    | (rename_i h4; rw [← hn h4]; refine ⟨EndsOk.app ?_ _, head_app1 k2 _⟩; refine EndsOk.app ?_ _; refine EndsOk.app ?_ _; refine EndsOk.app ?_ _; refine EndsOk.app ?_ _; refine EndsOk.app ?_ _; refine EndsOk.app ?_ _; exact one)
/-- Different instructions have different texts. -/
theorem text_inj (i o : InsnV) (hi : checkE i = 0) (ho : checkE o = 0) (h : textT i = textT o) : i = o := by
  have h1 := read_text i hi
  have h2 := read_text o ho
  rw [h, h2] at h1
  exact (Prod.mk.inj h1).1.symm
end Go.Proofs.YtdbpnbmaineniaaGreatDoor
namespace Go.Proofs.YtdbpnbmaineniaaGreatDoor
theorem insnW_ok (w : BitVec 32) (h : (insnW w).2 = 0) : checkE (insnW w).1 = 0 ∧ wordV (insnW w).1 = w := word_insn w h
theorem dumpT_len (w : BitVec 32) : (dumpT w).length ≤ 100 := by
  unfold dumpT
  split
  · rename_i h
    have hk := (insnW_ok w h).1
    unfold textT
    rw [if_pos hk]
    exact Nat.le_trans (body_len _ hk) (by decide)
  · rw [List.length_cons, hexL_len]; decide
theorem dumpT_bad (w : BitVec 32) (h : (insnW w).2 ≠ 0) : (dumpT w).length = 9 ∧ (dumpT w).headD 0 = 46 := by
  unfold dumpT
  rw [if_neg h]
  exact ⟨by rw [List.length_cons, hexL_len], rfl⟩
theorem dumpT_ok (w : BitVec 32) (h : (insnW w).2 = 0) : readB (bs (dumpT w)) = ((insnW w).1, 0) := by
  unfold dumpT
  rw [if_pos h]
  exact read_text _ (insnW_ok w h).1
theorem read_some (s : ByteArray) (h : (readB s).2 = 0) : checkE (readB s).1 = 0 ∧ textT (readB s).1 = s.toList := by
  unfold readB at h ⊢
  simp only at h ⊢
  split at h
  · cases h
  · rename_i hn
    rw [if_neg hn]
    refine ⟨?_, ?_⟩
    · exact Classical.byContradiction fun q => hn (.inr (.inl q))
    · exact Classical.byContradiction fun q => hn (.inr (.inr q))
theorem heads_dot : ((List.range 88).all fun n => n == 0 || ([true, false].all fun a => [true, false].all fun r => (headF (n : Nat) a r).headD 46 != 46)) = true := by decide +kernel
theorem head_app2 {a : List UInt8} (h : a.headD 46 ≠ 46) (b : List UInt8) : (a ++ b).headD 46 ≠ 46 := by
  cases a with
  | nil => exact absurd rfl h
  | cons c q => exact h
theorem body_dot (i : InsnV) (h : checkE i = 0) : (bodyT i).headD 46 ≠ 46 := by
  obtain ⟨q1, q2, q3, q4, q5, q6, f1, f12⟩ := ok_facts i h
  obtain ⟨o1, o2⟩ := ok_op i h
  have hd : (headT i).headD 46 ≠ 46 := by
    obtain ⟨m, hm⟩ := Int.eq_ofNat_of_zero_le (show 0 ≤ i.op by omega)
    have := List.all_eq_true.1 heads_dot m (List.mem_range.2 (by omega))
    rw [headT_isF, hm]
    simp only [List.all_cons, List.all_nil, Bool.and_true, Bool.and_eq_true, Bool.or_eq_true, beq_iff_eq, bne_iff_ne] at this
    rcases this with h0 | ⟨⟨h3, h4⟩, h5, h6⟩
    · omega
    · cases i.aq <;> cases i.rl
      · exact h6
      · exact h5
      · exact h4
      · exact h3
  have hn : i.op = 4 → headT i = (opOf i.op).name := fun h4 => by
    rcases q6 with q | q | q
    · rw [h4] at q; exact absurd q (by decide +kernel)
    · rw [h4] at q; exact absurd q (by decide +kernel)
    · exact head_bare i q.1 q.2
  unfold bodyT
  simp only
  repeat' split
  all_goals try simp only [List.append_assoc]
  all_goals first
    | exact hd
    | exact head_app2 hd _
    | (rename_i h4; rw [← hn h4]; exact head_app2 hd _)
theorem dumpT_no (w : BitVec 32) (h : (insnW w).2 ≠ 0) : (readB (bs (dumpT w))).2 ≠ 0 := fun e => by
  obtain ⟨h1, h2⟩ := read_some _ e
  have h3 := body_dot _ h1
  have h4 : textT (readB (bs (dumpT w))).1 = bodyT (readB (bs (dumpT w))).1 := if_pos h1
  rw [← h4, h2, bs_toList] at h3
  unfold dumpT at h3
  rw [if_neg h] at h3
  exact h3 rfl
end Go.Proofs.YtdbpnbmaineniaaGreatDoor
