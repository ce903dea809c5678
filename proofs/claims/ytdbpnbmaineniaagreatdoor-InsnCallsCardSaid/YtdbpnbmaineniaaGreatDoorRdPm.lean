/- Plain: whatever instruction's text is read by package insn's Read as that instruction; Read answers as the document says. No program in sight. Conditions: none. -/
import Derived.Test.YtdbpnbmaineniaaGreatDoorRdPl
set_option linter.unusedSimpArgs false
set_option linter.unusedVariables false
namespace Go.Proofs.YtdbpnbmaineniaaGreatDoor
theorem cut_bs (p l : List UInt8) : cutS p (bs l) = bs (Lib.trimPrefix l p) := by unfold cutS; rw [bs_data]; rfl
theorem cut_nil (p : List UInt8) (hp : p ≠ []) : cutS p (bs []) = bs [] := by
  rw [cut_bs]
  cases p with
  | nil => exact absurd rfl hp
  | cons a q => rfl
theorem cut_yes1 (a : UInt8) (q : List UInt8) : cutS [a] (bs (a :: q)) = bs q := by
  rw [cut_bs]; unfold Lib.trimPrefix Lib.hasPrefix; simp
theorem cut_yes2 (a b : UInt8) (q : List UInt8) : cutS [a, b] (bs (a :: b :: q)) = bs q := by
  rw [cut_bs]; unfold Lib.trimPrefix Lib.hasPrefix; simp
theorem cut_no (a : UInt8) (p : List UInt8) (c : UInt8) (q : List UInt8) (h : (a == c) = false) : cutS (a :: p) (bs (c :: q)) = bs (c :: q) := by
  rw [cut_bs]; unfold Lib.trimPrefix Lib.hasPrefix; simp [List.isPrefixOf, h]
theorem dig_range {c : UInt8} (h : isDig c = true) : 48 ≤ c.toNat ∧ c.toNat ≤ 57 := by
  unfold isDig at h; simpa using h
theorem dig_clean {c : UInt8} (h : isDig c = true) : c.toNat < 128 ∧ ([44, 40, 41] : List UInt8).contains c = false := by
  obtain ⟨h1, h2⟩ := dig_range h
  refine ⟨by omega, ?_⟩
  have key : ∀ d : UInt8, d.toNat < 48 → c ≠ d := fun d hd e => by rw [e] at h1; omega
  simp only [List.contains_cons, List.contains_nil, Bool.or_false, Bool.or_eq_false_iff, beq_eq_false_iff_ne]
  exact ⟨key 44 (by decide), key 40 (by decide), key 41 (by decide)⟩
def valF (acc : Nat) (l : List UInt8) : Nat := l.foldl (fun n c => n * 10 + (c.toNat - 48)) acc
theorem valF_ge : ∀ (l : List UInt8) (acc : Nat), acc ≤ valF acc l
  | [], acc => Nat.le_refl _
  | c :: l, acc => Nat.le_trans (show acc ≤ acc * 10 + (c.toNat - 48) by omega) (valF_ge l _)
theorem parseU_ok : ∀ (l : List UInt8) (acc : Nat), (∀ c ∈ l, isDig c = true) → valF acc l < 1000000000000 → Lib.parseUintM (2 ^ 64 - 1) acc l = .ok (valF acc l)
  | [], acc, _, _ => rfl
  | c :: l, acc, hd, hv => by
    have h1 := dig_range (hd c (by simp))
    have hge := valF_ge l (acc * 10 + (c.toNat - 48))
    have hv2 : valF (acc * 10 + (c.toNat - 48)) l < 1000000000000 := hv
    unfold Lib.parseUintM
    rw [if_pos h1, if_neg (by omega), if_neg (by omega)]
    exact parseU_ok l _ (fun d hm => hd d (by simp [hm])) hv2
theorem parse_dig (m : Nat) (h : m < 1000000000) : ∃ c r, digN m = c :: r ∧ c.toNat ≠ 43 ∧ c.toNat ≠ 45 ∧ Lib.parseUintB 64 (digN m) = .ok m := by
  obtain ⟨g1, -, g3, g4, -⟩ := digN_good m h
  have hp : Lib.parseUintB 64 (digN m) = .ok m := by
    unfold Lib.parseUintB
    rw [if_neg (fun e => by rw [e] at g4; exact absurd g4 (by decide)), parseU_ok (digN m) 0 g1 (by show valN (digN m) < _; rw [g3]; omega)]
    exact congrArg _ g3
  cases hd : digN m with
  | nil => rw [hd] at g4; exact absurd g4 (by decide)
  | cons c r =>
    have := dig_range (g1 c (by rw [hd]; simp))
    exact ⟨c, r, rfl, by omega, by omega, by rw [← hd]; exact hp⟩
theorem parse_pos (m : Nat) (h : m < 1000000000) : parseV (digN m) = (m : Int) := by
  obtain ⟨c, r, e, n43, n45, hp⟩ := parse_dig m h
  unfold parseV
  rw [e] at hp ⊢
  unfold Lib.parseIntB
  simp only [n43, n45, false_or, if_false, hp]
  rw [if_neg (by simp; omega), if_neg (by simp)]
theorem parse_neg (m : Nat) (h : m < 1000000000) : parseV (45 :: digN m) = -(m : Int) := by
  obtain ⟨c, r, e, n43, n45, hp⟩ := parse_dig m h
  unfold parseV
  unfold Lib.parseIntB
  have e45 : (45 : UInt8).toNat = 45 := by decide
  simp only [e45, or_true, if_true, hp]
  rw [if_neg (by simp), if_neg (by simp; omega)]
/-- What may follow a number. -/
def Stop3 (r : List UInt8) : Prop := r = [] ∨ ∃ c q, r = c :: q ∧ c.toNat < 128 ∧ ([44, 40, 41] : List UInt8).contains c = true
theorem num_pos (m : Nat) (h : m < 1000000000) (r : List UInt8) (hr : Stop3 r) : numS (bs (digN m ++ r)) = ((m : Int), bs r) := by
  obtain ⟨g1, -⟩ := digN_good m h
  obtain ⟨q1, q2⟩ := head_cut (sg := [44, 40, 41]) (a := digN m) (r := r) (fun c hc => dig_clean (g1 c hc)) hr
  unfold numS
  rw [q1, q2, bs_data, parse_pos m h]
theorem num_neg (m : Nat) (h : m < 1000000000) (r : List UInt8) (hr : Stop3 r) : numS (bs (45 :: digN m ++ r)) = (-(m : Int), bs r) := by
  obtain ⟨g1, -⟩ := digN_good m h
  obtain ⟨q1, q2⟩ := head_cut (sg := [44, 40, 41]) (a := 45 :: digN m) (r := r) (fun c hc => by
    rcases List.mem_cons.1 hc with rfl | hc
    · exact ⟨by decide, by decide⟩
    · exact dig_clean (g1 c hc)) hr
  unfold numS
  rw [q1, q2, bs_data, parse_neg m h]
theorem num_app (n : Int) (r : List UInt8) (h0 : -1000000000 < n) (h1 : n < 1000000000) (hr : Stop3 r) : numS (bs (signL n ++ r)) = (n, bs r) := by
  unfold signL
  by_cases hn : n < 0
  · rw [if_pos hn, num_neg n.natAbs (by omega) r hr]
    exact Prod.ext (by show -(n.natAbs : Int) = n; omega) rfl
  · rw [if_neg hn, num_pos n.natAbs (by omega) r hr]
    exact Prod.ext (by show (n.natAbs : Int) = n; omega) rfl
theorem stop_44 (q : List UInt8) : Stop3 (44 :: q) := .inr ⟨44, q, rfl, by decide, by decide⟩
theorem stop_40 (q : List UInt8) : Stop3 (40 :: q) := .inr ⟨40, q, rfl, by decide, by decide⟩
theorem stop_41 (q : List UInt8) : Stop3 (41 :: q) := .inr ⟨41, q, rfl, by decide, by decide⟩
theorem reg_num (n : Int) (r : List UInt8) (h0 : 0 ≤ n) (h1 : n ≤ 31) (hr : Stop3 r) : numS (cutS [120] (bs (regT n ++ r))) = (n, bs r) := by
  unfold regT
  rw [List.cons_append, cut_yes1, num_pos n.toNat (by omega) r hr]
  exact Prod.ext (by show (n.toNat : Int) = n; omega) rfl
theorem reg_c (n : Int) (q : List UInt8) (h0 : 0 ≤ n) (h1 : n ≤ 31) : regS (bs (regT n ++ (44 :: 32 :: q))) = (n, bs q) := by
  unfold regS
  have e : cutS [40] (bs (regT n ++ (44 :: 32 :: q))) = bs (regT n ++ (44 :: 32 :: q)) := by unfold regT; exact cut_no 40 [] 120 _ (by decide)
  rw [e, reg_num n _ h0 h1 (stop_44 _)]
  exact Prod.ext (by show min n 32 = n; omega) (by show cutS [44, 32] (cutS [41] (bs (44 :: 32 :: q))) = bs q; rw [cut_no 41 [] 44 _ (by decide), cut_yes2])
theorem reg_e (n : Int) (h0 : 0 ≤ n) (h1 : n ≤ 31) : regS (bs (regT n)) = (n, bs []) := by
  unfold regS
  have e : cutS [40] (bs (regT n)) = bs (regT n ++ []) := by rw [List.append_nil]; unfold regT; exact cut_no 40 [] 120 _ (by decide)
  rw [e, reg_num n _ h0 h1 (.inl rfl)]
  exact Prod.ext (by show min n 32 = n; omega) (by show cutS [44, 32] (cutS [41] (bs [])) = bs []; rw [cut_nil _ (by decide), cut_nil _ (by decide)])
theorem reg_p (n : Int) (h0 : 0 ≤ n) (h1 : n ≤ 31) : regS (bs (40 :: (regT n ++ [41]))) = (n, bs []) := by
  unfold regS
  rw [cut_yes1, reg_num n _ h0 h1 (stop_41 _)]
  exact Prod.ext (by show min n 32 = n; omega) (by show cutS [44, 32] (cutS [41] (bs [41])) = bs []; rw [cut_yes1, cut_nil _ (by decide)])
theorem imm_p (n : Int) (q : List UInt8) (h0 : -1000000000 < n) (h1 : n < 1000000000) : immS (bs (signL n ++ (40 :: q))) = (n, bs (40 :: q)) := by
  unfold immS
  rw [num_app n _ h0 h1 (stop_40 _)]
  exact Prod.ext rfl (cut_no 44 [32] 40 _ (by decide))
theorem imm_e (n : Int) (h0 : -1000000000 < n) (h1 : n < 1000000000) : immS (bs (signL n)) = (n, bs []) := by
  unfold immS
  have := num_app n [] h0 h1 (.inl rfl)
  rw [List.append_nil] at this
  rw [this]
  exact Prod.ext rfl (cut_nil _ (by decide))
theorem part_set : ((List.range 16).all fun n => (setF (bs (partT n)) (bs (partT n)).size 0 0 == (n : Int)) && ((partT n).all fun c => decide (c.toNat < 128) && !(([44] : List UInt8).contains c))) = true := by decide +kernel
theorem part_at (n : Nat) (h : n < 16) : setF (bs (partT n)) (bs (partT n)).size 0 0 = (n : Int) ∧ Clean [44] (partT n) := by
  have := List.all_eq_true.1 part_set n (List.mem_range.2 h)
  simp only [Bool.and_eq_true, beq_iff_eq] at this
  refine ⟨this.1, fun c hc => ?_⟩
  have := List.all_eq_true.1 this.2 c hc
  simpa using this
theorem set_c (n : Int) (q : List UInt8) (h0 : 0 ≤ n) (h1 : n ≤ 15) : setS (bs (partT n.toNat ++ (44 :: 32 :: q))) = (n, bs q) := by
  obtain ⟨k1, k2⟩ := part_at n.toNat (by omega)
  obtain ⟨q1, q2⟩ := head_cut (sg := [44]) (a := partT n.toNat) (r := 44 :: 32 :: q) k2 (.inr ⟨44, _, rfl, by decide, by decide⟩)
  unfold setS
  rw [q1, q2, k1, cut_yes2]
  exact Prod.ext (by show (n.toNat : Int) = n; omega) rfl
theorem set_e (n : Int) (h0 : 0 ≤ n) (h1 : n ≤ 15) : setS (bs (partT n.toNat)) = (n, bs []) := by
  obtain ⟨k1, k2⟩ := part_at n.toNat (by omega)
  obtain ⟨q1, q2⟩ := head_cut (sg := [44]) (a := partT n.toNat) (r := []) k2 (.inl rfl)
  rw [List.append_nil] at q1 q2
  unfold setS
  rw [q1, q2, k1, cut_nil _ (by decide)]
  exact Prod.ext (by show (n.toNat : Int) = n; omega) rfl
theorem heads_suf : ((List.range 88).all fun n => n == 0 || ([true, false].all fun a => [true, false].all fun r => (namedOf (sufS (bs (headF (n : Nat) a r))).1.toList == (n : Int)) && ((sufS (bs (headF (n : Nat) a r))).2.1 == a) && ((sufS (bs (headF (n : Nat) a r))).2.2 == r) && ((headF (n : Nat) a r).all fun c => decide (c.toNat < 128) && !(([32] : List UInt8).contains c)))) = true := by decide +kernel
theorem suf_at (op : Int) (aq rl : Bool) (h1 : 1 ≤ op) (h2 : op ≤ 87) : opS (bs (headF op aq rl)) = opI (op, aq, rl) ∧ Clean [32] (headF op aq rl) := by
  obtain ⟨m, rfl⟩ := Int.eq_ofNat_of_zero_le (show 0 ≤ op by omega)
  have := List.all_eq_true.1 heads_suf m (List.mem_range.2 (by omega))
  have key : ∀ a r, ((namedOf (sufS (bs (headF (m : Nat) a r))).1.toList == (m : Int)) && ((sufS (bs (headF (m : Nat) a r))).2.1 == a) && ((sufS (bs (headF (m : Nat) a r))).2.2 == r) && ((headF (m : Nat) a r).all fun c => decide (c.toNat < 128) && !(([32] : List UInt8).contains c))) = true → opS (bs (headF (m : Int) a r)) = opI ((m : Int), a, r) ∧ Clean [32] (headF (m : Int) a r) := fun a r h => by
    simp only [Bool.and_eq_true, beq_iff_eq] at h
    obtain ⟨⟨⟨e1, e2⟩, e3⟩, e4⟩ := h
    refine ⟨?_, fun c hc => ?_⟩
    · unfold opS opI; rw [e1, e2, e3]
    · have := List.all_eq_true.1 e4 c hc
      simpa using this
  simp only [List.all_cons, List.all_nil, Bool.and_true, Bool.or_eq_true, beq_iff_eq] at this
  rcases this with h0 | h
  · omega
  · have h := Bool.and_eq_true_iff.1 h
    have ha := Bool.and_eq_true_iff.1 h.1
    have hb := Bool.and_eq_true_iff.1 h.2
    cases aq <;> cases rl
    · exact key _ _ hb.2
    · exact key _ _ hb.1
    · exact key _ _ ha.2
    · exact key _ _ ha.1
theorem readP_some (i : InsnV) (h1 : 1 ≤ i.op) (h2 : i.op ≤ 87) (tail : List UInt8) : readP (bs (headT i ++ (32 :: tail))) = fieldsS (opOf i.op).form (opI (i.op, i.aq, i.rl)) (bs tail) := by
  obtain ⟨k1, k2⟩ := suf_at i.op i.aq i.rl h1 h2
  rw [← headT_isF] at k1 k2
  obtain ⟨q1, q2⟩ := head_cut (sg := [32]) (a := headT i) (r := 32 :: tail) k2 (.inr ⟨32, _, rfl, by decide, by decide⟩)
  unfold readP
  rw [q1, q2, k1, cut_yes1]
  rfl
theorem readP_sys (i : InsnV) (h1 : 1 ≤ i.op) (h2 : i.op ≤ 87) (hf : (opOf i.op).form = 10) : readP (bs (headT i)) = opI (i.op, i.aq, i.rl) := by
  obtain ⟨k1, k2⟩ := suf_at i.op i.aq i.rl h1 h2
  rw [← headT_isF] at k1 k2
  obtain ⟨q1, q2⟩ := head_cut (sg := [32]) (a := headT i) (r := []) k2 (.inl rfl)
  rw [List.append_nil] at q1 q2
  unfold readP
  rw [q1, q2, k1]
  show fieldsS (opOf i.op).form _ _ = _
  rw [hf]
  unfold fieldsS
  simp
theorem fieldsS_1 (i : InsnV) (s : Bool) (hi : -1000000000 < i.imm ∧ i.imm < 1000000000) (hr : (0 ≤ i.rd ∧ i.rd ≤ 31) ∧ (0 ≤ i.rs1 ∧ i.rs1 ≤ 31) ∧ (0 ≤ i.rs2 ∧ i.rs2 ≤ 31) ∧ (0 ≤ i.pred ∧ i.pred ≤ 15) ∧ (0 ≤ i.succ ∧ i.succ ≤ 15)) (h : formOk 1 s i = true) : fieldsS 1 (opI (i.op, i.aq, i.rl)) (bs (regT i.rd ++ (44 :: 32 :: (signL i.imm)))) = i := by
  obtain ⟨⟨d0, d1⟩, ⟨x0, x1⟩, ⟨y0, y1⟩, ⟨p0, p1⟩, ⟨s0, s1⟩⟩ := hr
  obtain ⟨i0, i1⟩ := hi
  have a0 : regS (bs (regT i.rd ++ (44 :: 32 :: (signL i.imm)))) = (i.rd, bs (signL i.imm)) := reg_c i.rd _ d0 d1
  have a1 : immS (bs (signL i.imm)) = (i.imm, bs []) := imm_e i.imm i0 i1
  unfold fieldsS
  rw [if_pos (by omega)]
  simp only [a0, a1]
  unfold formOk at h
  obtain ⟨op, rd, rs1, rs2, imm, aq, rl, pred, succ⟩ := i
  simp [badIn] at h
  simp only [opI, InsnV.mk.injEq, and_true, true_and]
  simp [h]
theorem fieldsS_2 (i : InsnV) (s : Bool) (hi : -1000000000 < i.imm ∧ i.imm < 1000000000) (hr : (0 ≤ i.rd ∧ i.rd ≤ 31) ∧ (0 ≤ i.rs1 ∧ i.rs1 ≤ 31) ∧ (0 ≤ i.rs2 ∧ i.rs2 ≤ 31) ∧ (0 ≤ i.pred ∧ i.pred ≤ 15) ∧ (0 ≤ i.succ ∧ i.succ ≤ 15)) (h : formOk 2 s i = true) : fieldsS 2 (opI (i.op, i.aq, i.rl)) (bs (regT i.rd ++ (44 :: 32 :: (signL i.imm)))) = i := by
  obtain ⟨⟨d0, d1⟩, ⟨x0, x1⟩, ⟨y0, y1⟩, ⟨p0, p1⟩, ⟨s0, s1⟩⟩ := hr
  obtain ⟨i0, i1⟩ := hi
  have a0 : regS (bs (regT i.rd ++ (44 :: 32 :: (signL i.imm)))) = (i.rd, bs (signL i.imm)) := reg_c i.rd _ d0 d1
  have a1 : immS (bs (signL i.imm)) = (i.imm, bs []) := imm_e i.imm i0 i1
  unfold fieldsS
  rw [if_pos (by omega)]
  simp only [a0, a1]
  unfold formOk at h
  obtain ⟨op, rd, rs1, rs2, imm, aq, rl, pred, succ⟩ := i
  simp [badIn] at h
  simp only [opI, InsnV.mk.injEq, and_true, true_and]
  simp [h]
theorem fieldsS_3n (i : InsnV) (s : Bool) (hi : -1000000000 < i.imm ∧ i.imm < 1000000000) (hr : (0 ≤ i.rd ∧ i.rd ≤ 31) ∧ (0 ≤ i.rs1 ∧ i.rs1 ≤ 31) ∧ (0 ≤ i.rs2 ∧ i.rs2 ≤ 31) ∧ (0 ≤ i.pred ∧ i.pred ≤ 15) ∧ (0 ≤ i.succ ∧ i.succ ≤ 15)) (h : formOk 3 s i = true) (ho : i.op ≠ 4) : fieldsS 3 (opI (i.op, i.aq, i.rl)) (bs (regT i.rd ++ (44 :: 32 :: (regT i.rs1 ++ (44 :: 32 :: (signL i.imm)))))) = i := by
  obtain ⟨⟨d0, d1⟩, ⟨x0, x1⟩, ⟨y0, y1⟩, ⟨p0, p1⟩, ⟨s0, s1⟩⟩ := hr
  obtain ⟨i0, i1⟩ := hi
  have a0 : regS (bs (regT i.rd ++ (44 :: 32 :: (regT i.rs1 ++ (44 :: 32 :: (signL i.imm)))))) = (i.rd, bs (regT i.rs1 ++ (44 :: 32 :: (signL i.imm)))) := reg_c i.rd _ d0 d1
  have a1 : regS (bs (regT i.rs1 ++ (44 :: 32 :: (signL i.imm)))) = (i.rs1, bs (signL i.imm)) := reg_c i.rs1 _ x0 x1
  have a2 : immS (bs (signL i.imm)) = (i.imm, bs []) := imm_e i.imm i0 i1
  have hoI : (opI (i.op, i.aq, i.rl)).op ≠ 4 := ho
  unfold fieldsS
  rw [if_neg (by omega), if_pos (by omega), if_neg (by omega)]
  simp only [a0, a1, a2]
  unfold formOk at h
  obtain ⟨op, rd, rs1, rs2, imm, aq, rl, pred, succ⟩ := i
  simp [badIn] at h
  simp only [opI, InsnV.mk.injEq, and_true, true_and]
  simp [h]
theorem fieldsS_7n (i : InsnV) (s : Bool) (hi : -1000000000 < i.imm ∧ i.imm < 1000000000) (hr : (0 ≤ i.rd ∧ i.rd ≤ 31) ∧ (0 ≤ i.rs1 ∧ i.rs1 ≤ 31) ∧ (0 ≤ i.rs2 ∧ i.rs2 ≤ 31) ∧ (0 ≤ i.pred ∧ i.pred ≤ 15) ∧ (0 ≤ i.succ ∧ i.succ ≤ 15)) (h : formOk 7 s i = true) (ho : i.op ≠ 4) : fieldsS 7 (opI (i.op, i.aq, i.rl)) (bs (regT i.rd ++ (44 :: 32 :: (regT i.rs1 ++ (44 :: 32 :: (signL i.imm)))))) = i := by
  obtain ⟨⟨d0, d1⟩, ⟨x0, x1⟩, ⟨y0, y1⟩, ⟨p0, p1⟩, ⟨s0, s1⟩⟩ := hr
  obtain ⟨i0, i1⟩ := hi
  have a0 : regS (bs (regT i.rd ++ (44 :: 32 :: (regT i.rs1 ++ (44 :: 32 :: (signL i.imm)))))) = (i.rd, bs (regT i.rs1 ++ (44 :: 32 :: (signL i.imm)))) := reg_c i.rd _ d0 d1
  have a1 : regS (bs (regT i.rs1 ++ (44 :: 32 :: (signL i.imm)))) = (i.rs1, bs (signL i.imm)) := reg_c i.rs1 _ x0 x1
  have a2 : immS (bs (signL i.imm)) = (i.imm, bs []) := imm_e i.imm i0 i1
  have hoI : (opI (i.op, i.aq, i.rl)).op ≠ 4 := ho
  unfold fieldsS
  rw [if_neg (by omega), if_pos (by omega), if_neg (by omega)]
  simp only [a0, a1, a2]
  unfold formOk at h
  obtain ⟨op, rd, rs1, rs2, imm, aq, rl, pred, succ⟩ := i
  simp [badIn] at h
  simp only [opI, InsnV.mk.injEq, and_true, true_and]
  simp [h]
theorem fieldsS_3j (i : InsnV) (s : Bool) (hi : -1000000000 < i.imm ∧ i.imm < 1000000000) (hr : (0 ≤ i.rd ∧ i.rd ≤ 31) ∧ (0 ≤ i.rs1 ∧ i.rs1 ≤ 31) ∧ (0 ≤ i.rs2 ∧ i.rs2 ≤ 31) ∧ (0 ≤ i.pred ∧ i.pred ≤ 15) ∧ (0 ≤ i.succ ∧ i.succ ≤ 15)) (h : formOk 3 s i = true) (ho : i.op = 4) : fieldsS 3 (opI (i.op, i.aq, i.rl)) (bs (regT i.rd ++ (44 :: 32 :: (signL i.imm ++ (40 :: (regT i.rs1 ++ [41])))))) = i := by
  obtain ⟨⟨d0, d1⟩, ⟨x0, x1⟩, ⟨y0, y1⟩, ⟨p0, p1⟩, ⟨s0, s1⟩⟩ := hr
  obtain ⟨i0, i1⟩ := hi
  have a0 : regS (bs (regT i.rd ++ (44 :: 32 :: (signL i.imm ++ (40 :: (regT i.rs1 ++ [41])))))) = (i.rd, bs (signL i.imm ++ (40 :: (regT i.rs1 ++ [41])))) := reg_c i.rd _ d0 d1
  have a1 : immS (bs (signL i.imm ++ (40 :: (regT i.rs1 ++ [41])))) = (i.imm, bs (40 :: (regT i.rs1 ++ [41]))) := imm_p i.imm _ i0 i1
  have a2 : regS (bs (40 :: (regT i.rs1 ++ [41]))) = (i.rs1, bs []) := reg_p i.rs1 x0 x1
  have hoI : (opI (i.op, i.aq, i.rl)).op = 4 := ho
  unfold fieldsS
  rw [if_neg (by omega), if_pos (by omega), if_pos (by omega)]
  simp only [a0, a1, a2]
  unfold formOk at h
  obtain ⟨op, rd, rs1, rs2, imm, aq, rl, pred, succ⟩ := i
  simp [badIn] at h
  simp only [opI, InsnV.mk.injEq, and_true, true_and]
  simp [h]
theorem fieldsS_4 (i : InsnV) (s : Bool) (hi : -1000000000 < i.imm ∧ i.imm < 1000000000) (hr : (0 ≤ i.rd ∧ i.rd ≤ 31) ∧ (0 ≤ i.rs1 ∧ i.rs1 ≤ 31) ∧ (0 ≤ i.rs2 ∧ i.rs2 ≤ 31) ∧ (0 ≤ i.pred ∧ i.pred ≤ 15) ∧ (0 ≤ i.succ ∧ i.succ ≤ 15)) (h : formOk 4 s i = true) : fieldsS 4 (opI (i.op, i.aq, i.rl)) (bs (regT i.rd ++ (44 :: 32 :: (signL i.imm ++ (40 :: (regT i.rs1 ++ [41])))))) = i := by
  obtain ⟨⟨d0, d1⟩, ⟨x0, x1⟩, ⟨y0, y1⟩, ⟨p0, p1⟩, ⟨s0, s1⟩⟩ := hr
  obtain ⟨i0, i1⟩ := hi
  have a0 : regS (bs (regT i.rd ++ (44 :: 32 :: (signL i.imm ++ (40 :: (regT i.rs1 ++ [41])))))) = (i.rd, bs (signL i.imm ++ (40 :: (regT i.rs1 ++ [41])))) := reg_c i.rd _ d0 d1
  have a1 : immS (bs (signL i.imm ++ (40 :: (regT i.rs1 ++ [41])))) = (i.imm, bs (40 :: (regT i.rs1 ++ [41]))) := imm_p i.imm _ i0 i1
  have a2 : regS (bs (40 :: (regT i.rs1 ++ [41]))) = (i.rs1, bs []) := reg_p i.rs1 x0 x1
  unfold fieldsS
  rw [if_neg (by omega), if_neg (by omega), if_pos (by omega)]
  simp only [a0, a1, a2]
  unfold formOk at h
  obtain ⟨op, rd, rs1, rs2, imm, aq, rl, pred, succ⟩ := i
  simp [badIn] at h
  simp only [opI, InsnV.mk.injEq, and_true, true_and]
  simp [h]
theorem fieldsS_5 (i : InsnV) (s : Bool) (hi : -1000000000 < i.imm ∧ i.imm < 1000000000) (hr : (0 ≤ i.rd ∧ i.rd ≤ 31) ∧ (0 ≤ i.rs1 ∧ i.rs1 ≤ 31) ∧ (0 ≤ i.rs2 ∧ i.rs2 ≤ 31) ∧ (0 ≤ i.pred ∧ i.pred ≤ 15) ∧ (0 ≤ i.succ ∧ i.succ ≤ 15)) (h : formOk 5 s i = true) : fieldsS 5 (opI (i.op, i.aq, i.rl)) (bs (regT i.rs2 ++ (44 :: 32 :: (signL i.imm ++ (40 :: (regT i.rs1 ++ [41])))))) = i := by
  obtain ⟨⟨d0, d1⟩, ⟨x0, x1⟩, ⟨y0, y1⟩, ⟨p0, p1⟩, ⟨s0, s1⟩⟩ := hr
  obtain ⟨i0, i1⟩ := hi
  have a0 : regS (bs (regT i.rs2 ++ (44 :: 32 :: (signL i.imm ++ (40 :: (regT i.rs1 ++ [41])))))) = (i.rs2, bs (signL i.imm ++ (40 :: (regT i.rs1 ++ [41])))) := reg_c i.rs2 _ y0 y1
  have a1 : immS (bs (signL i.imm ++ (40 :: (regT i.rs1 ++ [41])))) = (i.imm, bs (40 :: (regT i.rs1 ++ [41]))) := imm_p i.imm _ i0 i1
  have a2 : regS (bs (40 :: (regT i.rs1 ++ [41]))) = (i.rs1, bs []) := reg_p i.rs1 x0 x1
  unfold fieldsS
  rw [if_neg (by omega), if_neg (by omega), if_neg (by omega), if_pos (by omega)]
  simp only [a0, a1, a2]
  unfold formOk at h
  obtain ⟨op, rd, rs1, rs2, imm, aq, rl, pred, succ⟩ := i
  simp [badIn] at h
  simp only [opI, InsnV.mk.injEq, and_true, true_and]
  simp [h]
theorem fieldsS_6 (i : InsnV) (s : Bool) (hi : -1000000000 < i.imm ∧ i.imm < 1000000000) (hr : (0 ≤ i.rd ∧ i.rd ≤ 31) ∧ (0 ≤ i.rs1 ∧ i.rs1 ≤ 31) ∧ (0 ≤ i.rs2 ∧ i.rs2 ≤ 31) ∧ (0 ≤ i.pred ∧ i.pred ≤ 15) ∧ (0 ≤ i.succ ∧ i.succ ≤ 15)) (h : formOk 6 s i = true) : fieldsS 6 (opI (i.op, i.aq, i.rl)) (bs (regT i.rs1 ++ (44 :: 32 :: (regT i.rs2 ++ (44 :: 32 :: (signL i.imm)))))) = i := by
  obtain ⟨⟨d0, d1⟩, ⟨x0, x1⟩, ⟨y0, y1⟩, ⟨p0, p1⟩, ⟨s0, s1⟩⟩ := hr
  obtain ⟨i0, i1⟩ := hi
  have a0 : regS (bs (regT i.rs1 ++ (44 :: 32 :: (regT i.rs2 ++ (44 :: 32 :: (signL i.imm)))))) = (i.rs1, bs (regT i.rs2 ++ (44 :: 32 :: (signL i.imm)))) := reg_c i.rs1 _ x0 x1
  have a1 : regS (bs (regT i.rs2 ++ (44 :: 32 :: (signL i.imm)))) = (i.rs2, bs (signL i.imm)) := reg_c i.rs2 _ y0 y1
  have a2 : immS (bs (signL i.imm)) = (i.imm, bs []) := imm_e i.imm i0 i1
  unfold fieldsS
  rw [if_neg (by omega), if_neg (by omega), if_neg (by omega), if_neg (by omega), if_pos (by omega)]
  simp only [a0, a1, a2]
  unfold formOk at h
  obtain ⟨op, rd, rs1, rs2, imm, aq, rl, pred, succ⟩ := i
  simp [badIn] at h
  simp only [opI, InsnV.mk.injEq, and_true, true_and]
  simp [h]
theorem fieldsS_8 (i : InsnV) (s : Bool) (hi : -1000000000 < i.imm ∧ i.imm < 1000000000) (hr : (0 ≤ i.rd ∧ i.rd ≤ 31) ∧ (0 ≤ i.rs1 ∧ i.rs1 ≤ 31) ∧ (0 ≤ i.rs2 ∧ i.rs2 ≤ 31) ∧ (0 ≤ i.pred ∧ i.pred ≤ 15) ∧ (0 ≤ i.succ ∧ i.succ ≤ 15)) (h : formOk 8 s i = true) : fieldsS 8 (opI (i.op, i.aq, i.rl)) (bs (regT i.rd ++ (44 :: 32 :: (regT i.rs1 ++ (44 :: 32 :: (regT i.rs2)))))) = i := by
  obtain ⟨⟨d0, d1⟩, ⟨x0, x1⟩, ⟨y0, y1⟩, ⟨p0, p1⟩, ⟨s0, s1⟩⟩ := hr
  obtain ⟨i0, i1⟩ := hi
  have a0 : regS (bs (regT i.rd ++ (44 :: 32 :: (regT i.rs1 ++ (44 :: 32 :: (regT i.rs2)))))) = (i.rd, bs (regT i.rs1 ++ (44 :: 32 :: (regT i.rs2)))) := reg_c i.rd _ d0 d1
  have a1 : regS (bs (regT i.rs1 ++ (44 :: 32 :: (regT i.rs2)))) = (i.rs1, bs (regT i.rs2)) := reg_c i.rs1 _ x0 x1
  have a2 : regS (bs (regT i.rs2)) = (i.rs2, bs []) := reg_e i.rs2 y0 y1
  unfold fieldsS
  rw [if_neg (by omega), if_neg (by omega), if_neg (by omega), if_neg (by omega), if_neg (by omega), if_pos (by omega)]
  simp only [a0, a1, a2]
  unfold formOk at h
  obtain ⟨op, rd, rs1, rs2, imm, aq, rl, pred, succ⟩ := i
  simp [badIn] at h
  simp only [opI, InsnV.mk.injEq, and_true, true_and]
  simp [h]
theorem fieldsS_9 (i : InsnV) (s : Bool) (hi : -1000000000 < i.imm ∧ i.imm < 1000000000) (hr : (0 ≤ i.rd ∧ i.rd ≤ 31) ∧ (0 ≤ i.rs1 ∧ i.rs1 ≤ 31) ∧ (0 ≤ i.rs2 ∧ i.rs2 ≤ 31) ∧ (0 ≤ i.pred ∧ i.pred ≤ 15) ∧ (0 ≤ i.succ ∧ i.succ ≤ 15)) (h : formOk 9 s i = true) : fieldsS 9 (opI (i.op, i.aq, i.rl)) (bs (partT i.pred.toNat ++ (44 :: 32 :: (partT i.succ.toNat)))) = i := by
  obtain ⟨⟨d0, d1⟩, ⟨x0, x1⟩, ⟨y0, y1⟩, ⟨p0, p1⟩, ⟨s0, s1⟩⟩ := hr
  obtain ⟨i0, i1⟩ := hi
  have a0 : setS (bs (partT i.pred.toNat ++ (44 :: 32 :: (partT i.succ.toNat)))) = (i.pred, bs (partT i.succ.toNat)) := set_c i.pred _ p0 p1
  have a1 : setS (bs (partT i.succ.toNat)) = (i.succ, bs []) := set_e i.succ s0 s1
  unfold fieldsS
  rw [if_neg (by omega), if_neg (by omega), if_neg (by omega), if_neg (by omega), if_neg (by omega), if_neg (by omega), if_pos (by omega)]
  simp only [a0, a1]
  unfold formOk at h
  obtain ⟨op, rd, rs1, rs2, imm, aq, rl, pred, succ⟩ := i
  simp [badIn] at h
  simp only [opI, InsnV.mk.injEq, and_true, true_and]
  simp [h]
theorem fieldsS_11 (i : InsnV) (s : Bool) (hi : -1000000000 < i.imm ∧ i.imm < 1000000000) (hr : (0 ≤ i.rd ∧ i.rd ≤ 31) ∧ (0 ≤ i.rs1 ∧ i.rs1 ≤ 31) ∧ (0 ≤ i.rs2 ∧ i.rs2 ≤ 31) ∧ (0 ≤ i.pred ∧ i.pred ≤ 15) ∧ (0 ≤ i.succ ∧ i.succ ≤ 15)) (h : formOk 11 s i = true) : fieldsS 11 (opI (i.op, i.aq, i.rl)) (bs (regT i.rd ++ (44 :: 32 :: (40 :: (regT i.rs1 ++ [41]))))) = i := by
  obtain ⟨⟨d0, d1⟩, ⟨x0, x1⟩, ⟨y0, y1⟩, ⟨p0, p1⟩, ⟨s0, s1⟩⟩ := hr
  obtain ⟨i0, i1⟩ := hi
  have a0 : regS (bs (regT i.rd ++ (44 :: 32 :: (40 :: (regT i.rs1 ++ [41]))))) = (i.rd, bs (40 :: (regT i.rs1 ++ [41]))) := reg_c i.rd _ d0 d1
  have a1 : regS (bs (40 :: (regT i.rs1 ++ [41]))) = (i.rs1, bs []) := reg_p i.rs1 x0 x1
  unfold fieldsS
  rw [if_neg (by omega), if_neg (by omega), if_neg (by omega), if_neg (by omega), if_neg (by omega), if_neg (by omega), if_neg (by omega), if_pos (by omega)]
  simp only [a0, a1]
  unfold formOk at h
  obtain ⟨op, rd, rs1, rs2, imm, aq, rl, pred, succ⟩ := i
  simp [badIn] at h
  simp only [opI, InsnV.mk.injEq, and_true, true_and]
  simp [h]
theorem fieldsS_12 (i : InsnV) (s : Bool) (hi : -1000000000 < i.imm ∧ i.imm < 1000000000) (hr : (0 ≤ i.rd ∧ i.rd ≤ 31) ∧ (0 ≤ i.rs1 ∧ i.rs1 ≤ 31) ∧ (0 ≤ i.rs2 ∧ i.rs2 ≤ 31) ∧ (0 ≤ i.pred ∧ i.pred ≤ 15) ∧ (0 ≤ i.succ ∧ i.succ ≤ 15)) (h : formOk 12 s i = true) : fieldsS 12 (opI (i.op, i.aq, i.rl)) (bs (regT i.rd ++ (44 :: 32 :: (regT i.rs2 ++ (44 :: 32 :: (40 :: (regT i.rs1 ++ [41]))))))) = i := by
  obtain ⟨⟨d0, d1⟩, ⟨x0, x1⟩, ⟨y0, y1⟩, ⟨p0, p1⟩, ⟨s0, s1⟩⟩ := hr
  obtain ⟨i0, i1⟩ := hi
  have a0 : regS (bs (regT i.rd ++ (44 :: 32 :: (regT i.rs2 ++ (44 :: 32 :: (40 :: (regT i.rs1 ++ [41]))))))) = (i.rd, bs (regT i.rs2 ++ (44 :: 32 :: (40 :: (regT i.rs1 ++ [41]))))) := reg_c i.rd _ d0 d1
  have a1 : regS (bs (regT i.rs2 ++ (44 :: 32 :: (40 :: (regT i.rs1 ++ [41]))))) = (i.rs2, bs (40 :: (regT i.rs1 ++ [41]))) := reg_c i.rs2 _ y0 y1
  have a2 : regS (bs (40 :: (regT i.rs1 ++ [41]))) = (i.rs1, bs []) := reg_p i.rs1 x0 x1
  unfold fieldsS
  rw [if_neg (by omega), if_neg (by omega), if_neg (by omega), if_neg (by omega), if_neg (by omega), if_neg (by omega), if_neg (by omega), if_neg (by omega), if_pos (by omega)]
  simp only [a0, a1, a2]
  unfold formOk at h
  obtain ⟨op, rd, rs1, rs2, imm, aq, rl, pred, succ⟩ := i
  simp [badIn] at h
  simp only [opI, InsnV.mk.injEq, and_true, true_and]
  simp [h]
theorem readP_text (i : InsnV) (h : checkE i = 0) : readP (bs (bodyT i)) = i := by
  have hi := imm_small i h
  obtain ⟨q1, q2, q3, q4, q5, q6, f1, f12⟩ := ok_facts i h
  have hr := And.intro q1 (And.intro q2 (And.intro q3 (And.intro q4 q5)))
  have hok : checkOk i = true := by
    unfold checkE at h
    cases hk : checkOk i with
    | true => rfl
    | false => rw [hk] at h; cases h
  unfold checkOk at hok
  have ho : 1 ≤ i.op ∧ i.op ≤ 87 := by
    by_cases h0 : i.op < 1
    · unfold opOf at f1; rw [if_pos h0] at f1; exact absurd f1 (by decide)
    · by_cases h8 : 87 < i.op
      · rw [opOf_big i.op h8] at f1; exact absurd f1 (by decide)
      · omega
  obtain ⟨o1, o87⟩ := ho
  obtain ⟨f, hf⟩ : ∃ f, (opOf i.op).form = f := ⟨_, rfl⟩
  have hb : bodyT i = bodyT i := rfl
  conv at hb => rhs; unfold bodyT
  rw [hf] at hb hok f1 f12 q6
  rcases (show f = 1 ∨ f = 2 ∨ f = 3 ∨ f = 4 ∨ f = 5 ∨ f = 6 ∨ f = 7 ∨ f = 8 ∨ f = 9 ∨ f = 10 ∨ f = 11 ∨ f = 12 by omega) with rfl | rfl | rfl | rfl | rfl | rfl | rfl | rfl | rfl | rfl | rfl | rfl
  · have e : bodyT i = headT i ++ (32 :: (regT i.rd ++ (44 :: 32 :: (signL i.imm)))) := by rw [hb]; simp
    rw [e, readP_some i o1 o87, hf]
    exact fieldsS_1 i _ hi hr hok
  · have e : bodyT i = headT i ++ (32 :: (regT i.rd ++ (44 :: 32 :: (signL i.imm)))) := by rw [hb]; simp
    rw [e, readP_some i o1 o87, hf]
    exact fieldsS_2 i _ hi hr hok
  · by_cases h4 : i.op = 4
    · have hbare : headT i = (opOf i.op).name := by
        rcases q6 with q | q | q
        · omega
        · omega
        · exact head_bare i q.1 q.2
      have e : bodyT i = headT i ++ (32 :: (regT i.rd ++ (44 :: 32 :: (signL i.imm ++ (40 :: (regT i.rs1 ++ [41])))))) := by rw [hb]; simp [h4, hbare]
      rw [e, readP_some i o1 o87, hf]
      exact fieldsS_3j i _ hi hr hok h4
    · have e : bodyT i = headT i ++ (32 :: (regT i.rd ++ (44 :: 32 :: (regT i.rs1 ++ (44 :: 32 :: (signL i.imm)))))) := by rw [hb]; simp [h4]
      rw [e, readP_some i o1 o87, hf]
      exact fieldsS_3n i _ hi hr hok h4
  · have e : bodyT i = headT i ++ (32 :: (regT i.rd ++ (44 :: 32 :: (signL i.imm ++ (40 :: (regT i.rs1 ++ [41])))))) := by rw [hb]; simp
    rw [e, readP_some i o1 o87, hf]
    exact fieldsS_4 i _ hi hr hok
  · have e : bodyT i = headT i ++ (32 :: (regT i.rs2 ++ (44 :: 32 :: (signL i.imm ++ (40 :: (regT i.rs1 ++ [41])))))) := by rw [hb]; simp
    rw [e, readP_some i o1 o87, hf]
    exact fieldsS_5 i _ hi hr hok
  · have e : bodyT i = headT i ++ (32 :: (regT i.rs1 ++ (44 :: 32 :: (regT i.rs2 ++ (44 :: 32 :: (signL i.imm)))))) := by rw [hb]; simp
    rw [e, readP_some i o1 o87, hf]
    exact fieldsS_6 i _ hi hr hok
  · have h4 : i.op ≠ 4 := fun e => by rw [e] at hf; revert hf; decide +kernel
    have e : bodyT i = headT i ++ (32 :: (regT i.rd ++ (44 :: 32 :: (regT i.rs1 ++ (44 :: 32 :: (signL i.imm)))))) := by rw [hb]; simp [h4]
    rw [e, readP_some i o1 o87, hf]
    exact fieldsS_7n i _ hi hr hok h4
  · have e : bodyT i = headT i ++ (32 :: (regT i.rd ++ (44 :: 32 :: (regT i.rs1 ++ (44 :: 32 :: (regT i.rs2)))))) := by rw [hb]; simp
    rw [e, readP_some i o1 o87, hf]
    exact fieldsS_8 i _ hi hr hok
  · have e : bodyT i = headT i ++ (32 :: (partT i.pred.toNat ++ (44 :: 32 :: (partT i.succ.toNat)))) := by rw [hb]; simp
    rw [e, readP_some i o1 o87, hf]
    exact fieldsS_9 i _ hi hr hok
  · have e : bodyT i = headT i := by rw [hb]; simp
    rw [e, readP_sys i o1 o87 hf]
    unfold formOk at hok
    obtain ⟨op, rd, rs1, rs2, imm, aq, rl, pred, succ⟩ := i
    simp [badIn] at hok
    simp only [opI, InsnV.mk.injEq, and_true, true_and]
    simp [hok]
  · have e : bodyT i = headT i ++ (32 :: (regT i.rd ++ (44 :: 32 :: (40 :: (regT i.rs1 ++ [41]))))) := by rw [hb]; simp
    rw [e, readP_some i o1 o87, hf]
    exact fieldsS_11 i _ hi hr hok
  · have e : bodyT i = headT i ++ (32 :: (regT i.rd ++ (44 :: 32 :: (regT i.rs2 ++ (44 :: 32 :: (40 :: (regT i.rs1 ++ [41]))))))) := by rw [hb]; simp
    rw [e, readP_some i o1 o87, hf]
    exact fieldsS_12 i _ hi hr hok
theorem readR_text (i : InsnV) (h : checkE i = 0) : readR (bs (textT i)) = (i, 0) := by
  have ht : textT i = bodyT i := if_pos h
  unfold readR
  rw [ht, readP_text i h, if_pos ⟨h, by rw [ht, bs_toList]⟩]
theorem bs_of (s : ByteArray) : bs s.toList = s := by
  rw [ba_toList]; rfl
/-- Read answers as the document says. -/
theorem readR_readB (s : ByteArray) : readR s = readB s := by
  by_cases h : (readB s).2 = 0
  · obtain ⟨h1, h2⟩ := (show checkE (readB s).1 = 0 ∧ textT (readB s).1 = s.toList by
      unfold readB at h ⊢
      simp only at h ⊢
      split at h
      · cases h
      · rename_i hn
        rw [if_neg hn]
        exact ⟨Classical.byContradiction fun q => hn (.inr (.inl q)), Classical.byContradiction fun q => hn (.inr (.inr q))⟩)
    have := readR_text (readB s).1 h1
    rw [h2, bs_of] at this
    rw [this]
    exact Prod.ext rfl h.symm
  · have hz : readB s = (zeroI, 4) := by
      unfold readB at h ⊢
      simp only at h ⊢
      split
      · rfl
      · rename_i hn; rw [if_neg hn] at h; exact absurd rfl h
    rw [hz]
    unfold readR
    rw [if_neg]
    intro ⟨h1, h2⟩
    have := read_text (readP s) h1
    rw [h2, bs_of, hz] at this
    have := congrArg Prod.snd this
    cases this
end Go.Proofs.YtdbpnbmaineniaaGreatDoor
