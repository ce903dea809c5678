/- Plain: the shape of an instruction's text: its name, its flags, its commas, its parentheses. No program in sight. Conditions: none. -/
import Derived.Test.YtdbpnbmaineniaaGreatDoorTextAB
import Derived.Test.YtdbpnbmaineniaaGreatDoorInsnDf
import Derived.Lib.ItoaNum
set_option linter.unusedSimpArgs false
set_option linter.unusedVariables false
namespace Go.Proofs.YtdbpnbmaineniaaGreatDoor
/-- No comma, no parenthesis. -/
def bareL (l : List UInt8) : Prop := ∀ c ∈ l, c ≠ 44 ∧ c ≠ 40 ∧ c ≠ 41
theorem bareL_count {l : List UInt8} (h : bareL l) : l.count 44 = 0 ∧ l.count 40 = 0 ∧ l.count 41 = 0 :=
  ⟨List.count_eq_zero.2 fun m => (h _ m).1 rfl, List.count_eq_zero.2 fun m => (h _ m).2.1 rfl, List.count_eq_zero.2 fun m => (h _ m).2.2 rfl⟩
theorem bareL_app {a b : List UInt8} (ha : bareL a) (hb : bareL b) : bareL (a ++ b) := fun c hc => (List.mem_append.1 hc).elim (ha c) (hb c)
theorem digit_bare (n : Nat) : UInt8.ofNat (48 + n % 10) ≠ 44 ∧ UInt8.ofNat (48 + n % 10) ≠ 40 ∧ UInt8.ofNat (48 + n % 10) ≠ 41 := by
  have : ∀ k : Fin 10, UInt8.ofNat (48 + k.1) ≠ 44 ∧ UInt8.ofNat (48 + k.1) ≠ 40 ∧ UInt8.ofNat (48 + k.1) ≠ 41 := by decide
  exact this ⟨n % 10, Nat.mod_lt _ (by decide)⟩
theorem digF_bare : ∀ k n, bareL (digF k n)
  | 0, n => fun c hc => by
    rw [List.mem_singleton.1 hc]; exact digit_bare n
  | k + 1, n => by
    unfold digF
    split
    · exact bareL_app (digF_bare k _) (fun c hc => by rw [List.mem_singleton.1 hc]; exact digit_bare n)
    · exact fun c hc => by rw [List.mem_singleton.1 hc]; exact digit_bare n
theorem digN_bare (n : Nat) : bareL (digN n) := digF_bare 20 n
theorem regT_bare (n : Int) : bareL (regT n) := fun c hc => by
  unfold regT at hc
  rcases List.mem_cons.1 hc with rfl | h
  · decide
  · exact digN_bare _ c h
theorem signL_bare (n : Int) : bareL (signL n) := fun c hc => by
  unfold signL at hc
  split at hc
  · rcases List.mem_cons.1 hc with rfl | h
    · decide
    · exact digN_bare _ c h
  · exact digN_bare _ c hc
theorem partK_bare (n : Nat) : ∀ k, k ≤ 4 → bareL (partK n k)
  | 0, _ => fun c hc => by simp [partK] at hc
  | k + 1, hk => by
    unfold partK
    split
    · refine bareL_app (partK_bare n k (by omega)) (fun c hc => ?_)
      simp only [List.mem_singleton] at hc
      subst hc
      rcases (show k = 0 ∨ k = 1 ∨ k = 2 ∨ k = 3 by omega) with rfl | rfl | rfl | rfl <;> decide
    · exact partK_bare n k (by omega)
theorem partT_bare (n : Nat) : bareL (partT n) := by
  unfold partT
  split
  · exact fun c hc => by simp at hc; subst hc; decide
  · exact partK_bare n 4 (Nat.le_refl 4)
theorem names_bare : ((List.range 88).all fun n => (opOf (n : Int)).name.all fun c => c != 44 && c != 40 && c != 41) = true := by decide +kernel
theorem name_bare (n : Int) (h : (opOf n).form ≠ 0) : bareL (opOf n).name := by
  by_cases h0 : n < 1
  · exact absurd (by unfold opOf; rw [if_pos h0]; rfl) h
  · by_cases h1 : 87 < n
    · exact absurd (by rw [opOf_big n h1]; rfl) h
    · obtain ⟨m, rfl⟩ := Int.eq_ofNat_of_zero_le (show 0 ≤ n by omega)
      intro c hc
      have := List.all_eq_true.1 (List.all_eq_true.1 names_bare m (List.mem_range.2 (by omega))) c hc
      simp only [Bool.and_eq_true, bne_iff_ne, ne_eq] at this
      exact ⟨this.1.1, this.1.2, this.2⟩
theorem two_digits (n : Nat) (h : n < 100) : (digN n).length ≤ 2 := by
  have : ∀ k : Fin 100, (digN k.1).length ≤ 2 := by decide +kernel
  exact this ⟨n, h⟩
theorem regT_lenS (n : Int) (h0 : 0 ≤ n) (h : n ≤ 31) : (regT n).length ≤ 3 := by
  unfold regT
  have := two_digits n.toNat (by omega)
  simp; omega
theorem signL_lenS (n : Int) : (signL n).length ≤ 22 := by
  unfold signL
  have := digN_len n.natAbs
  split <;> simp <;> omega
theorem partT_lenS (n : Nat) : (partT n).length ≤ 4 := by
  unfold partT
  have := partK_len n 4
  split
  · decide
  · exact this
/-- A number's digits are the library's. -/
theorem digN_dec : ∀ n : Nat, n < 2 ^ 64 → digN n = Lib.decDigits n := by
  intro n
  induction n using Nat.strongRecOn with
  | ind n ih =>
    intro h
    rw [digN_step n h, Lib.decDigits]
    by_cases h9 : 9 < n
    · rw [if_pos h9, dif_neg (by omega), ih (n / 10) (by omega) (by omega)]
    · rw [if_neg h9, dif_pos (by omega), Nat.mod_eq_of_lt (by omega)]
theorem signL_itoa (n : Int) (h0 : -9223372036854775808 ≤ n) (h1 : n ≤ 9223372036854775807) : signL n = Lib.itoa n := by
  unfold signL Lib.itoa
  by_cases h : n < 0
  · rw [if_pos h, if_pos h, digN_dec _ (by omega)]
  · rw [if_neg h, if_neg h, show n.natAbs = n.toNat by omega, digN_dec _ (by omega)]
theorem regT_itoa (n : Int) (h0 : 0 ≤ n) (h1 : n ≤ 31) : regT n = 120 :: Lib.itoa n := by
  unfold regT Lib.itoa
  rw [if_neg (by omega), digN_dec _ (by omega)]
/-- The flags behind a name. -/
def flagT (aq rl : Bool) : List UInt8 := (if aq || rl then [46] else []) ++ (if aq then [97, 113] else []) ++ (if rl then [114, 108] else [])
theorem headT_eq (i : InsnV) : headT i = (opOf i.op).name ++ flagT i.aq i.rl := by
  unfold headT flagT
  cases i.aq <;> cases i.rl <;> simp
theorem flagT_bare (aq rl : Bool) : bareL (flagT aq rl) := by
  cases aq <;> cases rl <;> (unfold flagT bareL; simp)
theorem flagT_len (aq rl : Bool) : (flagT aq rl).length ≤ 5 := by cases aq <;> cases rl <;> decide
/-- The operands behind the name, with the space. -/
def tailT (i : InsnV) : List UInt8 :=
  let f := (opOf i.op).form
  if f = 1 ∨ f = 2 then [32] ++ regT i.rd ++ [44, 32] ++ signL i.imm
  else if f = 3 ∨ f = 7 then if i.op = 4 then [32] ++ regT i.rd ++ [44, 32] ++ signL i.imm ++ [40] ++ regT i.rs1 ++ [41] else [32] ++ regT i.rd ++ [44, 32] ++ regT i.rs1 ++ [44, 32] ++ signL i.imm
  else if f = 4 then [32] ++ regT i.rd ++ [44, 32] ++ signL i.imm ++ [40] ++ regT i.rs1 ++ [41]
  else if f = 5 then [32] ++ regT i.rs2 ++ [44, 32] ++ signL i.imm ++ [40] ++ regT i.rs1 ++ [41]
  else if f = 6 then [32] ++ regT i.rs1 ++ [44, 32] ++ regT i.rs2 ++ [44, 32] ++ signL i.imm
  else if f = 8 then [32] ++ regT i.rd ++ [44, 32] ++ regT i.rs1 ++ [44, 32] ++ regT i.rs2
  else if f = 9 then [32] ++ partT i.pred.toNat ++ [44, 32] ++ partT i.succ.toNat
  else if f = 11 then [32] ++ regT i.rd ++ [44, 32, 40] ++ regT i.rs1 ++ [41]
  else if f = 12 then [32] ++ regT i.rd ++ [44, 32] ++ regT i.rs2 ++ [44, 32, 40] ++ regT i.rs1 ++ [41]
  else []
theorem body_eq (i : InsnV) (h : checkE i = 0) : bodyT i = (opOf i.op).name ++ flagT i.aq i.rl ++ tailT i := by
  have hfl := (ok_facts i h).2.2.2.2.2.1
  unfold bodyT tailT
  simp only [headT_eq]
  by_cases h12 : (opOf i.op).form = 1 ∨ (opOf i.op).form = 2
  · rw [if_pos h12, if_pos h12]; simp [List.append_assoc]
  rw [if_neg h12, if_neg h12]
  by_cases h37 : (opOf i.op).form = 3 ∨ (opOf i.op).form = 7
  · rw [if_pos h37, if_pos h37]
    by_cases h4 : i.op = 4
    · rw [if_pos h4, if_pos h4]
      have : i.aq = false ∧ i.rl = false := by
        rcases hfl with e | e | e
        · omega
        · omega
        · exact e
      rw [this.1, this.2, show flagT false false = [] from rfl]; simp [List.append_assoc]
    · rw [if_neg h4, if_neg h4]; simp [List.append_assoc]
  rw [if_neg h37, if_neg h37]
  repeat' split
  all_goals simp [List.append_assoc]
/-- How many commas, how many parentheses. -/
def commasV (i : InsnV) : Nat := let f := (opOf i.op).form; if i.op = 4 ∨ f = 4 ∨ f = 5 ∨ f = 11 then 1 else if f = 1 ∨ f = 2 ∨ f = 9 then 1 else if f = 10 then 0 else 2
def opensV (i : InsnV) : Nat := let f := (opOf i.op).form; if i.op = 4 ∨ f = 4 ∨ f = 5 ∨ f = 11 then 1 else if f = 1 ∨ f = 2 ∨ f = 9 then 0 else if f = 10 then 0 else if f = 12 then 1 else 0
theorem form_4 : (opOf 4).form = 3 := by decide +kernel
theorem tail_count (i : InsnV) (h : checkE i = 0) : (tailT i).count 44 = commasV i ∧ (tailT i).count 40 = opensV i ∧ (tailT i).count 41 = opensV i := by
  obtain ⟨-, -, -, -, -, -, f1, f12⟩ := ok_facts i h
  have a := bareL_count (regT_bare i.rd)
  have b := bareL_count (regT_bare i.rs1)
  have c := bareL_count (regT_bare i.rs2)
  have d := bareL_count (signL_bare i.imm)
  have e := bareL_count (partT_bare i.pred.toNat)
  have g := bareL_count (partT_bare i.succ.toNat)
  have h4 : i.op = 4 → (opOf i.op).form = 3 := fun q => by rw [q]; exact form_4
  unfold tailT commasV opensV
  generalize (opOf i.op).form = f at *
  rcases (show f = 1 ∨ f = 2 ∨ f = 3 ∨ f = 4 ∨ f = 5 ∨ f = 6 ∨ f = 7 ∨ f = 8 ∨ f = 9 ∨ f = 10 ∨ f = 11 ∨ f = 12 by omega) with rfl | rfl | rfl | rfl | rfl | rfl | rfl | rfl | rfl | rfl | rfl | rfl <;> by_cases q : i.op = 4 <;> first | (exfalso; have := h4 q; omega) | simp [q, List.count_append, List.count_cons, a, b, c, d, e, g]
theorem body_len (i : InsnV) (h : checkE i = 0) : (bodyT i).length ≤ 60 := by
  obtain ⟨r1, r2, r3, -, -, -, f1, f12⟩ := ok_facts i h
  have hn := (info_op i.op).2.2
  have hf := flagT_len i.aq i.rl
  have a := regT_lenS i.rd r1.1 r1.2
  have b := regT_lenS i.rs1 r2.1 r2.2
  have c := regT_lenS i.rs2 r3.1 r3.2
  have d := signL_lenS i.imm
  have e := partT_lenS i.pred.toNat
  have g := partT_lenS i.succ.toNat
  rw [body_eq i h]
  unfold tailT
  simp only
  repeat' split
  all_goals (simp; omega)
/-- What stands behind the name. -/
theorem tail_head (i : InsnV) (h : checkE i = 0) : ((opOf i.op).form = 10 ∧ tailT i = []) ∨ ((opOf i.op).form ≠ 10 ∧ ∃ t, tailT i = 32 :: t) := by
  obtain ⟨-, -, -, -, -, -, f1, f12⟩ := ok_facts i h
  unfold tailT
  generalize (opOf i.op).form = f at *
  rcases (show f = 1 ∨ f = 2 ∨ f = 3 ∨ f = 4 ∨ f = 5 ∨ f = 6 ∨ f = 7 ∨ f = 8 ∨ f = 9 ∨ f = 10 ∨ f = 11 ∨ f = 12 by omega) with rfl | rfl | rfl | rfl | rfl | rfl | rfl | rfl | rfl | rfl | rfl | rfl
  all_goals by_cases q : i.op = 4
  all_goals first | exact .inl ⟨rfl, rfl⟩ | (right; refine ⟨by decide, ?_⟩; simp [q])
/-- All that InsnShapes asks of a text, at once. -/
theorem body_shape (i : InsnV) (h : checkE i = 0) : (bodyT i).length ≤ 60 ∧ (bodyT i).count 44 = commasV i ∧ (bodyT i).count 40 = opensV i ∧ (bodyT i).count 41 = opensV i ∧
    (((opOf i.op).form = 10 ∧ bodyT i = (opOf i.op).name) ∨ ((opOf i.op).form ≠ 10 ∧ ∃ u, bodyT i = (opOf i.op).name ++ (if i.aq || i.rl then 46 else 32) :: u)) := by
  obtain ⟨tc1, tc2, tc3⟩ := tail_count i h
  have ok := ok_facts i h
  have hnb := bareL_count (name_bare i.op (by have := ok.2.2.2.2.2.2.1; omega))
  have hfb := bareL_count (flagT_bare i.aq i.rl)
  have hbe := body_eq i h
  refine ⟨body_len i h, by rw [hbe, List.count_append, List.count_append, hnb.1, hfb.1, tc1]; omega, by rw [hbe, List.count_append, List.count_append, hnb.2.1, hfb.2.1, tc2]; omega, by rw [hbe, List.count_append, List.count_append, hnb.2.2, hfb.2.2, tc3]; omega, ?_⟩
  rcases tail_head i h with ⟨h1, h2⟩ | ⟨h1, u, h2⟩
  · have hfl : i.aq = false ∧ i.rl = false := by
      rcases ok.2.2.2.2.2.1 with e | e | e
      · omega
      · omega
      · exact e
    exact .inl ⟨h1, by rw [hbe, h2, hfl.1, hfl.2]; simp [flagT]⟩
  · refine .inr ⟨h1, ?_⟩
    rw [hbe, h2]
    cases i.aq <;> cases i.rl <;> simp [flagT]
end Go.Proofs.YtdbpnbmaineniaaGreatDoor
