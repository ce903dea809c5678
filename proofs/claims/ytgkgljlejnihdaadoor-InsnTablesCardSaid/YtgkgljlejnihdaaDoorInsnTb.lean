/- The walk of InsnTables. Conditions: the library's tables lie as their initialisers lay them. -/
import Derived.Test.YtgkgljlejnihdaaDoorNamed
import Derived.Test.YtgkgljlejnihdaaDoorInsnMemory
import Derived.Test.YtgkgljlejnihdaaDoorInsnSh
set_option linter.unusedSimpArgs false
set_option linter.unusedVariables false
namespace Go.Proofs.YtgkgljlejnihdaaDoor
open Go.RowKit
def memOk (O : OpInfo) : Bool := ((!O.loads && !O.stores && O.size == 0) || ((O.loads || O.stores) && (O.size == 1 || O.size == 2 || O.size == 4 || O.size == 8))) && (!(O.loads && O.stores) || O.form == 12) && decide (1 ≤ O.form) && decide (O.form ≤ 12) && !O.name.isEmpty
theorem memOk_facts {nm : List UInt8} {f z : Int} {l st : Bool} (h : memOk ⟨nm, f, l, st, z⟩ = true) : 1 ≤ f ∧ f ≤ 12 ∧ nm.isEmpty = false ∧
    ((l = false ∧ st = false ∧ z = 0) ∨ ((l = true ∧ st = false ∨ l = false ∧ st = true ∨ (l = true ∧ st = true ∧ f = 12)) ∧ (z = 1 ∨ z = 2 ∨ z = 4 ∨ z = 8))) := by
  unfold memOk at h
  simp only [Bool.and_eq_true, decide_eq_true_eq] at h
  obtain ⟨⟨⟨⟨m1, m2⟩, h1⟩, h2⟩, h3⟩ := h
  refine ⟨h1, h2, by simpa using h3, ?_⟩
  cases l <;> cases st <;> simp at m1 m2 ⊢ <;> omega
theorem tabs_ok : ((List.range 87).all fun n => memOk (opOf ((n + 1 : Nat) : Int)) && decide (checkE ⟨((n + 1 : Nat) : Int), 0, 0, 0, 0, false, false, 0, 0⟩ = 0)) = true := by decide +kernel
theorem tab_ok (op : Int) (h1 : 1 ≤ op) (h2 : op ≤ 87) : memOk (opOf op) = true ∧ checkE ⟨op, 0, 0, 0, 0, false, false, 0, 0⟩ = 0 ∧ namedOf (opOf op).name = op := by
  obtain ⟨n, rfl⟩ : ∃ n : Nat, op = ((n + 1 : Nat) : Int) := ⟨(op - 1).toNat, by omega⟩
  have := List.all_eq_true.1 tabs_ok n (List.mem_range.2 (by omega))
  simp only [Bool.and_eq_true, decide_eq_true_eq] at this
  exact ⟨this.1, this.2, named_name (n + 1) (by omega)⟩
theorem tab_no (op : Int) (h : ¬ (1 ≤ op ∧ op ≤ 87)) : opOf op = noOp ∧ checkE ⟨op, 0, 0, 0, 0, false, false, 0, 0⟩ = 2 := by
  have h0 : opOf op = noOp := by
    by_cases h1 : op < 1
    · unfold opOf; rw [if_pos h1]
    · exact opOf_big op (by omega)
  refine ⟨h0, ?_⟩
  unfold checkE checkOk
  simp only [h0]
  rfl
set_option maxRecDepth 100000 in
set_option maxHeartbeats 8000000 in
theorem Tables_yf (op : Int) (s : ByteArray) (hop : op ≤ 9223372036854775807) (hsz : s.size ≤ maxLen) (h1 : 1 ≤ op) (h2 : op ≤ 87) (hn : namedOf s.toList ≠ 0) (w : World) (ht : Tabs w) (hp : P10 w) :
    Calls Tryd.prog 4 #[.int .i64 op, .string s] w fun e w' => e = .returned (.bool true) ∧ Below w.heap.size w w' := by
  unfold maxLen at hsz
  have hL := Lib.hid (fun W h1 h2 => Lives2_any W h1 h2)
  have hF := Lib.hid (fun W hW => Form_any op hop W hW)
  have hN := Lib.hid (fun W hW => IName_any op hop W hW)
  have hM := Lib.hid (fun W hW => Memory_any op hop W hW)
  have hK : Hid (∀ W, Tabs W → Calls Tryd.prog 11 #[.agg #[.int .i64 op, .int .i64 0, .int .i64 0, .int .i64 0, .int .i64 0, .bool false, .bool false, .int .i64 0, .int .i64 0]] W fun e w' => e = .returned (.int .i64 0) ∧ Below W.heap.size W w') := Lib.hid fun W hW => by
    have := Check_any ⟨op, 0, 0, 0, 0, false, false, 0, 0⟩ hop W hW
    rw [(tab_ok op h1 h2).2.1] at this; exact this
  have hS := Lib.hid (fun W hW => Named_any s W hW)
  obtain ⟨hmo, -, hrt⟩ := tab_ok op h1 h2
  have hB : Hid (∀ W, Tabs W → Calls Tryd.prog 16 #[.string ⟨(opOf op).name.toArray⟩] W fun e w' => e = .returned (.int .i64 op) ∧ Below W.heap.size W w') := Lib.hid fun W hW => by
    have := Named_any ⟨(opOf op).name.toArray⟩ W hW
    rw [ba_toList, show (⟨(opOf op).name.toArray⟩ : ByteArray).data.toList = (opOf op).name by simp, hrt] at this
    exact this
  have hsp : 1 ≤ namedOf s.toList ∧ namedOf s.toList ≤ 87 ∧ (opOf (namedOf s.toList)).name = s.toList := (named_spec s.toList).resolve_left hn
  have hC : Hid (∀ W, Tabs W → Calls Tryd.prog 13 #[.int .i64 (namedOf s.toList)] W fun e w' => e = .returned (.string s) ∧ Below W.heap.size W w') := Lib.hid fun W hW => by
    have := IName_any (namedOf s.toList) (by omega) W hW
    rw [hsp.2.2, show (⟨s.toList.toArray⟩ : ByteArray) = s by rw [ba_toList]] at this
    exact this
  have hk0 : (namedOf s.toList == 0) = false := by rw [beq_eq_false_iff_ne]; exact hn
  have hk1 : (namedOf s.toList = 0) = False := eq_false hn
  clear hsp hn
  generalize namedOf s.toList = K at hS hC hk0 hk1
  generalize opOf op = O at hF hN hM hB hmo
  obtain ⟨nm, f, l, st, z⟩ := O
  obtain ⟨hf1, hf2, hne, hmo⟩ := memOk_facts hmo
  have hne2 : nm ≠ [] := by intro e; rw [e] at hne; cases hne
  replace hmo := Lib.hid hmo
  simp only at hF hN hM hB
  have hBl : Below w.heap.size w w := Below.refl _ _
  by_cases hbig : s.size ≤ 100
  · have hd9 : decide ((100 : Int) < (s.size : Int)) = false := by simp; omega
    go_enter Tryd.func4, Tryd.ntmps4
    go_upto_region 13 with (first | (go_at_call 10; (with_reducible refine (hL.out _ (ht.later hBl (Nat.le_refl _)) (hp.later hBl (Nat.le_refl _))).mono ?_); rintro e w9 ⟨rfl, hb9⟩; replace hBl := hBl.trans (hb9.mono hBl.size); clear hb9) | (go_at_call 14; (with_reducible refine (hF.out _ (ht.later hBl (Nat.le_refl _))).mono ?_); rintro e w9 ⟨rfl, hb9⟩; replace hBl := hBl.trans (hb9.mono hBl.size); clear hb9) | (go_at_call 13; (with_reducible refine (hN.out _ (ht.later hBl (Nat.le_refl _))).mono ?_); rintro e w9 ⟨rfl, hb9⟩; replace hBl := hBl.trans (hb9.mono hBl.size); clear hb9) | (go_at_call 17; (with_reducible refine (hM.out _ (ht.later hBl (Nat.le_refl _))).mono ?_); rintro e w9 ⟨rfl, hb9⟩; replace hBl := hBl.trans (hb9.mono hBl.size); clear hb9) | (go_at_call 11; (with_reducible refine (hK.out _ (ht.later hBl (Nat.le_refl _))).mono ?_); rintro e w9 ⟨rfl, hb9⟩; replace hBl := hBl.trans (hb9.mono hBl.size); clear hb9) | (go_at_call 16; (with_reducible refine (hS.out _ (ht.later hBl (Nat.le_refl _))).mono ?_); rintro e w9 ⟨rfl, hb9⟩; replace hBl := hBl.trans (hb9.mono hBl.size); clear hb9) | (go_at_call 16; (with_reducible refine (hB.out _ (ht.later hBl (Nat.le_refl _))).mono ?_); rintro e w9 ⟨rfl, hb9⟩; replace hBl := hBl.trans (hb9.mono hBl.size); clear hb9) | (go_at_call 13; (with_reducible refine (hC.out _ (ht.later hBl (Nat.le_refl _))).mono ?_); rintro e w9 ⟨rfl, hb9⟩; replace hBl := hBl.trans (hb9.mono hBl.size); clear hb9))
    rcases hmo.out with ⟨rfl, rfl, rfl⟩ | ⟨(⟨rfl, rfl⟩ | ⟨rfl, rfl⟩ | ⟨rfl, rfl, rfl⟩), (rfl | rfl | rfl | rfl)⟩
    all_goals
      clear hmo hL hF hN hM hK hS hB
      go_wp2_with fail
      go_ret
      exact ⟨rfl, hBl⟩
  · have hd9 : decide ((100 : Int) < (s.size : Int)) = true := by simp; omega
    go_enter Tryd.func4, Tryd.ntmps4
    go_wp2_with (first | (go_at_call 10; (with_reducible refine (hL.out _ (ht.later hBl (Nat.le_refl _)) (hp.later hBl (Nat.le_refl _))).mono ?_); rintro e w9 ⟨rfl, hb9⟩; replace hBl := hBl.trans (hb9.mono hBl.size); clear hb9) | (go_at_call 14; (with_reducible refine (hF.out _ (ht.later hBl (Nat.le_refl _))).mono ?_); rintro e w9 ⟨rfl, hb9⟩; replace hBl := hBl.trans (hb9.mono hBl.size); clear hb9) | (go_at_call 13; (with_reducible refine (hN.out _ (ht.later hBl (Nat.le_refl _))).mono ?_); rintro e w9 ⟨rfl, hb9⟩; replace hBl := hBl.trans (hb9.mono hBl.size); clear hb9) | (go_at_call 17; (with_reducible refine (hM.out _ (ht.later hBl (Nat.le_refl _))).mono ?_); rintro e w9 ⟨rfl, hb9⟩; replace hBl := hBl.trans (hb9.mono hBl.size); clear hb9) | (go_at_call 11; (with_reducible refine (hK.out _ (ht.later hBl (Nat.le_refl _))).mono ?_); rintro e w9 ⟨rfl, hb9⟩; replace hBl := hBl.trans (hb9.mono hBl.size); clear hb9) | (go_at_call 16; (with_reducible refine (hS.out _ (ht.later hBl (Nat.le_refl _))).mono ?_); rintro e w9 ⟨rfl, hb9⟩; replace hBl := hBl.trans (hb9.mono hBl.size); clear hb9) | (go_at_call 16; (with_reducible refine (hB.out _ (ht.later hBl (Nat.le_refl _))).mono ?_); rintro e w9 ⟨rfl, hb9⟩; replace hBl := hBl.trans (hb9.mono hBl.size); clear hb9) | (go_at_call 13; (with_reducible refine (hC.out _ (ht.later hBl (Nat.le_refl _))).mono ?_); rintro e w9 ⟨rfl, hb9⟩; replace hBl := hBl.trans (hb9.mono hBl.size); clear hb9))
    go_ret
    exact ⟨rfl, hBl⟩
set_option maxRecDepth 100000 in
set_option maxHeartbeats 8000000 in
theorem Tables_yz (op : Int) (s : ByteArray) (hop : op ≤ 9223372036854775807) (hsz : s.size ≤ maxLen) (h1 : 1 ≤ op) (h2 : op ≤ 87) (hn : namedOf s.toList = 0) (w : World) (ht : Tabs w) (hp : P10 w) :
    Calls Tryd.prog 4 #[.int .i64 op, .string s] w fun e w' => e = .returned (.bool true) ∧ Below w.heap.size w w' := by
  unfold maxLen at hsz
  have hL := Lib.hid (fun W h1 h2 => Lives2_any W h1 h2)
  have hF := Lib.hid (fun W hW => Form_any op hop W hW)
  have hN := Lib.hid (fun W hW => IName_any op hop W hW)
  have hM := Lib.hid (fun W hW => Memory_any op hop W hW)
  have hK : Hid (∀ W, Tabs W → Calls Tryd.prog 11 #[.agg #[.int .i64 op, .int .i64 0, .int .i64 0, .int .i64 0, .int .i64 0, .bool false, .bool false, .int .i64 0, .int .i64 0]] W fun e w' => e = .returned (.int .i64 0) ∧ Below W.heap.size W w') := Lib.hid fun W hW => by
    have := Check_any ⟨op, 0, 0, 0, 0, false, false, 0, 0⟩ hop W hW
    rw [(tab_ok op h1 h2).2.1] at this; exact this
  have hS := Lib.hid (fun W hW => Named_any s W hW)
  obtain ⟨hmo, -, hrt⟩ := tab_ok op h1 h2
  have hB : Hid (∀ W, Tabs W → Calls Tryd.prog 16 #[.string ⟨(opOf op).name.toArray⟩] W fun e w' => e = .returned (.int .i64 op) ∧ Below W.heap.size W w') := Lib.hid fun W hW => by
    have := Named_any ⟨(opOf op).name.toArray⟩ W hW
    rw [ba_toList, show (⟨(opOf op).name.toArray⟩ : ByteArray).data.toList = (opOf op).name by simp, hrt] at this
    exact this
  rw [hn] at hS
  clear hn
  generalize opOf op = O at hF hN hM hB hmo
  obtain ⟨nm, f, l, st, z⟩ := O
  obtain ⟨hf1, hf2, hne, hmo⟩ := memOk_facts hmo
  have hne2 : nm ≠ [] := by intro e; rw [e] at hne; cases hne
  replace hmo := Lib.hid hmo
  simp only at hF hN hM hB
  have hBl : Below w.heap.size w w := Below.refl _ _
  by_cases hbig : s.size ≤ 100
  · have hd9 : decide ((100 : Int) < (s.size : Int)) = false := by simp; omega
    go_enter Tryd.func4, Tryd.ntmps4
    go_upto_region 13 with (first | (go_at_call 10; (with_reducible refine (hL.out _ (ht.later hBl (Nat.le_refl _)) (hp.later hBl (Nat.le_refl _))).mono ?_); rintro e w9 ⟨rfl, hb9⟩; replace hBl := hBl.trans (hb9.mono hBl.size); clear hb9) | (go_at_call 14; (with_reducible refine (hF.out _ (ht.later hBl (Nat.le_refl _))).mono ?_); rintro e w9 ⟨rfl, hb9⟩; replace hBl := hBl.trans (hb9.mono hBl.size); clear hb9) | (go_at_call 13; (with_reducible refine (hN.out _ (ht.later hBl (Nat.le_refl _))).mono ?_); rintro e w9 ⟨rfl, hb9⟩; replace hBl := hBl.trans (hb9.mono hBl.size); clear hb9) | (go_at_call 17; (with_reducible refine (hM.out _ (ht.later hBl (Nat.le_refl _))).mono ?_); rintro e w9 ⟨rfl, hb9⟩; replace hBl := hBl.trans (hb9.mono hBl.size); clear hb9) | (go_at_call 11; (with_reducible refine (hK.out _ (ht.later hBl (Nat.le_refl _))).mono ?_); rintro e w9 ⟨rfl, hb9⟩; replace hBl := hBl.trans (hb9.mono hBl.size); clear hb9) | (go_at_call 16; (with_reducible refine (hS.out _ (ht.later hBl (Nat.le_refl _))).mono ?_); rintro e w9 ⟨rfl, hb9⟩; replace hBl := hBl.trans (hb9.mono hBl.size); clear hb9) | (go_at_call 16; (with_reducible refine (hB.out _ (ht.later hBl (Nat.le_refl _))).mono ?_); rintro e w9 ⟨rfl, hb9⟩; replace hBl := hBl.trans (hb9.mono hBl.size); clear hb9))
    rcases hmo.out with ⟨rfl, rfl, rfl⟩ | ⟨(⟨rfl, rfl⟩ | ⟨rfl, rfl⟩ | ⟨rfl, rfl, rfl⟩), (rfl | rfl | rfl | rfl)⟩
    all_goals
      clear hmo hL hF hN hM hK hS hB
      go_wp2_with fail
      go_ret
      exact ⟨rfl, hBl⟩
  · have hd9 : decide ((100 : Int) < (s.size : Int)) = true := by simp; omega
    go_enter Tryd.func4, Tryd.ntmps4
    go_wp2_with (first | (go_at_call 10; (with_reducible refine (hL.out _ (ht.later hBl (Nat.le_refl _)) (hp.later hBl (Nat.le_refl _))).mono ?_); rintro e w9 ⟨rfl, hb9⟩; replace hBl := hBl.trans (hb9.mono hBl.size); clear hb9) | (go_at_call 14; (with_reducible refine (hF.out _ (ht.later hBl (Nat.le_refl _))).mono ?_); rintro e w9 ⟨rfl, hb9⟩; replace hBl := hBl.trans (hb9.mono hBl.size); clear hb9) | (go_at_call 13; (with_reducible refine (hN.out _ (ht.later hBl (Nat.le_refl _))).mono ?_); rintro e w9 ⟨rfl, hb9⟩; replace hBl := hBl.trans (hb9.mono hBl.size); clear hb9) | (go_at_call 17; (with_reducible refine (hM.out _ (ht.later hBl (Nat.le_refl _))).mono ?_); rintro e w9 ⟨rfl, hb9⟩; replace hBl := hBl.trans (hb9.mono hBl.size); clear hb9) | (go_at_call 11; (with_reducible refine (hK.out _ (ht.later hBl (Nat.le_refl _))).mono ?_); rintro e w9 ⟨rfl, hb9⟩; replace hBl := hBl.trans (hb9.mono hBl.size); clear hb9) | (go_at_call 16; (with_reducible refine (hS.out _ (ht.later hBl (Nat.le_refl _))).mono ?_); rintro e w9 ⟨rfl, hb9⟩; replace hBl := hBl.trans (hb9.mono hBl.size); clear hb9) | (go_at_call 16; (with_reducible refine (hB.out _ (ht.later hBl (Nat.le_refl _))).mono ?_); rintro e w9 ⟨rfl, hb9⟩; replace hBl := hBl.trans (hb9.mono hBl.size); clear hb9))
    go_ret
    exact ⟨rfl, hBl⟩
set_option maxRecDepth 100000 in
set_option maxHeartbeats 8000000 in
theorem Tables_nf (op : Int) (s : ByteArray) (hop : op ≤ 9223372036854775807) (hsz : s.size ≤ maxLen) (hno : ¬ (1 ≤ op ∧ op ≤ 87)) (hn : namedOf s.toList ≠ 0) (w : World) (ht : Tabs w) (hp : P10 w) :
    Calls Tryd.prog 4 #[.int .i64 op, .string s] w fun e w' => e = .returned (.bool true) ∧ Below w.heap.size w w' := by
  unfold maxLen at hsz
  have hL := Lib.hid (fun W h1 h2 => Lives2_any W h1 h2)
  have hF := Lib.hid (fun W hW => Form_any op hop W hW)
  have hN := Lib.hid (fun W hW => IName_any op hop W hW)
  have hM := Lib.hid (fun W hW => Memory_any op hop W hW)
  have hK : Hid (∀ W, Tabs W → Calls Tryd.prog 11 #[.agg #[.int .i64 op, .int .i64 0, .int .i64 0, .int .i64 0, .int .i64 0, .bool false, .bool false, .int .i64 0, .int .i64 0]] W fun e w' => e = .returned (.int .i64 2) ∧ Below W.heap.size W w') := Lib.hid fun W hW => by
    have := Check_any ⟨op, 0, 0, 0, 0, false, false, 0, 0⟩ hop W hW
    rw [(tab_no op hno).2] at this; exact this
  have hS := Lib.hid (fun W hW => Named_any s W hW)
  have hmo := (tab_no op hno).1
  have hsp : 1 ≤ namedOf s.toList ∧ namedOf s.toList ≤ 87 ∧ (opOf (namedOf s.toList)).name = s.toList := (named_spec s.toList).resolve_left hn
  have hC : Hid (∀ W, Tabs W → Calls Tryd.prog 13 #[.int .i64 (namedOf s.toList)] W fun e w' => e = .returned (.string s) ∧ Below W.heap.size W w') := Lib.hid fun W hW => by
    have := IName_any (namedOf s.toList) (by omega) W hW
    rw [hsp.2.2, show (⟨s.toList.toArray⟩ : ByteArray) = s by rw [ba_toList]] at this
    exact this
  have hk0 : (namedOf s.toList == 0) = false := by rw [beq_eq_false_iff_ne]; exact hn
  have hk1 : (namedOf s.toList = 0) = False := eq_false hn
  clear hsp hn
  generalize namedOf s.toList = K at hS hC hk0 hk1
  rw [hmo] at hF hN hM
  simp only [noOp] at hF hN hM
  have hd1 : (decide (1 ≤ op) && decide (op ≤ 87)) = false := by
    rw [← Bool.not_eq_true]; simpa using hno
  clear hmo
  have hBl : Below w.heap.size w w := Below.refl _ _
  by_cases hbig : s.size ≤ 100
  · have hd9 : decide ((100 : Int) < (s.size : Int)) = false := by simp; omega
    go_enter Tryd.func4, Tryd.ntmps4
    rcases (show op < 1 ∨ 87 < op by omega) with hx | hx
    all_goals
      go_wp2_with (first | (go_at_call 10; (with_reducible refine (hL.out _ (ht.later hBl (Nat.le_refl _)) (hp.later hBl (Nat.le_refl _))).mono ?_); rintro e w9 ⟨rfl, hb9⟩; replace hBl := hBl.trans (hb9.mono hBl.size); clear hb9) | (go_at_call 14; (with_reducible refine (hF.out _ (ht.later hBl (Nat.le_refl _))).mono ?_); rintro e w9 ⟨rfl, hb9⟩; replace hBl := hBl.trans (hb9.mono hBl.size); clear hb9) | (go_at_call 13; (with_reducible refine (hN.out _ (ht.later hBl (Nat.le_refl _))).mono ?_); rintro e w9 ⟨rfl, hb9⟩; replace hBl := hBl.trans (hb9.mono hBl.size); clear hb9) | (go_at_call 17; (with_reducible refine (hM.out _ (ht.later hBl (Nat.le_refl _))).mono ?_); rintro e w9 ⟨rfl, hb9⟩; replace hBl := hBl.trans (hb9.mono hBl.size); clear hb9) | (go_at_call 11; (with_reducible refine (hK.out _ (ht.later hBl (Nat.le_refl _))).mono ?_); rintro e w9 ⟨rfl, hb9⟩; replace hBl := hBl.trans (hb9.mono hBl.size); clear hb9) | (go_at_call 16; (with_reducible refine (hS.out _ (ht.later hBl (Nat.le_refl _))).mono ?_); rintro e w9 ⟨rfl, hb9⟩; replace hBl := hBl.trans (hb9.mono hBl.size); clear hb9) | (go_at_call 13; (with_reducible refine (hC.out _ (ht.later hBl (Nat.le_refl _))).mono ?_); rintro e w9 ⟨rfl, hb9⟩; replace hBl := hBl.trans (hb9.mono hBl.size); clear hb9))
      go_ret
      exact ⟨rfl, hBl⟩
  · have hd9 : decide ((100 : Int) < (s.size : Int)) = true := by simp; omega
    go_enter Tryd.func4, Tryd.ntmps4
    go_wp2_with (first | (go_at_call 10; (with_reducible refine (hL.out _ (ht.later hBl (Nat.le_refl _)) (hp.later hBl (Nat.le_refl _))).mono ?_); rintro e w9 ⟨rfl, hb9⟩; replace hBl := hBl.trans (hb9.mono hBl.size); clear hb9) | (go_at_call 14; (with_reducible refine (hF.out _ (ht.later hBl (Nat.le_refl _))).mono ?_); rintro e w9 ⟨rfl, hb9⟩; replace hBl := hBl.trans (hb9.mono hBl.size); clear hb9) | (go_at_call 13; (with_reducible refine (hN.out _ (ht.later hBl (Nat.le_refl _))).mono ?_); rintro e w9 ⟨rfl, hb9⟩; replace hBl := hBl.trans (hb9.mono hBl.size); clear hb9) | (go_at_call 17; (with_reducible refine (hM.out _ (ht.later hBl (Nat.le_refl _))).mono ?_); rintro e w9 ⟨rfl, hb9⟩; replace hBl := hBl.trans (hb9.mono hBl.size); clear hb9) | (go_at_call 11; (with_reducible refine (hK.out _ (ht.later hBl (Nat.le_refl _))).mono ?_); rintro e w9 ⟨rfl, hb9⟩; replace hBl := hBl.trans (hb9.mono hBl.size); clear hb9) | (go_at_call 16; (with_reducible refine (hS.out _ (ht.later hBl (Nat.le_refl _))).mono ?_); rintro e w9 ⟨rfl, hb9⟩; replace hBl := hBl.trans (hb9.mono hBl.size); clear hb9) | (go_at_call 13; (with_reducible refine (hC.out _ (ht.later hBl (Nat.le_refl _))).mono ?_); rintro e w9 ⟨rfl, hb9⟩; replace hBl := hBl.trans (hb9.mono hBl.size); clear hb9))
    go_ret
    exact ⟨rfl, hBl⟩
set_option maxRecDepth 100000 in
set_option maxHeartbeats 8000000 in
theorem Tables_nz (op : Int) (s : ByteArray) (hop : op ≤ 9223372036854775807) (hsz : s.size ≤ maxLen) (hno : ¬ (1 ≤ op ∧ op ≤ 87)) (hn : namedOf s.toList = 0) (w : World) (ht : Tabs w) (hp : P10 w) :
    Calls Tryd.prog 4 #[.int .i64 op, .string s] w fun e w' => e = .returned (.bool true) ∧ Below w.heap.size w w' := by
  unfold maxLen at hsz
  have hL := Lib.hid (fun W h1 h2 => Lives2_any W h1 h2)
  have hF := Lib.hid (fun W hW => Form_any op hop W hW)
  have hN := Lib.hid (fun W hW => IName_any op hop W hW)
  have hM := Lib.hid (fun W hW => Memory_any op hop W hW)
  have hK : Hid (∀ W, Tabs W → Calls Tryd.prog 11 #[.agg #[.int .i64 op, .int .i64 0, .int .i64 0, .int .i64 0, .int .i64 0, .bool false, .bool false, .int .i64 0, .int .i64 0]] W fun e w' => e = .returned (.int .i64 2) ∧ Below W.heap.size W w') := Lib.hid fun W hW => by
    have := Check_any ⟨op, 0, 0, 0, 0, false, false, 0, 0⟩ hop W hW
    rw [(tab_no op hno).2] at this; exact this
  have hS := Lib.hid (fun W hW => Named_any s W hW)
  have hmo := (tab_no op hno).1
  rw [hn] at hS
  clear hn
  rw [hmo] at hF hN hM
  simp only [noOp] at hF hN hM
  have hd1 : (decide (1 ≤ op) && decide (op ≤ 87)) = false := by
    rw [← Bool.not_eq_true]; simpa using hno
  clear hmo
  have hBl : Below w.heap.size w w := Below.refl _ _
  by_cases hbig : s.size ≤ 100
  · have hd9 : decide ((100 : Int) < (s.size : Int)) = false := by simp; omega
    go_enter Tryd.func4, Tryd.ntmps4
    rcases (show op < 1 ∨ 87 < op by omega) with hx | hx
    all_goals
      go_wp2_with (first | (go_at_call 10; (with_reducible refine (hL.out _ (ht.later hBl (Nat.le_refl _)) (hp.later hBl (Nat.le_refl _))).mono ?_); rintro e w9 ⟨rfl, hb9⟩; replace hBl := hBl.trans (hb9.mono hBl.size); clear hb9) | (go_at_call 14; (with_reducible refine (hF.out _ (ht.later hBl (Nat.le_refl _))).mono ?_); rintro e w9 ⟨rfl, hb9⟩; replace hBl := hBl.trans (hb9.mono hBl.size); clear hb9) | (go_at_call 13; (with_reducible refine (hN.out _ (ht.later hBl (Nat.le_refl _))).mono ?_); rintro e w9 ⟨rfl, hb9⟩; replace hBl := hBl.trans (hb9.mono hBl.size); clear hb9) | (go_at_call 17; (with_reducible refine (hM.out _ (ht.later hBl (Nat.le_refl _))).mono ?_); rintro e w9 ⟨rfl, hb9⟩; replace hBl := hBl.trans (hb9.mono hBl.size); clear hb9) | (go_at_call 11; (with_reducible refine (hK.out _ (ht.later hBl (Nat.le_refl _))).mono ?_); rintro e w9 ⟨rfl, hb9⟩; replace hBl := hBl.trans (hb9.mono hBl.size); clear hb9) | (go_at_call 16; (with_reducible refine (hS.out _ (ht.later hBl (Nat.le_refl _))).mono ?_); rintro e w9 ⟨rfl, hb9⟩; replace hBl := hBl.trans (hb9.mono hBl.size); clear hb9))
      go_ret
      exact ⟨rfl, hBl⟩
  · have hd9 : decide ((100 : Int) < (s.size : Int)) = true := by simp; omega
    go_enter Tryd.func4, Tryd.ntmps4
    go_wp2_with (first | (go_at_call 10; (with_reducible refine (hL.out _ (ht.later hBl (Nat.le_refl _)) (hp.later hBl (Nat.le_refl _))).mono ?_); rintro e w9 ⟨rfl, hb9⟩; replace hBl := hBl.trans (hb9.mono hBl.size); clear hb9) | (go_at_call 14; (with_reducible refine (hF.out _ (ht.later hBl (Nat.le_refl _))).mono ?_); rintro e w9 ⟨rfl, hb9⟩; replace hBl := hBl.trans (hb9.mono hBl.size); clear hb9) | (go_at_call 13; (with_reducible refine (hN.out _ (ht.later hBl (Nat.le_refl _))).mono ?_); rintro e w9 ⟨rfl, hb9⟩; replace hBl := hBl.trans (hb9.mono hBl.size); clear hb9) | (go_at_call 17; (with_reducible refine (hM.out _ (ht.later hBl (Nat.le_refl _))).mono ?_); rintro e w9 ⟨rfl, hb9⟩; replace hBl := hBl.trans (hb9.mono hBl.size); clear hb9) | (go_at_call 11; (with_reducible refine (hK.out _ (ht.later hBl (Nat.le_refl _))).mono ?_); rintro e w9 ⟨rfl, hb9⟩; replace hBl := hBl.trans (hb9.mono hBl.size); clear hb9) | (go_at_call 16; (with_reducible refine (hS.out _ (ht.later hBl (Nat.le_refl _))).mono ?_); rintro e w9 ⟨rfl, hb9⟩; replace hBl := hBl.trans (hb9.mono hBl.size); clear hb9))
    go_ret
    exact ⟨rfl, hBl⟩
/-- InsnTables, whatever the number and the text. -/
theorem Tables_any (op : Int) (s : ByteArray) (hop : op ≤ 9223372036854775807) (hsz : s.size ≤ maxLen) (w : World) (ht : Tabs w) (hp : P10 w) :
    Calls Tryd.prog 4 #[.int .i64 op, .string s] w fun e w' => e = .returned (.bool true) ∧ Below w.heap.size w w' := by
  by_cases hi : 1 ≤ op ∧ op ≤ 87
  · by_cases hn : namedOf s.toList = 0
    · exact Tables_yz op s hop hsz hi.1 hi.2 hn w ht hp
    · exact Tables_yf op s hop hsz hi.1 hi.2 hn w ht hp
  · by_cases hn : namedOf s.toList = 0
    · exact Tables_nz op s hop hsz hi hn w ht hp
    · exact Tables_nf op s hop hsz hi hn w ht hp
end Go.Proofs.YtgkgljlejnihdaaDoor
