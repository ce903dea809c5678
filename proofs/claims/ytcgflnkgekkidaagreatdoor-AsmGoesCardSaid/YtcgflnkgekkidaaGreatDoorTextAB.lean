/- Plain: the texts of numbers, registers, parts of fences, and instructions, as the document writes them. No program in sight. The walks of the document's digits, signed, x: texts of numbers. The walk of the document's parts: the letters of a fence. Plain: the lines of a dump, by the word. No program in sight. Plain: the lines of a dump as values. Conditions: as each theorem says. -/
import Derived.Test.YtcgflnkgekkidaaGreatDoorInsnDf
import Derived.Test.YtcgflnkgekkidaaGreatDoorInsnKn
import Derived.Laws.Concat
import Derived.OwnWalk
import Derived.Test.YtcgflnkgekkidaaGreatDoorRefDf
import Derived.Test.YtcgflnkgekkidaaGreatDoorCodeA
set_option linter.unusedSimpArgs false
set_option linter.unusedVariables false
namespace Go.Proofs.YtcgflnkgekkidaaGreatDoor
/-- A number's digits. -/
def digF : Nat → Nat → List UInt8
  | 0, n => [UInt8.ofNat (48 + n % 10)]
  | k + 1, n => if 9 < n then digF k (n / 10) ++ [UInt8.ofNat (48 + n % 10)] else [UInt8.ofNat (48 + n % 10)]
def digN (n : Nat) : List UInt8 := digF 20 n
theorem digF_le : ∀ (k n : Nat), n < 10 ^ (k + 1) → digF (k + 1) n = digF k n
  | 0, n, h => by
    unfold digF; rw [if_neg (by omega)]
  | k + 1, n, h => by
    show (if 9 < n then digF (k + 1) (n / 10) ++ _ else _) = (if 9 < n then digF k (n / 10) ++ _ else _)
    by_cases h9 : 9 < n
    · rw [if_pos h9, if_pos h9, digF_le k (n / 10) (by rw [Nat.pow_succ] at h; omega)]
    · rw [if_neg h9, if_neg h9]
theorem digN_step (n : Nat) (h : n < 2 ^ 64) : digN n = if 9 < n then digN (n / 10) ++ [UInt8.ofNat (48 + n % 10)] else [UInt8.ofNat (48 + n % 10)] := by
  unfold digN
  rw [← digF_le 20 n (by omega)]
  rfl
theorem digF_len : ∀ k n, (digF k n).length ≤ k + 1
  | 0, n => by simp [digF]
  | k + 1, n => by
    unfold digF
    have := digF_len k (n / 10)
    split
    · simp; omega
    · simp
theorem digN_len (n : Nat) : (digN n).length ≤ 21 := digF_len 20 n
/-- A signed number's. -/
def signL (n : Int) : List UInt8 := if n < 0 then 45 :: digN n.natAbs else digN n.natAbs
/-- A register. -/
def regT (n : Int) : List UInt8 := 120 :: digN n.toNat
/-- A part of a fence: the letters up to the k-th. -/
def partK (n : Nat) : Nat → List UInt8
  | 0 => []
  | k + 1 => if n.testBit (3 - k) then partK n k ++ [[105, 111, 114, 119].getD k 0] else partK n k
def partT (n : Nat) : List UInt8 := if partK n 4 = [] then [48] else partK n 4
theorem partK_len (n : Nat) : ∀ k, (partK n k).length ≤ k
  | 0 => Nat.le_refl 0
  | k + 1 => by
    have := partK_len n k
    unfold partK; split
    · simp; omega
    · omega
/-- An instruction's text: its operation with the flags. -/
def headT (i : InsnV) : List UInt8 :=
  let a := (opOf i.op).name
  let b := if i.aq || i.rl then a ++ [46] else a
  let c := if i.aq then b ++ [97, 113] else b
  if i.rl then c ++ [114, 108] else c
def bodyT (i : InsnV) : List UInt8 :=
  let s := headT i
  let f := (opOf i.op).form
  if f = 1 ∨ f = 2 then s ++ [32] ++ regT i.rd ++ [44, 32] ++ signL i.imm
  else if f = 3 ∨ f = 7 then if i.op = 4 then (opOf i.op).name ++ [32] ++ regT i.rd ++ [44, 32] ++ signL i.imm ++ [40] ++ regT i.rs1 ++ [41] else s ++ [32] ++ regT i.rd ++ [44, 32] ++ regT i.rs1 ++ [44, 32] ++ signL i.imm
  else if f = 4 then s ++ [32] ++ regT i.rd ++ [44, 32] ++ signL i.imm ++ [40] ++ regT i.rs1 ++ [41]
  else if f = 5 then s ++ [32] ++ regT i.rs2 ++ [44, 32] ++ signL i.imm ++ [40] ++ regT i.rs1 ++ [41]
  else if f = 6 then s ++ [32] ++ regT i.rs1 ++ [44, 32] ++ regT i.rs2 ++ [44, 32] ++ signL i.imm
  else if f = 8 then s ++ [32] ++ regT i.rd ++ [44, 32] ++ regT i.rs1 ++ [44, 32] ++ regT i.rs2
  else if f = 9 then s ++ [32] ++ partT i.pred.toNat ++ [44, 32] ++ partT i.succ.toNat
  else if f = 11 then s ++ [32] ++ regT i.rd ++ [44, 32, 40] ++ regT i.rs1 ++ [41]
  else if f = 12 then s ++ [32] ++ regT i.rd ++ [44, 32] ++ regT i.rs2 ++ [44, 32, 40] ++ regT i.rs1 ++ [41]
  else s
/-- An instruction's text, nothing where it is none. -/
def textT (i : InsnV) : List UInt8 := if checkE i = 0 then bodyT i else []
end Go.Proofs.YtcgflnkgekkidaaGreatDoor
namespace Go.Proofs.YtcgflnkgekkidaaGreatDoor
open Go.RowKit
def bs (l : List UInt8) : ByteArray := ⟨l.toArray⟩
/-- '+' on two texts, by an operation that is wanted. -/
theorem wpList_cat {P : Program} {ops : Array Oper} {rest : List Oper} {op : Oper} {a : Act} {w : World} {Q : Exit → Act → World → Prop} (hw : Region.wanted op (yielded ops a.tmps) = true) (x y : Operand) (ty t : TypeId) (ho : op.op = .binOp .add ty x y t) (l m : List UInt8)
    (hx : a.eval x = .string ⟨l.toArray⟩) (hy : a.eval y = .string ⟨m.toArray⟩) (hl : l.length + m.length ≤ 8388608)
    (h : wpList P ops Q rest (a.put op.dst (.string ⟨(l ++ m).toArray⟩)) w) : wpList P ops Q (op :: rest) a w :=
  wpList_step fun K hK => by
    rw [if_pos hw]
    have hq : ∀ w, (binOp .add ty (.string ⟨l.toArray⟩) (.string ⟨m.toArray⟩)).run P w = .ok (.string ⟨(l ++ m).toArray⟩) w := fun w => by
      rw [binOp_string_add]; exact run_string_add_lists w l m (by omega) (by omega)
    unfold Oper.wp execOp
    simp only [ho, hx, hy, Sem.run_bind, hq, Sem.run_pure]
    exact hK _ _ h
theorem dig1 : ∀ n : Nat, n ≤ 9 → (({ data := #[48, 49, 50, 51, 52, 53, 54, 55, 56, 57] } : ByteArray).extract n (n + 1)) = ⟨[UInt8.ofNat (48 + n % 10)].toArray⟩ := by
  intro n hn
  have : ∀ k : Fin 10, (({ data := #[48, 49, 50, 51, 52, 53, 54, 55, 56, 57] } : ByteArray).extract k.1 (k.1 + 1)) = ⟨[UInt8.ofNat (48 + k.1 % 10)].toArray⟩ := by decide +kernel
  exact this ⟨n, by omega⟩
set_option maxHeartbeats 2000000 in
set_option maxRecDepth 100000 in
theorem Digits_any : ∀ (n : Nat), n < 2 ^ 64 → ∀ w : World, Calls Tryz.prog 127 #[.int .u64 n] w fun e w' => e = .returned (.string ⟨(digN n).toArray⟩) ∧ w = w' := by
  intro n
  induction n using Nat.strongRecOn with
  | _ n ih =>
    intro hn w
    have hs := digN_step n hn
    by_cases h : 9 < n
    · rw [if_pos h] at hs
      have h1 := ih (n / 10) (by omega) (by omega)
      have h2 := ih (n % 10) (by omega) (by omega)
      have e2 : digN (n % 10) = [UInt8.ofNat (48 + n % 10)] := by
        rw [digN_step _ (by omega), if_neg (by omega), Nat.mod_mod]
      rw [e2] at h2
      have hl := digN_len (n / 10)
      rw [hs]
      generalize digN (n / 10) = l1 at h1 hl
      clear ih hs e2
      have hb1 : decide ((9 : Int) < (n : Int)) = true := by simp; omega
      have hb2 : decide (9 < n) = true := by simp; omega
      have q : (n : Int).tdiv 10 = ((n / 10 : Nat) : Int) := by rw [Int.tdiv_eq_ediv_of_nonneg (by omega)]; omega
      have r : (n : Int).tmod 10 = ((n % 10 : Nat) : Int) := by rw [Int.tmod_eq_emod_of_nonneg (by omega)]; omega
      generalize hc : [UInt8.ofNat (48 + n % 10)] = l2 at h2
      have hl2 : l2.length = 1 := by rw [← hc]; rfl
      clear hc
      replace h1 := Lib.hid h1
      replace h2 := Lib.hid h2
      go_enter Tryz.func127, Tryz.ntmps127
      have hlt1 : (0 : Int) ≤ ((n / 10 : Nat) : Int) ∧ ((n / 10 : Nat) : Int) < 18446744073709551616 := by omega
      have hlt2 : (0 : Int) ≤ ((n % 10 : Nat) : Int) ∧ ((n % 10 : Nat) : Int) < 18446744073709551616 := by omega
      generalize n / 10 = n1 at *
      generalize n % 10 = n2 at *
      go_wp2_with (first | (go_at_call 127; with_reducible refine (h1.out _).mono ?_; rintro e w1 ⟨rfl, rfl⟩) | (go_at_call 127; go_loud (with_reducible refine (h2.out _).mono ?_; rintro e w2 ⟨rfl, rfl⟩)) | (refine wpList_cat (by rfl) _ _ _ _ rfl l1 l2 rfl rfl (by omega) ?_))
      go_ret
      exact ⟨rfl, rfl⟩
    · rw [if_neg h] at hs
      rw [hs]
      have hd := dig1 n (by omega)
      generalize hc : [UInt8.ofNat (48 + n % 10)] = l2 at hd
      clear ih hs hc hn
      have hb1 : decide ((9 : Int) < (n : Int)) = false := by simp; omega
      have hb2 : decide (9 < n) = false := by simp; omega
      have hn9 : n ≤ 9 := by omega
      have hn10 : (n : Int) ≤ 9 := by omega
      have hn0 : (0 : Int) ≤ (n : Int) := by omega
      go_enter Tryz.func127, Tryz.ntmps127
      go_wp2
      go_ret
      exact ⟨rfl, rfl⟩
theorem wrap_u64_neg (n : Int) (h : n < 0) (h2 : -9223372036854775808 ≤ n) : IntKind.u64.wrap (wrap64 (-n)) = ((n.natAbs : Nat) : Int) := by
  unfold wrap64
  simp [IntKind.wrap, IntKind.bits, IntKind.signed]
  omega
theorem wrap_u64_pos (n : Int) (h : 0 ≤ n) (h2 : n ≤ 9223372036854775807) : IntKind.u64.wrap n = ((n.natAbs : Nat) : Int) := by
  simp [IntKind.wrap, IntKind.bits, IntKind.signed]
  omega
set_option maxRecDepth 100000 in
theorem Signed_any (n : Int) (h1 : -9223372036854775808 ≤ n) (h2 : n ≤ 9223372036854775807) (w : World) : Calls Tryz.prog 114 #[.int .i64 n] w fun e w' => e = .returned (.string ⟨(signL n).toArray⟩) ∧ w = w' := by
  have hD := Lib.hid (fun W => Digits_any n.natAbs (by omega) W)
  have hl := digN_len n.natAbs
  unfold signL
  by_cases h : n < 0
  · have e1 := wrap_u64_neg n h h1
    have hb : decide (n < 0) = true := by simpa using h
    rw [if_pos h]
    generalize digN n.natAbs = l1 at hD hl
    generalize hk : n.natAbs = k at e1 hD
    clear h h1 h2 hk
    go_enter Tryz.func114, Tryz.ntmps114
    go_wp2_with (first | (go_at_call 127; (try rw [e1]); refine (hD.out _).mono ?_; rintro e w1 ⟨rfl, rfl⟩) | (refine wpList_cat (by rfl) _ _ _ _ rfl [45] l1 rfl rfl (by show 1 + l1.length ≤ _; omega) ?_))
    go_ret
    exact ⟨rfl, rfl⟩
  · have e1 := wrap_u64_pos n (by omega) h2
    have hb : decide (n < 0) = false := by simpa using h
    rw [if_neg h]
    generalize digN n.natAbs = l1 at hD hl
    generalize hk : n.natAbs = k at e1 hD
    clear h h1 h2 hk
    go_enter Tryz.func114, Tryz.ntmps114
    go_wp2_with (go_at_call 127; (try rw [e1]); refine (hD.out _).mono ?_; rintro e w1 ⟨rfl, rfl⟩)
    go_ret
    exact ⟨rfl, rfl⟩
set_option maxRecDepth 100000 in
theorem X_any (n : Int) (h1 : 0 ≤ n) (h2 : n ≤ 9223372036854775807) (w : World) : Calls Tryz.prog 113 #[.int .i64 n] w fun e w' => e = .returned (.string ⟨(regT n).toArray⟩) ∧ w = w' := by
  have hD := Lib.hid (fun W => Digits_any n.natAbs (by omega) W)
  have hl := digN_len n.natAbs
  have e1 := wrap_u64_pos n h1 h2
  unfold regT
  rw [show n.toNat = n.natAbs by omega]
  generalize digN n.natAbs = l1 at hD hl
  generalize hk : n.natAbs = k at e1 hD
  clear h1 h2 hk
  go_enter Tryz.func113, Tryz.ntmps113
  go_wp2_with (first | (go_at_call 127; (try rw [e1]); refine (hD.out _).mono ?_; rintro e w1 ⟨rfl, rfl⟩) | (refine wpList_cat (by rfl) _ _ _ _ rfl [120] l1 rfl rfl (by show 1 + l1.length ≤ _; omega) ?_))
  go_ret
  exact ⟨rfl, rfl⟩
end Go.Proofs.YtcgflnkgekkidaaGreatDoor
namespace Go.Proofs.YtcgflnkgekkidaaGreatDoor
open Go.RowKit
theorem part_bit : ∀ n : Nat, n < 16 → ∀ k : Nat, k < 4 → (un (Part (bv n) (3 - (k : Int)) 1) == 1) = n.testBit (3 - k) := by
  intro n hn k hk
  have : ∀ a : Fin 16, ∀ b : Fin 4, (un (Part (bv (a.1 : Int)) (3 - (b.1 : Int)) 1) == 1) = a.1.testBit (3 - b.1) := by decide +kernel
  exact this ⟨n, hn⟩ ⟨k, hk⟩
theorem part_one : ∀ k : Nat, k < 4 → (({ data := #[105, 111, 114, 119] } : ByteArray).extract k (k + 1)) = ⟨[[105, 111, 114, 119].getD k 0].toArray⟩ := by
  intro k hk
  have : ∀ b : Fin 4, (({ data := #[105, 111, 114, 119] } : ByteArray).extract b.1 (b.1 + 1)) = ⟨[[105, 111, 114, 119].getD b.1 0].toArray⟩ := by decide +kernel
  exact this ⟨k, hk⟩
section
attribute [local irreducible] un
set_option maxRecDepth 100000 in
set_option maxHeartbeats 2000000 in
theorem Parts_any (n : Nat) (hn : n < 16) (w : World) : Calls Tryz.prog 115 #[.int .i64 n] w fun e w' => e = .returned (.string ⟨(partT n).toArray⟩) ∧ w = w' := by
  have e0 : IntKind.u64.wrap (n : Int) = un (bv n) := by
    rw [wrap_u64_bv]
  have e1 : (n : Int) % 18446744073709551616 = un (bv n) := by rw [← e0]; simp [IntKind.wrap, IntKind.bits, IntKind.signed]
  have hP := Lib.hid (fun k W => RPart_any (bv n) (3 - (k : Nat)) 1 W)
  have hB := Lib.hid (part_bit n hn)
  generalize hx : bv (n : Int) = x at e0 e1 hP hB
  clear hx hn
  go_enter Tryz.func115, Tryz.ntmps115
  go_wp2
  go_loopw [3, 4] (fun s i wr => ∃ k : Nat, k ≤ 4 ∧ i = .int .i64 k ∧ s = .string ⟨(partK n k).toArray⟩ ∧ w = wr) (fun _ i _ => 4 - (intOf i).toNat)
  case atStart => exact ⟨0, Nat.zero_le _, rfl, rfl, rfl⟩
  case round =>
    obtain ⟨k, hk, rfl, rfl, rfl⟩ := hrel
    by_cases hlt : k < 4
    · have h1 : (un (Part x (3 - (k : Int)) 1) == 1) = n.testBit (3 - k) := hB.out k hlt
      have hl := partK_len n k
      have hd := part_one k hlt
      have hs : partK n (k + 1) = if n.testBit (3 - k) then partK n k ++ [[105, 111, 114, 119].getD k 0] else partK n k := rfl
      replace hs := Lib.hid hs
      generalize partK n k = l1 at *
      generalize ([105, 111, 114, 119] : List UInt8).getD k 0 = c at *
      have hlk : (k : Int) < 4 := by omega
      have hk3 : (0 : Int) ≤ 3 - (k : Int) := by omega
      cases hb : n.testBit (3 - k)
      · rw [hb] at h1 hs
        go_wp2_with (go_at_call 93; refine (hP.out k _).mono ?_; rintro e w' ⟨rfl, rfl⟩)
        go_roundw
        case rel => exact ⟨k + 1, by omega, by go_num, by rw [hs.out]; rfl, by first | rfl | trivial⟩
        case measure => simp [intOf]; omega
      · rw [hb] at h1 hs
        go_wp2_with (first | (go_at_call 93; refine (hP.out k _).mono ?_; rintro e w' ⟨rfl, rfl⟩) | (refine wpList_cat (by rfl) _ _ _ _ rfl l1 [c] rfl rfl (by show l1.length + 1 ≤ _; omega) ?_))
        go_roundw
        case rel => exact ⟨k + 1, by omega, by go_num, by rw [hs.out]; rfl, by first | rfl | trivial⟩
        case measure => simp [intOf]; omega
    · obtain rfl : k = 4 := by omega
      clear hlt hk
      rw [show ((4 : Nat) : Int) = 4 from rfl]
      have hr : Hid (partT n = if partK n 4 = [] then [48] else partK n 4) := Lib.hid rfl
      by_cases h0 : partK n 4 = []
      · rw [if_pos h0] at hr
        rw [h0]
        clear h0
        go_wp2
        go_ret
        exact ⟨by rw [hr.out]; rfl, rfl⟩
      · rw [if_neg h0] at hr
        have hb : (partK n 4 == []) = false := by rw [beq_eq_false_iff_ne]; exact h0
        generalize partK n 4 = l1 at *
        clear h0
        go_wp2
        go_ret
        exact ⟨by rw [hr.out]; rfl, rfl⟩
end
end Go.Proofs.YtcgflnkgekkidaaGreatDoor
namespace Go.Proofs.YtcgflnkgekkidaaGreatDoor
def hexD (n : Nat) : UInt8 := ([48, 49, 50, 51, 52, 53, 54, 55, 56, 57, 97, 98, 99, 100, 101, 102] : List UInt8).getD n 48
/-- The first k hexadecimal digits of a word. -/
def hexL (w : BitVec 32) : Nat → List UInt8
  | 0 => []
  | k + 1 => hexL w k ++ [hexD (w.toNat / 2 ^ (28 - 4 * k) % 16)]
theorem hexL_len (w : BitVec 32) : ∀ k, (hexL w k).length = k
  | 0 => rfl
  | k + 1 => by unfold hexL; rw [List.length_append, hexL_len w k]; rfl
/-- A line of a dump. -/
def dumpT (w : BitVec 32) : List UInt8 := if (insnW w).2 = 0 then textT (insnW w).1 else 46 :: hexL w 8
theorem insnW_bd (w : BitVec 32) : ((insnW w).1.op ≤ 9223372036854775807) ∧ (-9223372036854775808 ≤ (insnW w).1.imm ∧ (insnW w).1.imm ≤ 9223372036854775807) := by
  have key : ∀ (n : Nat) (op : Int), op + n ≤ 100 → ((insnFrom w op n).1.op ≤ 9223372036854775807) ∧ (-9223372036854775808 ≤ (insnFrom w op n).1.imm ∧ (insnFrom w op n).1.imm ≤ 9223372036854775807) := by
    intro n
    induction n with
    | zero => intro op ho; exact ⟨(by decide : (0 : Int) ≤ 9223372036854775807), (by decide : (-9223372036854775808 : Int) ≤ 0), (by decide : (0 : Int) ≤ 9223372036854775807)⟩
    | succ n ih =>
      intro op ho
      unfold insnFrom
      split
      · refine ⟨by show op ≤ _; omega, ?_⟩
        have hs : ∀ y : BitVec 64, -9223372036854775808 ≤ sn y ∧ sn y ≤ 9223372036854775807 := fun y => by
          have := sn_lt y; omega
        show -9223372036854775808 ≤ (decV _ _ _).imm ∧ (decV _ _ _).imm ≤ 9223372036854775807
        unfold decV
        simp only
        split
        · exact hs _
        · split
          · exact hs _
          · decide
      · exact ih (op + 1) (by omega)
  exact key 87 1 (by decide)
end Go.Proofs.YtcgflnkgekkidaaGreatDoor
namespace Go.Proofs.YtcgflnkgekkidaaGreatDoor
open Go.RowKit
theorem Tryz.info_strD : (Tryz.prog.info? 9).map (fun i => (i.zero, i.size, i.bytes)) = some (some (.string ⟨#[]⟩), 1, 16) := by kernel_rfl
/-- The first k lines of a dump. -/
def dumpsV (F : Nat → BitVec 32) : Nat → List Value
  | 0 => []
  | k + 1 => dumpsV F k ++ [.string ⟨(dumpT (F k)).toArray⟩]
theorem dumpsV_len (F : Nat → BitVec 32) : ∀ k, (dumpsV F k).length = k
  | 0 => rfl
  | k + 1 => by unfold dumpsV; rw [List.length_append, dumpsV_len F k]; rfl
end Go.Proofs.YtcgflnkgekkidaaGreatDoor
