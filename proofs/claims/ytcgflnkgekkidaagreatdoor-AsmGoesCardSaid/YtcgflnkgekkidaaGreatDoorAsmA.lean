/- Plain: items; the instructions of a number. No program in sight. The walks of asm.number, asm.Number and asm.Turned. The walks of asm.Turned, asm.length and asm.goes. Conditions: as each theorem says. -/
import Derived.Test.YtcgflnkgekkidaaGreatDoorInsnDf
import Derived.Test.YtcgflnkgekkidaaGreatDoorRefDf
import Derived.Deep.MidRow
import Derived.OwnWalk
import Derived.Deep.DeepCutAuto
import Derived.Deep.CutBlock
import Derived.Laws.OwnMore
import Derived.LoopN
set_option linter.unusedSimpArgs false
set_option linter.unusedVariables false
namespace Go.Proofs.YtcgflnkgekkidaaGreatDoor
structure ItemV where
  kind : Int
  insn : InsnV
  label : Int
  addr : BitVec 64
  deriving DecidableEq
def ItemV.cells (i : ItemV) : Array Value := #[.int .i64 i.kind, .int .i64 i.insn.op, .int .i64 i.insn.rd, .int .i64 i.insn.rs1, .int .i64 i.insn.rs2, .int .i64 i.insn.imm, .bool i.insn.aq, .bool i.insn.rl, .int .i64 i.insn.pred, .int .i64 i.insn.succ, .int .i64 i.label, .int .u64 (un i.addr)]
/-- Cells of instructions, one behind the other. -/
def insnsC (l : List InsnV) : List Value := l.flatMap fun i => i.cells.toList
theorem insnsC_app (l m : List InsnV) : insnsC (l ++ m) = insnsC l ++ insnsC m := by unfold insnsC; rw [List.flatMap_append]
def restV (x : BitVec 64) : BitVec 64 := Sign x 12
def upV (x : BitVec 64) : BitVec 64 := (x - restV x).sshiftRight 12
/-- A number's instructions. -/
def numF : Nat → Int → BitVec 64 → List InsnV
  | 0, _, _ => []
  | f + 1, rd, x =>
    if Fits (sn x) 12 = true then [⟨22, rd, 0, 0, sn x, false, false, 0, 0⟩]
    else if (Fits (sn x) 32 && Fits (sn (upV x)) 20) = true then
      (if sn (restV x) = 0 then [⟨1, rd, 0, 0, sn (upV x), false, false, 0, 0⟩] else [⟨1, rd, 0, 0, sn (upV x), false, false, 0, 0⟩, ⟨31, rd, rd, 0, sn (restV x), false, false, 0, 0⟩])
    else if sn (restV x) = 0 then numF f rd (upV x) ++ [⟨28, rd, rd, 0, 12, false, false, 0, 0⟩]
    else numF f rd (upV x) ++ [⟨28, rd, rd, 0, 12, false, false, 0, 0⟩] ++ [⟨22, rd, rd, 0, sn (restV x), false, false, 0, 0⟩]
def numV (rd : Int) (x : BitVec 64) : List InsnV := numF 6 rd x
theorem numF_len : ∀ (f : Nat) (rd : Int) (x : BitVec 64), (numF f rd x).length ≤ 2 * f
  | 0, _, _ => Nat.le_refl _
  | f + 1, rd, x => by
    have ih := numF_len f rd (upV x)
    unfold numF
    repeat' split
    all_goals simp only [List.length_append, List.length_cons, List.length_nil]
    all_goals omega
/-- What the lowest twelve bits are, as a signed number. -/
theorem rest_bd (x : BitVec 64) : -2048 ≤ sn (restV x) ∧ sn (restV x) ≤ 2047 := by
  unfold restV Sign sn
  rw [show (64 - cl 12) = 52 by decide, BitVec.toInt_sshiftRight]
  have h1 := BitVec.le_toInt (x <<< 52)
  have h2 := BitVec.toInt_lt (x := x <<< 52)
  simp only [Int.shiftRight_eq_div_pow] at *
  omega
theorem rest_mod (x : BitVec 64) : (sn x - sn (restV x)) % 4096 = 0 := by
  unfold restV Sign sn
  rw [show (64 - cl 12) = 52 by decide, BitVec.toInt_sshiftRight, BitVec.toInt_shiftLeft, BitVec.toInt_eq_toNat_bmod]
  have hN := x.isLt
  generalize x.toNat = N at *
  rw [Int.shiftRight_eq_div_pow]
  simp only [Int.bmod_def, Nat.shiftLeft_eq]
  omega
theorem up_eq (x : BitVec 64) (h1 : -4611686018427387904 ≤ sn x) (h2 : sn x ≤ 4611686018427387904) : sn (upV x) * 4096 = sn x - sn (restV x) := by
  have hb := rest_bd x
  have hm := rest_mod x
  unfold upV
  have e : sn ((x - restV x).sshiftRight 12) = sn (x - restV x) / 4096 := (sn_shr _ 12).symm
  have e2 : sn (x - restV x) = sn x - sn (restV x) := by
    unfold sn at *
    rw [BitVec.toInt_sub]
    rw [Int.bmod_eq_of_le (by omega) (by omega)]
  rw [e, e2]
  omega
theorem up_all (x : BitVec 64) : -2251799813685248 ≤ sn (upV x) ∧ sn (upV x) ≤ 2251799813685248 := by
  unfold upV
  have e : sn ((x - restV x).sshiftRight 12) = sn (x - restV x) / 4096 := (sn_shr _ 12).symm
  rw [e]
  have := sn_lt (x - restV x)
  omega
theorem fits12 (x : BitVec 64) (h1 : -2048 ≤ sn x) (h2 : sn x ≤ 2047) : Fits (sn x) 12 = true := by
  unfold Fits
  rw [bv_sn, beq_iff_eq]
  have hb := rest_bd x
  have hm := rest_mod x
  unfold restV at hb hm
  omega
end Go.Proofs.YtcgflnkgekkidaaGreatDoor
namespace Go.Proofs.YtcgflnkgekkidaaGreatDoor
open Go.RowKit
theorem Tryz.info_insn9 : (Tryz.prog.info? 26).map (fun i => (i.zero, i.size, i.bytes)) = some (some (.agg #[.int .i64 0, .int .i64 0, .int .i64 0, .int .i64 0, .int .i64 0, .bool false, .bool false, .int .i64 0, .int .i64 0]), 9, 64) := by kernel_rfl
/-- A slice of instructions in new memory. -/
structure NewInsns (w : World) (l : List InsnV) (e : Ending) (w' : World) : Prop where
  ret : ∃ v, e = .returned v ∧ w'.ownsRow w.heap.size 26 9 v l.length (insnsC l)
  below : Below w.heap.size w w'
theorem lit_insn (w : World) (i : InsnV) : (w.alloc (.cells i.cells 26)).ownsRow w.heap.size 26 9 (.slice (some ⟨w.heap.size, 0, none⟩) 1 1) [i].length (insnsC [i]) := by
  have := World.ownsRow_lit (base := w.heap.size) (e := 26) (size := 9) w i.cells 1 (Nat.le_refl _) (by decide) rfl
  rw [show insnsC [i] = i.cells.toList by unfold insnsC; simp]; exact this
theorem own_snocI {w : World} {b : Nat} {v : Value} {l : List InsnV} {i : InsnV} (h : w.ownsRow b 26 9 v (l.length + 1) (insnsC l ++ i.cells.toList)) : w.ownsRow b 26 9 v (l ++ [i]).length (insnsC (l ++ [i])) := by
  rw [insnsC_app, show insnsC [i] = i.cells.toList by unfold insnsC; simp, List.length_append]; exact h
theorem lit_cellI (w : World) (i : InsnV) (t : TypeId) : ∀ (j : Nat) (u : Value), i.cells.toList[j]? = some u → (w.alloc (.cells i.cells t)).cell? ((⟨w.heap.size, 0, none⟩ : Addr).add j) = some u := fun j u h => by
  rw [show (⟨w.heap.size, 0, none⟩ : Addr).add j = ⟨w.heap.size, j, none⟩ by rw [Addr.add_mid, Nat.zero_add], World.cell?_alloc_new]
  simpa using h
theorem insn_ones (i : InsnV) : ∀ u ∈ i.cells.toList, u.oneCell' = true := fun u h => by
  simp [InsnV.cells] at h
  rcases h with rfl | rfl | rfl | rfl | rfl | rfl | rfl | rfl | rfl <;> rfl
/-- One step of a number's instructions. -/
def numS (rd : Int) (x : BitVec 64) (L : List InsnV) : List InsnV :=
  if Fits (sn x) 12 = true then [⟨22, rd, 0, 0, sn x, false, false, 0, 0⟩]
  else if (Fits (sn x) 32 && Fits (sn (upV x)) 20) = true then
    (if sn (restV x) = 0 then [⟨1, rd, 0, 0, sn (upV x), false, false, 0, 0⟩] else [⟨1, rd, 0, 0, sn (upV x), false, false, 0, 0⟩, ⟨31, rd, rd, 0, sn (restV x), false, false, 0, 0⟩])
  else if sn (restV x) = 0 then L ++ [⟨28, rd, rd, 0, 12, false, false, 0, 0⟩]
  else L ++ [⟨28, rd, rd, 0, 12, false, false, 0, 0⟩] ++ [⟨22, rd, rd, 0, sn (restV x), false, false, 0, 0⟩]
theorem w64_sub (a b : BitVec 64) : wrap64 (sn a - sn b) = sn (a - b) := by
  rw [← IntWalk.i64_left, wrap_i64_sn, bv_sub, bv_sn, bv_sn]
theorem sn_4096 (y : BitVec 64) : sn y / 4096 = sn (y.sshiftRight 12) := sn_shr y 12
section
attribute [local irreducible] Sign Fits un sn upV restV
attribute [local go_sem] wrap64_un w64_sub sn_4096 wrap_u64_bv bv_sn
set_option maxRecDepth 100000 in
set_option maxHeartbeats 8000000 in
theorem number_step (rd : Int) (x : BitVec 64) (L : List InsnV) (w : World) (hL : L.length ≤ 1000)
    (hrec : Fits (sn x) 12 = false → (Fits (sn x) 32 && Fits (sn (upV x)) 20) = false → ∀ W, Calls Tryz.prog 43 #[.int .i64 rd, .int .u64 (un (upV x))] W (NewInsns W L)) :
    Calls Tryz.prog 43 #[.int .i64 rd, .int .u64 (un x)] w (NewInsns w (numS rd x L)) := by
  have hS : Hid (∀ W, Calls Tryz.prog 77 #[.int .u64 (un x), .int .i64 12] W fun e w' => e = .returned (.int .i64 (sn (restV x))) ∧ W = w') := Lib.hid (fun W => by unfold restV; exact Sign_any x 12 W)
  have eU : wrap64 (sn x - sn (restV x)) / 4096 = sn (upV x) := by rw [w64_sub, sn_4096]; unfold upV; rfl
  obtain ⟨B1, h1⟩ : ∃ B, Fits (sn x) 12 = B := ⟨_, rfl⟩
  obtain ⟨B2, h2⟩ : ∃ B, Fits (sn x) 32 = B := ⟨_, rfl⟩
  obtain ⟨B3, h3⟩ : ∃ B, Fits (sn (upV x)) 20 = B := ⟨_, rfl⟩
  have hF1 : Hid (∀ W, Calls Tryz.prog 73 #[.int .i64 (sn x), .int .i64 12] W fun e w' => e = .returned (.bool B1) ∧ W = w') := Lib.hid fun W => by rw [← h1]; exact Fits_any (sn x) 12 W
  have hF2 : Hid (∀ W, Calls Tryz.prog 73 #[.int .i64 (sn x), .int .i64 32] W fun e w' => e = .returned (.bool B2) ∧ W = w') := Lib.hid fun W => by rw [← h2]; exact Fits_any (sn x) 32 W
  have hF3 : Hid (∀ W, Calls Tryz.prog 73 #[.int .i64 (sn (upV x)), .int .i64 20] W fun e w' => e = .returned (.bool B3) ∧ W = w') := Lib.hid fun W => by rw [← h3]; exact Fits_any (sn (upV x)) 20 W
  rw [h1, h2, h3] at hrec
  unfold numS
  rw [h1, h2, h3]
  clear h1 h2 h3
  replace hrec := Lib.hid hrec
  generalize upV x = u at *
  generalize sn (restV x) = r at *
  obtain ⟨i0, q0, q1, q2, q3⟩ := info_parts Tryz.info_insn9
  replace q0 := Lib.hid q0
  replace q1 := Lib.hid q1
  replace q2 := Lib.hid q2
  replace q3 := Lib.hid q3
  cases B1
  case true =>
    rw [if_pos rfl]
    clear hrec
    go_enter Tryz.func43, Tryz.ntmps43
    go_upto_region 4 with (go_at_call 77; refine (hS.out _).mono ?_; rintro e w1 ⟨rfl, rfl⟩)
    clear eU hS
    go_wp2_with (go_at_call 73; (with_reducible refine (hF1.out _).mono ?_); rintro e w1 ⟨rfl, rfl⟩)
    go_ret
    exact ⟨⟨_, rfl, lit_insn w ⟨22, rd, 0, 0, sn x, false, false, 0, 0⟩⟩, ((Below.refl _ _).alloc (Nat.le_refl _) _)⟩
  case false =>
    rw [if_neg (by decide)]
    by_cases hB : (B2 && B3) = true
    · rw [if_pos hB]
      obtain ⟨rfl, rfl⟩ := Bool.and_eq_true_iff.1 hB
      clear hB
      by_cases hr0 : r = 0
      · rw [if_pos hr0]
        clear hrec
        replace hr0 := Lib.hid hr0
        go_enter Tryz.func43, Tryz.ntmps43
        go_upto_region 4 with (go_at_call 77; refine (hS.out _).mono ?_; rintro e w1 ⟨rfl, rfl⟩)
        clear eU hS
        obtain rfl := hr0.out
        go_wp2_with (first | (go_at_call 73; (with_reducible refine (hF1.out _).mono ?_); rintro e w1 ⟨rfl, rfl⟩) | (go_at_call 73; (with_reducible refine (hF2.out _).mono ?_); rintro e w1 ⟨rfl, rfl⟩) | (go_at_call 73; (with_reducible refine (hF3.out _).mono ?_); rintro e w1 ⟨rfl, rfl⟩))
        go_ret
        exact ⟨⟨_, rfl, lit_insn w ⟨1, rd, 0, 0, sn u, false, false, 0, 0⟩⟩, ((Below.refl _ _).alloc (Nat.le_refl _) _)⟩
      · rw [if_neg hr0]
        have tr : (r != 0) = true := by simpa using hr0
        clear hrec
        go_enter Tryz.func43, Tryz.ntmps43
        go_upto_region 4 with (go_at_call 77; refine (hS.out _).mono ?_; rintro e w1 ⟨rfl, rfl⟩)
        clear eU hS
        go_upto_region 9 with (first | (go_at_call 73; (with_reducible refine (hF1.out _).mono ?_); rintro e w1 ⟨rfl, rfl⟩) | (go_at_call 73; (with_reducible refine (hF2.out _).mono ?_); rintro e w1 ⟨rfl, rfl⟩) | (go_at_call 73; (with_reducible refine (hF3.out _).mono ?_); rintro e w1 ⟨rfl, rfl⟩))
        have hown := lit_insn w ⟨1, rd, 0, 0, sn u, false, false, 0, 0⟩
        dsimp only [InsnV.cells] at hown
        generalize hW1 : w.alloc _ = W1 at hown ⊢
        have hb1 : Below w.heap.size w W1 := by rw [← hW1]; exact ((Below.refl _ _).alloc (Nat.le_refl _) _)
        clear hW1
        go_wp2_with (at_builtin; refine wpList_append_own _ rfl _ _ 42 rfl w.heap.size 26 i0 (.agg #[.int .i64 0, .int .i64 0, .int .i64 0, .int .i64 0, .int .i64 0, .bool false, .bool false, .int .i64 0, .int .i64 0]) 9 64 Tryz.underlying42 q0.out q1.out q2.out q3.out rfl (by decide) _ 1 _ rfl (hown.alloc _) ⟨W1.heap.size, 0, none⟩ 1 1 (InsnV.cells ⟨31, rd, rd, 0, r, false, false, 0, 0⟩).toList rfl rfl ?c1 ?c2 ?c3 ?c4 ?c5 ?_)
        case c1 => exact lit_cellI W1 ⟨31, rd, rd, 0, r, false, false, 0, 0⟩ _
        case c2 => exact insn_ones _
        case c3 => decide
        case c4 => decide
        case c5 => have := hb1.size; simp; omega
        intro v' w2 hown2 hgrow _
        have hb2 := (hb1.alloc hb1.size _).grown hgrow (by have := hb1.size; simp; omega) (fun j hj => (World.ownsRow.lt hown j hj).1)
        go_wp2_with fail
        go_ret
        exact ⟨⟨_, rfl, hown2⟩, hb2⟩
    · have hB' : (B2 && B3) = false := by simpa using hB
      have hR := Lib.hid (hrec.out rfl hB')
      rw [if_neg hB]
      have hcase : (B2 = false) ∨ (B2 = true ∧ B3 = false) := by cases B2 <;> cases B3 <;> simp_all
      clear hrec hB hB'
      by_cases hr0 : r = 0
      · rw [if_pos hr0]
        rcases hcase with rfl | ⟨rfl, rfl⟩
        all_goals
          replace hr0 := Lib.hid hr0
          go_enter Tryz.func43, Tryz.ntmps43
          go_upto_region 4 with (go_at_call 77; refine (hS.out _).mono ?_; rintro e w1 ⟨rfl, rfl⟩)
          clear eU hS
          obtain rfl := hr0.out
          go_upto_region 11 with (first | (go_at_call 73; (with_reducible refine (hF1.out _).mono ?_); rintro e w1 ⟨rfl, rfl⟩) | (go_at_call 73; (with_reducible refine (hF2.out _).mono ?_); rintro e w1 ⟨rfl, rfl⟩) | (go_at_call 73; (with_reducible refine (hF3.out _).mono ?_); rintro e w1 ⟨rfl, rfl⟩))
          go_upto_region 12 with (first | (go_at_call 43; (with_reducible refine (hR.out _).mono ?_); rintro e w2 ⟨⟨v, rfl, hown⟩, hb2⟩) | (at_builtin; refine wpList_append_own _ rfl _ _ 42 rfl w.heap.size 26 i0 (.agg #[.int .i64 0, .int .i64 0, .int .i64 0, .int .i64 0, .int .i64 0, .bool false, .bool false, .int .i64 0, .int .i64 0]) 9 64 Tryz.underlying42 q0.out q1.out q2.out q3.out rfl (by decide) _ L.length _ rfl (hown.alloc _) ⟨w2.heap.size, 0, none⟩ 1 1 (InsnV.cells ⟨28, rd, rd, 0, 12, false, false, 0, 0⟩).toList rfl rfl ?c1 ?c2 ?c3 ?c4 ?c5 ?_))
          case c1 => exact lit_cellI w2 ⟨28, rd, rd, 0, 12, false, false, 0, 0⟩ _
          case c2 => exact insn_ones _
          case c3 => (first | (unfold maxLen; omega) | omega)
          case c4 => (first | (unfold maxLen; omega) | omega)
          case c5 => have := hb2.size; simp; omega
          intro v3 w3 hown3 hgrow3 _
          have hb3 := (hb2.alloc hb2.size _).grown hgrow3 (by have := hb2.size; simp; omega) (fun j hj => (World.ownsRow.lt hown j hj).1)
          replace hown3 := own_snocI hown3
          clear hgrow3 hown hb2 hR
          go_wp2_with fail
          go_ret
          exact ⟨⟨_, rfl, hown3⟩, hb3⟩
      · rw [if_neg hr0]
        rcases hcase with rfl | ⟨rfl, rfl⟩
        all_goals
          have tr : (r != 0) = true := by simpa using hr0
          go_enter Tryz.func43, Tryz.ntmps43
          go_upto_region 4 with (go_at_call 77; refine (hS.out _).mono ?_; rintro e w1 ⟨rfl, rfl⟩)
          clear eU hS
          go_upto_region 11 with (first | (go_at_call 73; (with_reducible refine (hF1.out _).mono ?_); rintro e w1 ⟨rfl, rfl⟩) | (go_at_call 73; (with_reducible refine (hF2.out _).mono ?_); rintro e w1 ⟨rfl, rfl⟩) | (go_at_call 73; (with_reducible refine (hF3.out _).mono ?_); rintro e w1 ⟨rfl, rfl⟩))
          go_upto_region 12 with (first | (go_at_call 43; (with_reducible refine (hR.out _).mono ?_); rintro e w2 ⟨⟨v, rfl, hown⟩, hb2⟩) | (at_builtin; refine wpList_append_own _ rfl _ _ 42 rfl w.heap.size 26 i0 (.agg #[.int .i64 0, .int .i64 0, .int .i64 0, .int .i64 0, .int .i64 0, .bool false, .bool false, .int .i64 0, .int .i64 0]) 9 64 Tryz.underlying42 q0.out q1.out q2.out q3.out rfl (by decide) _ L.length _ rfl (hown.alloc _) ⟨w2.heap.size, 0, none⟩ 1 1 (InsnV.cells ⟨28, rd, rd, 0, 12, false, false, 0, 0⟩).toList rfl rfl ?c1 ?c2 ?c3 ?c4 ?c5 ?_))
          case c1 => exact lit_cellI w2 ⟨28, rd, rd, 0, 12, false, false, 0, 0⟩ _
          case c2 => exact insn_ones _
          case c3 => (first | (unfold maxLen; omega) | omega)
          case c4 => (first | (unfold maxLen; omega) | omega)
          case c5 => have := hb2.size; simp; omega
          intro v3 w3 hown3 hgrow3 _
          have hb3 := (hb2.alloc hb2.size _).grown hgrow3 (by have := hb2.size; simp; omega) (fun j hj => (World.ownsRow.lt hown j hj).1)
          replace hown3 := own_snocI hown3
          clear hgrow3 hown hb2 hR
          go_wp2_with (at_builtin; refine wpList_append_own _ rfl _ _ 42 rfl w.heap.size 26 i0 (.agg #[.int .i64 0, .int .i64 0, .int .i64 0, .int .i64 0, .int .i64 0, .bool false, .bool false, .int .i64 0, .int .i64 0]) 9 64 Tryz.underlying42 q0.out q1.out q2.out q3.out rfl (by decide) _ _ _ rfl (hown3.alloc _) ⟨w3.heap.size, 0, none⟩ 1 1 (InsnV.cells ⟨22, rd, rd, 0, r, false, false, 0, 0⟩).toList rfl rfl ?c1 ?c2 ?c3 ?c4 ?c5 ?_)
          case c1 => exact lit_cellI w3 ⟨22, rd, rd, 0, r, false, false, 0, 0⟩ _
          case c2 => exact insn_ones _
          case c3 => (first | (unfold maxLen; simp; omega) | (simp; omega))
          case c4 => (first | (unfold maxLen; simp; omega) | (simp; omega))
          case c5 => have := hb3.size; simp; omega
          intro v4 w4 hown4 hgrow4 _
          have hb4 := (hb3.alloc hb3.size _).grown hgrow4 (by have := hb3.size; simp; omega) (fun j hj => (World.ownsRow.lt hown3 j hj).1)
          replace hown4 := own_snocI (l := L ++ [(⟨28, rd, rd, 0, 12, false, false, 0, 0⟩ : InsnV)]) (by rw [List.length_append]; exact hown4)
          go_wp2_with fail
          go_ret
          exact ⟨⟨_, rfl, hown4⟩, hb4⟩
end
theorem numF_S (f : Nat) (rd : Int) (x : BitVec 64) : numF (f + 1) rd x = numS rd x (numF f rd (upV x)) := rfl
theorem number_f : ∀ (f : Nat) (rd : Int) (x : BitVec 64) (w : World), f ≤ 5 → -(2048 * (4096 ^ f : Nat) : Int) ≤ sn x → sn x ≤ 2048 * (4096 ^ f : Nat) →
    Calls Tryz.prog 43 #[.int .i64 rd, .int .u64 (un x)] w (NewInsns w (numF (f + 1) rd x)) := by
  intro f
  induction f with
  | zero =>
    intro rd x w _ h1 h2
    have e0 : ((4096 ^ 0 : Nat) : Int) = 1 := by decide
    rw [e0] at h1 h2
    rw [numF_S]
    refine number_step rd x _ w (Nat.le_trans (numF_len 0 rd _) (by decide)) fun b1 b2 => ?_
    have hx : sn x = 2048 := by
      rcases Int.lt_or_le (sn x) 2048 with h | h
      · rw [fits12 x (by omega) (by omega)] at b1; cases b1
      · omega
    have hx2 : x = 2048#64 := BitVec.eq_of_toInt_eq (by show sn x = _; rw [hx]; decide)
    subst hx2
    exact absurd b2 (by decide +kernel)
  | succ f ih =>
    intro rd x w hf h1 h2
    rw [numF_S]
    refine number_step rd x _ w (Nat.le_trans (numF_len (f + 1) rd _) (by omega)) fun b1 b2 W => ?_
    have hpow : ((4096 ^ (f + 1) : Nat) : Int) = 4096 * ((4096 ^ f : Nat) : Int) := by rw [Nat.pow_succ, Int.natCast_mul]; generalize 4096 ^ f = q; omega
    rw [hpow] at h1 h2
    have hb := rest_bd x
    have ha := up_all x
    have hp : (1 : Int) ≤ ((4096 ^ f : Nat) : Int) := by have := Nat.one_le_pow f 4096 (by decide); generalize 4096 ^ f = q at this ⊢; omega
    by_cases h4 : f = 4
    · subst h4
      refine ih rd (upV x) W (by decide) ?_ ?_
      · have e4 : ((4096 ^ 4 : Nat) : Int) = 281474976710656 := by decide
        rw [e4]; omega
      · have e4 : ((4096 ^ 4 : Nat) : Int) = 281474976710656 := by decide
        rw [e4]; omega
    · have h3 : f ≤ 3 := by omega
      have hq : ((4096 ^ f : Nat) : Int) ≤ 68719476736 := by
        have := Nat.pow_le_pow_right (show 1 ≤ 4096 by decide) h3
        have e : (4096 : Nat) ^ 3 = 68719476736 := by decide
        rw [e] at this
        generalize 4096 ^ f = q at this ⊢
        omega
      generalize ((4096 ^ f : Nat) : Int) = m at *
      have he := up_eq x (by omega) (by omega)
      exact ih rd (upV x) W (by omega) (by omega) (by omega)
/-- asm.number, whatever the number. -/
theorem ANumber_any (rd : Int) (x : BitVec 64) (w : World) : Calls Tryz.prog 43 #[.int .i64 rd, .int .u64 (un x)] w (NewInsns w (numV rd x)) := by
  have h := sn_lt x
  have e : ((4096 ^ 5 : Nat) : Int) = 1152921504606846976 := by decide
  exact number_f 5 rd x w (Nat.le_refl _) (by rw [e]; omega) (by rw [e]; omega)
end Go.Proofs.YtcgflnkgekkidaaGreatDoor
namespace Go.Proofs.YtcgflnkgekkidaaGreatDoor
open Go.RowKit
/-- A row's value is a slice of its length. -/
theorem own_sliceN {w : World} {base : Nat} {e : TypeId} {s : Nat} {v : Value} {n : Nat} {xs : List Value} (h : w.ownsRow base e s v n xs) : ∃ (ao : Option Addr) (cap : Nat), v = .slice ao n cap := by
  rcases h.2 with ⟨rfl, h0⟩ | ⟨g, cap, cur, rfl, h2⟩
  · exact ⟨none, 0, by rw [h0]⟩
  · exact ⟨_, cap, rfl⟩
/-- The other branch. -/
def turnedV (op : Int) : Int := if op = 5 then 6 else if op = 6 then 5 else if op = 7 then 8 else if op = 8 then 7 else if op = 9 then 10 else if op = 10 then 9 else 0
section
attribute [local go_sem] run_index_array'
set_option maxRecDepth 100000 in
set_option maxHeartbeats 8000000 in
theorem Turned_any (op : Int) (w : World) : Calls Tryz.prog 26 #[.int .i64 op] w fun e w' => e = .returned (.int .i64 (turnedV op)) ∧ Below w.heap.size w w' := by
  go_enter Tryz.func26, Tryz.ntmps26
  go_wp2_with fail
  go_loopw [11] (fun i wr => ∃ k : Nat, k ≤ 3 ∧ i = .int .i64 k ∧ Below w.heap.size w wr ∧ Hid (∀ j : Nat, j < k → op ≠ 2 * j + 5 ∧ op ≠ 2 * j + 6)) (fun i _ => 3 - (intOf i).toNat)
  case atStart => exact ⟨0, by decide, rfl, (Below.refl _ _).alloc (Nat.le_refl _) _, Lib.hid fun j hj => absurd hj (by omega)⟩
  case round =>
    obtain ⟨k, hk, rfl, hb, hno⟩ := hrel
    rcases (show k = 0 ∨ k = 1 ∨ k = 2 ∨ k = 3 by omega) with rfl | rfl | rfl | rfl
    · by_cases e1 : op = 5
      · subst e1
        go_wp2_with fail
        go_ret
        exact ⟨rfl, hb.alloc hb.size _⟩
      · have t1 : (op == 5) = false := by simpa using e1
        by_cases e2 : op = 6
        · subst e2
          go_wp2_with fail
          go_ret
          exact ⟨rfl, hb.alloc hb.size _⟩
        · have t2 : (op == 6) = false := by simpa using e2
          go_wp2_with fail
          go_roundw
          case rel => exact ⟨1, by decide, by go_num, hb.alloc hb.size _, Lib.hid fun j hj => by
            rcases Nat.lt_or_ge j 0 with h | h
            · exact hno.out j h
            · obtain rfl : j = 0 := by omega
              exact ⟨e1, e2⟩⟩
          case measure => simp [intOf]
    · by_cases e1 : op = 7
      · subst e1
        go_wp2_with fail
        go_ret
        exact ⟨rfl, hb.alloc hb.size _⟩
      · have t1 : (op == 7) = false := by simpa using e1
        by_cases e2 : op = 8
        · subst e2
          go_wp2_with fail
          go_ret
          exact ⟨rfl, hb.alloc hb.size _⟩
        · have t2 : (op == 8) = false := by simpa using e2
          go_wp2_with fail
          go_roundw
          case rel => exact ⟨2, by decide, by go_num, hb.alloc hb.size _, Lib.hid fun j hj => by
            rcases Nat.lt_or_ge j 1 with h | h
            · exact hno.out j h
            · obtain rfl : j = 1 := by omega
              exact ⟨e1, e2⟩⟩
          case measure => simp [intOf]
    · by_cases e1 : op = 9
      · subst e1
        go_wp2_with fail
        go_ret
        exact ⟨rfl, hb.alloc hb.size _⟩
      · have t1 : (op == 9) = false := by simpa using e1
        by_cases e2 : op = 10
        · subst e2
          go_wp2_with fail
          go_ret
          exact ⟨rfl, hb.alloc hb.size _⟩
        · have t2 : (op == 10) = false := by simpa using e2
          go_wp2_with fail
          go_roundw
          case rel => exact ⟨3, by decide, by go_num, hb.alloc hb.size _, Lib.hid fun j hj => by
            rcases Nat.lt_or_ge j 2 with h | h
            · exact hno.out j h
            · obtain rfl : j = 2 := by omega
              exact ⟨e1, e2⟩⟩
          case measure => simp [intOf]
    · have hz : Hid (turnedV op = 0) := Lib.hid (by
        have h0 := hno.out 0 (by decide)
        have h1 := hno.out 1 (by decide)
        have h2 := hno.out 2 (by decide)
        unfold turnedV
        rw [if_neg (by omega), if_neg (by omega), if_neg (by omega), if_neg (by omega), if_neg (by omega), if_neg (by omega)])
      go_wp2_with fail
      go_ret
      exact ⟨by rw [hz.out]; rfl, hb⟩
end
/-- An item's box. -/
structure ItB (b : Nat) (i : ItemV) (W : World) : Prop where
  c : ∀ j v, i.cells[j]? = some v → W.cell? ⟨b, j, none⟩ = some v
  lt : b < W.heap.size
theorem ItB.keep {b : Nat} {i : ItemV} {W W' : World} (h : ItB b i W) (hb : Below W.heap.size W W') : ItB b i W' :=
  ⟨fun j v hv => by rw [hb.cell (p := ⟨b, j, none⟩) h.lt]; exact h.c j v hv, Nat.lt_of_lt_of_le h.lt hb.size⟩
theorem ItB.new (w : World) (i : ItemV) (t : TypeId) : ItB w.heap.size i (w.alloc (.cells i.cells t)) ∧ Below w.heap.size w (w.alloc (.cells i.cells t)) :=
  ⟨⟨fun j v hv => by rw [World.cell?_alloc_new]; exact hv, by simp⟩, (Below.refl _ _).alloc (Nat.le_refl _) _⟩
theorem ItB.all {b : Nat} {W : World} {kind label : Int} {addr : BitVec 64} {op rd r1 r2 imm : Int} {aq rl : Bool} {pred succ : Int} (h : ItB b ⟨kind, ⟨op, rd, r1, r2, imm, aq, rl, pred, succ⟩, label, addr⟩ W) :
    W.cell? ⟨b, 0, none⟩ = some (.int .i64 kind) ∧ W.cell? ⟨b, 1, none⟩ = some (.int .i64 op) ∧ W.cell? ⟨b, 2, none⟩ = some (.int .i64 rd) ∧ W.cell? ⟨b, 3, none⟩ = some (.int .i64 r1) ∧ W.cell? ⟨b, 4, none⟩ = some (.int .i64 r2) ∧ W.cell? ⟨b, 5, none⟩ = some (.int .i64 imm) ∧ W.cell? ⟨b, 6, none⟩ = some (.bool aq) ∧ W.cell? ⟨b, 7, none⟩ = some (.bool rl) ∧ W.cell? ⟨b, 8, none⟩ = some (.int .i64 pred) ∧ W.cell? ⟨b, 9, none⟩ = some (.int .i64 succ) ∧ W.cell? ⟨b, 10, none⟩ = some (.int .i64 label) ∧ W.cell? ⟨b, 11, none⟩ = some (.int .u64 (un addr)) :=
  ⟨h.c 0 _ rfl, h.c 1 _ rfl, h.c 2 _ rfl, h.c 3 _ rfl, h.c 4 _ rfl, h.c 5 _ rfl, h.c 6 _ rfl, h.c 7 _ rfl, h.c 8 _ rfl, h.c 9 _ rfl, h.c 10 _ rfl, h.c 11 _ rfl⟩
/-- How many words an item that may be has. -/
def lenV (i : ItemV) (long : Bool) : Int := if i.kind = 2 then 0 else if i.kind = 5 then ((numV i.insn.rd i.addr).length : Int) else if i.kind = 3 ∧ long = true then 2 else 1
set_option maxRecDepth 100000 in
set_option maxHeartbeats 8000000 in
theorem Length_any (i : ItemV) (long : Bool) (w : World) : Calls Tryz.prog 55 #[.agg i.cells, .bool long] w fun e w' => e = .returned (.int .i64 (lenV i long)) ∧ Below w.heap.size w w' := by
  obtain ⟨hI, hb⟩ := ItB.new w i 29
  have hN := Lib.hid (fun W => ANumber_any i.insn.rd i.addr W)
  have hl : Hid ((numV i.insn.rd i.addr).length ≤ 12) := Lib.hid (numF_len 6 _ _)
  unfold lenV
  obtain ⟨kind, ⟨op, rd, r1, r2, imm, aq, rl, pred, succ⟩, label, addr⟩ := i
  obtain ⟨c0, c1, c2, c3, c4, c5, c6, c7, c8, c9, c10, c11⟩ := hI.all
  simp only at hN hl ⊢
  generalize numV rd addr = L at *
  clear c1 c3 c4 c5 c6 c7 c8 c9 c10 hI
  by_cases k2 : kind = 2
  · rw [if_pos k2]
    subst k2
    go_enter Tryz.func55, Tryz.ntmps55
    go_wp2_with fail
    go_ret
    exact ⟨rfl, hb⟩
  rw [if_neg k2]
  have t2 : (kind == 2) = false := by simpa using k2
  by_cases k5 : kind = 5
  · rw [if_pos k5]
    subst k5
    clear k2 t2
    go_enter Tryz.func55, Tryz.ntmps55
    go_wp2_with (go_at_call 43; (with_reducible refine (hN.out _).mono ?_); rintro e w2 ⟨⟨v, rfl, hown⟩, hb2⟩; obtain ⟨ao, cap, rfl⟩ := own_sliceN hown)
    go_ret
    exact ⟨rfl, hb.trans (hb2.mono hb.size)⟩
  rw [if_neg k5]
  have t5 : (kind == 5) = false := by simpa using k5
  by_cases k3 : kind = 3 ∧ long = true
  · rw [if_pos k3]
    obtain ⟨rfl, rfl⟩ := k3
    go_enter Tryz.func55, Tryz.ntmps55
    go_wp2_with fail
    go_ret
    exact ⟨rfl, hb⟩
  · rw [if_neg k3]
    by_cases k3' : kind = 3
    · subst k3'
      obtain rfl : long = false := by cases long <;> simp_all
      clear k3
      go_enter Tryz.func55, Tryz.ntmps55
      go_wp2_with fail
      go_ret
      exact ⟨rfl, hb⟩
    · have t3 : (kind == 3) = false := by simpa using k3'
      clear k3
      go_enter Tryz.func55, Tryz.ntmps55
      go_wp2_with fail
      go_ret
      exact ⟨rfl, hb⟩
end Go.Proofs.YtcgflnkgekkidaaGreatDoor
