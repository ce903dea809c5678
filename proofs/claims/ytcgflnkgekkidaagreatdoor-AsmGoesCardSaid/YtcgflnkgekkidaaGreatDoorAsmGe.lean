/- Where a hart comes to. Conditions: as each theorem says. -/
import Derived.Test.YtcgflnkgekkidaaGreatDoorAsmGc
import Derived.Test.YtcgflnkgekkidaaGreatDoorAsmC
import Derived.Test.YtcgflnkgekkidaaGreatDoorR3C
set_option linter.unusedSimpArgs false
set_option linter.unusedVariables false
namespace Go.Proofs.YtcgflnkgekkidaaGreatDoor
open Go.RowKit
/-- A load of a row by an operation that is wanted. -/
theorem wpList_loadQ {P : Program} {ops : Array Oper} {rest : List Oper} {op : Oper} {a : Act} {w : World} {Q : Exit → Act → World → Prop} (hw : Region.wanted op (yielded ops a.tmps) = true) (ty : TypeId) (x : Operand) (ho : op.op = .load ty x)
    (b o : Nat) (hx : a.eval x = .pointer (some ⟨b, o, none⟩)) (cs : List Value) (d : TypeDesc) (hc : w.rangeAt b o cs)
    (hu : P.underlying ty = some d) (hd : d.isRow = true) (hi : (P.info? ty).map (·.size) = some cs.length)
    (h : wpList P ops Q rest (a.put op.dst (.agg cs.toArray)) w) : wpList P ops Q (op :: rest) a w :=
  wpList_step fun _ hK => by rw [if_pos hw]; exact wp_load_mid ty x ho b o hx cs d hc hu hd hi (hK _ _ h)
def pcA (j : Nat) : BitVec 64 := BitVec.ofNat 64 (4 * j)
theorem pcA_un (j : Nat) (hj : j ≤ 40000) : un (pcA j) = 4 * (j : Int) := by
  unfold pcA un
  rw [BitVec.toNat_ofNat]
  omega
theorem pcA_S (j : Nat) : pcA j + 4#64 = pcA (j + 1) := by
  unfold pcA
  apply BitVec.eq_of_toNat_eq
  simp only [BitVec.toNat_add, BitVec.toNat_ofNat]
  omega
/-- What a hart does from a word on. -/
structure Plan (n : Nat) (ws : Nat → BitVec 32) (long : Bool) (a b : Nat) (m : Nat) (hs : Nat → HartV) (p : Nat → Nat) (I : Nat → InsnV) : Prop where
  m1 : 1 ≤ m
  m2 : m ≤ 2
  p0 : p 0 = a
  pm : p m = b
  pc : ∀ k, k ≤ m → (hs k).pc = pcA (p k) ∧ p k ≤ 40000
  st : ∀ k, k < m → p k < n ∧ ws (p k) = wordV (I k) ∧ checkE (I k) = 0 ∧ ∀ W, Calls Tryz.prog 19 #[.agg (hartL (hs k)).toArray, .agg (I k).cells, .int .u64 0, .bool false] W fun e w' => e = .returned (.tuple #[.agg (hartL (hs (k + 1))).toArray, .int .i64 0]) ∧ Below W.heap.size W w'
  on : m = 2 → long = true ∧ p 1 = a + 1
  off : m = 1 → long = false ∨ p 1 ≠ a + 1 ∨ n ≤ p 1
/-- What come's frame holds: the hart's box, the words. -/
structure GB (w : World) (H : Nat) (h : HartV) (bw n : Nat) (f : Nat → Value) (W : World) : Prop where
  hc : HC H h W
  hz : ∀ j, j < 35 → W.frozen? ⟨H, j, none⟩ = false
  hl : H < W.heap.size
  wd : ∀ j, j < n → W.cell? ⟨bw, j, none⟩ = some (f j)
  wl : bw < w.heap.size
  bl : Below w.heap.size w W
  ge : w.heap.size ≤ H
theorem GB.keep {w : World} {H bw n : Nat} {h : HartV} {f : Nat → Value} {W W' : World} (hN : GB w H h bw n f W) (hb : Below W.heap.size W W') : GB w H h bw n f W' := by
  have hH := hN.hl
  have hG := hN.ge
  have hw := hN.wl
  exact ⟨fun j hj => by rw [hb.cell (p := ⟨H, j, none⟩) hH]; exact hN.hc j hj, fun j hj => by rw [hb.frozen (p := ⟨H, j, none⟩) hH]; exact hN.hz j hj, Nat.lt_of_lt_of_le hH hb.size, fun j hj => by rw [hb.cell (p := ⟨bw, j, none⟩) (by show bw < W.heap.size; omega)]; exact hN.wd j hj, hw, hN.bl.trans (hb.mono (by omega)), hG⟩
theorem GB.there {w : World} {H bw n : Nat} {h : HartV} {f : Nat → Value} {W : World} (hN : GB w H h bw n f W) : W.there H 0 35 := fun j hj => by
  rw [Nat.zero_add]; exact ⟨by rw [hN.hc j hj]; rfl, hN.hz j hj⟩
/-- The hart's box is written whole. -/
theorem GB.put {w : World} {H bw n : Nat} {h : HartV} {f : Nat → Value} {W : World} (hN : GB w H h bw n f W) (y : HartV) : GB w H y bw n f (World.setCells W H 0 (hartL y)) := by
  obtain ⟨hb, hc, hl, ht⟩ := put_hart hN.there hN.hl y
  have hG := hN.ge
  have hw := hN.wl
  refine ⟨hc, fun j hj => by have := (ht j hj).2; rwa [Nat.zero_add] at this, hl, fun j hj => ?_, hw, below_setCells hG (hartL y) 0 W hN.bl, hG⟩
  rw [World.cell?_setCells_out H (hartL y) 0 W ⟨bw, j, none⟩ (fun e => absurd e (by show bw ≠ H; omega))]
  exact hN.wd j hj
/-- Another hart in the box. -/
theorem GB.turn {w : World} {H bw n : Nat} {h h' : HartV} {f : Nat → Value} {W W' : World} (hN : GB w H h bw n f W) (hc : HC H h' W') (hz : ∀ j, j < 35 → W'.frozen? ⟨H, j, none⟩ = false) (hb : Below H W W') : GB w H h' bw n f W' := by
  have hG := hN.ge
  have hw := hN.wl
  exact ⟨hc, hz, Nat.lt_of_lt_of_le hN.hl hb.size, fun j hj => by rw [hb.cell (p := ⟨bw, j, none⟩) (by show bw < H; omega)]; exact hN.wd j hj, hw, hN.bl.trans (hb.mono hG), hG⟩
section
attribute [local irreducible] un un32 sn hartL wordV checkE
set_option maxRecDepth 100000 in
set_option maxHeartbeats 8000000 in
/-- fencepostlaw15.come. -/
theorem Come_any (bw n c at' : Nat) (ws : Nat → BitVec 32) (op : Int) (rd r1 r2 : Nat) (imm : Int) (tk long : Bool) (dest : Nat) (w : World) (hr1 : r1 < 32) (hr2 : r2 < 32) (ho : op = 3 ∨ (5 ≤ op ∧ op ≤ 10)) (hat : at' < n) (hn : n ≤ 40000) (hw : VR bw n (fun j => .int .u32 (un32 (ws j))) w)
    (hP : ∀ h0 : HartV, h0.pc = pcA at' → h0.fin = 0 → h0.code = 0#64 → h0.x 0 = 0#64 → (op ≠ 3 → takesF op (h0.x r1) (h0.x r2) = tk) → ∃ m hs p I, hs 0 = h0 ∧ Plan n ws long at' dest m hs p I) :
    Calls Tryz.prog 22 #[.slice (some ⟨bw, 0, none⟩) n c, .int .i64 at', .agg #[.int .i64 op, .int .i64 rd, .int .i64 r1, .int .i64 r2, .int .i64 imm, .bool false, .bool false, .int .i64 0, .int .i64 0], .bool tk, .bool long] w fun e w' => (∃ (x : Int) (b : Bool), e = .returned (.tuple #[.int .i64 x, .bool b]) ∧ (b = true → x = dest) ∧ (op = 3 → b = true)) ∧ Below w.heap.size w w' := by
  have hP' := Lib.hid hP
  clear hP
  have hu := Tryz.underlying47
  have hu2 := Tryz.underlying26
  have hNw : Hid (∀ W, Calls Tryz.prog 18 #[.int .u64 (4 * (at' : Int))] W fun e w' => e = .returned (.agg (hartL (newV (pcA at'))).toArray) ∧ Below W.heap.size W w') := Lib.hid fun W => by
    have := RNew_any (pcA at') W
    rwa [pcA_un _ (by omega)] at this
  have hund : ∀ b : Bool, (some undef = some (Value.bool b)) = False := fun b => by simp [undef]
  have a0 : (0 : Int) ≤ (at' : Int) := Int.natCast_nonneg at'
  have a1 : (at' : Int) < 40000 := by omega
  go_enter Tryz.func22, Tryz.ntmps22
  go_upto_region 2 with (first | (go_at_call 18; (with_reducible refine (hNw.out _).mono ?_); rintro e w3 ⟨rfl, hb3⟩) | (refine wpList_store_mid rfl 47 _ _ rfl w3.heap.size 0 (hartL (newV (pcA at'))).toArray rfl rfl (there_hart (zeros_there w3 47) _) (size_hartA _) (hartL_one _) ?_))
  have hza := zeros_there w3 47
  have hlta : w3.heap.size < (w3.alloc (.cells #[.int .u64 0, .int .u64 0, .int .u64 0, .int .u64 0, .int .u64 0, .int .u64 0, .int .u64 0, .int .u64 0, .int .u64 0, .int .u64 0, .int .u64 0, .int .u64 0, .int .u64 0, .int .u64 0, .int .u64 0, .int .u64 0, .int .u64 0, .int .u64 0, .int .u64 0, .int .u64 0, .int .u64 0, .int .u64 0, .int .u64 0, .int .u64 0, .int .u64 0, .int .u64 0, .int .u64 0, .int .u64 0, .int .u64 0, .int .u64 0, .int .u64 0, .int .u64 0, .int .u64 0, .int .i64 0, .int .u64 0] 47)).heap.size := by simp
  have hala : Below w3.heap.size w3 (w3.alloc (.cells #[.int .u64 0, .int .u64 0, .int .u64 0, .int .u64 0, .int .u64 0, .int .u64 0, .int .u64 0, .int .u64 0, .int .u64 0, .int .u64 0, .int .u64 0, .int .u64 0, .int .u64 0, .int .u64 0, .int .u64 0, .int .u64 0, .int .u64 0, .int .u64 0, .int .u64 0, .int .u64 0, .int .u64 0, .int .u64 0, .int .u64 0, .int .u64 0, .int .u64 0, .int .u64 0, .int .u64 0, .int .u64 0, .int .u64 0, .int .u64 0, .int .u64 0, .int .u64 0, .int .u64 0, .int .i64 0, .int .u64 0] 47)) := (Below.refl _ _).alloc (Nat.le_refl _) _
  obtain ⟨hsta, hYa, ltYa, htYa⟩ := put_hart hza hlta (newV (pcA at'))
  replace hsta := hala.trans hsta
  clear hza hlta hala
  generalize World.setCells _ w3.heap.size 0 (hartL (newV (pcA at'))) = W7 at hsta hYa ltYa htYa ⊢
  have hs1 : (w.alloc (.cells #[.int .i64 op, .int .i64 rd, .int .i64 r1, .int .i64 r2, .int .i64 imm, .bool false, .bool false, .int .i64 0, .int .i64 0] 26)).heap.size = w.heap.size + 1 := by simp
  have hbA : Below w.heap.size w (w.alloc (.cells #[.int .i64 op, .int .i64 rd, .int .i64 r1, .int .i64 r2, .int .i64 imm, .bool false, .bool false, .int .i64 0, .int .i64 0] 26)) := (Below.refl _ _).alloc (Nat.le_refl _) _
  have hR1 : (w.alloc (.cells #[.int .i64 op, .int .i64 rd, .int .i64 r1, .int .i64 r2, .int .i64 imm, .bool false, .bool false, .int .i64 0, .int .i64 0] 26)).rangeAt w.heap.size 0 [.int .i64 op, .int .i64 rd, .int .i64 r1, .int .i64 r2, .int .i64 imm, .bool false, .bool false, .int .i64 0, .int .i64 0] := fun j v hv => by
    rw [Nat.zero_add, World.cell?_alloc_new]; simpa using hv
  generalize w.alloc (.cells #[.int .i64 op, .int .i64 rd, .int .i64 r1, .int .i64 r2, .int .i64 imm, .bool false, .bool false, .int .i64 0, .int .i64 0] 26) = W1 at hb3 hs1 hbA hR1
  have h13 : w.heap.size + 1 ≤ w3.heap.size := by have := hb3.size; omega
  have hG0 : GB w w3.heap.size (newV (pcA at')) bw n (fun j => .int .u32 (un32 (ws j))) W7 := by
    have hbw := (hbA.trans (hb3.mono (by omega))).trans (hsta.mono (by omega))
    exact ⟨hYa, fun j hj => by have := (htYa j hj).2; rwa [Nat.zero_add] at this, ltYa, fun j hj => (hbw.cell (p := ⟨bw, j, none⟩) hw.lt).trans (hw.c j hj), hw.lt, hbw, by omega⟩
  have hR7 : W7.rangeAt w.heap.size 0 [.int .i64 op, .int .i64 rd, .int .i64 r1, .int .i64 r2, .int .i64 imm, .bool false, .bool false, .int .i64 0, .int .i64 0] := fun j v hv => by
    rw [hsta.cell (p := ⟨w.heap.size, 0 + j, none⟩) (by show w.heap.size < _; omega), hb3.cell (p := ⟨w.heap.size, 0 + j, none⟩) (by show w.heap.size < _; omega)]; exact hR1 j v hv
  have c7 : W7.cell? ⟨w.heap.size, 0, none⟩ = some (.int .i64 op) := hR7 0 _ rfl
  clear hR1 hbA hs1 hb3 hsta hYa ltYa htYa h13
  generalize w3.heap.size = H at hG0 ⊢
  clear a0 a1
  by_cases e3 : op = 3
  · have t3 : (op != 3) = false := by rw [e3]; rfl
    have hPl0 := hP'.out (newV (pcA at')) rfl rfl rfl rfl (fun h => absurd e3 h)
    replace e3 := Lib.hid e3
    go_upto_region 4 with fail
    clear hR7 c7
    obtain ⟨m, hs, p, I, hs0, hPl⟩ := hPl0
    rw [← hs0] at hG0
    clear hs0 hP'
    go_wp2_with fail
    go_loopw [10, 11, 13, 14, 15, 16] (fun s10 s11 s13 s14 s15 s16 wr => ∃ k : Nat, k ≤ m ∧ s13 = .int .i64 k ∧ GB w H (hs k) bw n (fun j => .int .u32 (un32 (ws j))) wr) (fun _ _ s13 _ _ _ _ => 2 - (intOf s13).toNat)
    case atStart => exact ⟨0, Nat.zero_le _, rfl, hG0⟩
    case round =>
      obtain ⟨k, hk, rfl, hG⟩ := hrel
      clear hG0
      have hm1 := hPl.m1
      have hm2 := hPl.m2
      by_cases hlt : k < m
      · obtain rfl | rfl : k = 0 ∨ k = 1 := by omega
        · obtain ⟨hpc, hpb⟩ := hPl.pc 0 (by first | exact hk | omega)
          obtain ⟨q, hq⟩ : ∃ q, q = p 0 := ⟨_, rfl⟩
          rw [← hq] at hpc hpb
          have c0 : wr.cell? ⟨H, 0, none⟩ = some (.int .u64 (4 * (q : Int))) := (hG.hc 0 (by decide)).trans (by show some (Value.int .u64 (un (hs 0).pc)) = _; rw [hpc, pcA_un _ hpb])
          have f0 : (0 : Int) ≤ (q : Int) := Int.natCast_nonneg q
          have f1 : decide ((q : Int) < 0) = false := by rw [decide_eq_false_iff_not]; omega
          have f3 : (4 * (q : Int)).tdiv 4 = (q : Int) := by rw [Int.mul_comm]; exact Int.mul_tdiv_cancel _ (by decide)
          have f5 : (q : Int) ≤ 40000 := by omega
          have g1 : (((0 : Nat) : Int) == 1) = false := by decide
          obtain ⟨hpn, hwI, hck, hSt⟩ := hPl.st 0 hlt
          rw [← hq] at hpn hwI
          have f2 : decide ((n : Int) ≤ (q : Int)) = false := by rw [decide_eq_false_iff_not]; omega
          have f4 : (q : Int) < (n : Int) := by omega
          generalize I 0 = ii at hwI hck hSt
          obtain ⟨io, id, i1, i2, im, iq, il, ip, is⟩ := ii
          have cw : wr.cell? ⟨bw, q, none⟩ = some (.int .u32 (un32 (wordV ⟨io, id, i1, i2, im, iq, il, ip, is⟩))) := by rw [← hwI]; exact hG.wd q hpn
          have hIn : Hid (∀ W, Calls Tryz.prog 52 #[.int .u32 (un32 (wordV ⟨io, id, i1, i2, im, iq, il, ip, is⟩))] W fun e w' => e = .returned (.tuple #[.agg #[.int .i64 io, .int .i64 id, .int .i64 i1, .int .i64 i2, .int .i64 im, .bool iq, .bool il, .int .i64 ip, .int .i64 is], .int .i64 0]) ∧ Below W.heap.size W w') := Lib.hid fun W => by
            have := R3Insn_any (wordV ⟨io, id, i1, i2, im, iq, il, ip, is⟩) W
            rw [insn_word _ hck] at this
            exact this
          generalize un32 (wordV ⟨io, id, i1, i2, im, iq, il, ip, is⟩) = xw at cw hIn
          have hSt' : Hid (∀ W, Calls Tryz.prog 19 #[.agg (hartL (hs 0)).toArray, .agg #[.int .i64 io, .int .i64 id, .int .i64 i1, .int .i64 i2, .int .i64 im, .bool iq, .bool il, .int .i64 ip, .int .i64 is], .int .u64 0, .bool false] W fun e w' => e = .returned (.tuple #[.agg (hartL (hs (0 + 1))).toArray, .int .i64 0]) ∧ Below W.heap.size W w') := Lib.hid hSt
          clear hSt hck hwI hpc hpn hq hPl
          go_upto_region 12 with (go_at_call 52; (with_reducible refine (hIn.out _).mono ?_); rintro e w5 ⟨rfl, hb5⟩)
          have hG5 := (hG.keep hb5).keep (W' := w5.alloc (.cells #[.int .i64 io, .int .i64 id, .int .i64 i1, .int .i64 i2, .int .i64 im, .bool iq, .bool il, .int .i64 ip, .int .i64 is] 26)) ((Below.refl _ _).alloc (Nat.le_refl _) _)
          have hR5 := Lib.hid hG5.hc.range
          clear hG hb5 c0 cw hIn f0 f1 f2 f3 f4 f5
          go_wp2_with (first | (refine wpList_load_mid rfl 47 _ rfl H 0 rfl (hartL (hs 0)) _ hR5.out hu rfl (size_hart _) ?_) | (go_at_call 19; (with_reducible refine (hSt'.out _).mono ?_); rintro e w6 ⟨rfl, hb6⟩; have hG6 := hG5.keep hb6; have hT6 := Lib.hid hG6.there) | (refine wpList_store_mid rfl 47 _ _ rfl H 0 (hartL (hs 1)).toArray rfl rfl (there_hart hT6.out _) (size_hartA _) (hartL_one _) ?_; have hG7 := hG6.put (hs 1); change GB _ _ _ _ _ _ (World.setCells w6 H 0 (hartL (hs 1)).toArray.toList) at hG7; generalize World.setCells w6 H 0 _ = w7 at hG7 ⊢))
          go_roundw
          case rel => exact ⟨1, by omega, by go_num, hG7⟩
          case measure => simp [intOf]
        · obtain ⟨hpc, hpb⟩ := hPl.pc 1 (by first | exact hk | omega)
          obtain ⟨q, hq⟩ : ∃ q, q = p 1 := ⟨_, rfl⟩
          rw [← hq] at hpc hpb
          have c0 : wr.cell? ⟨H, 0, none⟩ = some (.int .u64 (4 * (q : Int))) := (hG.hc 0 (by decide)).trans (by show some (Value.int .u64 (un (hs 1).pc)) = _; rw [hpc, pcA_un _ hpb])
          have f0 : (0 : Int) ≤ (q : Int) := Int.natCast_nonneg q
          have f1 : decide ((q : Int) < 0) = false := by rw [decide_eq_false_iff_not]; omega
          have f3 : (4 * (q : Int)).tdiv 4 = (q : Int) := by rw [Int.mul_comm]; exact Int.mul_tdiv_cancel _ (by decide)
          have f5 : (q : Int) ≤ 40000 := by omega
          have g1 : (((1 : Nat) : Int) == 1) = true := by decide
          obtain ⟨hpn, hwI, hck, hSt⟩ := hPl.st 1 hlt
          rw [← hq] at hpn hwI
          have f2 : decide ((n : Int) ≤ (q : Int)) = false := by rw [decide_eq_false_iff_not]; omega
          have f4 : (q : Int) < (n : Int) := by omega
          generalize I 1 = ii at hwI hck hSt
          obtain ⟨io, id, i1, i2, im, iq, il, ip, is⟩ := ii
          have cw : wr.cell? ⟨bw, q, none⟩ = some (.int .u32 (un32 (wordV ⟨io, id, i1, i2, im, iq, il, ip, is⟩))) := by rw [← hwI]; exact hG.wd q hpn
          have hIn : Hid (∀ W, Calls Tryz.prog 52 #[.int .u32 (un32 (wordV ⟨io, id, i1, i2, im, iq, il, ip, is⟩))] W fun e w' => e = .returned (.tuple #[.agg #[.int .i64 io, .int .i64 id, .int .i64 i1, .int .i64 i2, .int .i64 im, .bool iq, .bool il, .int .i64 ip, .int .i64 is], .int .i64 0]) ∧ Below W.heap.size W w') := Lib.hid fun W => by
            have := R3Insn_any (wordV ⟨io, id, i1, i2, im, iq, il, ip, is⟩) W
            rw [insn_word _ hck] at this
            exact this
          generalize un32 (wordV ⟨io, id, i1, i2, im, iq, il, ip, is⟩) = xw at cw hIn
          have hSt' : Hid (∀ W, Calls Tryz.prog 19 #[.agg (hartL (hs 1)).toArray, .agg #[.int .i64 io, .int .i64 id, .int .i64 i1, .int .i64 i2, .int .i64 im, .bool iq, .bool il, .int .i64 ip, .int .i64 is], .int .u64 0, .bool false] W fun e w' => e = .returned (.tuple #[.agg (hartL (hs (1 + 1))).toArray, .int .i64 0]) ∧ Below W.heap.size W w') := Lib.hid hSt
          obtain ⟨hl1, hq1⟩ := hPl.on (by omega)
          have f6 : ((q : Int) != (at' : Int) + 1) = false := by rw [bne_eq_false_iff_eq]; omega
          subst hl1
          obtain ⟨z, hz⟩ : ∃ z : Int, z = (at' : Int) := ⟨_, rfl⟩
          have z0 : 0 ≤ z ∧ z < 40000 := by omega
          rw [← hz] at f6 ⊢
          clear hz hq1
          clear hSt hck hwI hpc hpn hq hPl
          go_upto_region 12 with (go_at_call 52; (with_reducible refine (hIn.out _).mono ?_); rintro e w5 ⟨rfl, hb5⟩)
          have hG5 := (hG.keep hb5).keep (W' := w5.alloc (.cells #[.int .i64 io, .int .i64 id, .int .i64 i1, .int .i64 i2, .int .i64 im, .bool iq, .bool il, .int .i64 ip, .int .i64 is] 26)) ((Below.refl _ _).alloc (Nat.le_refl _) _)
          have hR5 := Lib.hid hG5.hc.range
          clear hG hb5 c0 cw hIn f0 f1 f2 f3 f4 f5 f6 z0
          go_wp2_with (first | (refine wpList_load_mid rfl 47 _ rfl H 0 rfl (hartL (hs 1)) _ hR5.out hu rfl (size_hart _) ?_) | (go_at_call 19; (with_reducible refine (hSt'.out _).mono ?_); rintro e w6 ⟨rfl, hb6⟩; have hG6 := hG5.keep hb6; have hT6 := Lib.hid hG6.there) | (refine wpList_store_mid rfl 47 _ _ rfl H 0 (hartL (hs 2)).toArray rfl rfl (there_hart hT6.out _) (size_hartA _) (hartL_one _) ?_; have hG7 := hG6.put (hs 2); change GB _ _ _ _ _ _ (World.setCells w6 H 0 (hartL (hs 2)).toArray.toList) at hG7; generalize World.setCells w6 H 0 _ = w7 at hG7 ⊢))
          go_roundw
          case rel => exact ⟨2, by omega, by go_num, hG7⟩
          case measure => simp [intOf]
      · obtain rfl : k = m := by omega
        clear hlt
        obtain ⟨hpc, hpb⟩ := hPl.pc k (by first | exact hk | omega)
        obtain ⟨q, hq⟩ : ∃ q, q = p k := ⟨_, rfl⟩
        rw [← hq] at hpc hpb
        have c0 : wr.cell? ⟨H, 0, none⟩ = some (.int .u64 (4 * (q : Int))) := (hG.hc 0 (by decide)).trans (by show some (Value.int .u64 (un (hs k).pc)) = _; rw [hpc, pcA_un _ hpb])
        have f0 : (0 : Int) ≤ (q : Int) := Int.natCast_nonneg q
        have f1 : decide ((q : Int) < 0) = false := by rw [decide_eq_false_iff_not]; omega
        have f3 : (4 * (q : Int)).tdiv 4 = (q : Int) := by rw [Int.mul_comm]; exact Int.mul_tdiv_cancel _ (by decide)
        have f5 : (q : Int) ≤ 40000 := by omega
        have hqd : Hid (q = dest) := Lib.hid (hq.trans hPl.pm)
        clear hpc
        by_cases hk2 : k = 2
        · subst hk2
          have g2 : decide (((2 : Nat) : Int) < 2) = false := by decide
          clear f1 hPl hq hpb
          go_wp2_with fail
          go_ret2
          exact ⟨⟨(q : Int), true, rfl, fun _ => by rw [hqd.out], fun _ => rfl⟩, hG.bl⟩
        · obtain rfl : k = 1 := by omega
          have g1 : (((1 : Nat) : Int) == 1) = true := by decide
          have g2 : decide (((1 : Nat) : Int) < 2) = true := by decide
          have hoff := hPl.off rfl
          rw [← hq] at hoff
          clear hPl hq hpb hk hm1 hm2 hk2
          by_cases f2 : n ≤ q
          · replace f2 : decide ((n : Int) ≤ (q : Int)) = true := by rw [decide_eq_true_iff]; omega
            have f4 : (n : Int) ≤ (q : Int) := of_decide_eq_true f2
            have f7 : decide (n ≤ q) = true := by rw [decide_eq_true_iff]; omega
            have f8 : decide ((q : Int) < (n : Int)) = false := by rw [decide_eq_false_iff_not]; omega
            clear hoff
            go_wp2_with fail
            go_ret2
            exact ⟨⟨(q : Int), true, rfl, fun _ => by rw [hqd.out], fun _ => rfl⟩, hG.bl⟩
          · replace f2 : decide ((n : Int) ≤ (q : Int)) = false := by rw [decide_eq_false_iff_not]; omega
            have f4 : (q : Int) < (n : Int) := by rw [decide_eq_false_iff_not] at f2; omega
            have hoff2 : long = false ∨ (long = true ∧ q ≠ at' + 1) := by
              cases long with
              | false => exact .inl rfl
              | true => rcases hoff with h | h | h
                        · cases h
                        · exact .inr ⟨rfl, h⟩
                        · exfalso; rw [decide_eq_false_iff_not] at f2; omega
            clear hoff
            rcases hoff2 with hl1 | ⟨hl1, hne⟩
            · subst hl1
              go_wp2_with fail
              go_ret2
              exact ⟨⟨(q : Int), true, rfl, fun _ => by rw [hqd.out], fun _ => rfl⟩, hG.bl⟩
            · have f6 : ((q : Int) != (at' : Int) + 1) = true := by rw [bne_iff_ne]; omega
              subst hl1
              obtain ⟨z, hz⟩ : ∃ z : Int, z = (at' : Int) := ⟨_, rfl⟩
              have z0 : 0 ≤ z ∧ z < 40000 := by omega
              rw [← hz] at f6 ⊢
              clear hz hne
              go_wp2_with fail
              go_ret2
              exact ⟨⟨(q : Int), true, rfl, fun _ => by rw [hqd.out], fun _ => rfl⟩, hG.bl⟩
  · have ho5 : 5 ≤ op ∧ op ≤ 10 := by omega
    have t3 : (op != 3) = true := by rw [bne_iff_ne]; exact e3
    have hSet := Lib.hid (Set_any H (pcA at') op rd r1 r2 imm false false 0 0 tk W7 hr1 hr2 ho5 hG0.hl hG0.hc hG0.hz)
    replace hR7 := Lib.hid hR7
    have hz2 : (Tryz.prog.info? 26).map (·.size) = some 9 := by kernel_rfl
    go_upto_region 4 with (first | (refine wpList_loadQ (by rfl) 26 _ rfl w.heap.size 0 rfl [.int .i64 op, .int .i64 rd, .int .i64 r1, .int .i64 r2, .int .i64 imm, .bool false, .bool false, .int .i64 0, .int .i64 0] _ hR7.out hu2 rfl hz2 ?_) | (go_at_call 51; (with_reducible refine hSet.out.mono ?_); rintro e w8 ⟨b, h8, rfl, hc8, hz8, hpc8, hf8, hcd8, hx8, htk8, hb8⟩))
    · have hbt : (!b) = true := by assumption
      obtain rfl : b = false := by simpa using hbt
      have hG8 := hG0.turn hc8 hz8 hb8
      go_ret2
      exact ⟨⟨0, false, rfl, (fun h => absurd h (by decide)), (fun h => absurd h e3)⟩, hG8.bl⟩
    · have hbt : (!b) = false := by assumption
      obtain rfl : b = true := by simpa using hbt
      simp only [Bool.not_true]
      have hG9 := hG0.turn hc8 hz8 hb8
      have hPl0 := hP'.out h8 hpc8 hf8 hcd8 hx8 (fun _ => htk8 rfl)
      clear hR7 hz2 hc8 hz8 hb8 hpc8 hf8 hcd8 hx8 htk8 hSet hG0 c7 hbt
      have hG0 := hG9
      clear hG9
      replace e3 := Lib.hid e3
      obtain ⟨m, hs, p, I, hs0, hPl⟩ := hPl0
      rw [← hs0] at hG0
      clear hs0 hP'
      go_wp2_with fail
      go_loopw [10, 11, 13, 14, 15, 16] (fun s10 s11 s13 s14 s15 s16 wr => ∃ k : Nat, k ≤ m ∧ s13 = .int .i64 k ∧ GB w H (hs k) bw n (fun j => .int .u32 (un32 (ws j))) wr) (fun _ _ s13 _ _ _ _ => 2 - (intOf s13).toNat)
      case atStart => exact ⟨0, Nat.zero_le _, rfl, hG0⟩
      case round =>
        obtain ⟨k, hk, rfl, hG⟩ := hrel
        clear hG0
        have hm1 := hPl.m1
        have hm2 := hPl.m2
        by_cases hlt : k < m
        · obtain rfl | rfl : k = 0 ∨ k = 1 := by omega
          · obtain ⟨hpc, hpb⟩ := hPl.pc 0 (by first | exact hk | omega)
            obtain ⟨q, hq⟩ : ∃ q, q = p 0 := ⟨_, rfl⟩
            rw [← hq] at hpc hpb
            have c0 : wr.cell? ⟨H, 0, none⟩ = some (.int .u64 (4 * (q : Int))) := (hG.hc 0 (by decide)).trans (by show some (Value.int .u64 (un (hs 0).pc)) = _; rw [hpc, pcA_un _ hpb])
            have f0 : (0 : Int) ≤ (q : Int) := Int.natCast_nonneg q
            have f1 : decide ((q : Int) < 0) = false := by rw [decide_eq_false_iff_not]; omega
            have f3 : (4 * (q : Int)).tdiv 4 = (q : Int) := by rw [Int.mul_comm]; exact Int.mul_tdiv_cancel _ (by decide)
            have f5 : (q : Int) ≤ 40000 := by omega
            have g1 : (((0 : Nat) : Int) == 1) = false := by decide
            obtain ⟨hpn, hwI, hck, hSt⟩ := hPl.st 0 hlt
            rw [← hq] at hpn hwI
            have f2 : decide ((n : Int) ≤ (q : Int)) = false := by rw [decide_eq_false_iff_not]; omega
            have f4 : (q : Int) < (n : Int) := by omega
            generalize I 0 = ii at hwI hck hSt
            obtain ⟨io, id, i1, i2, im, iq, il, ip, is⟩ := ii
            have cw : wr.cell? ⟨bw, q, none⟩ = some (.int .u32 (un32 (wordV ⟨io, id, i1, i2, im, iq, il, ip, is⟩))) := by rw [← hwI]; exact hG.wd q hpn
            have hIn : Hid (∀ W, Calls Tryz.prog 52 #[.int .u32 (un32 (wordV ⟨io, id, i1, i2, im, iq, il, ip, is⟩))] W fun e w' => e = .returned (.tuple #[.agg #[.int .i64 io, .int .i64 id, .int .i64 i1, .int .i64 i2, .int .i64 im, .bool iq, .bool il, .int .i64 ip, .int .i64 is], .int .i64 0]) ∧ Below W.heap.size W w') := Lib.hid fun W => by
              have := R3Insn_any (wordV ⟨io, id, i1, i2, im, iq, il, ip, is⟩) W
              rw [insn_word _ hck] at this
              exact this
            generalize un32 (wordV ⟨io, id, i1, i2, im, iq, il, ip, is⟩) = xw at cw hIn
            have hSt' : Hid (∀ W, Calls Tryz.prog 19 #[.agg (hartL (hs 0)).toArray, .agg #[.int .i64 io, .int .i64 id, .int .i64 i1, .int .i64 i2, .int .i64 im, .bool iq, .bool il, .int .i64 ip, .int .i64 is], .int .u64 0, .bool false] W fun e w' => e = .returned (.tuple #[.agg (hartL (hs (0 + 1))).toArray, .int .i64 0]) ∧ Below W.heap.size W w') := Lib.hid hSt
            clear hSt hck hwI hpc hpn hq hPl
            go_upto_region 12 with (go_at_call 52; (with_reducible refine (hIn.out _).mono ?_); rintro e w5 ⟨rfl, hb5⟩)
            have hG5 := (hG.keep hb5).keep (W' := w5.alloc (.cells #[.int .i64 io, .int .i64 id, .int .i64 i1, .int .i64 i2, .int .i64 im, .bool iq, .bool il, .int .i64 ip, .int .i64 is] 26)) ((Below.refl _ _).alloc (Nat.le_refl _) _)
            have hR5 := Lib.hid hG5.hc.range
            clear hG hb5 c0 cw hIn f0 f1 f2 f3 f4 f5
            go_wp2_with (first | (refine wpList_load_mid rfl 47 _ rfl H 0 rfl (hartL (hs 0)) _ hR5.out hu rfl (size_hart _) ?_) | (go_at_call 19; (with_reducible refine (hSt'.out _).mono ?_); rintro e w6 ⟨rfl, hb6⟩; have hG6 := hG5.keep hb6; have hT6 := Lib.hid hG6.there) | (refine wpList_store_mid rfl 47 _ _ rfl H 0 (hartL (hs 1)).toArray rfl rfl (there_hart hT6.out _) (size_hartA _) (hartL_one _) ?_; have hG7 := hG6.put (hs 1); change GB _ _ _ _ _ _ (World.setCells w6 H 0 (hartL (hs 1)).toArray.toList) at hG7; generalize World.setCells w6 H 0 _ = w7 at hG7 ⊢))
            go_roundw
            case rel => exact ⟨1, by omega, by go_num, hG7⟩
            case measure => simp [intOf]
          · obtain ⟨hpc, hpb⟩ := hPl.pc 1 (by first | exact hk | omega)
            obtain ⟨q, hq⟩ : ∃ q, q = p 1 := ⟨_, rfl⟩
            rw [← hq] at hpc hpb
            have c0 : wr.cell? ⟨H, 0, none⟩ = some (.int .u64 (4 * (q : Int))) := (hG.hc 0 (by decide)).trans (by show some (Value.int .u64 (un (hs 1).pc)) = _; rw [hpc, pcA_un _ hpb])
            have f0 : (0 : Int) ≤ (q : Int) := Int.natCast_nonneg q
            have f1 : decide ((q : Int) < 0) = false := by rw [decide_eq_false_iff_not]; omega
            have f3 : (4 * (q : Int)).tdiv 4 = (q : Int) := by rw [Int.mul_comm]; exact Int.mul_tdiv_cancel _ (by decide)
            have f5 : (q : Int) ≤ 40000 := by omega
            have g1 : (((1 : Nat) : Int) == 1) = true := by decide
            obtain ⟨hpn, hwI, hck, hSt⟩ := hPl.st 1 hlt
            rw [← hq] at hpn hwI
            have f2 : decide ((n : Int) ≤ (q : Int)) = false := by rw [decide_eq_false_iff_not]; omega
            have f4 : (q : Int) < (n : Int) := by omega
            generalize I 1 = ii at hwI hck hSt
            obtain ⟨io, id, i1, i2, im, iq, il, ip, is⟩ := ii
            have cw : wr.cell? ⟨bw, q, none⟩ = some (.int .u32 (un32 (wordV ⟨io, id, i1, i2, im, iq, il, ip, is⟩))) := by rw [← hwI]; exact hG.wd q hpn
            have hIn : Hid (∀ W, Calls Tryz.prog 52 #[.int .u32 (un32 (wordV ⟨io, id, i1, i2, im, iq, il, ip, is⟩))] W fun e w' => e = .returned (.tuple #[.agg #[.int .i64 io, .int .i64 id, .int .i64 i1, .int .i64 i2, .int .i64 im, .bool iq, .bool il, .int .i64 ip, .int .i64 is], .int .i64 0]) ∧ Below W.heap.size W w') := Lib.hid fun W => by
              have := R3Insn_any (wordV ⟨io, id, i1, i2, im, iq, il, ip, is⟩) W
              rw [insn_word _ hck] at this
              exact this
            generalize un32 (wordV ⟨io, id, i1, i2, im, iq, il, ip, is⟩) = xw at cw hIn
            have hSt' : Hid (∀ W, Calls Tryz.prog 19 #[.agg (hartL (hs 1)).toArray, .agg #[.int .i64 io, .int .i64 id, .int .i64 i1, .int .i64 i2, .int .i64 im, .bool iq, .bool il, .int .i64 ip, .int .i64 is], .int .u64 0, .bool false] W fun e w' => e = .returned (.tuple #[.agg (hartL (hs (1 + 1))).toArray, .int .i64 0]) ∧ Below W.heap.size W w') := Lib.hid hSt
            obtain ⟨hl1, hq1⟩ := hPl.on (by omega)
            have f6 : ((q : Int) != (at' : Int) + 1) = false := by rw [bne_eq_false_iff_eq]; omega
            subst hl1
            obtain ⟨z, hz⟩ : ∃ z : Int, z = (at' : Int) := ⟨_, rfl⟩
            have z0 : 0 ≤ z ∧ z < 40000 := by omega
            rw [← hz] at f6 ⊢
            clear hz hq1
            clear hSt hck hwI hpc hpn hq hPl
            go_upto_region 12 with (go_at_call 52; (with_reducible refine (hIn.out _).mono ?_); rintro e w5 ⟨rfl, hb5⟩)
            have hG5 := (hG.keep hb5).keep (W' := w5.alloc (.cells #[.int .i64 io, .int .i64 id, .int .i64 i1, .int .i64 i2, .int .i64 im, .bool iq, .bool il, .int .i64 ip, .int .i64 is] 26)) ((Below.refl _ _).alloc (Nat.le_refl _) _)
            have hR5 := Lib.hid hG5.hc.range
            clear hG hb5 c0 cw hIn f0 f1 f2 f3 f4 f5 f6 z0
            go_wp2_with (first | (refine wpList_load_mid rfl 47 _ rfl H 0 rfl (hartL (hs 1)) _ hR5.out hu rfl (size_hart _) ?_) | (go_at_call 19; (with_reducible refine (hSt'.out _).mono ?_); rintro e w6 ⟨rfl, hb6⟩; have hG6 := hG5.keep hb6; have hT6 := Lib.hid hG6.there) | (refine wpList_store_mid rfl 47 _ _ rfl H 0 (hartL (hs 2)).toArray rfl rfl (there_hart hT6.out _) (size_hartA _) (hartL_one _) ?_; have hG7 := hG6.put (hs 2); change GB _ _ _ _ _ _ (World.setCells w6 H 0 (hartL (hs 2)).toArray.toList) at hG7; generalize World.setCells w6 H 0 _ = w7 at hG7 ⊢))
            go_roundw
            case rel => exact ⟨2, by omega, by go_num, hG7⟩
            case measure => simp [intOf]
        · obtain rfl : k = m := by omega
          clear hlt
          obtain ⟨hpc, hpb⟩ := hPl.pc k (by first | exact hk | omega)
          obtain ⟨q, hq⟩ : ∃ q, q = p k := ⟨_, rfl⟩
          rw [← hq] at hpc hpb
          have c0 : wr.cell? ⟨H, 0, none⟩ = some (.int .u64 (4 * (q : Int))) := (hG.hc 0 (by decide)).trans (by show some (Value.int .u64 (un (hs k).pc)) = _; rw [hpc, pcA_un _ hpb])
          have f0 : (0 : Int) ≤ (q : Int) := Int.natCast_nonneg q
          have f1 : decide ((q : Int) < 0) = false := by rw [decide_eq_false_iff_not]; omega
          have f3 : (4 * (q : Int)).tdiv 4 = (q : Int) := by rw [Int.mul_comm]; exact Int.mul_tdiv_cancel _ (by decide)
          have f5 : (q : Int) ≤ 40000 := by omega
          have hqd : Hid (q = dest) := Lib.hid (hq.trans hPl.pm)
          clear hpc
          by_cases hk2 : k = 2
          · subst hk2
            have g2 : decide (((2 : Nat) : Int) < 2) = false := by decide
            clear f1 hPl hq hpb
            go_wp2_with fail
            go_ret2
            exact ⟨⟨(q : Int), true, rfl, fun _ => by rw [hqd.out], fun _ => rfl⟩, hG.bl⟩
          · obtain rfl : k = 1 := by omega
            have g1 : (((1 : Nat) : Int) == 1) = true := by decide
            have g2 : decide (((1 : Nat) : Int) < 2) = true := by decide
            have hoff := hPl.off rfl
            rw [← hq] at hoff
            clear hPl hq hpb hk hm1 hm2 hk2
            by_cases f2 : n ≤ q
            · replace f2 : decide ((n : Int) ≤ (q : Int)) = true := by rw [decide_eq_true_iff]; omega
              have f4 : (n : Int) ≤ (q : Int) := of_decide_eq_true f2
              have f7 : decide (n ≤ q) = true := by rw [decide_eq_true_iff]; omega
              have f8 : decide ((q : Int) < (n : Int)) = false := by rw [decide_eq_false_iff_not]; omega
              clear hoff
              go_wp2_with fail
              go_ret2
              exact ⟨⟨(q : Int), true, rfl, fun _ => by rw [hqd.out], fun _ => rfl⟩, hG.bl⟩
            · replace f2 : decide ((n : Int) ≤ (q : Int)) = false := by rw [decide_eq_false_iff_not]; omega
              have f4 : (q : Int) < (n : Int) := by rw [decide_eq_false_iff_not] at f2; omega
              have hoff2 : long = false ∨ (long = true ∧ q ≠ at' + 1) := by
                cases long with
                | false => exact .inl rfl
                | true => rcases hoff with h | h | h
                          · cases h
                          · exact .inr ⟨rfl, h⟩
                          · exfalso; rw [decide_eq_false_iff_not] at f2; omega
              clear hoff
              rcases hoff2 with hl1 | ⟨hl1, hne⟩
              · subst hl1
                go_wp2_with fail
                go_ret2
                exact ⟨⟨(q : Int), true, rfl, fun _ => by rw [hqd.out], fun _ => rfl⟩, hG.bl⟩
              · have f6 : ((q : Int) != (at' : Int) + 1) = true := by rw [bne_iff_ne]; omega
                subst hl1
                obtain ⟨z, hz⟩ : ∃ z : Int, z = (at' : Int) := ⟨_, rfl⟩
                have z0 : 0 ≤ z ∧ z < 40000 := by omega
                rw [← hz] at f6 ⊢
                clear hz hne
                go_wp2_with fail
                go_ret2
                exact ⟨⟨(q : Int), true, rfl, fun _ => by rw [hqd.out], fun _ => rfl⟩, hG.bl⟩
end
end Go.Proofs.YtcgflnkgekkidaaGreatDoor
