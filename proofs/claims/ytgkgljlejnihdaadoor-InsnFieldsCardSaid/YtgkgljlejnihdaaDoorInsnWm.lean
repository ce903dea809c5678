/- The walks of the methods of package insn's writer: what they write is what the document says. Conditions: the library's table of powers of ten lies as its initialiser lays it. -/
import Derived.Test.YtgkgljlejnihdaaDoorInsnWr
import Derived.Test.YtgkgljlejnihdaaDoorShelf
import Derived.Test.YtgkgljlejnihdaaDoorShapePl
import Derived.Deep.RegionHeld
import Derived.Lib.LaidTab
import Derived.Lib.AppendIntMem
set_option linter.unusedVariables false
set_option linter.unusedSimpArgs false
namespace Go.Proofs.YtgkgljlejnihdaaDoor
open Go.RowKit
abbrev WL (b : Nat) (l : List UInt8) (w : World) : Prop := IsW b b (Lib.byteCells l) w
/-- The writer then holds these bytes; what lay before it, and what is no row of bytes, is as it was. -/
structure WP (b : Nat) (l : List UInt8) (w w' : World) : Prop where
  iw : WL b l w'
  bl : Below b w w'
  ok : Lib.OthersKept 5 (some b) w w'
theorem WP.trans {b : Nat} {l m : List UInt8} {w w' w'' : World} (h : WP b l w w') (k : WP b m w' w'') : WP b m w w'' := ⟨k.iw, h.bl.trans k.bl, h.ok.trans k.ok⟩
theorem WP.start {b : Nat} {l : List UInt8} {w : World} (h : WL b l w) : WP b l w w := ⟨h, Below.refl _ _, Lib.OthersKept.refl _ _ _⟩
theorem IsW.lt {B b : Nat} {bs : List Value} {w : World} (h : IsW B b bs w) : b < w.heap.size := h.elim WAt.here WAt.here
theorem WAt.keep {B b : Nat} {p : Value} {bs : List Value} {w w' : World} (h : WAt B b p bs w) (hb : Below w.heap.size w w') : WAt B b p bs w' := by
  have hl := WAt.here h
  obtain ⟨hB, v, hbk, hown, hne⟩ := h
  refine ⟨hB, v, (hb.block b hl).trans hbk, ⟨hown.1, ?_⟩, hne⟩
  rcases hown.2 with h0 | ⟨g, cap, cur, fz, hv, hbg, hg, r⟩
  · exact .inl h0
  · exact .inr ⟨g, cap, cur, fz, hv, hbg, (hb.block g (Array.getElem?_eq_some_iff.1 hg).1).trans hg, r⟩
theorem IsW.keep {B b : Nat} {bs : List Value} {w w' : World} (h : IsW B b bs w) (hb : Below w.heap.size w w') : IsW B b bs w' := h.elim (fun x => .inl (WAt.keep x hb)) (fun x => .inr (WAt.keep x hb))
theorem kept_below {b : Nat} {w w' : World} (hb : Below w.heap.size w w') : Lib.OthersKept 5 (some b) w w' := fun k o hk _ _ => (hb.block k (Array.getElem?_eq_some_iff.1 hk).1).trans hk
theorem WP.keep {b : Nat} {l : List UInt8} {w w' w'' : World} (h : WP b l w w') (hb : Below w'.heap.size w' w'') : WP b l w w'' := ⟨h.iw.keep hb, h.bl.trans (hb.mono (Nat.le_of_lt h.iw.lt)), h.ok.trans (kept_below hb)⟩
theorem bytes_app (l m : List UInt8) : Lib.byteCells (l ++ m) = Lib.byteCells l ++ Lib.byteCells m := by simp [Lib.byteCells]
theorem WStrL (b : Nat) (l : List UInt8) (s : ByteArray) (w : World) (h : WL b l w) (hlen : l.length + s.size ≤ 100000) :
    Calls Tryd.prog 70 #[.pointer (some ⟨b, 0, none⟩), .string s] w fun e w' => (∃ v, e = .returned v) ∧ WP b (l ++ s.data.toList) w w' := by
  refine (WStr_any b b _ s w h (by rw [Lib.byteCells_length]; omega) (Nat.le_of_lt h.lt)).mono ?_
  rintro e w' ⟨rfl, h1, h2, h3⟩
  rw [Lib.strCells_eq, ← bytes_app] at h1
  exact ⟨⟨_, rfl⟩, h1, h2, h3⟩
theorem WByteL (b : Nat) (l : List UInt8) (c : UInt8) (w : World) (h : WL b l w) (hlen : l.length + 1 ≤ 100000) :
    Calls Tryd.prog 71 #[.pointer (some ⟨b, 0, none⟩), .int .u8 c.toNat] w fun e w' => (∃ v, e = .returned v) ∧ WP b (l ++ [c]) w w' := by
  refine (WByte_any b b _ c.toNat w h (by rw [Lib.byteCells_length]; omega) (Nat.le_of_lt h.lt)).mono ?_
  rintro e w' ⟨rfl, h1, h2, h3⟩
  exact ⟨⟨_, rfl⟩, by show IsW b b (Lib.byteCells (l ++ [c])) w'; rw [bytes_app]; exact h1, h2, h3⟩
theorem WRuneL (b : Nat) (l : List UInt8) (c : UInt8) (hc : c.toNat ≤ 127) (w : World) (h : WL b l w) (hlen : l.length + 4 ≤ 100000) :
    Calls Tryd.prog 96 #[.pointer (some ⟨b, 0, none⟩), .int .i32 c.toNat] w fun e w' => (∃ v, e = .returned v) ∧ WP b (l ++ [c]) w w' := by
  refine (WRune_any b b _ c.toNat (by omega) (by omega) w h (by rw [Lib.byteCells_length]; omega) (Nat.le_of_lt h.lt)).mono ?_
  rintro e w' ⟨he, h1, h2, h3⟩
  exact ⟨he, by show IsW b b (Lib.byteCells (l ++ [c])) w'; rw [bytes_app]; exact h1, h2, h3⟩
/-- The library's table of powers of ten. -/
structure P10 (w : World) : Prop where
  tab : Lib.TabIs Tryd.prog w "internal/strconv.uint64pow10" .u64 Lib.pow10Tab
  lt : 3 < w.heap.size
theorem Tryd.gPow : Tryd.prog.globalNamed "internal/strconv.uint64pow10" = some 3 := by kernel_rfl
theorem P10.later {w w' : World} {B : Nat} (h : P10 w) (hb : Below B w w') (hB : w.heap.size ≤ B) : P10 w' :=
  ⟨var?_below hb Tryd.gPow (Nat.lt_of_lt_of_le h.lt hB) h.tab, Nat.lt_of_lt_of_le h.lt hb.size⟩
theorem P10.low {w w' : World} {B : Nat} (h : P10 w) (hb : Below B w w') (hB : 3 < B) : P10 w' :=
  ⟨var?_below hb Tryd.gPow hB h.tab, Nat.lt_of_lt_of_le h.lt hb.size⟩
/-- '+' on two texts yields their text. -/
theorem yieldsIf_catW {P : Program} {ops : Array Oper} {S : World → Prop} {op : Oper} {a : Act} (hw : Region.wanted op (yielded ops a.tmps) = true) (x y : Operand) (ty t : TypeId) (ho : op.op = .binOp .add ty x y t) (l m : List UInt8)
    (hx : a.eval x = .string ⟨l.toArray⟩) (hy : a.eval y = .string ⟨m.toArray⟩) (hl : l.length + m.length ≤ 8388608) : YieldsIf P ops S op (.string ⟨(l ++ m).toArray⟩) a :=
  .inl ⟨hw, fun w _ => by
    have hq : ∀ w, (binOp .add ty (.string ⟨l.toArray⟩) (.string ⟨m.toArray⟩)).run P w = .ok (.string ⟨(l ++ m).toArray⟩) w := fun w => by
      rw [binOp_string_add]; exact run_string_add_lists w l m (by omega) (by omega)
    unfold execOp
    simp only [ho, hx, hy, Sem.run_bind, hq, Sem.run_pure]
    rfl⟩
theorem Comma_any (b : Nat) (l : List UInt8) (w : World) (h : WL b l w) (hlen : l.length ≤ 1000) :
    Calls Tryd.prog 73 #[.pointer (some ⟨b, 0, none⟩)] w fun e w' => e = .returned (.tuple #[]) ∧ WP b (l ++ [44, 32]) w w' := by
  have hS := Lib.hid (fun s hs => WStrL b l s w h hs)
  clear h
  go_enter Tryd.func73, Tryd.ntmps73
  go_wp2_with (go_at_call 70; refine (hS.out _ (by show l.length + 2 ≤ 100000; omega)).mono ?_; rintro e w1 ⟨⟨v, rfl⟩, h1⟩)
  go_end0
  exact ⟨rfl, h1⟩
theorem FormatInt_any (n : Int) (h0 : -9223372036854775808 ≤ n) (h1 : n ≤ 9223372036854775807) (w : World) (ht : P10 w) :
    Calls Tryd.prog 95 #[.int .i64 n, .int .i64 10] w fun e w' => e = .returned (.string ⟨(signL n).toArray⟩) ∧ Below w.heap.size w w' := by
  refine (Tryd.strconv_FormatInt_10 n h0 h1 w ht.tab).mono ?_
  rintro e w' ⟨rfl, k, os, rfl⟩
  exact ⟨by rw [signL_itoa n h0 h1], Lib.below_grow _ w (Nat.le_refl _) k os⟩
theorem Itoa_any (n : Int) (h0 : 0 ≤ n) (h1 : n ≤ 31) (w : World) :
    Calls Tryd.prog 114 #[.int .i64 n] w fun e w' => e = .returned (.string ⟨(Lib.itoa n).toArray⟩) ∧ w = w' := by
  obtain ⟨m, rfl⟩ := Int.eq_ofNat_of_zero_le h0
  refine (Tryd.strconv_Itoa_small m (by omega) w).mono ?_
  rintro e w' ⟨rfl, rfl⟩
  refine ⟨?_, rfl⟩
  unfold Lib.itoa
  rw [if_neg (by omega), Int.toNat_natCast]
set_option maxRecDepth 100000 in
set_option maxHeartbeats 2000000 in
theorem Reg_w (b : Nat) (l : List UInt8) (n : Int) (h0 : 0 ≤ n) (h1 : n ≤ 31) (w : World) (h : WL b l w) (hlen : l.length ≤ 1000) :
    Calls Tryd.prog 94 #[.pointer (some ⟨b, 0, none⟩), .int .i64 n] w fun e w' => e = .returned (.tuple #[]) ∧ WP b (l ++ regT n) w w' := by
  have hI := Lib.hid (fun w => Itoa_any n h0 h1 w)
  have hR := Lib.hid (regT_itoa n h0 h1)
  have ht3 : (120 :: Lib.itoa n).length ≤ 3 := by rw [← hR.out]; exact regT_len n h0 h1
  generalize Lib.itoa n = t at hI hR ht3
  have htl : Hid ([120].length + t.length ≤ 8388608) := Lib.hid (by simp only [List.length_cons, List.length_nil] at ht3 ⊢; omega)
  have hS : Hid (∀ W, WL b l W → Calls Tryd.prog 70 #[.pointer (some ⟨b, 0, none⟩), .string ⟨(120 :: t).toArray⟩] W fun e w' => (∃ v, e = .returned v) ∧ WP b (l ++ (120 :: t)) W w') := Lib.hid fun W hW => by
    have := WStrL b l ⟨(120 :: t).toArray⟩ W hW (by show l.length + (120 :: t).toArray.size ≤ _; rw [List.size_toArray]; omega)
    rw [show (⟨(120 :: t).toArray⟩ : ByteArray).data.toList = 120 :: t from List.toList_toArray] at this; exact this
  clear h0 h1 ht3 hlen
  go_enter Tryd.func94, Tryd.ntmps94
  go_upto_region 0 with fail
  refine wp_region_held_drew (S := fun W => True) (by kernel_rfl) trivial (fun hHeld => ?_)
  refine wpAnyH_take (i := 0) (v := .pointer (some ⟨b, 0, none⟩)) rfl (by kernel_rfl) (by kernel_rfl) (by kernel_rfl) (fun _ _ _ h => h) (Or.inl ⟨by rfl, fun W _ => by kernel_rfl⟩) hHeld ?_
  try simp only [Act.put, List.getElem_toArray, List.getElem_cons_zero, List.setIfInBounds_toArray, List.set_cons_zero, List.set_cons_succ]
  have hW0 : WL b l _ := h.keep (Below.refl w.heap.size w).drew
  have hb0 : Below w.heap.size w _ := (Below.refl w.heap.size w).drew
  generalize World.drew _ = W0 at hW0 hb0 ⊢
  refine wpAnyH_take (i := 1) (v := .pointer (some ⟨b, 0, none⟩)) rfl (by kernel_rfl) (by kernel_rfl) (by kernel_rfl) (fun _ _ _ h => h) (Or.inl ⟨by rfl, fun W _ => by kernel_rfl⟩) hHeld ?_
  try simp only [Act.put, List.getElem_toArray, List.getElem_cons_succ, List.getElem_cons_zero, List.setIfInBounds_toArray, List.set_cons_zero, List.set_cons_succ]
  refine wpAnyH_take (i := 2) (v := .pointer (some ⟨b, 0, none⟩)) rfl (by kernel_rfl) (by kernel_rfl) (by kernel_rfl) (fun _ _ _ h => h) (Or.inl ⟨by rfl, fun W _ => by kernel_rfl⟩) hHeld ?_
  try simp only [Act.put, List.getElem_toArray, List.getElem_cons_succ, List.getElem_cons_zero, List.setIfInBounds_toArray, List.set_cons_zero, List.set_cons_succ]
  refine wpAnyH_take (i := 3) (v := .int .i64 n) rfl (by kernel_rfl) (by kernel_rfl) (by kernel_rfl) (fun _ _ _ h => h) (Or.inl ⟨by rfl, fun W _ => by kernel_rfl⟩) hHeld ?_
  try simp only [Act.put, List.getElem_toArray, List.getElem_cons_succ, List.getElem_cons_zero, List.setIfInBounds_toArray, List.set_cons_zero, List.set_cons_succ]
  refine wpAnyH_ready (rs := [4]) (by kernel_rfl) (by simp) (AllReadyH.cons rfl (fun K hK2 => ?_) AllReadyH.nil)
  rw [if_pos (by rfl)]
  simp only [List.getElem_toArray, List.getElem_cons_succ, List.getElem_cons_zero]
  go_wp2_with (go_at_call 114; refine (hI.out _).mono ?_; rintro e w1 ⟨rfl, rfl⟩)
  refine hK2.out _ _ (trivial) (fun hHeld2 => ?_)
  clear hK2 K hHeld
  have hHeld := hHeld2
  clear hHeld2
  try simp only [Act.put, List.getElem_toArray, List.getElem_cons_succ, List.getElem_cons_zero, List.setIfInBounds_toArray, List.set_cons_zero, List.set_cons_succ]
  refine wpAnyH_take (i := 5) (v := .string ⟨(120 :: t).toArray⟩) rfl (by kernel_rfl) (by kernel_rfl) (by kernel_rfl) (fun _ _ _ h => h) (yieldsIf_catW (by rfl) _ _ 9 _ rfl [120] t rfl rfl htl.out) hHeld ?_
  try simp only [Act.put, List.getElem_toArray, List.getElem_cons_succ, List.getElem_cons_zero, List.setIfInBounds_toArray, List.set_cons_zero, List.set_cons_succ]
  refine wpAnyH_ready (rs := [6]) (by kernel_rfl) (by simp) (AllReadyH.cons rfl (fun K hK2 => ?_) AllReadyH.nil)
  rw [if_pos (by rfl)]
  simp only [List.getElem_toArray, List.getElem_cons_succ, List.getElem_cons_zero]
  go_wp2_with (go_at_call 70; refine (hS.out _ hW0).mono ?_; rintro e w2 ⟨⟨v, rfl⟩, h2⟩)
  refine hK2.out _ _ (trivial) (fun hHeld2 => ?_)
  clear hK2 K hHeld
  have hHeld := hHeld2
  clear hHeld2
  try simp only [Act.put, List.getElem_toArray, List.getElem_cons_succ, List.getElem_cons_zero, List.setIfInBounds_toArray, List.set_cons_zero, List.set_cons_succ]
  refine wpAnyH_done (by kernel_rfl) ?_ _
  go_wp2_with fail
  go_end0
  exact ⟨rfl, (WP.start h).keep hb0 |>.trans (by rw [hR.out]; exact h2)⟩
set_option maxRecDepth 100000 in
set_option maxHeartbeats 2000000 in
theorem Num_w (b : Nat) (l : List UInt8) (n : Int) (h0 : -9223372036854775808 ≤ n) (h1 : n ≤ 9223372036854775807) (w : World) (ht : P10 w) (hgb : 3 < b) (h : WL b l w) (hlen : l.length ≤ 1000) :
    Calls Tryd.prog 74 #[.pointer (some ⟨b, 0, none⟩), .int .i64 n] w fun e w' => e = .returned (.tuple #[]) ∧ WP b (l ++ signL n) w w' := by
  have hI := Lib.hid (fun w ht => FormatInt_any n h0 h1 w ht)
  have hl := signL_len n
  generalize signL n = t at hI hl ⊢
  have hS : Hid (∀ W, WL b l W → Calls Tryd.prog 70 #[.pointer (some ⟨b, 0, none⟩), .string ⟨t.toArray⟩] W fun e w' => (∃ v, e = .returned v) ∧ WP b (l ++ t) W w') := Lib.hid fun W hW => by
    have := WStrL b l ⟨t.toArray⟩ W hW (by show l.length + t.toArray.size ≤ _; rw [List.size_toArray]; omega)
    rw [show (⟨t.toArray⟩ : ByteArray).data.toList = t from List.toList_toArray] at this; exact this
  clear h0 h1 hl hlen
  go_enter Tryd.func74, Tryd.ntmps74
  go_upto_region 0 with fail
  refine wp_region_held_drew (S := fun W => P10 W) (by kernel_rfl) (ht.later ((Below.refl w.heap.size w).drew) (Nat.le_refl _)) (fun hHeld => ?_)
  refine wpAnyH_take (i := 0) (v := .pointer (some ⟨b, 0, none⟩)) rfl (by kernel_rfl) (by kernel_rfl) (by kernel_rfl) (fun _ _ _ h => h) (Or.inl ⟨by rfl, fun W _ => by kernel_rfl⟩) hHeld ?_
  try simp only [Act.put, List.getElem_toArray, List.getElem_cons_zero, List.setIfInBounds_toArray, List.set_cons_zero, List.set_cons_succ]
  have hW0 : WL b l _ := h.keep (Below.refl w.heap.size w).drew
  have hb0 : Below w.heap.size w _ := (Below.refl w.heap.size w).drew
  generalize World.drew _ = W0 at hHeld hW0 hb0 ⊢
  refine wpAnyH_take (i := 1) (v := .pointer (some ⟨b, 0, none⟩)) rfl (by kernel_rfl) (by kernel_rfl) (by kernel_rfl) (fun _ _ _ h => h) (Or.inl ⟨by rfl, fun W _ => by kernel_rfl⟩) hHeld ?_
  try simp only [Act.put, List.getElem_toArray, List.getElem_cons_succ, List.getElem_cons_zero, List.setIfInBounds_toArray, List.set_cons_zero, List.set_cons_succ]
  refine wpAnyH_take (i := 2) (v := .pointer (some ⟨b, 0, none⟩)) rfl (by kernel_rfl) (by kernel_rfl) (by kernel_rfl) (fun _ _ _ h => h) (Or.inl ⟨by rfl, fun W _ => by kernel_rfl⟩) hHeld ?_
  try simp only [Act.put, List.getElem_toArray, List.getElem_cons_succ, List.getElem_cons_zero, List.setIfInBounds_toArray, List.set_cons_zero, List.set_cons_succ]
  refine wpAnyH_take (i := 3) (v := .int .i64 n) rfl (by kernel_rfl) (by kernel_rfl) (by kernel_rfl) (fun _ _ _ h => h) (Or.inl ⟨by rfl, fun W _ => by kernel_rfl⟩) hHeld ?_
  try simp only [Act.put, List.getElem_toArray, List.getElem_cons_succ, List.getElem_cons_zero, List.setIfInBounds_toArray, List.set_cons_zero, List.set_cons_succ]
  refine wpAnyH_ready (rs := [4]) (by kernel_rfl) (by simp) (AllReadyH.cons rfl (fun K hK2 => ?_) AllReadyH.nil)
  rw [if_pos (by rfl)]
  simp only [List.getElem_toArray, List.getElem_cons_succ, List.getElem_cons_zero]
  go_wp2_with (go_at_call 95; refine (hI.out _ hHeld).mono ?_; rintro e w1 ⟨rfl, hb1⟩)
  refine hK2.out _ _ ((hHeld.later hb1 (Nat.le_refl _))) (fun hHeld2 => ?_)
  clear hK2 K hHeld
  have hHeld := hHeld2
  clear hHeld2
  try simp only [Act.put, List.getElem_toArray, List.getElem_cons_succ, List.getElem_cons_zero, List.setIfInBounds_toArray, List.set_cons_zero, List.set_cons_succ]
  have hW1 := hW0.keep hb1
  refine wpAnyH_ready (rs := [5]) (by kernel_rfl) (by simp) (AllReadyH.cons rfl (fun K hK2 => ?_) AllReadyH.nil)
  rw [if_pos (by rfl)]
  simp only [List.getElem_toArray, List.getElem_cons_succ, List.getElem_cons_zero]
  go_wp2_with (go_at_call 70; refine (hS.out _ hW1).mono ?_; rintro e w2 ⟨⟨v, rfl⟩, h2⟩)
  refine hK2.out _ _ ((hHeld.low h2.bl hgb)) (fun hHeld2 => ?_)
  clear hK2 K hHeld
  have hHeld := hHeld2
  clear hHeld2
  try simp only [Act.put, List.getElem_toArray, List.getElem_cons_succ, List.getElem_cons_zero, List.setIfInBounds_toArray, List.set_cons_zero, List.set_cons_succ]
  refine wpAnyH_done (by kernel_rfl) ?_ _
  go_wp2_with fail
  go_end0
  exact ⟨rfl, (((WP.start h).keep hb0).keep hb1).trans h2⟩
theorem At_w (b : Nat) (l : List UInt8) (n : Int) (h0 : 0 ≤ n) (h1 : n ≤ 31) (w : World) (h : WL b l w) (hlen : l.length ≤ 900) :
    Calls Tryd.prog 75 #[.pointer (some ⟨b, 0, none⟩), .int .i64 n] w fun e w' => e = .returned (.tuple #[]) ∧ WP b (l ++ [40] ++ regT n ++ [41]) w w' := by
  have hl := regT_len n h0 h1
  have hA := Lib.hid (fun W hW => WByteL b l 40 W hW (by omega))
  have hB := Lib.hid (fun W hW => Reg_w b (l ++ [40]) n h0 h1 W hW (by simp; omega))
  have hC := Lib.hid (fun W hW => WByteL b (l ++ [40] ++ regT n) 41 W hW (by simp; omega))
  generalize regT n = t at hB hC hl ⊢
  clear h0 h1 hl
  go_enter Tryd.func75, Tryd.ntmps75
  go_upto_region 1 with (go_at_call 71; refine (hA.out _ h).mono ?_; rintro e w1 ⟨⟨v, rfl⟩, h1⟩)
  go_upto_region 2 with (go_at_call 94; refine (hB.out _ h1.iw).mono ?_; rintro e w2 ⟨rfl, h2⟩)
  go_wp2_with (go_at_call 71; refine (hC.out _ h2.iw).mono ?_; rintro e w3 ⟨⟨v3, rfl⟩, h3⟩)
  go_end0
  exact ⟨rfl, (h1.trans h2).trans h3⟩
/-- Registers, a comma between. -/
def regsK (ns : List Int) : Nat → List UInt8
  | 0 => []
  | k + 1 => regsK ns k ++ (if 0 < k then [44, 32] else []) ++ regT (ns.getD k 0)
theorem regsK_len (ns : List Int) (hn : ∀ k, 0 ≤ ns.getD k 0 ∧ ns.getD k 0 ≤ 31) : ∀ k, (regsK ns k).length ≤ 5 * k
  | 0 => Nat.le_refl 0
  | k + 1 => by
    have h1 := regsK_len ns hn k
    have h2 := regT_len (ns.getD k 0) (hn k).1 (hn k).2
    unfold regsK
    generalize regT (ns.getD k 0) = t at h2 ⊢
    split <;> simp <;> omega
set_option maxRecDepth 100000 in
set_option maxHeartbeats 2000000 in
theorem Regs_w (b g : Nat) (l : List UInt8) (ns : List Int) (hn : ∀ k, 0 ≤ ns.getD k 0 ∧ ns.getD k 0 ≤ 31) (hs : ns.length ≤ 3) (fz : Nat × Nat) (w : World) (h : WL b l w) (hg : w.heap[g]? = some (.cells (ns.map (Value.int .i64)).toArray 3 fz)) (hgb : g ≠ b) (hlen : l.length ≤ 800) :
    Calls Tryd.prog 72 #[.pointer (some ⟨b, 0, none⟩), .slice (some ⟨g, 0, none⟩) ns.length ns.length] w fun e w' => e = .returned (.tuple #[]) ∧ WP b (l ++ regsK ns ns.length) w w' := by
  have hcell : Hid (∀ (m : List UInt8) (W : World), WP b m w W → ∀ k, k < ns.length → W.cell? ⟨g, k, none⟩ = some (.int .i64 (ns.getD k 0))) := Lib.hid fun m W hW k hk => by
    have := hW.ok g _ hg (fun e => hgb (Option.some.inj e)) (fun c z e => by cases e)
    rw [Lib.cell_of_heap this]
    simp [hk]
  have hK := Lib.hid (regsK_len ns hn)
  have hR := Lib.hid (fun k m W hW hl => Reg_w b m (ns.getD k 0) (hn k).1 (hn k).2 W hW hl)
  have hC := Lib.hid (fun m W hW hl => Comma_any b m W hW hl)
  clear hg hn
  go_enter Tryd.func72, Tryd.ntmps72
  go_wp2_with fail
  go_loopw [8] (fun i wr => ∃ k : Nat, k ≤ ns.length ∧ i = .int .i64 k ∧ WP b (l ++ regsK ns k) w wr) (fun i _ => ns.length - (intOf i).toNat)
  case atStart => exact ⟨0, Nat.zero_le _, rfl, by rw [show regsK ns 0 = [] from rfl, List.append_nil]; exact WP.start h⟩
  case round =>
    obtain ⟨k, hk, rfl, hW⟩ := hrel
    by_cases hlt : k < ns.length
    · have ck := hcell.out _ _ hW k hlt
      have hkl := hK.out k
      have hRk := Lib.hid (hR.out k)
      have hnx : Hid (regsK ns (k + 1) = regsK ns k ++ (if 0 < k then [44, 32] else []) ++ regT (ns.getD k 0)) := Lib.hid rfl
      generalize regT (ns.getD k 0) = t at hRk hnx
      generalize ns.getD k 0 = n at ck hRk
      by_cases h0 : 0 < k
      · have d1 : decide ((0 : Int) < (k : Int)) = true := by simp; omega
        have d2 : decide (0 < k) = true := by simp; omega
        have hnx2 : Hid (l ++ regsK ns (k + 1) = l ++ regsK ns k ++ [44, 32] ++ t) := Lib.hid (by rw [hnx.out, if_pos h0]; simp [List.append_assoc])
        go_wp2_with (first | (go_at_call 73; refine (hC.out _ _ hW.iw (by simp; omega)).mono ?_; rintro e w2 ⟨rfl, h2⟩) | (go_at_call 94; refine (hRk.out _ _ h2.iw (by simp; omega)).mono ?_; rintro e w3 ⟨rfl, h3⟩))
        go_roundw
        case rel => exact ⟨k + 1, by omega, by go_num, by rw [hnx2.out]; exact (hW.trans h2).trans h3⟩
        case measure => simp [intOf]; omega
      · have d1 : decide ((0 : Int) < (k : Int)) = false := by simp; omega
        have d2 : decide (0 < k) = false := by simp; omega
        have hnx2 : Hid (l ++ regsK ns (k + 1) = l ++ regsK ns k ++ t) := Lib.hid (by rw [hnx.out, if_neg h0]; simp [List.append_assoc])
        go_wp2_with (go_at_call 94; refine (hRk.out _ _ hW.iw (by simp; omega)).mono ?_; rintro e w3 ⟨rfl, h3⟩)
        go_roundw
        case rel => exact ⟨k + 1, by omega, by go_num, by rw [hnx2.out]; exact hW.trans h3⟩
        case measure => simp [intOf]; omega
    · obtain rfl : k = ns.length := by omega
      go_wp2_with fail
      go_end0
      exact ⟨rfl, hW⟩
end Go.Proofs.YtgkgljlejnihdaaDoor
