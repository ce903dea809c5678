/- The walks of the reader's methods: eat, head, num, reg, imm. Conditions: the variables ErrSyntax and ErrRange hold errors or nothing. -/
import Derived.Test.YtdbpnbmaineniaaGreatDoorRdPl
import Derived.Test.YtdbpnbmaineniaaGreatDoorReadAD
import Derived.Test.YtdbpnbmaineniaaGreatDoorShelfR
import Derived.Lib.SmallJoins
set_option linter.unusedSimpArgs false
set_option linter.unusedVariables false
namespace Go.Proofs.YtdbpnbmaineniaaGreatDoor
open Go.RowKit
/-- The library's two errors. -/
structure EV (W : World) : Prop where
  v1 : ∃ ev, W.cell? ⟨12, 0, none⟩ = some ev ∧ (ev = .nilIface ∨ ∃ te pe, ev = .iface te pe)
  v2 : ∃ ev, W.cell? ⟨13, 0, none⟩ = some ev ∧ (ev = .nilIface ∨ ∃ te pe, ev = .iface te pe)
  l1 : 12 < W.heap.size
  l2 : 13 < W.heap.size
theorem EV.keep {W W' : World} (h : EV W) (hb : Below W.heap.size W W') : EV W' := by
  obtain ⟨⟨e1, a1, b1⟩, ⟨e2, a2, b2⟩, l1, l2⟩ := h
  exact ⟨⟨e1, by rw [hb.cell (p := ⟨12, 0, none⟩) l1]; exact a1, b1⟩, ⟨e2, by rw [hb.cell (p := ⟨13, 0, none⟩) l2]; exact a2, b2⟩, Nat.lt_of_lt_of_le l1 hb.size, Nat.lt_of_lt_of_le l2 hb.size⟩
/-- Where a reader lies. -/
structure RC (g : Nat) (s : ByteArray) (W : World) : Prop where
  c : W.cell? ⟨g, 0, none⟩ = some (.string s)
  f : W.frozen? ⟨g, 0, none⟩ = false
  lt : g < W.heap.size
  ev : EV W
  n1 : 12 ≠ g
  n2 : 13 ≠ g
theorem RC.keep {g : Nat} {s : ByteArray} {W W' : World} (h : RC g s W) (hb : Below W.heap.size W W') : RC g s W' :=
  ⟨by rw [hb.cell (p := ⟨g, 0, none⟩) h.lt]; exact h.c, by rw [hb.frozen (p := ⟨g, 0, none⟩) h.lt]; exact h.f, Nat.lt_of_lt_of_le h.lt hb.size, h.ev.keep hb, h.n1, h.n2⟩
theorem RC.set {g : Nat} {s : ByteArray} {W : World} (h : RC g s W) (s' : ByteArray) : RC g s' (W.setCell ⟨g, 0, none⟩ (.string s')) := by
  have hK := KE.setCell (KE.refl g W) 0 (.string s')
  obtain ⟨⟨e1, a1, b1⟩, ⟨e2, a2, b2⟩, l1, l2⟩ := h.ev
  refine ⟨by rw [setCell_in h.c, if_pos rfl], by rw [setCell_froz]; exact h.f, Nat.lt_of_lt_of_le h.lt hK.bl.size, ⟨⟨e1, by rw [hK.cell 0 l1 h.n1]; exact a1, b1⟩, ⟨e2, by rw [hK.cell 0 l2 h.n2]; exact a2, b2⟩, Nat.lt_of_lt_of_le l1 hK.bl.size, Nat.lt_of_lt_of_le l2 hK.bl.size⟩, h.n1, h.n2⟩
/-- A reader's method: what it answers, what is left. -/
def Rds (g : Nat) (v : Value) (s : ByteArray) (W : World) : Ending → World → Prop := fun e w' => e = .returned v ∧ RC g s w' ∧ KE g W w'
set_option maxRecDepth 100000 in
set_option maxHeartbeats 2000000 in
theorem REat_any (g : Nat) (s p : ByteArray) (W : World) (h : RC g s W) : Calls Tryz.prog 70 #[.pointer (some ⟨g, 0, none⟩), .string p] W (Rds g (.bool (Lib.hasPrefix s.data.toList p.data.toList)) (cutS p.data.toList s) W) := by
  have cs := h.c
  have fs := h.f
  have hC := Lib.hid (Tryz.strings_CutPrefix s p W)
  replace h := Lib.hid h
  go_enter Tryz.func70, Tryz.ntmps70
  go_wp2_with (go_at_call 131; (with_reducible refine hC.out.mono ?_); rintro e w1 ⟨rfl, rfl⟩)
  go_ret
  exact ⟨rfl, h.out.set _, KE.setCell (KE.refl g _) 0 _⟩
theorem byte_of_rune (r : Nat) : (IntKind.u8.wrap (r : Int)).toNat.toUInt8 = UInt8.ofNat (r % 256) := by
  have : IntKind.u8.wrap (r : Int) = ((r % 256 : Nat) : Int) := by simp [IntKind.wrap, IntKind.bits, IntKind.signed]
  rw [this]; rfl
set_option maxRecDepth 100000 in
set_option maxHeartbeats 2000000 in
theorem Head1_any (b r : Nat) (sg : ByteArray) (W : World) (hc : W.cell? ⟨b, 0, none⟩ = some (.string sg)) : Calls Tryz.prog 129 #[.int .i32 (r : Int), .pointer (some ⟨b, 0, none⟩)] W fun e w' => e = .returned (.bool (hasSign sg.data.toList r)) ∧ W = w' := by
  have hI : Hid (∀ c : Int, Calls Tryz.prog 130 #[.string sg, .int .u8 c] W fun e w' => e = .returned (.int .i64 (Lib.indexByte sg.data.toList c.toNat.toUInt8)) ∧ w' = W) := Lib.hid fun c => Tryz.strings_IndexByte sg c W
  have e1 : hasSign sg.data.toList r = decide (0 ≤ Lib.indexByte sg.data.toList (IntKind.u8.wrap (r : Int)).toNat.toUInt8) := by rw [byte_of_rune]; rfl
  have e2 : IntKind.u8.wrap (r : Int) = (r : Int) % 256 := by simp [IntKind.wrap, IntKind.bits, IntKind.signed]
  rw [e1, e2]
  go_enter Tryz.func129, Tryz.ntmps129
  go_wp2_with (go_at_call 130; refine (hI.out _).mono ?_; rintro e w1 ⟨rfl, rfl⟩)
  go_ret
  exact ⟨rfl, rfl⟩
set_option maxRecDepth 100000 in
set_option maxHeartbeats 4000000 in
theorem RHead_any (g : Nat) (s sg : ByteArray) (W : World) (h : RC g s W) (hs : s.size ≤ 1000000) : Calls Tryz.prog 69 #[.pointer (some ⟨g, 0, none⟩), .string sg] W (Rds g (.string (headS sg.data.toList s)) (restS sg.data.toList s) W) := by
  have hb0 : Below W.heap.size W (W.alloc (.cells #[.string sg] 9)) := (Below.refl _ _).alloc (Nat.le_refl _) _
  have hl0 : W.heap.size < (W.alloc (.cells #[.string sg] 9)).heap.size := by simp
  have hc0 : (W.alloc (.cells #[.string sg] 9)).cell? ⟨W.heap.size, 0, none⟩ = some (.string sg) := by rw [World.cell?_alloc_new]; rfl
  have h0 := h.keep hb0
  have eg : ∀ args w, (callFunc 129 args).run Tryz.prog w = .ok (.enter 129 args) w := enters_of Tryz.func129 (by kernel_rfl) rfl
  have hX := Tryz.strings_IndexFunc 129 #[.pointer (some ⟨W.heap.size, 0, none⟩)] eg (hasSign sg.data.toList) s (W.alloc (.cells #[.string sg] 9)) (fun W2 r hb => (Head1_any W.heap.size r sg W2 (by rw [hb.cell (p := ⟨W.heap.size, 0, none⟩) hl0]; exact hc0)).mono fun e w' ⟨he, hw⟩ => ⟨he, 0, hw.symm⟩)
  replace hX := Lib.hid hX
  have hk := headK_le sg.data.toList s
  have hkd : headK sg.data.toList s = if Lib.idxFunc (hasSign sg.data.toList) true s < 0 then s.size else (Lib.idxFunc (hasSign sg.data.toList) true s).toNat := rfl
  have hrg := Lib.idxFunc_range (hasSign sg.data.toList) true s
  unfold headS restS
  generalize headK sg.data.toList s = k at hk hkd ⊢
  generalize Lib.idxFunc (hasSign sg.data.toList) true s = i at hX hkd hrg
  have cs0 := h0.c
  clear eg hc0
  replace h0 := Lib.hid h0
  by_cases hi : i < 0
  · obtain rfl : i = -1 := by omega
    rw [if_pos hi] at hkd
    subst hkd
    go_enter Tryz.func69, Tryz.ntmps69
    go_wp2_with (go_at_call 128; (with_reducible refine hX.out.mono ?_); rintro e w1 ⟨rfl, hb⟩; have h1 := h0.out.keep hb; have cs1 := h1.c; have fs1 := h1.f)
    go_ret
    have hbb := hb0.trans (hb.mono hb0.size)
    have e : s.extract s.size s.size = ByteArray.empty := by apply ByteArray.ext; simp
    have e0 : s.extract 0 s.size = s := by apply ByteArray.ext; simp
    exact ⟨by rw [e0]; rfl, by rw [e]; exact h1.set _, (KE.of_below hbb (Nat.le_of_lt h.lt)).trans (KE.setCell (KE.refl g _) 0 _)⟩
  · rw [if_neg hi] at hkd
    obtain ⟨m, rfl⟩ := Int.eq_ofNat_of_zero_le (show 0 ≤ i by omega)
    obtain rfl : k = m := by omega
    have i1 : decide ((k : Int) < 0) = false := decide_eq_false (by omega)
    have i2 : (k : Int) ≤ (s.size : Int) ∧ 0 ≤ (k : Int) := by omega
    clear hkd hrg hi
    go_enter Tryz.func69, Tryz.ntmps69
    go_wp2_with (go_at_call 128; (with_reducible refine hX.out.mono ?_); rintro e w1 ⟨rfl, hb⟩; have h1 := h0.out.keep hb; have cs1 := h1.c; have fs1 := h1.f)
    go_ret
    have hbb := hb0.trans (hb.mono hb0.size)
    exact ⟨rfl, h1.set _, (KE.of_below hbb (Nat.le_of_lt h.lt)).trans (KE.setCell (KE.refl g _) 0 _)⟩
theorem Parse_any (s : ByteArray) (hs : s.size ≤ 1000000) (W : World) (h : EV W) : Calls Tryz.prog 154 #[.string s, .int .i64 10, .int .i64 64] W fun e w' => (∃ er, e = .returned (.tuple #[.int .i64 (parseV s.data.toList), er])) ∧ Below W.heap.size W w' := by
  unfold parseV
  rcases hp : Lib.parseIntB 64 s.data.toList with v | _ | _
  · refine (Tryz.strconv_ParseInt_10_at64_ok s (by omega) v hp W).mono fun e w' ⟨he, hw⟩ => ⟨⟨_, he⟩, ?_⟩
    rcases hw with rfl | ⟨t, rfl⟩
    · exact Below.refl _ _
    · exact ⟨rfl, rfl, rfl, by rw [Lib.bytesWorld_size]; omega, fun j hj => Lib.bytesWorld_at_old W _ t j hj⟩
  · obtain ⟨ev, a, b⟩ := h.v1
    exact (Tryz.strconv_ParseInt_10_at64_syntax s (by omega) hp ev W a b).mono fun e w' ⟨N, he, _, _, hb⟩ => ⟨⟨_, he⟩, hb⟩
  · obtain ⟨ev, a, b⟩ := h.v2
    exact (Tryz.strconv_ParseInt_10_at64_range s (by omega) hp ev W a b).mono fun e w' ⟨N, he, _, _, hb⟩ => ⟨⟨_, he⟩, hb⟩
set_option maxRecDepth 100000 in
set_option maxHeartbeats 2000000 in
theorem RNum_any (g : Nat) (s : ByteArray) (W : World) (h : RC g s W) (hs : s.size ≤ 1000000) : Calls Tryz.prog 133 #[.pointer (some ⟨g, 0, none⟩)] W (Rds g (.int .i64 (numS s).1) (numS s).2 W) := by
  have hH := Lib.hid (RHead_any g s { data := #[44, 40, 41] } W h hs)
  have hz := headS_size [44, 40, 41] s
  have hP := Lib.hid (fun W2 h2 => Parse_any (headS [44, 40, 41] s) (by omega) W2 h2)
  unfold numS
  change Hid (Calls _ _ _ _ (Rds g (.string (headS [44, 40, 41] s)) (restS [44, 40, 41] s) W)) at hH
  clear hz
  generalize headS [44, 40, 41] s = a at hH hP ⊢
  generalize restS [44, 40, 41] s = r at hH ⊢
  generalize parseV a.data.toList = v at hP ⊢
  have hgl := h.lt
  clear h
  go_enter Tryz.func133, Tryz.ntmps133
  go_wp2_with (first | (go_at_call 69; (with_reducible refine hH.out.mono ?_); rintro e w1 ⟨rfl, h1, k1⟩; replace h1 := Lib.hid h1; replace k1 := Lib.hid k1) | (go_at_call 154; (with_reducible refine (hP.out _ h1.out.ev).mono ?_); rintro e w2 ⟨⟨er, rfl⟩, hb⟩))
  go_ret
  exact ⟨rfl, h1.out.keep hb, k1.out.trans (KE.of_below hb (Nat.le_of_lt h1.out.lt))⟩
theorem numS_bd (s : ByteArray) : (numS s).2.size ≤ s.size := restS_size _ s
theorem parseV_bd (l : List UInt8) : -9223372036854775808 ≤ parseV l ∧ parseV l ≤ 9223372036854775807 := by
  unfold parseV
  rcases hp : Lib.parseIntB 64 l with v | _ | _
  · show -9223372036854775808 ≤ v ∧ v ≤ 9223372036854775807
    unfold Lib.parseIntB at hp
    cases l with
    | nil => cases hp
    | cons c r =>
      simp only at hp
      split at hp
      · cases hp
      · cases hp
      · rename_i u hu
        split at hp
        · cases hp
        · split at hp
          · cases hp
          · have := Lib.NumEnd.ok.inj hp
            subst this
            split <;> simp_all <;> omega
  · show (-9223372036854775808 : Int) ≤ 0 ∧ (0 : Int) ≤ 9223372036854775807; decide
  · show -9223372036854775808 ≤ Lib.intSat 64 l ∧ Lib.intSat 64 l ≤ 9223372036854775807; unfold Lib.intSat; split <;> decide
set_option maxRecDepth 100000 in
set_option maxHeartbeats 2000000 in
theorem RReg_any (g : Nat) (s : ByteArray) (W : World) (h : RC g s W) (hs : s.size ≤ 1000000) : Calls Tryz.prog 72 #[.pointer (some ⟨g, 0, none⟩)] W (Rds g (.int .i64 (regS s).1) (regS s).2 W) := by
  have z1 := cutS_size [40] s
  have z2 := cutS_size [120] (cutS [40] s)
  have hE := Lib.hid (fun s W2 (p : ByteArray) h2 => REat_any g s p W2 h2)
  have hN := Lib.hid (fun W2 h2 => RNum_any g (cutS [120] (cutS [40] s)) W2 h2 (by omega))
  unfold regS
  have hbd : -9223372036854775808 ≤ (numS (cutS [120] (cutS [40] s))).1 ∧ (numS (cutS [120] (cutS [40] s))).1 ≤ 9223372036854775807 := parseV_bd _
  obtain ⟨s2, hs2⟩ : ∃ t, cutS [120] (cutS [40] s) = t := ⟨_, rfl⟩
  rw [hs2] at hN hbd ⊢
  generalize (numS s2).1 = n at hN hbd ⊢
  generalize (numS s2).2 = s3 at hN ⊢
  replace hs2 := Lib.hid hs2
  replace h := Lib.hid h
  clear z1 z2
  go_enter Tryz.func72, Tryz.ntmps72
  go_upto_region 2 with (go_at_call 70; (with_reducible refine (hE.out _ _ _ h.out).mono ?_); rintro e w1 ⟨rfl, h1, k1⟩)
  replace h1 := Lib.hid h1
  go_upto_region 3 with (go_at_call 70; (with_reducible refine (hE.out _ _ _ h1.out).mono ?_); rintro e w2 ⟨rfl, h2, k2⟩)
  have h2' : RC g s2 w2 := by rw [← hs2.out]; exact h2
  clear h2
  have k12 := Lib.hid (k1.trans k2)
  replace h2' := Lib.hid h2'
  clear k1 k2
  go_upto_region 4 with (go_at_call 133; (with_reducible refine (hN.out _ h2'.out).mono ?_); rintro e w3 ⟨rfl, h3, k3⟩)
  replace h3 := Lib.hid h3
  have k13 := Lib.hid (k12.out.trans k3)
  clear k3 k12
  go_upto_region 5 with (go_at_call 70; (with_reducible refine (hE.out _ _ _ h3.out).mono ?_); rintro e w4 ⟨rfl, h4, k4⟩)
  replace h4 := Lib.hid h4
  have k14 := Lib.hid (k13.out.trans k4)
  clear k4 k13
  go_upto_region 6 with (go_at_call 70; (with_reducible refine (hE.out _ _ _ h4.out).mono ?_); rintro e w5 ⟨rfl, h5, k5⟩)
  replace h5 := Lib.hid h5
  have k15 := Lib.hid (k14.out.trans k5)
  clear k5 k14
  go_wp2_with fail
  go_ret
  exact ⟨rfl, h5.out, k15.out⟩
set_option maxRecDepth 100000 in
set_option maxHeartbeats 2000000 in
theorem RImm_any (g : Nat) (s : ByteArray) (W : World) (h : RC g s W) (hs : s.size ≤ 1000000) : Calls Tryz.prog 73 #[.pointer (some ⟨g, 0, none⟩)] W (Rds g (.int .i64 (immS s).1) (immS s).2 W) := by
  have hE := Lib.hid (fun s W2 (p : ByteArray) h2 => REat_any g s p W2 h2)
  have hN := Lib.hid (RNum_any g s W h hs)
  unfold immS
  generalize (numS s).1 = n at hN ⊢
  generalize (numS s).2 = s3 at hN ⊢
  clear h
  go_enter Tryz.func73, Tryz.ntmps73
  go_upto_region 2 with (go_at_call 133; (with_reducible refine hN.out.mono ?_); rintro e w3 ⟨rfl, h3, k3⟩)
  replace h3 := Lib.hid h3
  replace k3 := Lib.hid k3
  go_upto_region 3 with (go_at_call 70; (with_reducible refine (hE.out _ _ _ h3.out).mono ?_); rintro e w4 ⟨rfl, h4, k4⟩)
  replace h4 := Lib.hid h4
  have k5 := Lib.hid (k3.out.trans k4)
  clear k4
  go_wp2_with fail
  go_ret
  exact ⟨rfl, h4.out, k5.out⟩
end Go.Proofs.YtdbpnbmaineniaaGreatDoor
