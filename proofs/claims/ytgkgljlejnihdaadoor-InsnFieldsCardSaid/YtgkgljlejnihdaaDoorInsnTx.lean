/- The frame of insn.Text: the instruction, its operation, the writer. Conditions: the library's tables of spaces and of powers of ten lie as its initialisers lay them. -/
import Derived.Test.YtgkgljlejnihdaaDoorInsnSet
import Derived.Test.YtgkgljlejnihdaaDoorInsnCheck
import Derived.Deep.MidRow
import Derived.Deep.RegionHeld
set_option linter.unusedVariables false
set_option linter.unusedSimpArgs false
namespace Go.Proofs.YtgkgljlejnihdaaDoor
open Go.RowKit
/-- An instruction's box. -/
structure XB (w : World) (cs : List Value) (W : World) : Prop where
  c : W.rangeAt w.heap.size 0 cs
  bl : Below w.heap.size w W
  lt : w.heap.size < W.heap.size
theorem XB.start (w : World) (cs : List Value) (t : TypeId) : XB w cs (w.alloc (.cells cs.toArray t)) :=
  ⟨fun j v hv => by rw [World.cell?_alloc_new, Nat.zero_add]; simpa using hv, (Below.refl _ _).alloc (Nat.le_refl _) _, by simp⟩
theorem XB.keep {w W W' : World} {cs : List Value} (h : XB w cs W) (hb : Below W.heap.size W W') : XB w cs W' :=
  ⟨fun j v hv => by rw [hb.cell (p := ⟨w.heap.size, 0 + j, none⟩) h.lt]; exact h.c j v hv, h.bl.trans (hb.mono (Nat.le_of_lt h.lt)), Nat.lt_of_lt_of_le h.lt hb.size⟩
theorem XB.at {w W : World} {cs : List Value} (h : XB w cs W) (j : Nat) (v : Value) (hv : cs[j]? = some v) : W.cell? ⟨w.heap.size, j, none⟩ = some v := by
  have := h.c j v hv; rw [Nat.zero_add] at this; exact this
/-- The instruction's box, its operation's, the writer with its text. -/
structure TX (w : World) (cs os : List Value) (q b : Nat) (l : List UInt8) (W : World) : Prop where
  c : W.rangeAt w.heap.size 0 cs
  d : W.rangeAt q 0 os
  iw : WL b l W
  p : P10 W
  bl : Below w.heap.size w W
  lt : w.heap.size < b
  qt : q < b
  gp : 3 < b
section
variable {w W W' : World} {cs os : List Value} {q b : Nat} {l m : List UInt8}
theorem TX.step (h : TX w cs os q b l W) (k : WP b m W W') : TX w cs os q b m W' :=
  ⟨fun j v hv => by rw [k.bl.cell (p := ⟨w.heap.size, 0 + j, none⟩) h.lt]; exact h.c j v hv, fun j v hv => by rw [k.bl.cell (p := ⟨q, 0 + j, none⟩) h.qt]; exact h.d j v hv, k.iw, h.p.low k.bl h.gp, h.bl.trans (k.bl.mono (Nat.le_of_lt h.lt)), h.lt, h.qt, h.gp⟩
theorem TX.keep (h : TX w cs os q b l W) (hb : Below W.heap.size W W') : TX w cs os q b l W' := h.step ((WP.start h.iw).keep hb)
theorem TX.at (h : TX w cs os q b l W) (j : Nat) (v : Value) (hv : cs[j]? = some v) : W.cell? ⟨w.heap.size, j, none⟩ = some v := by
  have := h.c j v hv; rw [Nat.zero_add] at this; exact this
theorem TX.op (h : TX w cs os q b l W) (j : Nat) (v : Value) (hv : os[j]? = some v) : W.cell? ⟨q, j, none⟩ = some v := by
  have := h.d j v hv; rw [Nat.zero_add] at this; exact this
theorem TX.start (h : XB w cs W) (hp : P10 W) (os : List Value) (t t' : TypeId) (h' : t' = 104) : TX w cs os W.heap.size (W.heap.size + 1) [] ((W.alloc (.cells os.toArray t)).alloc (.cells #[.pointer none, .slice none 0 0] t')) := by
  subst h'
  have h2 : XB w cs (W.alloc (.cells os.toArray t)) := h.keep ((Below.refl _ _).alloc (Nat.le_refl _) _)
  have h3 : XB w cs ((W.alloc (.cells os.toArray t)).alloc (.cells #[.pointer none, .slice none 0 0] 104)) := h2.keep ((Below.refl _ _).alloc (Nat.le_refl _) _)
  have hs : (W.alloc (.cells os.toArray t)).heap.size = W.heap.size + 1 := by simp
  refine ⟨h3.c, fun j v hv => ?_, ?_, ?_, h3.bl, by have := h.lt; omega, by omega, by have := hp.lt; omega⟩
  · rw [((Below.refl (W.alloc (.cells os.toArray t)).heap.size _).alloc (Nat.le_refl _) _).cell (p := ⟨W.heap.size, 0 + j, none⟩) (by show W.heap.size < _; omega), World.cell?_alloc_new, Nat.zero_add]; simpa using hv
  · have := Lib.IsBuilderF.of (Lib.fresh_isBuilder 104 5 (W.alloc (.cells os.toArray t)))
    rw [hs] at this
    exact this
  · exact (hp.later ((Below.refl _ W).alloc (Nat.le_refl _) (.cells os.toArray t)) (Nat.le_refl _)).later ((Below.refl _ _).alloc (Nat.le_refl _) _) (Nat.le_refl _)
theorem TX.str (h : TX w cs os q b l W) (s : ByteArray) (hl : l.length + s.size ≤ 100000) : Calls Tryd.prog 70 #[.pointer (some ⟨b, 0, none⟩), .string s] W fun e w' => (∃ v, e = .returned v) ∧ TX w cs os q b (l ++ s.data.toList) w' :=
  (WStrL b l s W h.iw hl).mono (by rintro e w' ⟨h1, h2⟩; exact ⟨h1, h.step h2⟩)
theorem TX.strL (h : TX w cs os q b l W) (m : List UInt8) (hl : l.length ≤ 800) (hm : m.length ≤ 800) : Calls Tryd.prog 70 #[.pointer (some ⟨b, 0, none⟩), .string ⟨m.toArray⟩] W fun e w' => (∃ v, e = .returned v) ∧ TX w cs os q b (l ++ m) w' := by
  have := h.str ⟨m.toArray⟩ (by show l.length + m.toArray.size ≤ _; rw [List.size_toArray]; omega)
  rw [show (⟨m.toArray⟩ : ByteArray).data.toList = m from List.toList_toArray] at this; exact this
theorem TX.byte (h : TX w cs os q b l W) (c : UInt8) (hl : l.length ≤ 800) : Calls Tryd.prog 71 #[.pointer (some ⟨b, 0, none⟩), .int .u8 c.toNat] W fun e w' => (∃ v, e = .returned v) ∧ TX w cs os q b (l ++ [c]) w' :=
  (WByteL b l c W h.iw (by omega)).mono (by rintro e w' ⟨h1, h2⟩; exact ⟨h1, h.step h2⟩)
theorem TX.comma (h : TX w cs os q b l W) (hl : l.length ≤ 800) : Calls Tryd.prog 73 #[.pointer (some ⟨b, 0, none⟩)] W fun e w' => e = .returned (.tuple #[]) ∧ TX w cs os q b (l ++ [44, 32]) w' :=
  (Comma_any b l W h.iw (by omega)).mono (by rintro e w' ⟨h1, h2⟩; exact ⟨h1, h.step h2⟩)
theorem TX.num (h : TX w cs os q b l W) (n : Int) (h0 : -9223372036854775808 ≤ n) (h1 : n ≤ 9223372036854775807) (hl : l.length ≤ 800) : Calls Tryd.prog 74 #[.pointer (some ⟨b, 0, none⟩), .int .i64 n] W fun e w' => e = .returned (.tuple #[]) ∧ TX w cs os q b (l ++ signL n) w' :=
  (Num_w b l n h0 h1 W h.p h.gp h.iw (by omega)).mono (by rintro e w' ⟨h1, h2⟩; exact ⟨h1, h.step h2⟩)
theorem TX.att (h : TX w cs os q b l W) (n : Int) (h0 : 0 ≤ n) (h1 : n ≤ 31) (hl : l.length ≤ 800) : Calls Tryd.prog 75 #[.pointer (some ⟨b, 0, none⟩), .int .i64 n] W fun e w' => e = .returned (.tuple #[]) ∧ TX w cs os q b (l ++ [40] ++ regT n ++ [41]) w' :=
  (At_w b l n h0 h1 W h.iw (by omega)).mono (by rintro e w' ⟨h1, h2⟩; exact ⟨h1, h.step h2⟩)
theorem TX.set (h : TX w cs os q b l W) (n : Int) (h0 : 0 ≤ n) (h1 : n ≤ 15) (hl : l.length ≤ 800) : Calls Tryd.prog 76 #[.pointer (some ⟨b, 0, none⟩), .int .i64 n] W fun e w' => e = .returned (.tuple #[]) ∧ TX w cs os q b (l ++ partT n.toNat) w' :=
  (Set_w b l n h0 h1 W h.iw (by omega)).mono (by rintro e w' ⟨h1, h2⟩; exact ⟨h1, h.step h2⟩)
theorem TX.regs (h : TX w cs os q b l W) (ns : List Int) (hn : ∀ k, 0 ≤ ns.getD k 0 ∧ ns.getD k 0 ≤ 31) (hs : ns.length ≤ 3) (hl : l.length ≤ 800) :
    Calls Tryd.prog 72 #[.pointer (some ⟨b, 0, none⟩), .slice (some ⟨W.heap.size, 0, none⟩) ns.length ns.length] (W.alloc (.cells (ns.map (Value.int .i64)).toArray 3)) fun e w' => e = .returned (.tuple #[]) ∧ TX w cs os q b (l ++ regsK ns ns.length) w' := by
  have hb : b < W.heap.size := IsW.lt h.iw
  have h2 := h.keep ((Below.refl _ W).alloc (Nat.le_refl _) (.cells (ns.map (Value.int .i64)).toArray 3))
  refine (Regs_w b W.heap.size l ns hn hs (0, 0) _ h2.iw (heap_alloc_new W _) (by omega) hl).mono ?_
  rintro e w' ⟨h3, h4⟩
  exact ⟨h3, h2.step h4⟩
theorem TX.regs1 (h : TX w cs os q b l W) (n : Int) (hn : 0 ≤ n ∧ n ≤ 31) (hl : l.length ≤ 800) (t : TypeId) (ht : t = 3) :
    Calls Tryd.prog 72 #[.pointer (some ⟨b, 0, none⟩), .slice (some ⟨W.heap.size, 0, none⟩) 1 1] (W.alloc (.cells #[.int .i64 n] t)) fun e w' => e = .returned (.tuple #[]) ∧ TX w cs os q b (l ++ regT n) w' := by
  subst ht
  exact h.regs [n] (fun k => by rcases k with _ | k <;> simp [hn]) (by simp) hl
theorem TX.regs2 (h : TX w cs os q b l W) (n m : Int) (hn : 0 ≤ n ∧ n ≤ 31) (hm : 0 ≤ m ∧ m ≤ 31) (hl : l.length ≤ 800) (t : TypeId) (ht : t = 3) :
    Calls Tryd.prog 72 #[.pointer (some ⟨b, 0, none⟩), .slice (some ⟨W.heap.size, 0, none⟩) 2 2] (W.alloc (.cells #[.int .i64 n, .int .i64 m] t)) fun e w' => e = .returned (.tuple #[]) ∧ TX w cs os q b (l ++ regT n ++ [44, 32] ++ regT m) w' := by
  subst ht
  have := h.regs [n, m] (fun k => by rcases k with _ | _ | k <;> simp [hn, hm]) (by simp) hl
  simpa [regsK, List.append_assoc] using this
theorem TX.regs3 (h : TX w cs os q b l W) (n m k : Int) (hn : 0 ≤ n ∧ n ≤ 31) (hm : 0 ≤ m ∧ m ≤ 31) (hk : 0 ≤ k ∧ k ≤ 31) (hl : l.length ≤ 800) (t : TypeId) (ht : t = 3) :
    Calls Tryd.prog 72 #[.pointer (some ⟨b, 0, none⟩), .slice (some ⟨W.heap.size, 0, none⟩) 3 3] (W.alloc (.cells #[.int .i64 n, .int .i64 m, .int .i64 k] t)) fun e w' => e = .returned (.tuple #[]) ∧ TX w cs os q b (l ++ regT n ++ [44, 32] ++ regT m ++ [44, 32] ++ regT k) w' := by
  subst ht
  have := h.regs [n, m, k] (fun k => by rcases k with _ | _ | _ | k <;> simp [hn, hm, hk]) (by simp) hl
  simpa [regsK, List.append_assoc] using this
theorem TX.string (h : TX w cs os q b l W) (h0 : l ≠ []) : Calls Tryd.prog 77 #[.pointer (some ⟨b, 0, none⟩)] W fun e w' => e = .returned (.string ⟨l.toArray⟩) ∧ Below w.heap.size w w' :=
  (WString_any b b l W h.iw h0).mono (by rintro e w' ⟨h1, h2⟩; exact ⟨h1, h.bl.trans (h2.mono (Nat.le_of_lt h.lt))⟩)
end
theorem names_full : ((List.range 88).all fun n => decide ((opOf (n : Int)).form = 0) || !(opOf (n : Int)).name.isEmpty) = true := by decide +kernel
theorem name_full (n : Int) (h : (opOf n).form ≠ 0) : (opOf n).name ≠ [] := by
  by_cases h0 : n < 1
  · exact absurd (by unfold opOf; rw [if_pos h0]; rfl) h
  · by_cases h1 : 87 < n
    · exact absurd (by rw [opOf_big n h1]; rfl) h
    · obtain ⟨m, rfl⟩ := Int.eq_ofNat_of_zero_le (show 0 ≤ n by omega)
      have := List.all_eq_true.1 names_full m (List.mem_range.2 (by omega))
      intro he
      rw [he] at this
      simp [h] at this
end Go.Proofs.YtgkgljlejnihdaaDoor
