/- Plain: how the document reads a text: what is left of it, and whether it is none's. No program in sight. The walk of the document's Named: which op has a name. Plain: how the document reads an instruction. No program in sight. The walks of the document's eater: upTo, eat, value. The walks of the document's eater: reg, imm, part. Conditions: as each theorem says. -/
import Derived.Test.YtdbpnbmaineniaaGreatDoorTextAB
import Derived.Test.YtdbpnbmaineniaaGreatDoorRefFC
import Derived.Deep.LoopGhost
import Derived.Lib.Strings
namespace Go.Proofs.YtdbpnbmaineniaaGreatDoor
/-- Where one of some signs stands first. -/
def stopB (t s : ByteArray) : Nat := s.data.toList.findIdx fun c => t.data.toList.contains c
/-- Just that: what is left, and whether it is none's. -/
def eatB (t : ByteArray) (p : ByteArray × Bool) : ByteArray × Bool := if t.size ≤ p.1.size ∧ (p.1.extract 0 t.size).toList = t.toList then (p.1.extract t.size p.1.size, p.2) else (p.1, true)
/-- The number of some digits. -/
def valN (l : List UInt8) : Nat := l.foldl (fun n c => n * 10 + (c.toNat - 48)) 0
def isDig (c : UInt8) : Bool := decide (48 ≤ c.toNat) && decide (c.toNat ≤ 57)
def valB (s : ByteArray) : Int × Bool := if 1 ≤ s.size ∧ s.size ≤ 9 ∧ s.data.toList.all isDig = true then ((valN s.data.toList : Nat), true) else (0, false)
def signsB : ByteArray := { data := #[44, 32, 40, 41] }
def headB (s : ByteArray) : ByteArray := s.extract 0 (stopB signsB s)
def restB (s : ByteArray) : ByteArray := s.extract (stopB signsB s) s.size
/-- A register: its number, what is left. -/
def regB (p : ByteArray × Bool) : Int × ByteArray × Bool :=
  let q := eatB { data := #[120] } p
  let v := valB (headB q.1)
  (v.1, restB q.1, q.2 || !v.2)
/-- A number. -/
def immB (p : ByteArray × Bool) : Int × ByteArray × Bool :=
  let m : Bool := decide (0 < p.1.size) && (p.1.data.toList.headD 0 == 45)
  let s := if m then p.1.extract 1 p.1.size else p.1
  let v := valB (headB s)
  (if m then -v.1 else v.1, restB s, p.2 || !v.2)
/-- Which of sixteen parts a text is. -/
def whichB (s : ByteArray) : Nat := (List.range 16).findIdx fun n => partT n == s.toList
/-- A part of a fence. -/
def partB (p : ByteArray × Bool) : Int × ByteArray × Bool :=
  if whichB (headB p.1) < 16 then ((whichB (headB p.1) : Nat), restB p.1, p.2) else (0, restB p.1, true)
end Go.Proofs.YtdbpnbmaineniaaGreatDoor
namespace Go.Proofs.YtdbpnbmaineniaaGreatDoor
open Go.RowKit
def namedN (s : ByteArray) : Nat := if rnames.findIdx (· == s.toList) < 88 then rnames.findIdx (· == s.toList) else 0
theorem rnames_full : ∀ k : Fin 88, 1 ≤ k.1 → rnames[k.1]? ≠ some [] := by decide +kernel
theorem named_at {s : ByteArray} {k : Nat} (h1 : 1 ≤ k) (hk : k < 88) (h : rnames[k]? = some s.toList) (hno : ∀ j, 1 ≤ j → j < k → rnames[j]? ≠ some s.toList) : namedN s = k := by
  have hl : k < rnames.length := hk
  have hg : rnames[k] = s.toList := by rw [List.getElem?_eq_getElem hl] at h; exact Option.some.inj h
  have e : rnames.findIdx (· == s.toList) = k := by
    rw [List.findIdx_eq hl]
    refine ⟨by rw [hg]; simp, fun j hj => ?_⟩
    rw [beq_eq_false_iff_ne]
    intro hj2
    have hjl : j < rnames.length := Nat.lt_trans hj hl
    rcases Nat.eq_zero_or_pos j with rfl | hp
    · have h0 : s.toList = [] := by rw [← hj2]; rfl
      rw [h0] at h
      exact rnames_full ⟨k, hk⟩ h1 h
    · exact hno j hp hj (by rw [List.getElem?_eq_getElem hjl, hj2])
  unfold namedN; rw [e, if_pos hk]
theorem named_none {s : ByteArray} (hno : ∀ j, 1 ≤ j → j < 88 → rnames[j]? ≠ some s.toList) : namedN s = 0 := by
  unfold namedN
  by_cases h : rnames.findIdx (· == s.toList) < 88
  · rw [if_pos h]
    have hl : rnames.findIdx (· == s.toList) < rnames.length := h
    rcases Nat.eq_zero_or_pos (rnames.findIdx (· == s.toList)) with h0 | hp
    · exact h0
    · exact absurd (by rw [List.getElem?_eq_getElem hl]; have := List.findIdx_getElem (w := hl); simp only [beq_iff_eq] at this; rw [this]) (hno _ hp h)
  · rw [if_neg h]
set_option maxRecDepth 100000 in
set_option maxHeartbeats 4000000 in
theorem R2Named_any (s : ByteArray) (w : World) : Calls Tryz.prog 41 #[.string s] w fun e w' => e = .returned (.int .i64 (namedN s)) ∧ Below w.heap.size w w' := by
  obtain ⟨r, hr⟩ : ∃ r, namedN s = r := ⟨_, rfl⟩
  rw [hr]
  replace hr := Lib.hid hr
  go_enter Tryz.func41, Tryz.ntmps41
  go_wp2_with (go_at_call 102; refine (Names_any _).mono ?_; rintro e w2 ⟨⟨g, cap, rfl, hc⟩, hb⟩; replace hc := Lib.hid hc)
  go_loopg [4] 87 (fun n i wr => ∃ k : Nat, 1 ≤ k ∧ k ≤ 88 ∧ n = 88 - k ∧ i = .int .i64 k ∧ Hid (∀ j, 1 ≤ j → j < k → rnames[j]? ≠ some s.toList) ∧ w2 = wr)
  case atStart => exact ⟨1, by decide, by decide, rfl, rfl, Lib.hid fun j h1 h2 => by omega, rfl⟩
  case round =>
    obtain ⟨k, h1, hk, rfl, rfl, hno, rfl⟩ := hrel
    by_cases hlt : k < 88
    · have hlk : (k : Int) < 88 ∧ 0 ≤ (k : Int) := by omega
      have hk1 : decide ((k : Int) < 88) = true := decide_eq_true hlk.1
      have hk2 : decide (k < 88) = true := decide_eq_true hlt
      have ck := hc.out k hlt
      have hrn := rnames_at k hlt
      obtain ⟨l, hl⟩ : ∃ l, (opOf (k : Int)).name = l := ⟨_, rfl⟩
      rw [hl] at ck hrn
      have ck2 : w2.cell? ⟨g, k, none⟩ = some (.string ⟨l.toArray⟩) := ck
      clear ck hl
      by_cases e : l = s.toList
      · have e1 : (l == s.toList) = true := by rw [beq_iff_eq]; exact e
        have hrr : Hid (r = k) := Lib.hid (by rw [← hr.out]; exact named_at h1 hlt (by rw [hrn, e]) hno.out)
        clear e hrn
        go_wp2_with fail
        go_ret
        exact ⟨by rw [hrr.out]; rfl, hb⟩
      · have e1 : (l == s.toList) = false := by rw [beq_eq_false_iff_ne]; exact e
        have hno2 : Hid (∀ j, 1 ≤ j → j < k + 1 → rnames[j]? ≠ some s.toList) := Lib.hid fun j hj1 hj => by
          rcases Nat.lt_or_ge j k with hq2 | hq2
          · exact hno.out j hj1 hq2
          · obtain rfl : j = k := by omega
            rw [hrn]; exact fun hh => e (Option.some.inj hh)
        clear e hrn
        go_wp2_with fail
        go_roundg (88 - (k + 1))
        case measure => omega
        case rel => exact ⟨k + 1, by omega, by omega, rfl, by go_num, hno2, rfl⟩
    · obtain rfl : k = 88 := by omega
      have hrr : Hid (r = 0) := Lib.hid (by rw [← hr.out]; exact named_none hno.out)
      rw [show ((88 : Nat) : Int) = 88 from rfl]
      go_wp2_with fail
      go_ret
      exact ⟨by rw [hrr.out]; rfl, hb⟩
end Go.Proofs.YtdbpnbmaineniaaGreatDoor
namespace Go.Proofs.YtdbpnbmaineniaaGreatDoor
def endsB (k : Nat) : ByteArray := if k = 0 then { data := #[] } else if k = 1 then { data := #[46, 97, 113] } else if k = 2 then { data := #[46, 114, 108] } else { data := #[46, 97, 113, 114, 108] }
/-- The operation and its flags, by the first k ends. -/
def opB (nm : ByteArray) : Nat → Int × Bool × Bool
  | 0 => (0, false, false)
  | k + 1 => if (endsB k).size < nm.size ∧ (nm.extract (nm.size - (endsB k).size) nm.size).toList = (endsB k).toList ∧ 0 < namedN (nm.extract 0 (nm.size - (endsB k).size)) then ((namedN (nm.extract 0 (nm.size - (endsB k).size)) : Nat), decide (k % 2 = 1), decide (1 < k)) else opB nm k
def cmB : ByteArray := { data := #[44, 32] }
def loB : ByteArray := { data := #[40] }
def roB : ByteArray := { data := #[41] }
def spB : ByteArray := { data := #[32] }
/-- The fields, by the form. -/
def fieldsB (f : Int) (i : InsnV) (p : ByteArray × Bool) : InsnV × (ByteArray × Bool) :=
  if f = 1 ∨ f = 2 then
    let a := regB p; let b := immB (eatB cmB a.2)
    ({ i with rd := a.1, imm := b.1 }, b.2)
  else if f = 3 ∨ f = 7 ∨ f = 4 then
    let a := regB p
    if f = 4 ∨ i.op = 4 then
      let b := immB (eatB cmB a.2); let c := regB (eatB loB b.2)
      ({ i with rd := a.1, imm := b.1, rs1 := c.1 }, eatB roB c.2)
    else
      let b := regB (eatB cmB a.2); let c := immB (eatB cmB b.2)
      ({ i with rd := a.1, rs1 := b.1, imm := c.1 }, c.2)
  else if f = 5 then
    let a := regB p; let b := immB (eatB cmB a.2); let c := regB (eatB loB b.2)
    ({ i with rs2 := a.1, imm := b.1, rs1 := c.1 }, eatB roB c.2)
  else if f = 6 then
    let a := regB p; let b := regB (eatB cmB a.2); let c := immB (eatB cmB b.2)
    ({ i with rs1 := a.1, rs2 := b.1, imm := c.1 }, c.2)
  else if f = 8 then
    let a := regB p; let b := regB (eatB cmB a.2); let c := regB (eatB cmB b.2)
    ({ i with rd := a.1, rs1 := b.1, rs2 := c.1 }, c.2)
  else if f = 9 then
    let a := partB p; let b := partB (eatB cmB a.2)
    ({ i with pred := a.1, succ := b.1 }, b.2)
  else if f = 11 then
    let a := regB p; let c := regB (eatB loB (eatB cmB a.2))
    ({ i with rd := a.1, rs1 := c.1 }, eatB roB c.2)
  else if f = 12 then
    let a := regB p; let b := regB (eatB cmB a.2); let c := regB (eatB loB (eatB cmB b.2))
    ({ i with rd := a.1, rs2 := b.1, rs1 := c.1 }, eatB roB c.2)
  else (i, p)
def opI (o : Int × Bool × Bool) : InsnV := ⟨o.1, 0, 0, 0, 0, o.2.1, o.2.2, 0, 0⟩
def zeroI : InsnV := ⟨0, 0, 0, 0, 0, false, false, 0, 0⟩
/-- What is read, before it is written again. -/
def preB (s : ByteArray) : InsnV × (ByteArray × Bool) :=
  let nm := s.extract 0 (stopB spB s)
  let o := opB nm 4
  let p : ByteArray × Bool := (s.extract (stopB spB s) s.size, false)
  fieldsB (rform o.1) (opI o) (if rform o.1 = 10 then p else eatB spB p)
def readB (s : ByteArray) : InsnV × Int :=
  let x := preB s
  if x.2.2 = true ∨ checkE x.1 ≠ 0 ∨ textT x.1 ≠ s.toList then (zeroI, 4) else (x.1, 0)
end Go.Proofs.YtdbpnbmaineniaaGreatDoor
namespace Go.Proofs.YtdbpnbmaineniaaGreatDoor
open Go.RowKit
/-- Where an eater lies. -/
structure EC (g : Nat) (p : ByteArray × Bool) (W : World) : Prop where
  cs : W.cell? ⟨g, 0, none⟩ = some (.string p.1)
  cb : W.cell? ⟨g, 1, none⟩ = some (.bool p.2)
  fs : W.frozen? ⟨g, 0, none⟩ = false
  fb : W.frozen? ⟨g, 1, none⟩ = false
  lt : g < W.heap.size
/-- Only that block is another. -/
structure KE (g : Nat) (w w' : World) : Prop where
  bl : Below g w w'
  block : ∀ k, k < w.heap.size → k ≠ g → w'.heap[k]? = w.heap[k]?
theorem KE.of_below {g : Nat} {w w' : World} (h : Below w.heap.size w w') (hg : g ≤ w.heap.size) : KE g w w' := ⟨h.mono hg, fun k hk _ => h.block k hk⟩
theorem KE.refl (g : Nat) (w : World) : KE g w w := ⟨Below.refl _ _, fun _ _ _ => rfl⟩
theorem KE.trans {g : Nat} {u v w : World} (h : KE g u v) (k : KE g v w) : KE g u w :=
  ⟨h.bl.trans k.bl, fun j hj hb => (k.block j (Nat.lt_of_lt_of_le hj h.bl.size) hb).trans (h.block j hj hb)⟩
theorem KE.setCell {g : Nat} {u w : World} (h : KE g u w) (o : Nat) (v : Value) : KE g u (w.setCell ⟨g, o, none⟩ v) :=
  ⟨h.bl.setCell (Nat.le_refl g) v, fun j hj hb => (Below.heap_setCell w ⟨g, o, none⟩ v j hb).trans (h.block j hj hb)⟩
theorem KE.drewN {g : Nat} {u w : World} (h : KE g u w) (n : Nat) : KE g u (w.drewN n) := ⟨h.bl.trans ⟨rfl, rfl, rfl, Nat.le_refl _, fun _ _ => rfl⟩, fun j hj hb => h.block j hj hb⟩
theorem KE.cell {g : Nat} {w w' : World} (h : KE g w w') {x : Nat} (j : Nat) (hx : x < w.heap.size) (hb : x ≠ g) : w'.cell? ⟨x, j, none⟩ = w.cell? ⟨x, j, none⟩ := World.cell?_of_block (w := w) (h.block x hx hb)
theorem KE.frozen {g : Nat} {w w' : World} (h : KE g w w') {x : Nat} (j : Nat) (hx : x < w.heap.size) (hb : x ≠ g) : w'.frozen? ⟨x, j, none⟩ = w.frozen? ⟨x, j, none⟩ := World.frozen?_of_block (w := w) (h.block x hx hb)
theorem EC.drewN {g : Nat} {p : ByteArray × Bool} {W : World} (h : EC g p W) (n : Nat) : EC g p (W.drewN n) := ⟨h.cs, h.cb, h.fs, h.fb, h.lt⟩
theorem EC.keep {g : Nat} {p : ByteArray × Bool} {W W' : World} (h : EC g p W) (hb : Below W.heap.size W W') : EC g p W' :=
  ⟨by rw [hb.cell (p := ⟨g, 0, none⟩) h.lt]; exact h.cs, by rw [hb.cell (p := ⟨g, 1, none⟩) h.lt]; exact h.cb, by rw [hb.frozen (p := ⟨g, 0, none⟩) h.lt]; exact h.fs, by rw [hb.frozen (p := ⟨g, 1, none⟩) h.lt]; exact h.fb, Nat.lt_of_lt_of_le h.lt hb.size⟩
theorem setCell_froz (W : World) (b o j : Nat) (v : Value) : (W.setCell ⟨b, o, none⟩ v).frozen? ⟨b, j, none⟩ = W.frozen? ⟨b, j, none⟩ := World.frozen?_setCells b [v] o W ⟨b, j, none⟩
theorem setCell_in {W : World} {b o j : Nat} {v u : Value} (h : W.cell? ⟨b, o, none⟩ = some u) : (W.setCell ⟨b, o, none⟩ v).cell? ⟨b, j, none⟩ = if j = o then some v else W.cell? ⟨b, j, none⟩ := by
  split
  · rename_i e; subst e; exact World.cell?_setCell_same _ _ _ h
  · rename_i e; exact World.cell?_setCell_other _ _ _ _ (fun h => e (by injection h with _ h2 _; exact h2.symm))
theorem EC.setS {g : Nat} {p : ByteArray × Bool} {W : World} (h : EC g p W) (s : ByteArray) : EC g (s, p.2) (W.setCell ⟨g, 0, none⟩ (.string s)) :=
  ⟨by rw [setCell_in h.cs, if_pos rfl], by rw [setCell_in h.cs, if_neg (by decide)]; exact h.cb, by rw [setCell_froz]; exact h.fs, by rw [setCell_froz]; exact h.fb, Nat.lt_of_lt_of_le h.lt (KE.setCell (KE.refl g W) 0 (.string s)).bl.size⟩
theorem EC.setB {g : Nat} {p : ByteArray × Bool} {W : World} (h : EC g p W) (b : Bool) : EC g (p.1, b) (W.setCell ⟨g, 1, none⟩ (.bool b)) :=
  ⟨by rw [setCell_in h.cb, if_neg (by decide)]; exact h.cs, by rw [setCell_in h.cb, if_pos rfl], by rw [setCell_froz]; exact h.fs, by rw [setCell_froz]; exact h.fb, Nat.lt_of_lt_of_le h.lt (KE.setCell (KE.refl g W) 1 (.bool b)).bl.size⟩
/-- An eater's method: what it answers, what is left. -/
def Eats (g : Nat) (v : Value) (q : ByteArray × Bool) (W : World) : Ending → World → Prop := fun e w' => e = .returned v ∧ EC g q w' ∧ KE g W w'
set_option maxRecDepth 100000 in
set_option maxHeartbeats 2000000 in
theorem Eat_any (g : Nat) (p : ByteArray × Bool) (t : ByteArray) (W : World) (h : EC g p W) : Calls Tryz.prog 65 #[.pointer (some ⟨g, 0, none⟩), .string t] W (Eats g (.tuple #[]) (eatB t p) W) := by
  obtain ⟨s, bad⟩ := p
  have cs : W.cell? ⟨g, 0, none⟩ = some (.string s) := h.cs
  have cb : W.cell? ⟨g, 1, none⟩ = some (.bool bad) := h.cb
  have fs := h.fs
  have fb := h.fb
  replace h := Lib.hid h
  by_cases h1 : t.size ≤ s.size
  · have hd1 : decide ((s.size : Int) < (t.size : Int)) = false := by simp; omega
    have hd2 : decide (s.size < t.size) = false := by simp; omega
    by_cases h2 : (s.extract 0 t.size).toList = t.toList
    · have hr : Hid (eatB t (s, bad) = (s.extract t.size s.size, bad)) := Lib.hid (if_pos ⟨h1, h2⟩)
      have hb : ((s.extract 0 t.size).toList == t.toList) = true := by rw [beq_iff_eq]; exact h2
      have hlt : (t.size : Int) ≤ (s.size : Int) := by omega
      clear h2
      go_enter Tryz.func65, Tryz.ntmps65
      go_wp2
      first | exact bodyPost_end (results_none rfl _ _ _) rfl ⟨rfl, by rw [hr.out]; exact h.out.setS _, KE.setCell (KE.refl g W) 0 _⟩ | exact bodyPost_ret (results_none rfl _ _ _) rfl ⟨rfl, by rw [hr.out]; exact h.out.setS _, KE.setCell (KE.refl g W) 0 _⟩
    · have hr : Hid (eatB t (s, bad) = (s, true)) := Lib.hid (if_neg fun e => h2 e.2)
      have hb : ((s.extract 0 t.size).toList == t.toList) = false := by rw [beq_eq_false_iff_ne]; exact h2
      have hlt : (t.size : Int) ≤ (s.size : Int) := by omega
      clear h2
      go_enter Tryz.func65, Tryz.ntmps65
      go_wp2
      first | exact bodyPost_end (results_none rfl _ _ _) rfl ⟨rfl, by rw [hr.out]; exact h.out.setB _, KE.setCell (KE.refl g W) 1 _⟩ | exact bodyPost_ret (results_none rfl _ _ _) rfl ⟨rfl, by rw [hr.out]; exact h.out.setB _, KE.setCell (KE.refl g W) 1 _⟩
  · have hd1 : decide ((s.size : Int) < (t.size : Int)) = true := by simp; omega
    have hd2 : decide (s.size < t.size) = true := by simp; omega
    have hr : Hid (eatB t (s, bad) = (s, true)) := Lib.hid (if_neg fun e => h1 e.1)
    go_enter Tryz.func65, Tryz.ntmps65
    go_wp2
    first | exact bodyPost_end (results_none rfl _ _ _) rfl ⟨rfl, by rw [hr.out]; exact h.out.setB _, KE.setCell (KE.refl g W) 1 _⟩ | exact bodyPost_ret (results_none rfl _ _ _) rfl ⟨rfl, by rw [hr.out]; exact h.out.setB _, KE.setCell (KE.refl g W) 1 _⟩
theorem stop_at {t s : ByteArray} {i : Nat} (hi : i < s.size) (hc : t.data.toList.contains s[i] = true) (hno : ∀ j, j < i → ∀ h : j < s.size, t.data.toList.contains s[j] = false) : stopB t s = i := by
  have hl : i < s.data.toList.length := by rw [← Lib.size_eq]; exact hi
  unfold stopB
  rw [List.findIdx_eq hl]
  exact ⟨hc, fun j hj => hno j hj (by omega)⟩
theorem stop_end {t s : ByteArray} (hno : ∀ j, j < s.size → ∀ h : j < s.size, t.data.toList.contains s[j] = false) : stopB t s = s.size := by
  unfold stopB
  rw [Lib.size_eq, List.findIdx_eq_length]
  intro x hx
  obtain ⟨j, hj, rfl⟩ := List.mem_iff_getElem.1 hx
  rw [← Lib.size_eq] at hj
  exact hno j hj hj
theorem has_of {t : ByteArray} {x : UInt8} {m : Nat} (hm : m < t.size) (h : x = t[m]) : t.data.toList.contains x = true := by
  rw [List.contains_iff_mem, h]
  exact List.getElem_mem (by rw [← Lib.size_eq]; exact hm)
theorem has_not {t : ByteArray} {x : UInt8} (h : ∀ m, (hm : m < t.size) → x ≠ t[m]) : t.data.toList.contains x = false := by
  rw [Bool.eq_false_iff]
  intro hc
  rw [List.contains_iff_mem] at hc
  obtain ⟨j, hj, e⟩ := List.mem_iff_getElem.1 hc
  exact h j (by rw [Lib.size_eq]; exact hj) e.symm
set_option maxRecDepth 100000 in
set_option maxHeartbeats 4000000 in
theorem UpTo_any (g : Nat) (s : ByteArray) (bad : Bool) (t : ByteArray) (W : World) (h : EC g (s, bad) W) (hss : s.size ≤ 1000000) (hts : t.size ≤ 1000) : Calls Tryz.prog 64 #[.pointer (some ⟨g, 0, none⟩), .string t] W (Eats g (.string (s.extract 0 (stopB t s))) (s.extract (stopB t s) s.size, bad) W) := by
  obtain ⟨r, hr⟩ : ∃ r, stopB t s = r := ⟨_, rfl⟩
  rw [hr]
  replace hr := Lib.hid hr
  have hlg := h.lt
  go_enter Tryz.func64, Tryz.ntmps64
  go_wp2
  go_loopg [5] s.size (fun n i wr => ∃ k : Nat, k ≤ s.size ∧ n = s.size - k ∧ i = .int .i64 k ∧ Hid (∀ j, j < k → ∀ h : j < s.size, t.data.toList.contains s[j] = false) ∧ EC g (s, bad) wr ∧ KE g W wr)
  case atStart => exact ⟨0, Nat.zero_le _, rfl, rfl, Lib.hid fun j hj => absurd hj (Nat.not_lt_zero j), h, KE.refl g W⟩
  case round =>
    obtain ⟨k, hk, rfl, rfl, hno, hE, hK⟩ := hrel
    have cs : wr.cell? ⟨g, 0, none⟩ = some (.string s) := hE.cs
    have cb : wr.cell? ⟨g, 1, none⟩ = some (.bool bad) := hE.cb
    by_cases hlt : k < s.size
    · have hlk : 0 ≤ (k : Int) ∧ (k : Int) < (s.size : Int) := by omega
      have hd1 : decide ((k : Int) < (s.size : Int)) = true := by simp; exact hlt
      have hd2 : decide (k < s.size) = true := by simp; exact hlt
      obtain ⟨x, hx⟩ : ∃ x : UInt8, s[k] = x := ⟨_, rfl⟩
      go_wp2_with fail
      go_loopg [6] t.size (fun n i wx => ∃ m : Nat, m ≤ t.size ∧ n = t.size - m ∧ i = .int .i64 m ∧ Hid (∀ q, (h : q < t.size) → q < m → x ≠ t[q]) ∧ EC g (s, bad) wx ∧ KE g W wx)
      case atStart => exact ⟨0, Nat.zero_le _, rfl, rfl, Lib.hid fun j _ hj => absurd hj (Nat.not_lt_zero j), hE, hK⟩
      case round =>
        clear hE hK cs cb
        obtain ⟨m, hm, rfl, rfl, hnx, hE, hK⟩ := hrel
        have cs : wr.cell? ⟨g, 0, none⟩ = some (.string s) := hE.cs
        have fs : wr.frozen? ⟨g, 0, none⟩ = false := hE.fs
        by_cases hmt : m < t.size
        · have hlm : 0 ≤ (m : Int) ∧ (m : Int) < (t.size : Int) := by omega
          have hm1 : decide ((m : Int) < (t.size : Int)) = true := by simp; exact hmt
          have hm2 : decide (m < t.size) = true := by simp; exact hmt
          obtain ⟨y, hy⟩ : ∃ y : UInt8, t[m] = y := ⟨_, rfl⟩
          by_cases e : x = y
          · have hs : Hid (r = k) := Lib.hid (hr.out.symm.trans (stop_at hlt (has_of hmt (by rw [hx, hy, e])) hno.out))
            subst e
            go_wp2_with fail
            go_quiet (fail)
            go_wp2_with fail
            go_ret
            exact ⟨by rw [hs.out]; rfl, by rw [hs.out]; exact (hE.drewN _).setS _, (hK.drewN _).setCell 0 _⟩
          · have e1 : ((x.toNat : Int) == (y.toNat : Int)) = false := by rw [beq_eq_false_iff_ne]; exact fun hh => e (UInt8.toNat_inj.1 (Int.ofNat.inj hh))
            have e2 : (x.toNat == y.toNat) = false := by rw [beq_eq_false_iff_ne]; exact fun hh => e (UInt8.toNat_inj.1 hh)
            have e3 : (x == y) = false := by rw [beq_eq_false_iff_ne]; exact e
            have hnx2 : Hid (∀ q, (h : q < t.size) → q < m + 1 → x ≠ t[q]) := Lib.hid fun q h hq => by
              rcases Nat.lt_or_ge q m with hq2 | hq2
              · exact hnx.out q h hq2
              · obtain rfl : q = m := by omega
                rw [hy]; exact e
            clear e
            go_wp2_with fail
            go_quiet (fail)
            go_wp2_with fail
            go_roundg (t.size - (m + 1))
            case measure => omega
            case rel => exact ⟨m + 1, by omega, rfl, by go_num, hnx2, hE.drewN _, hK.drewN _⟩
        · obtain rfl : m = t.size := by omega
          have hno2 : Hid (∀ j, j < k + 1 → ∀ h : j < s.size, t.data.toList.contains s[j] = false) := Lib.hid fun j hj h => by
            rcases Nat.lt_or_ge j k with hq2 | hq2
            · exact hno.out j hq2 h
            · obtain rfl : j = k := by omega
              rw [hx]; exact has_not fun q hq => hnx.out q hq hq
          clear hnx hno hmt hm
          go_wp2_with fail
          go_roundg (s.size - (k + 1))
          case measure => omega
          case rel => exact ⟨k + 1, by omega, rfl, by go_num, hno2, hE, hK⟩
    · obtain rfl : k = s.size := by omega
      have fs : wr.frozen? ⟨g, 0, none⟩ = false := hE.fs
      have hs : Hid (r = s.size) := Lib.hid (hr.out.symm.trans (stop_end fun j _ h => hno.out j h h))
      clear hno hlt hk
      go_wp2_with fail
      go_ret
      have e1 : s.extract 0 s.size = s := by rw [Lib.extract_eq, List.drop_zero, Nat.sub_zero, List.take_of_length_le (by rw [← Lib.size_eq]; exact Nat.le_refl _), Lib.mk_data]
      have e2 : s.extract s.size s.size = { data := #[] } := by rw [Lib.extract_eq]; simp
      exact ⟨by rw [hs.out, e1]; rfl, by rw [hs.out, e2]; exact hE.setS _, hK.setCell 0 _⟩
theorem valN_step (l : List UInt8) (c : UInt8) : valN (l ++ [c]) = valN l * 10 + (c.toNat - 48) := by unfold valN; rw [List.foldl_append]; rfl
theorem valN_lt (l : List UInt8) (h : ∀ c ∈ l, c.toNat ≤ 57) : valN l < 10 ^ l.length := by
  rw [← List.reverse_reverse l] at h ⊢
  generalize l.reverse = m at h ⊢
  induction m with
  | nil => decide
  | cons c m ih =>
    rw [List.reverse_cons, valN_step, List.length_append, List.length_singleton, Nat.pow_succ]
    have := ih fun d hd => h d (by rw [List.reverse_cons]; exact List.mem_append_left _ hd)
    have := h c (by rw [List.reverse_cons]; exact List.mem_append_right _ (by simp))
    omega
theorem all_take {s : ByteArray} {k : Nat} (hk : k ≤ s.size) (h : ∀ j, j < k → ∀ hj : j < s.size, isDig s[j] = true) : ∀ c ∈ s.data.toList.take k, isDig c = true := fun c hc => by
  obtain ⟨j, hj, rfl⟩ := List.mem_iff_getElem.1 hc
  have hj2 : j < k := by simp at hj; omega
  rw [List.getElem_take]
  exact h j hj2 (by omega)
theorem take_step {s : ByteArray} {k : Nat} (hk : k < s.size) : s.data.toList.take (k + 1) = s.data.toList.take k ++ [s[k]] := by
  rw [List.take_add_one, List.getElem?_eq_getElem (by rw [← Lib.size_eq]; exact hk)]; rfl
set_option maxRecDepth 100000 in
set_option maxHeartbeats 4000000 in
theorem Value_any (s : ByteArray) (w : World) : Calls Tryz.prog 127 #[.string s] w fun e w' => e = .returned (.tuple #[.int .i64 (valB s).1, .bool (valB s).2]) ∧ w = w' := by
  by_cases h1 : s.size < 1
  · have hr : valB s = (0, false) := if_neg fun e => by omega
    rw [hr]
    have hd1 : decide ((s.size : Int) < 1) = true := decide_eq_true (by omega)
    have hd2 : decide (s.size < 1) = true := decide_eq_true (by omega)
    have h0 : s.size = 0 := by omega
    go_enter Tryz.func127, Tryz.ntmps127
    go_wp2
    go_ret2
    exact ⟨rfl, rfl⟩
  · have hd1 : decide ((s.size : Int) < 1) = false := decide_eq_false (by omega)
    have hd2 : decide (s.size < 1) = false := decide_eq_false (by omega)
    have hd0 : ¬ s.size = 0 := by omega
    by_cases h2 : 9 < s.size
    · have hr : valB s = (0, false) := if_neg fun e => by omega
      rw [hr]
      have hd3 : decide ((9 : Int) < (s.size : Int)) = true := by simp; omega
      have hd4 : decide (9 < s.size) = true := by simp; omega
      have h2' : (9 : Int) < (s.size : Int) := by omega
      go_enter Tryz.func127, Tryz.ntmps127
      go_wp2
      go_ret2
      exact ⟨rfl, rfl⟩
    · have hd3 : decide ((9 : Int) < (s.size : Int)) = false := by simp; omega
      have hd4 : decide (9 < s.size) = false := by simp; omega
      have h2' : ¬ (9 : Int) < (s.size : Int) := by omega
      obtain ⟨r, hr⟩ : ∃ r, valB s = r := ⟨_, rfl⟩
      rw [hr]
      have hr : Hid ((if s.data.toList.all isDig = true then (((valN s.data.toList : Nat) : Int), true) else (0, false)) = r) := Lib.hid (by
        rw [← hr]; unfold valB
        by_cases ha : s.data.toList.all isDig = true
        · rw [if_pos ha, if_pos ⟨by omega, by omega, ha⟩]
        · rw [if_neg ha, if_neg fun e => ha e.2.2])
      go_enter Tryz.func127, Tryz.ntmps127
      go_wp2
      go_loopg [4, 5] s.size (fun g n i wr => ∃ k : Nat, k ≤ s.size ∧ g = s.size - k ∧ i = .int .i64 k ∧ n = .int .i64 (valN (s.data.toList.take k)) ∧ Hid (∀ j, j < k → ∀ hj : j < s.size, isDig s[j] = true) ∧ w = wr)
      case atStart => exact ⟨0, Nat.zero_le _, rfl, rfl, rfl, Lib.hid fun j hj => absurd hj (Nat.not_lt_zero j), rfl⟩
      case round =>
        obtain ⟨k, hk, rfl, rfl, rfl, hno, rfl⟩ := hrel
        by_cases hlt : k < s.size
        · have hlk : 0 ≤ (k : Int) ∧ (k : Int) < (s.size : Int) := by omega
          have hk1 : decide ((k : Int) < (s.size : Int)) = true := by simp; exact hlt
          have hk2 : decide (k < s.size) = true := by simp; exact hlt
          have hv := valN_lt (s.data.toList.take k) (fun c hc => by have := all_take hk hno.out c hc; simp [isDig] at this; exact this.2)
          have hl9 : 10 ^ (s.data.toList.take k).length ≤ 10 ^ 8 := Nat.pow_le_pow_right (by decide) (by rw [List.length_take]; omega)
          have hts := take_step hlt
          obtain ⟨x, hx⟩ : ∃ x : UInt8, s[k] = x := ⟨_, rfl⟩
          have hvs : valN (s.data.toList.take (k + 1)) = valN (s.data.toList.take k) * 10 + (x.toNat - 48) := by rw [hts, hx, valN_step]
          replace hvs := Lib.hid hvs
          clear hts
          have hx256 : x.toNat < 256 := x.toNat_lt
          generalize valN (s.data.toList.take k) = v at *
          have hv8 : v < 10 ^ 8 := by omega
          clear hv hl9
          by_cases ha : x.toNat < 48
          · have ha1 : decide ((x.toNat : Int) < 48) = true := by simp; omega
            have ha2 : decide (x.toNat < 48) = true := by simp; omega
            have hrr : Hid (r = (0, false)) := Lib.hid (by
              rw [← hr.out, if_neg]
              intro hall
              have := List.all_eq_true.1 hall s[k] (List.getElem_mem (by rw [← Lib.size_eq]; exact hlt))
              rw [hx] at this; simp [isDig] at this; omega)
            go_wp2_with fail
            go_ret2
            exact ⟨by rw [hrr.out]; rfl, rfl⟩
          · have ha1 : decide ((x.toNat : Int) < 48) = false := by simp; omega
            have ha2 : decide (x.toNat < 48) = false := by simp; omega
            by_cases hb : 57 < x.toNat
            · have hb1 : decide ((57 : Int) < (x.toNat : Int)) = true := by simp; omega
              have hb2 : decide (57 < x.toNat) = true := by simp; omega
              have hrr : Hid (r = (0, false)) := Lib.hid (by
                rw [← hr.out, if_neg]
                intro hall
                have := List.all_eq_true.1 hall s[k] (List.getElem_mem (by rw [← Lib.size_eq]; exact hlt))
                rw [hx] at this; simp [isDig] at this; omega)
              go_wp2_with fail
              go_ret2
              exact ⟨by rw [hrr.out]; rfl, rfl⟩
            · have hb1 : decide ((57 : Int) < (x.toNat : Int)) = false := by simp; omega
              have hb2 : decide (57 < x.toNat) = false := by simp; omega
              have hno2 : Hid (∀ j, j < k + 1 → ∀ hj : j < s.size, isDig s[j] = true) := Lib.hid fun j hj h => by
                rcases Nat.lt_or_ge j k with hq2 | hq2
                · exact hno.out j hq2 h
                · obtain rfl : j = k := by omega
                  rw [hx]; simp [isDig]; omega
              go_wp2_with fail
              go_roundg (s.size - (k + 1))
              case measure => omega
              case rel => exact ⟨k + 1, by omega, rfl, by go_num, by rw [hvs.out]; go_num, hno2, rfl⟩
        · obtain rfl : k = s.size := by omega
          have hk1 : decide ((s.size : Int) < (s.size : Int)) = false := by simp
          have hrr : Hid (r = (((valN s.data.toList : Nat) : Int), true)) := Lib.hid (by
            rw [← hr.out, if_pos (List.all_eq_true.2 fun c hc => all_take (Nat.le_refl _) hno.out c (by rw [List.take_of_length_le (by rw [← Lib.size_eq]; exact Nat.le_refl _)]; exact hc))])
          have e1 : s.data.toList.take s.size = s.data.toList := List.take_of_length_le (by rw [← Lib.size_eq]; exact Nat.le_refl _)
          rw [e1]
          clear e1
          go_wp2_with fail
          go_ret2
          exact ⟨by rw [hrr.out]; rfl, rfl⟩
end Go.Proofs.YtdbpnbmaineniaaGreatDoor
namespace Go.Proofs.YtdbpnbmaineniaaGreatDoor
open Go.RowKit
theorem eatB_size (t : ByteArray) (p : ByteArray × Bool) : (eatB t p).1.size ≤ p.1.size := by
  unfold eatB
  split
  · show (p.1.extract t.size p.1.size).size ≤ _
    rw [ByteArray.size_extract]; omega
  · exact Nat.le_refl _
theorem rest_size (s : ByteArray) : (restB s).size ≤ s.size := by
  unfold restB; rw [ByteArray.size_extract]; omega
theorem EC.eta {g : Nat} {p : ByteArray × Bool} {W : World} (h : EC g p W) : EC g (p.1, p.2) W := h
set_option maxRecDepth 100000 in
set_option maxHeartbeats 2000000 in
theorem Reg_any (g : Nat) (p : ByteArray × Bool) (W : World) (h : EC g p W) (hs : p.1.size ≤ 1000000) : Calls Tryz.prog 66 #[.pointer (some ⟨g, 0, none⟩)] W (Eats g (.int .i64 (regB p).1) (regB p).2 W) := by
  obtain ⟨q, hq⟩ : ∃ q, eatB { data := #[120] } p = q := ⟨_, rfl⟩
  have hq1 : q.1.size ≤ 1000000 := by rw [← hq]; exact Nat.le_trans (eatB_size _ _) hs
  have hE : Hid (Calls Tryz.prog 65 #[.pointer (some ⟨g, 0, none⟩), .string { data := #[120] }] W (Eats g (.tuple #[]) q W)) := Lib.hid (by rw [← hq]; exact Eat_any g p _ W h)
  obtain ⟨s, bad⟩ := q
  obtain ⟨v, hv⟩ : ∃ v, valB (headB s) = v := ⟨_, rfl⟩
  have hr : Hid (regB p = (v.1, restB s, bad || !v.2)) := Lib.hid (by unfold regB; rw [hq]; simp only; rw [hv])
  have hU : Hid (∀ W', EC g (s, bad) W' → Calls Tryz.prog 64 #[.pointer (some ⟨g, 0, none⟩), .string { data := #[44, 32, 40, 41] }] W' (Eats g (.string (headB s)) (restB s, bad) W')) := Lib.hid fun W' hW => UpTo_any g s bad signsB W' hW hq1 (by decide)
  have hV : Hid (∀ W', Calls Tryz.prog 127 #[.string (headB s)] W' fun e w' => e = .returned (.tuple #[.int .i64 v.1, .bool v.2]) ∧ W' = w') := Lib.hid fun W' => by rw [← hv]; exact Value_any (headB s) W'
  generalize headB s = hd at hU hV
  obtain ⟨n, ok⟩ := v
  generalize restB s = rs at hU hr
  clear hq hq1 hv hs
  rw [hr.out]
  clear hr h
  go_enter Tryz.func66, Tryz.ntmps66
  go_upto_region 3 with (first | (go_at_call 65; refine hE.out.mono ?_; rintro e w1 ⟨rfl, h1, k1⟩) | (go_at_call 64; refine (hU.out _ h1).mono ?_; rintro e w2 ⟨rfl, h2, k2⟩) | (go_at_call 127; refine (hV.out _).mono ?_; rintro e w3 ⟨rfl, rfl⟩))
  have cs : w2.cell? ⟨g, 0, none⟩ = some (.string rs) := h2.cs
  have cb : w2.cell? ⟨g, 1, none⟩ = some (.bool bad) := h2.cb
  have fb := h2.fb
  have hk := (k1.trans k2).setCell 1 (.bool (bad || !ok))
  have he := h2.setB (bad || !ok)
  cases bad <;> cases ok
  all_goals
    go_wp2_with fail
    go_ret
    exact ⟨rfl, he, hk⟩
theorem valB_bd (s : ByteArray) : 0 ≤ (valB s).1 ∧ (valB s).1 < 1000000000 := by
  unfold valB
  split
  · rename_i h
    have := valN_lt s.data.toList (fun c hc => by have := List.all_eq_true.1 h.2.2 c hc; simp [isDig] at this; exact this.2)
    have h9 : 10 ^ s.data.toList.length ≤ 10 ^ 9 := Nat.pow_le_pow_right (by decide) (by rw [← Lib.size_eq]; exact h.2.1)
    constructor
    · exact Int.natCast_nonneg _
    · show ((valN s.data.toList : Nat) : Int) < _; omega
  · exact ⟨Int.le_refl 0, by decide⟩
def minusB (s : ByteArray) : Bool := decide (0 < s.size) && (s.data.toList.headD 0 == 45)
theorem Imm_tail (g : Nat) (s : ByteArray) (hs : s.size ≤ 1000000) (bad : Bool) : Hid (∀ W', EC g (s, bad) W' → Calls Tryz.prog 64 #[.pointer (some ⟨g, 0, none⟩), .string { data := #[44, 32, 40, 41] }] W' (Eats g (.string (headB s)) (restB s, bad) W')) := Lib.hid fun W' hW => UpTo_any g s bad signsB W' hW hs (by decide)
theorem minus_yes {s : ByteArray} (h : minusB s = true) : ∃ hp : 0 < s.size, s[0] = 45 := by
  unfold minusB at h
  simp only [Bool.and_eq_true, decide_eq_true_eq, beq_iff_eq] at h
  refine ⟨h.1, ?_⟩
  have hl : 0 < s.data.toList.length := by rw [← Lib.size_eq]; exact h.1
  have := h.2
  rw [List.headD_eq_head?_getD, List.head?_eq_getElem?, List.getElem?_eq_getElem hl] at this
  exact this
theorem minus_no {s : ByteArray} (h : minusB s = false) (hp : 0 < s.size) : s[0] ≠ 45 := fun e => by
  have hl : 0 < s.data.toList.length := by rw [← Lib.size_eq]; exact hp
  have : minusB s = true := by
    unfold minusB
    simp only [Bool.and_eq_true, decide_eq_true_eq, beq_iff_eq]
    refine ⟨hp, ?_⟩
    rw [List.headD_eq_head?_getD, List.head?_eq_getElem?, List.getElem?_eq_getElem hl]
    exact e
  rw [h] at this; cases this
set_option maxRecDepth 100000 in
set_option maxHeartbeats 4000000 in
theorem Imm_any (g : Nat) (p : ByteArray × Bool) (W : World) (h : EC g p W) (hs : p.1.size ≤ 1000000) : Calls Tryz.prog 67 #[.pointer (some ⟨g, 0, none⟩)] W (Eats g (.int .i64 (immB p).1) (immB p).2 W) := by
  obtain ⟨s, bad⟩ := p
  have cs : W.cell? ⟨g, 0, none⟩ = some (.string s) := h.cs
  have fs := h.fs
  have key : immB (s, bad) = (if minusB s then -(valB (headB (if minusB s then s.extract 1 s.size else s))).1 else (valB (headB (if minusB s then s.extract 1 s.size else s))).1, restB (if minusB s then s.extract 1 s.size else s), bad || !(valB (headB (if minusB s then s.extract 1 s.size else s))).2) := rfl
  cases hm : minusB s
  · rw [hm] at key
    simp only [Bool.false_eq_true, if_false] at key
    have hU := Imm_tail g s hs bad
    have hvb := valB_bd (headB s)
    obtain ⟨v, hv⟩ : ∃ v, valB (headB s) = v := ⟨_, rfl⟩
    have hV : Hid (∀ W', Calls Tryz.prog 127 #[.string (headB s)] W' fun e w' => e = .returned (.tuple #[.int .i64 v.1, .bool v.2]) ∧ W' = w') := Lib.hid fun W' => by rw [← hv]; exact Value_any (headB s) W'
    rw [hv] at key hvb
    rw [key]
    clear key hv
    generalize headB s = hd at hU hV
    obtain ⟨n, ok⟩ := v
    generalize restB s = rs at hU
    have hE := Lib.hid h
    by_cases h0 : 0 < s.size
    · have hx := minus_no hm h0
      have hd1 : decide ((0 : Int) < (s.size : Int)) = true := decide_eq_true (by omega)
      have hd2 : decide (0 < s.size) = true := decide_eq_true h0
      have h0' : (0 : Int) < (s.size : Int) := by omega
      obtain ⟨x, hxx⟩ : ∃ x : UInt8, s[0] = x := ⟨_, rfl⟩
      rw [hxx] at hx
      have e1 : ((x.toNat : Int) == 45) = false := by rw [beq_eq_false_iff_ne]; exact fun hh => hx (UInt8.toNat_inj.1 (by show x.toNat = 45; omega))
      have e2 : (x.toNat == 45) = false := by rw [beq_eq_false_iff_ne]; exact fun hh => hx (UInt8.toNat_inj.1 hh)
      clear hm hs h hx
      go_enter Tryz.func67, Tryz.ntmps67
      go_upto_region 6 with (first | (go_at_call 64; refine (hU.out _ hE.out).mono ?_; rintro e w2 ⟨rfl, h2, k2⟩) | (go_at_call 127; refine (hV.out _).mono ?_; rintro e w3 ⟨rfl, rfl⟩))
      have cb : w2.cell? ⟨g, 1, none⟩ = some (.bool bad) := h2.cb
      have fb := h2.fb
      have hk := k2.setCell 1 (.bool (bad || !ok))
      have he := h2.setB (bad || !ok)
      cases bad <;> cases ok
      all_goals
        go_wp2_with fail
        go_ret
        exact ⟨by first | rfl | (simp; go_num), he, hk⟩
    · have hd1 : decide ((0 : Int) < (s.size : Int)) = false := decide_eq_false (by omega)
      have hd2 : decide (0 < s.size) = false := decide_eq_false h0
      have h0' : s.size = 0 := by omega
      clear hm hs h
      go_enter Tryz.func67, Tryz.ntmps67
      go_upto_region 6 with (first | (go_at_call 64; refine (hU.out _ hE.out).mono ?_; rintro e w2 ⟨rfl, h2, k2⟩) | (go_at_call 127; refine (hV.out _).mono ?_; rintro e w3 ⟨rfl, rfl⟩))
      have cb : w2.cell? ⟨g, 1, none⟩ = some (.bool bad) := h2.cb
      have fb := h2.fb
      have hk := k2.setCell 1 (.bool (bad || !ok))
      have he := h2.setB (bad || !ok)
      cases bad <;> cases ok
      all_goals
        go_wp2_with fail
        go_ret
        exact ⟨by first | rfl | (simp; go_num), he, hk⟩
  · rw [hm] at key
    simp only [if_true] at key
    have hs' : (s.extract 1 s.size).size ≤ 1000000 := by
      have hs2 : s.size ≤ 1000000 := hs
      rw [ByteArray.size_extract]; omega
    have hU := Imm_tail g (s.extract 1 s.size) hs' bad
    have hvb := valB_bd (headB (s.extract 1 s.size))
    obtain ⟨v, hv⟩ : ∃ v, valB (headB (s.extract 1 s.size)) = v := ⟨_, rfl⟩
    have hV : Hid (∀ W', Calls Tryz.prog 127 #[.string (headB (s.extract 1 s.size))] W' fun e w' => e = .returned (.tuple #[.int .i64 v.1, .bool v.2]) ∧ W' = w') := Lib.hid fun W' => by rw [← hv]; exact Value_any (headB (s.extract 1 s.size)) W'
    rw [hv] at key hvb
    rw [key]
    clear key hv
    obtain ⟨h0, hx⟩ := minus_yes hm
    have hE : Hid (EC g (s.extract 1 s.size, bad) (W.setCell ⟨g, 0, none⟩ (.string (s.extract 1 s.size)))) := Lib.hid (h.setS (s.extract 1 s.size))
    have hK : Hid (KE g W (W.setCell ⟨g, 0, none⟩ (.string (s.extract 1 s.size)))) := Lib.hid ((KE.refl g W).setCell 0 _)
    generalize headB (s.extract 1 s.size) = hd at hU hV
    obtain ⟨n, ok⟩ := v
    generalize restB (s.extract 1 s.size) = rs at hU
    have hd1 : decide ((0 : Int) < (s.size : Int)) = true := decide_eq_true (by omega)
    have hd2 : decide (0 < s.size) = true := decide_eq_true h0
    have h0' : (0 : Int) < (s.size : Int) := by omega
    have h1' : (1 : Int) ≤ (s.size : Int) := by omega
    have h1'' : 1 ≤ s.size := h0
    clear hm hs h hs'
    go_enter Tryz.func67, Tryz.ntmps67
    go_upto_region 6 with (first | (go_at_call 64; refine (hU.out _ hE.out).mono ?_; rintro e w2 ⟨rfl, h2, k2⟩) | (go_at_call 127; refine (hV.out _).mono ?_; rintro e w3 ⟨rfl, rfl⟩))
    have cb : w2.cell? ⟨g, 1, none⟩ = some (.bool bad) := h2.cb
    have fb := h2.fb
    have hk := (hK.out.trans k2).setCell 1 (.bool (bad || !ok))
    have he := h2.setB (bad || !ok)
    cases bad <;> cases ok
    all_goals
      go_wp2_with fail
      go_ret
      exact ⟨by first | rfl | (simp; go_num), he, hk⟩
theorem which_at {s : ByteArray} {k : Nat} (hk : k < 16) (h : partT k = s.toList) (hno : ∀ j, j < k → partT j ≠ s.toList) : whichB s = k := by
  unfold whichB
  rw [List.findIdx_eq (by simpa using hk)]
  refine ⟨by simpa using h, fun j hj => ?_⟩
  have := hno j hj
  simpa using this
theorem which_none {s : ByteArray} (hno : ∀ j, j < 16 → partT j ≠ s.toList) : ¬ whichB s < 16 := by
  have : whichB s = (List.range 16).length := by
    unfold whichB
    rw [List.findIdx_eq_length]
    intro x hx
    have := hno x (by simpa using hx)
    simpa using this
  rw [this]; decide
set_option maxRecDepth 100000 in
set_option maxHeartbeats 4000000 in
theorem Part_any' (g : Nat) (p : ByteArray × Bool) (W : World) (h : EC g p W) (hs : p.1.size ≤ 1000000) : Calls Tryz.prog 68 #[.pointer (some ⟨g, 0, none⟩)] W (Eats g (.int .i64 (partB p).1) (partB p).2 W) := by
  obtain ⟨s, bad⟩ := p
  have hU := Imm_tail g s hs bad
  have hE := Lib.hid h
  obtain ⟨r, hr⟩ : ∃ r, partB (s, bad) = r := ⟨_, rfl⟩
  rw [hr]
  replace hr : Hid ((if whichB (headB s) < 16 then (((whichB (headB s) : Nat) : Int), restB s, bad) else (0, restB s, true)) = r) := Lib.hid hr
  generalize headB s = hd at hU hr
  generalize restB s = rs at hU hr
  clear h hs
  go_enter Tryz.func68, Tryz.ntmps68
  go_wp2_with (go_at_call 64; refine (hU.out _ hE.out).mono ?_; rintro e w2 ⟨rfl, h2, k2⟩)
  go_loopg [4] 16 (fun n i wr => ∃ k : Nat, k ≤ 16 ∧ n = 16 - k ∧ i = .int .i64 k ∧ Hid (∀ j, j < k → partT j ≠ hd.toList) ∧ w2 = wr)
  case atStart => exact ⟨0, Nat.zero_le _, rfl, rfl, Lib.hid fun j hj => absurd hj (Nat.not_lt_zero j), rfl⟩
  case round =>
    obtain ⟨k, hk, rfl, rfl, hno, rfl⟩ := hrel
    have cb : w2.cell? ⟨g, 1, none⟩ = some (.bool bad) := h2.cb
    have fb := h2.fb
    by_cases hlt : k < 16
    · have hlk : (k : Int) < 16 := by omega
      have hk1 : decide ((k : Int) < 16) = true := decide_eq_true hlk
      have hk2 : decide (k < 16) = true := decide_eq_true hlt
      have hP := Lib.hid (fun W => Parts_any k hlt W)
      by_cases e : partT k = hd.toList
      · have hrr : Hid (r = ((k : Int), rs, bad)) := Lib.hid (by
          rw [← hr.out, which_at hlt e hno.out, if_pos hlt])
        have e1 : (partT k == hd.toList) = true := by rw [beq_iff_eq]; exact e
        generalize partT k = l at hP e1
        clear e
        go_wp2_with (go_at_call 99; refine (hP.out _).mono ?_; rintro e w3 ⟨rfl, rfl⟩)
        go_ret
        exact ⟨by rw [hrr.out]; rfl, by rw [hrr.out]; exact h2, k2⟩
      · have hno2 : Hid (∀ j, j < k + 1 → partT j ≠ hd.toList) := Lib.hid fun j hj => by
          rcases Nat.lt_or_ge j k with hq2 | hq2
          · exact hno.out j hq2
          · obtain rfl : j = k := by omega
            exact e
        have e1 : (partT k == hd.toList) = false := by rw [beq_eq_false_iff_ne]; exact e
        generalize partT k = l at hP e1
        clear e
        go_wp2_with (go_at_call 99; refine (hP.out _).mono ?_; rintro e w3 ⟨rfl, rfl⟩)
        go_roundg (16 - (k + 1))
        case measure => omega
        case rel => exact ⟨k + 1, by omega, rfl, by go_num, hno2, rfl⟩
    · obtain rfl : k = 16 := by omega
      have hrr : Hid (r = (0, rs, true)) := Lib.hid (by rw [← hr.out, if_neg (which_none hno.out)])
      rw [show ((16 : Nat) : Int) = 16 from rfl]
      go_wp2_with fail
      go_ret
      exact ⟨by rw [hrr.out]; rfl, by rw [hrr.out]; exact h2.setB true, k2.setCell 1 _⟩
end Go.Proofs.YtdbpnbmaineniaaGreatDoor
