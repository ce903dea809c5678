/- Plain: how the document reads a text: what is left of it, and whether it is none's. No program in sight. The walk of the document's Named: which op has a name. Plain: how the document reads an instruction. No program in sight. Conditions: as each theorem says. -/
import Derived.Test.YtbdhjckpoabmlaaDoorTextDefs
import Derived.Test.YtbdhjckpoabmlaaDoorRefName
import Derived.Deep.LoopGhost
namespace Go.Proofs.YtbdhjckpoabmlaaDoor
/-- Where one of some signs stands first. -/
def stopB (t s : ByteArray) : Nat := s.data.toList.findIdx fun c => t.data.toList.contains c
/-- Just that: what is left, and whether it is none's. -/
def eatB (t : ByteArray) (p : ByteArray × Bool) : ByteArray × Bool := if t.size ≤ p.1.size ∧ (p.1.extract 0 t.size).toList = t.toList then (p.1.extract t.size p.1.size, p.2) else (p.1, true)
/-- The number of some digits. -/
def valN (l : List UInt8) : Nat := l.foldl (fun n c => n * 10 + (c.toNat - 48)) 0
def isDig (c : UInt8) : Bool := decide (48 ≤ c.toNat) && decide (c.toNat ≤ 57)
def valB (s : ByteArray) : Int × Bool := if 1 ≤ s.size ∧ s.size ≤ 9 ∧ s.data.toList.all isDig = true then ((valN s.data.toList : Nat), true) else (0, false)
def signsB : ByteArray := { data := #[44, 32, 40, 41] }
def headB (s : ByteArray) : ByteArray := s.extract 0 (stopB signsB s)
def restB (s : ByteArray) : ByteArray := s.extract (stopB signsB s) s.size
/-- A register: its number, what is left. -/
def regB (p : ByteArray × Bool) : Int × ByteArray × Bool :=
  let q := eatB { data := #[120] } p
  let v := valB (headB q.1)
  (v.1, restB q.1, q.2 || !v.2)
/-- A number. -/
def immB (p : ByteArray × Bool) : Int × ByteArray × Bool :=
  let m : Bool := decide (0 < p.1.size) && (p.1.data.toList.headD 0 == 45)
  let s := if m then p.1.extract 1 p.1.size else p.1
  let v := valB (headB s)
  (if m then -v.1 else v.1, restB s, p.2 || !v.2)
/-- Which of sixteen parts a text is. -/
def whichB (s : ByteArray) : Nat := (List.range 16).findIdx fun n => partT n == s.toList
/-- A part of a fence. -/
def partB (p : ByteArray × Bool) : Int × ByteArray × Bool :=
  if whichB (headB p.1) < 16 then ((whichB (headB p.1) : Nat), restB p.1, p.2) else (0, restB p.1, true)
end Go.Proofs.YtbdhjckpoabmlaaDoor
namespace Go.Proofs.YtbdhjckpoabmlaaDoor
open Go.RowKit
def namedN (s : ByteArray) : Nat := if rnames.findIdx (· == s.toList) < 88 then rnames.findIdx (· == s.toList) else 0
theorem rnames_full : ∀ k : Fin 88, 1 ≤ k.1 → rnames[k.1]? ≠ some [] := by decide +kernel
theorem named_at {s : ByteArray} {k : Nat} (h1 : 1 ≤ k) (hk : k < 88) (h : rnames[k]? = some s.toList) (hno : ∀ j, 1 ≤ j → j < k → rnames[j]? ≠ some s.toList) : namedN s = k := by
  have hl : k < rnames.length := hk
  have hg : rnames[k] = s.toList := by rw [List.getElem?_eq_getElem hl] at h; exact Option.some.inj h
  have e : rnames.findIdx (· == s.toList) = k := by
    rw [List.findIdx_eq hl]
    refine ⟨by rw [hg]; simp, fun j hj => ?_⟩
    rw [beq_eq_false_iff_ne]
    intro hj2
    have hjl : j < rnames.length := Nat.lt_trans hj hl
    rcases Nat.eq_zero_or_pos j with rfl | hp
    · have h0 : s.toList = [] := by rw [← hj2]; rfl
      rw [h0] at h
      exact rnames_full ⟨k, hk⟩ h1 h
    · exact hno j hp hj (by rw [List.getElem?_eq_getElem hjl, hj2])
  unfold namedN; rw [e, if_pos hk]
theorem named_none {s : ByteArray} (hno : ∀ j, 1 ≤ j → j < 88 → rnames[j]? ≠ some s.toList) : namedN s = 0 := by
  unfold namedN
  by_cases h : rnames.findIdx (· == s.toList) < 88
  · rw [if_pos h]
    have hl : rnames.findIdx (· == s.toList) < rnames.length := h
    rcases Nat.eq_zero_or_pos (rnames.findIdx (· == s.toList)) with h0 | hp
    · exact h0
    · exact absurd (by rw [List.getElem?_eq_getElem hl]; have := List.findIdx_getElem (w := hl); simp only [beq_iff_eq] at this; rw [this]) (hno _ hp h)
  · rw [if_neg h]
set_option maxRecDepth 100000 in
set_option maxHeartbeats 4000000 in
theorem R2Named_any (s : ByteArray) (w : World) : Calls Tryd.prog 41 #[.string s] w fun e w' => e = .returned (.int .i64 (namedN s)) ∧ Below w.heap.size w w' := by
  obtain ⟨r, hr⟩ : ∃ r, namedN s = r := ⟨_, rfl⟩
  rw [hr]
  replace hr := Lib.hid hr
  go_enter Tryd.func41, Tryd.ntmps41
  go_wp2_with (go_at_call 64; refine (Names_any _).mono ?_; rintro e w2 ⟨⟨g, cap, rfl, hc⟩, hb⟩; replace hc := Lib.hid hc)
  go_loopg [4] 87 (fun n i wr => ∃ k : Nat, 1 ≤ k ∧ k ≤ 88 ∧ n = 88 - k ∧ i = .int .i64 k ∧ Hid (∀ j, 1 ≤ j → j < k → rnames[j]? ≠ some s.toList) ∧ w2 = wr)
  case atStart => exact ⟨1, by decide, by decide, rfl, rfl, Lib.hid fun j h1 h2 => by omega, rfl⟩
  case round =>
    obtain ⟨k, h1, hk, rfl, rfl, hno, rfl⟩ := hrel
    by_cases hlt : k < 88
    · have hlk : (k : Int) < 88 ∧ 0 ≤ (k : Int) := by omega
      have hk1 : decide ((k : Int) < 88) = true := decide_eq_true hlk.1
      have hk2 : decide (k < 88) = true := decide_eq_true hlt
      have ck := hc.out k hlt
      have hrn := rnames_at k hlt
      obtain ⟨l, hl⟩ : ∃ l, (opOf (k : Int)).name = l := ⟨_, rfl⟩
      rw [hl] at ck hrn
      have ck2 : w2.cell? ⟨g, k, none⟩ = some (.string ⟨l.toArray⟩) := ck
      clear ck hl
      by_cases e : l = s.toList
      · have e1 : (l == s.toList) = true := by rw [beq_iff_eq]; exact e
        have hrr : Hid (r = k) := Lib.hid (by rw [← hr.out]; exact named_at h1 hlt (by rw [hrn, e]) hno.out)
        clear e hrn
        go_wp2_with fail
        go_ret
        exact ⟨by rw [hrr.out]; rfl, hb⟩
      · have e1 : (l == s.toList) = false := by rw [beq_eq_false_iff_ne]; exact e
        have hno2 : Hid (∀ j, 1 ≤ j → j < k + 1 → rnames[j]? ≠ some s.toList) := Lib.hid fun j hj1 hj => by
          rcases Nat.lt_or_ge j k with hq2 | hq2
          · exact hno.out j hj1 hq2
          · obtain rfl : j = k := by omega
            rw [hrn]; exact fun hh => e (Option.some.inj hh)
        clear e hrn
        go_wp2_with fail
        go_roundg (88 - (k + 1))
        case measure => omega
        case rel => exact ⟨k + 1, by omega, by omega, rfl, by go_num, hno2, rfl⟩
    · obtain rfl : k = 88 := by omega
      have hrr : Hid (r = 0) := Lib.hid (by rw [← hr.out]; exact named_none hno.out)
      rw [show ((88 : Nat) : Int) = 88 from rfl]
      go_wp2_with fail
      go_ret
      exact ⟨by rw [hrr.out]; rfl, hb⟩
end Go.Proofs.YtbdhjckpoabmlaaDoor
namespace Go.Proofs.YtbdhjckpoabmlaaDoor
def endsB (k : Nat) : ByteArray := if k = 0 then { data := #[] } else if k = 1 then { data := #[46, 97, 113] } else if k = 2 then { data := #[46, 114, 108] } else { data := #[46, 97, 113, 114, 108] }
/-- The operation and its flags, by the first k ends. -/
def opB (nm : ByteArray) : Nat → Int × Bool × Bool
  | 0 => (0, false, false)
  | k + 1 => if (endsB k).size < nm.size ∧ (nm.extract (nm.size - (endsB k).size) nm.size).toList = (endsB k).toList ∧ 0 < namedN (nm.extract 0 (nm.size - (endsB k).size)) then ((namedN (nm.extract 0 (nm.size - (endsB k).size)) : Nat), decide (k % 2 = 1), decide (1 < k)) else opB nm k
def cmB : ByteArray := { data := #[44, 32] }
def loB : ByteArray := { data := #[40] }
def roB : ByteArray := { data := #[41] }
def spB : ByteArray := { data := #[32] }
/-- The fields, by the form. -/
def fieldsB (f : Int) (i : InsnV) (p : ByteArray × Bool) : InsnV × (ByteArray × Bool) :=
  if f = 1 ∨ f = 2 then
    let a := regB p; let b := immB (eatB cmB a.2)
    ({ i with rd := a.1, imm := b.1 }, b.2)
  else if f = 3 ∨ f = 7 ∨ f = 4 then
    let a := regB p
    if f = 4 ∨ i.op = 4 then
      let b := immB (eatB cmB a.2); let c := regB (eatB loB b.2)
      ({ i with rd := a.1, imm := b.1, rs1 := c.1 }, eatB roB c.2)
    else
      let b := regB (eatB cmB a.2); let c := immB (eatB cmB b.2)
      ({ i with rd := a.1, rs1 := b.1, imm := c.1 }, c.2)
  else if f = 5 then
    let a := regB p; let b := immB (eatB cmB a.2); let c := regB (eatB loB b.2)
    ({ i with rs2 := a.1, imm := b.1, rs1 := c.1 }, eatB roB c.2)
  else if f = 6 then
    let a := regB p; let b := regB (eatB cmB a.2); let c := immB (eatB cmB b.2)
    ({ i with rs1 := a.1, rs2 := b.1, imm := c.1 }, c.2)
  else if f = 8 then
    let a := regB p; let b := regB (eatB cmB a.2); let c := regB (eatB cmB b.2)
    ({ i with rd := a.1, rs1 := b.1, rs2 := c.1 }, c.2)
  else if f = 9 then
    let a := partB p; let b := partB (eatB cmB a.2)
    ({ i with pred := a.1, succ := b.1 }, b.2)
  else if f = 11 then
    let a := regB p; let c := regB (eatB loB (eatB cmB a.2))
    ({ i with rd := a.1, rs1 := c.1 }, eatB roB c.2)
  else if f = 12 then
    let a := regB p; let b := regB (eatB cmB a.2); let c := regB (eatB loB (eatB cmB b.2))
    ({ i with rd := a.1, rs2 := b.1, rs1 := c.1 }, eatB roB c.2)
  else (i, p)
def opI (o : Int × Bool × Bool) : InsnV := ⟨o.1, 0, 0, 0, 0, o.2.1, o.2.2, 0, 0⟩
def zeroI : InsnV := ⟨0, 0, 0, 0, 0, false, false, 0, 0⟩
/-- What is read, before it is written again. -/
def preB (s : ByteArray) : InsnV × (ByteArray × Bool) :=
  let nm := s.extract 0 (stopB spB s)
  let o := opB nm 4
  let p : ByteArray × Bool := (s.extract (stopB spB s) s.size, false)
  fieldsB (rform o.1) (opI o) (if rform o.1 = 10 then p else eatB spB p)
def readB (s : ByteArray) : InsnV × Int :=
  let x := preB s
  if x.2.2 = true ∨ checkE x.1 ≠ 0 ∨ textT x.1 ≠ s.toList then (zeroI, 4) else (x.1, 0)
end Go.Proofs.YtbdhjckpoabmlaaDoor
