/- Plain: what package insn's Read makes of a text; whatever instruction's text is read as that instruction. No program in sight. Conditions: none. -/
import Derived.Test.YtdbpnbmaineniaaGreatDoorCodeRD
import Derived.Test.YtdbpnbmaineniaaGreatDoorNamedPl
import Derived.Shelf.GgClosure.StringsIndexFunc
import Derived.Lib.ParseIntB
set_option linter.unusedSimpArgs false
set_option linter.unusedVariables false
namespace Go.Proofs.YtdbpnbmaineniaaGreatDoor
/-- Is a rune's lowest byte one of some signs? -/
def hasSign (sg : List UInt8) (r : Nat) : Bool := decide (0 ≤ Lib.indexByte sg (UInt8.ofNat (r % 256)))
def headK (sg : List UInt8) (s : ByteArray) : Nat := if Lib.idxFunc (hasSign sg) true s < 0 then s.size else (Lib.idxFunc (hasSign sg) true s).toNat
theorem headK_le (sg : List UInt8) (s : ByteArray) : headK sg s ≤ s.size := by
  unfold headK
  rcases Lib.idxFunc_range (hasSign sg) true s with h | ⟨h1, h2⟩
  · rw [h]; exact Nat.le_refl _
  · rw [if_neg (by omega)]; omega
def headS (sg : List UInt8) (s : ByteArray) : ByteArray := s.extract 0 (headK sg s)
def restS (sg : List UInt8) (s : ByteArray) : ByteArray := s.extract (headK sg s) s.size
theorem restS_size (sg : List UInt8) (s : ByteArray) : (restS sg s).size ≤ s.size := by unfold restS; rw [ByteArray.size_extract]; omega
theorem headS_size (sg : List UInt8) (s : ByteArray) : (headS sg s).size ≤ s.size := by unfold headS; rw [ByteArray.size_extract]; omega
def cutS (p : List UInt8) (s : ByteArray) : ByteArray := ⟨(Lib.trimPrefix s.data.toList p).toArray⟩
theorem cutS_size (p : List UInt8) (s : ByteArray) : (cutS p s).size ≤ s.size := by
  show (Lib.trimPrefix s.data.toList p).toArray.size ≤ s.data.size
  unfold Lib.trimPrefix
  split
  · simp
  · simp
def parseV (l : List UInt8) : Int := match Lib.parseIntB 64 l with | .ok v => v | .range => Lib.intSat 64 l | _ => 0
def numS (s : ByteArray) : Int × ByteArray := (parseV (headS [44, 40, 41] s).data.toList, restS [44, 40, 41] s)
def regS (s : ByteArray) : Int × ByteArray := (min (numS (cutS [120] (cutS [40] s))).1 32, cutS [44, 32] (cutS [41] (numS (cutS [120] (cutS [40] s))).2))
def immS (s : ByteArray) : Int × ByteArray := ((numS s).1, cutS [44, 32] (numS s).2)
/-- A fence's parts, rune by rune. -/
def setStep (n : Int) (r : Nat) : Int := if 0 ≤ Lib.indexByte [105, 111, 114, 119] (UInt8.ofNat (r % 256)) then bits .or .i64 n (8 / 2 ^ (Lib.indexByte [105, 111, 114, 119] (UInt8.ofNat (r % 256))).toNat) else n
def setF (s : ByteArray) : Nat → Nat → Int → Int
  | 0, _, n => n
  | f + 1, pos, n => if pos < s.size then setF s f (pos + (Utf8.decode s pos).2) (setStep n (Utf8.decode s pos).1) else n
def setS (s : ByteArray) : Int × ByteArray := (setF (headS [44] s) (headS [44] s).size 0 0, cutS [44, 32] (restS [44] s))
/-- A name without its marks. -/
def sufS (nm : ByteArray) : ByteArray × Bool × Bool :=
  if Lib.hasSuffix nm.data.toList [46, 97, 113, 114, 108] then (⟨(Lib.trimSuffix nm.data.toList [46, 97, 113, 114, 108]).toArray⟩, true, true)
  else if Lib.hasSuffix nm.data.toList [46, 97, 113] then (⟨(Lib.trimSuffix nm.data.toList [46, 97, 113]).toArray⟩, true, false)
  else if Lib.hasSuffix nm.data.toList [46, 114, 108] then (⟨(Lib.trimSuffix nm.data.toList [46, 114, 108]).toArray⟩, false, true)
  else (nm, false, false)
def fieldsS (f : Int) (i : InsnV) (s : ByteArray) : InsnV :=
  if f = 1 ∨ f = 2 then { i with rd := (regS s).1, imm := (immS (regS s).2).1 }
  else if f = 3 ∨ f = 7 then
    (if i.op = 4 then { i with rd := (regS s).1, imm := (immS (regS s).2).1, rs1 := (regS (immS (regS s).2).2).1 }
     else { i with rd := (regS s).1, rs1 := (regS (regS s).2).1, imm := (immS (regS (regS s).2).2).1 })
  else if f = 4 then { i with rd := (regS s).1, imm := (immS (regS s).2).1, rs1 := (regS (immS (regS s).2).2).1 }
  else if f = 5 then { i with rs2 := (regS s).1, imm := (immS (regS s).2).1, rs1 := (regS (immS (regS s).2).2).1 }
  else if f = 6 then { i with rs1 := (regS s).1, rs2 := (regS (regS s).2).1, imm := (immS (regS (regS s).2).2).1 }
  else if f = 8 then { i with rd := (regS s).1, rs1 := (regS (regS s).2).1, rs2 := (regS (regS (regS s).2).2).1 }
  else if f = 9 then { i with pred := (setS s).1, succ := (setS (setS s).2).1 }
  else if f = 11 then { i with rd := (regS s).1, rs1 := (regS (regS s).2).1 }
  else if f = 12 then { i with rd := (regS s).1, rs2 := (regS (regS s).2).1, rs1 := (regS (regS (regS s).2).2).1 }
  else i
def opS (nm : ByteArray) : InsnV := ⟨namedOf (sufS nm).1.toList, 0, 0, 0, 0, (sufS nm).2.1, (sufS nm).2.2, 0, 0⟩
def readP (s : ByteArray) : InsnV := fieldsS (opOf (opS (headS [32] s)).op).form (opS (headS [32] s)) (cutS [32] (restS [32] s))
/-- What Read returns. -/
def readR (s : ByteArray) : InsnV × Int := if checkE (readP s) = 0 ∧ textT (readP s) = s.toList then (readP s, 0) else (zeroI, 4)
theorem indexByte_mem : ∀ (l : List UInt8) (c : UInt8), decide (0 ≤ Lib.indexByte l c) = l.contains c
  | [], c => rfl
  | b :: l, c => by
    have ih := indexByte_mem l c
    have hge := Lib.indexByte_ge l c
    show decide (0 ≤ if b == c then (0 : Int) else if Lib.indexByte l c == -1 then -1 else Lib.indexByte l c + 1) = _
    rw [List.contains_cons]
    by_cases hb : b = c
    · subst hb; simp
    · rw [show (b == c) = false from beq_eq_false_iff_ne.2 hb, show (c == b) = false from beq_eq_false_iff_ne.2 (Ne.symm hb), Bool.false_or, ← ih]
      simp only [Bool.false_eq_true, if_false]
      by_cases hm : Lib.indexByte l c = -1
      · rw [hm]; simp
      · rw [if_neg (by simpa using hm)]
        rw [decide_eq_decide]; omega
theorem sign_byte (sg : List UInt8) (c : UInt8) : hasSign sg c.toNat = sg.contains c := by
  unfold hasSign
  rw [show UInt8.ofNat (c.toNat % 256) = c by rw [Nat.mod_eq_of_lt c.toNat_lt]; exact UInt8.ofNat_toNat]
  exact indexByte_mem sg c
/-- A text's piece of ASCII without one of the signs. -/
def Clean (sg a : List UInt8) : Prop := ∀ c ∈ a, c.toNat < 128 ∧ sg.contains c = false
theorem bs_get (l : List UInt8) (k : Nat) (h : k < (bs l).size) : (bs l)[k]'h = l[k]'(by rw [bs_size] at h; exact h) := by simp [bs, ByteArray.getElem_eq_getElem_data]
theorem idx_app {sg a r : List UInt8} (ha : Clean sg a) (hr : r = [] ∨ ∃ c q, r = c :: q ∧ c.toNat < 128 ∧ sg.contains c = true) :
    ∀ (m k f : Nat), k + m = a.length → m < f → Lib.idxFuncFrom (hasSign sg) true (bs (a ++ r)) f k = if r = [] then -1 else (a.length : Int) := by
  intro m
  induction m with
  | zero =>
    intro k f hk hf
    obtain ⟨f, rfl⟩ : ∃ g, f = g + 1 := ⟨f - 1, by omega⟩
    obtain rfl : k = a.length := by omega
    unfold Lib.idxFuncFrom
    rcases hr with rfl | ⟨c, q, rfl, hc, hs⟩
    · rw [if_neg (by rw [bs_size]; simp), if_pos rfl]
    · have hlt : a.length < (bs (a ++ c :: q)).size := by rw [bs_size]; simp
      have hg : (bs (a ++ c :: q))[a.length]'hlt = c := by rw [bs_get]; simp
      rw [if_pos hlt, decode_ascii _ _ hlt (by rw [hg]; exact hc), hg]
      simp only
      rw [sign_byte, hs, if_pos rfl, if_neg (by simp)]
  | succ m ih =>
    intro k f hk hf
    obtain ⟨f, rfl⟩ : ∃ g, f = g + 1 := ⟨f - 1, by omega⟩
    unfold Lib.idxFuncFrom
    have hka : k < a.length := by omega
    have hlt : k < (bs (a ++ r)).size := by rw [bs_size, List.length_append]; omega
    have hg : (bs (a ++ r))[k]'hlt = a[k]'hka := by rw [bs_get, List.getElem_append_left hka]
    obtain ⟨h1, h2⟩ := ha _ (List.getElem_mem hka)
    rw [if_pos hlt, decode_ascii _ _ hlt (by rw [hg]; exact h1), hg]
    simp only
    rw [sign_byte, h2, if_neg (by decide)]
    exact ih (k + 1) f (by omega) (by omega)
theorem idx_end {sg a : List UInt8} (ha : Clean sg a) : ∀ (m k f : Nat), k + m = a.length → Lib.idxFuncFrom (hasSign sg) true (bs (a ++ [])) f k = -1 := by
  intro m
  induction m with
  | zero =>
    intro k f hk
    exact Lib.idxFuncFrom_end _ _ _ f k (by rw [bs_size]; simp; omega)
  | succ m ih =>
    intro k f hk
    cases f with
    | zero => rfl
    | succ f =>
      unfold Lib.idxFuncFrom
      have hka : k < a.length := by omega
      have hlt : k < (bs (a ++ [])).size := by rw [bs_size, List.length_append]; simp; omega
      have hg : (bs (a ++ []))[k]'hlt = a[k]'hka := by rw [bs_get, List.getElem_append_left hka]
      obtain ⟨h1, h2⟩ := ha _ (List.getElem_mem hka)
      rw [if_pos hlt, decode_ascii _ _ hlt (by rw [hg]; exact h1), hg]
      simp only
      rw [sign_byte, h2, if_neg (by decide)]
      exact ih (k + 1) f (by omega)
theorem head_cut {sg a r : List UInt8} (ha : Clean sg a) (hr : r = [] ∨ ∃ c q, r = c :: q ∧ c.toNat < 128 ∧ sg.contains c = true) : headS sg (bs (a ++ r)) = bs a ∧ restS sg (bs (a ++ r)) = bs r := by
  have hk : headK sg (bs (a ++ r)) = a.length := by
    unfold headK Lib.idxFunc
    by_cases h0 : r = []
    · subst h0
      rw [idx_end ha a.length 0 _ (by omega)]
      simp [bs_size]
    · rw [idx_app ha hr a.length 0 _ (by omega) (by rw [bs_size, List.length_append]; have := List.length_pos_iff.2 h0; omega), if_neg h0, if_neg (by omega)]
      simp
  unfold headS restS
  rw [hk, bs_size, bs_extract, bs_extract]
  exact ⟨by rw [take_head a r _ rfl], by rw [take_rest]⟩
end Go.Proofs.YtdbpnbmaineniaaGreatDoor
