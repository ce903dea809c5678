/- Are two lists of texts the same? What package code's Words and Bytes return, in one form. Conditions: none. -/
import Derived.Test.YtdbpnbmaineniaaGreatDoorCodeWO
import Derived.Test.YtdbpnbmaineniaaGreatDoorCodeHX
import Derived.Test.YtdbpnbmaineniaaGreatDoorRefBytes
import Derived.Test.YtdbpnbmaineniaaGreatDoorR3D
import Derived.Shelf.Bytes.SlSmallAll
set_option linter.unusedSimpArgs false
set_option linter.unusedVariables false
namespace Go.Proofs.YtdbpnbmaineniaaGreatDoor
open Go.RowKit
theorem ba_inj {x y : ByteArray} (h : x.toList = y.toList) : x = y := by
  rw [ba_toList, ba_toList] at h
  exact ByteArray.ext (Array.toList_inj.1 h)
/-- texts read as a list -/
structure RLS (w : World) (B : Nat) (v : Value) (l : List ByteArray) : Prop where
  form : ∃ A c, v = .slice A l.length c ∧ l.length ≤ c ∧ c ≤ maxLen ∧ (l = [] ∨ ∃ b o, A = some ⟨b, o, none⟩ ∧ b < B ∧ ∀ j x, l[j]? = some x → w.cell? ⟨b, o + j, none⟩ = some (.string x))
theorem drop_atS {l : List ByteArray} {k : Nat} (h : k < l.length) : ∃ x, l[k]? = some x ∧ l.drop k = x :: l.drop (k + 1) := ⟨l[k], List.getElem?_eq_getElem h, List.drop_eq_getElem_cons h⟩
theorem RLS.keep {w w' : World} {v : Value} {l : List ByteArray} (h : RLS w w.heap.size v l) (hb : Below w.heap.size w w') : RLS w' w'.heap.size v l := by
  obtain ⟨A, c, e, h1, h2, h3⟩ := h.form
  refine ⟨⟨A, c, e, h1, h2, h3.imp id fun ⟨b, o, e1, e2, e3⟩ => ⟨b, o, e1, Nat.lt_of_lt_of_le e2 hb.size, fun j x hx => ?_⟩⟩⟩
  rw [hb.cell (p := ⟨b, o + j, none⟩) e2]; exact e3 j x hx
theorem RLW.keep {w w' : World} {v : Value} {l : List Int} (h : RLW w w.heap.size v l) (hb : Below w.heap.size w w') : RLW w' w'.heap.size v l := by
  obtain ⟨A, c, e, h1, h2, h3⟩ := h.form
  refine ⟨⟨A, c, e, h1, h2, h3.imp id fun ⟨b, o, e1, e2, e3⟩ => ⟨b, o, e1, Nat.lt_of_lt_of_le e2 hb.size, fun j x hx => ?_⟩⟩⟩
  rw [hb.cell (p := ⟨b, o + j, none⟩) e2]; exact e3 j x hx
/-- A slice of the call's own, read. -/
theorem own_sliceS {w : World} {base : Nat} {t : TypeId} {v : Value} {n m : Nat} {l : List Value} (h : w.ownsRow base t 1 v n l) (e : n = m) : ∃ A c, v = .slice A m c ∧ m ≤ c ∧ c ≤ maxLen ∧ (0 < m → ∃ g, A = some ⟨g, 0, none⟩ ∧ g < w.heap.size ∧ ∀ k u, l[k]? = some u → w.cell? ⟨g, k, none⟩ = some u) := by
  subst e
  rcases h.2 with ⟨rfl, rfl⟩ | ⟨g, cap, cur, rfl, _, hg, hnc, hcm, -⟩
  · exact ⟨none, 0, rfl, Nat.le_refl _, Nat.zero_le _, fun h => absurd h (Nat.lt_irrefl 0)⟩
  · refine ⟨_, cap, rfl, hnc, hcm, fun _ => ⟨g, rfl, (Array.getElem?_eq_some_iff.1 hg).1, fun k u hk => ?_⟩⟩
    have := h.cells rfl k u hk
    rwa [show (⟨g, 0, none⟩ : Addr).add k = ⟨g, k, none⟩ by rw [Addr.add_mid, Nat.zero_add]] at this
theorem rlw_own {w : World} {base n : Nat} {v : Value} {l : List Int} (h : w.ownsRow base 27 1 v n (l.map (Value.int .u32))) (e : n = l.length) : RLW w w.heap.size v l := by
  obtain ⟨A, c, rfl, h1, h2, h3⟩ := own_sliceS h e
  refine ⟨⟨A, c, rfl, h1, h2, ?_⟩⟩
  by_cases h0 : 0 < l.length
  · obtain ⟨g, e1, e2, e3⟩ := h3 h0
    exact .inr ⟨g, 0, e1, e2, fun j x hx => by rw [Nat.zero_add]; exact e3 j _ (by rw [List.getElem?_map, hx]; rfl)⟩
  · exact .inl (List.length_eq_zero_iff.1 (by omega))
theorem rls_own {w : World} {base n : Nat} {v : Value} {l : List ByteArray} (h : w.ownsRow base 9 1 v n (l.map Value.string)) (e : n = l.length) : RLS w w.heap.size v l := by
  obtain ⟨A, c, rfl, h1, h2, h3⟩ := own_sliceS h e
  refine ⟨⟨A, c, rfl, h1, h2, ?_⟩⟩
  by_cases h0 : 0 < l.length
  · obtain ⟨g, e1, e2, e3⟩ := h3 h0
    exact .inr ⟨g, 0, e1, e2, fun j x hx => by rw [Nat.zero_add]; exact e3 j _ (by rw [List.getElem?_map, hx]; rfl)⟩
  · exact .inl (List.length_eq_zero_iff.1 (by omega))
set_option maxRecDepth 100000 in
set_option maxHeartbeats 4000000 in
theorem SameS_yes (v1 v2 : Value) (l : List ByteArray) (B1 B2 : Nat) (w : World) (h1 : RLS w B1 v1 l) (h2 : RLS w B2 v2 l) :
    Calls Tryz.prog 22 #[v1, v2] w (QuietW w (.bool true)) := by
  obtain ⟨A1, c1, rfl, a1, a2, a3⟩ := h1.form
  obtain ⟨A2, c2, rfl, b1, b2, b3⟩ := h2.form
  unfold maxLen at a2 b2
  have a4 := Lib.hid a3
  have b4 := Lib.hid b3
  clear a3 b3 h1 h2
  go_enter Tryz.func22, Tryz.ntmps22
  go_wp2_with fail
  go_loopw [5] (fun i wr => ∃ k : Nat, k ≤ l.length ∧ i = .int .i64 k ∧ (∃ q, wr = w.drewN q)) (fun i _ => l.length - (intOf i).toNat)
  case atStart => exact ⟨0, Nat.zero_le _, rfl, ⟨0, rfl⟩⟩
  case round =>
    obtain ⟨k, hk, rfl, ⟨q, rfl⟩⟩ := hrel
    by_cases hlt : k < l.length
    · obtain ⟨x, hx, -⟩ := drop_atS hlt
      obtain ⟨p1, o1, rfl, -, hc1⟩ := a4.out.resolve_left (fun e => by rw [e] at hlt; exact absurd hlt (Nat.not_lt_zero _))
      obtain ⟨p2, o2, rfl, -, hc2⟩ := b4.out.resolve_left (fun e => by rw [e] at hlt; exact absurd hlt (Nat.not_lt_zero _))
      have m1 : w.cell? ⟨p1, o1 + k, none⟩ = some (.string x) := hc1 k x hx
      have m2 : w.cell? ⟨p2, o2 + k, none⟩ = some (.string x) := hc2 k x hx
      have n0 : (0 : Int) ≤ (k : Int) ∧ (k : Int) < (l.length : Int) := by omega
      obtain ⟨n1, n2⟩ := n0
      have n3 : k < c1 := by omega
      have n4 : k < c2 := by omega
      have hne : (x.toList != x.toList) = false := by simp
      clear hx hc1 hc2
      go_upto_region 6 with fail
      go_quiet (fail)
      go_wp2_with fail
      go_roundw
      case rel => exact ⟨k + 1, by omega, by go_num, ⟨_, rfl⟩⟩
      case measure => simp [intOf]; omega
    · obtain rfl : k = l.length := by omega
      go_wp2_with fail
      go_ret
      exact ⟨rfl, q, rfl⟩
/-- The lines of a dump. -/
def dumpsB (F : Nat → BitVec 32) (n : Nat) : List ByteArray := (List.range n).map fun k => ⟨(dumpT (F k)).toArray⟩
theorem dumpsB_len (F : Nat → BitVec 32) (n : Nat) : (dumpsB F n).length = n := by simp [dumpsB]
theorem dumpsV_B (F : Nat → BitVec 32) : ∀ n, dumpsV F n = (dumpsB F n).map Value.string
  | 0 => rfl
  | n + 1 => by
    unfold dumpsV dumpsB
    rw [dumpsV_B F n, List.range_succ, List.map_append, List.map_append]
    rfl
theorem new_dump {w : World} {e : Ending} {w' : World} {F : Nat → BitVec 32} {n : Nat} (h : NewRow 9 w (dumpsV F n) e w') : (∃ v, e = .returned v ∧ RLS w' w'.heap.size v (dumpsB F n)) ∧ Below w.heap.size w w' := by
  obtain ⟨⟨v, e1, e2⟩, e3⟩ := h
  rw [dumpsV_B, List.length_map] at e2
  exact ⟨⟨v, e1, rls_own e2 rfl⟩, e3⟩
/-- The words of bytes. -/
def wordsI (f : Nat → Int) (q : Nat) : List Int := (List.range q).map fun k => un32 (wordAt f k)
theorem wordsV_I (f : Nat → Int) : ∀ q, wordsV f q = (wordsI f q).map (Value.int .u32)
  | 0 => rfl
  | q + 1 => by
    unfold wordsV wordsI
    rw [wordsV_I f q, List.range_succ, List.map_append, List.map_append]
    rfl
theorem wordsI_len (f : Nat → Int) (q : Nat) : (wordsI f q).length = q := by simp [wordsI]
def wordsE (m : Nat) : Int := if m % 4 = 0 then 0 else 4
def wordsL (f : Nat → Int) (m : Nat) : List Int := if m % 4 = 0 then wordsI f (m / 4) else []
theorem RLW.nil (w : World) : RLW w w.heap.size (.slice none 0 0) [] := ⟨⟨none, 0, rfl, Nat.le_refl _, Nat.zero_le _, .inl rfl⟩⟩
theorem CWords_any (ao : Option Addr) (m cap : Nat) (f : Nat → Int) (w : World) (h : BytesAt w ao m f) (hc : m ≤ cap) (hm : m ≤ 1000) :
    Calls Tryz.prog 10 #[.slice ao m cap] w fun e w' => (∃ v, e = .returned (.tuple #[v, .int .i64 (wordsE m)]) ∧ RLW w' w'.heap.size v (wordsL f m)) ∧ Below w.heap.size w w' := by
  unfold wordsE wordsL
  by_cases h4 : m % 4 = 0
  · rw [if_pos h4, if_pos h4]
    obtain ⟨q, rfl⟩ : ∃ q, m = 4 * q := ⟨m / 4, by omega⟩
    refine (CWords_ok ao q cap f w h hc (by omega)).mono fun e w' hh => ?_
    obtain ⟨⟨v, e1, e2⟩, e3⟩ := hh
    rw [wordsV_I] at e2
    rw [show 4 * q / 4 = q by omega]
    exact ⟨⟨v, e1, rlw_own e2 (wordsI_len f q).symm⟩, e3⟩
  · rw [if_neg h4, if_neg h4]
    exact (CWords_bad ao m cap w h4).mono fun e w' hh => ⟨⟨_, hh.1, RLW.nil w'⟩, hh.2⟩
theorem R3Words_any (ao : Option Addr) (m cap : Nat) (f : Nat → Int) (w : World) (h : BytesAt w ao m f) (hc : m ≤ cap) (hm : m ≤ 1000) :
    Calls Tryz.prog 18 #[.slice ao m cap] w fun e w' => (∃ v, e = .returned (.tuple #[v, .int .i64 (wordsE m)]) ∧ RLW w' w'.heap.size v (wordsL f m)) ∧ Below w.heap.size w w' := by
  unfold wordsE wordsL
  by_cases h4 : m % 4 = 0
  · rw [if_pos h4, if_pos h4]
    obtain ⟨q, rfl⟩ : ∃ q, m = 4 * q := ⟨m / 4, by omega⟩
    refine (R3Words_ok ao q cap f w h hc (by omega)).mono fun e w' hh => ?_
    obtain ⟨⟨v, e1, e2⟩, e3⟩ := hh
    rw [wordsV_I] at e2
    rw [show 4 * q / 4 = q by omega]
    exact ⟨⟨v, e1, rlw_own e2 (wordsI_len f q).symm⟩, e3⟩
  · rw [if_neg h4, if_neg h4]
    exact (R3Words_bad ao m cap w h4).mono fun e w' hh => ⟨⟨_, hh.1, RLW.nil w'⟩, hh.2⟩
/-- A copy of bytes. -/
theorem OwnB_any (ao : Option Addr) (m cap : Nat) (f : Nat → Int) (w : World) (h : BytesAt w ao m f) (hn : ao = none → cap = 0) (hm : m ≤ 1000) :
    Calls Tryz.prog 17 #[.slice ao m cap] w fun e w' => (∃ A c, e = .returned (.slice A m c) ∧ m ≤ c ∧ BytesAt w' A m f) ∧ Below w.heap.size w w' := by
  have key : Calls Tryz.prog 17 #[.slice ao m cap] w (NewBytes w ((List.range m).map f)) := by
    by_cases h0 : 0 < m
    · obtain ⟨b, off, rfl, hb, hc⟩ := h.2 h0
      exact Own_some b off m cap f w hm hb hc
    · obtain rfl : m = 0 := by omega
      cases ao with
      | none => obtain rfl := hn rfl; exact Own_none w
      | some p => exact Own_empty p cap w
  refine key.mono fun e w' hh => ?_
  obtain ⟨⟨v, e1, e2⟩, e3⟩ := hh
  obtain ⟨A, c, rfl, h1, -, h3⟩ := own_sliceS e2 (show ((List.range m).map f).length = m by simp)
  refine ⟨⟨A, c, e1, h1, h.1, fun h0 => ?_⟩, e3⟩
  obtain ⟨g, a1, a2, a3⟩ := h3 h0
  exact ⟨g, 0, a1, a2, fun k hk => by rw [Nat.zero_add]; exact a3 k _ (by simp [hk])⟩
/-- Words' bytes, ready to be made a text. -/
def BR (w : World) (A : Option Addr) (n : Nat) (F : Nat → BitVec 32) : Prop := 0 < n → ∃ g, A = some ⟨g, 0, none⟩ ∧ g < w.heap.size ∧ ∀ k, k < 4 * n → w.cell? ⟨g, k, none⟩ = some (.int .u8 ((wbL F n).getD k 0))
theorem BR.keep {w w' : World} {A : Option Addr} {n : Nat} {F : Nat → BitVec 32} (h : BR w A n F) (hb : Below w.heap.size w w') : BR w' A n F := fun h0 => by
  obtain ⟨g, a, b, c⟩ := h h0
  exact ⟨g, a, Nat.lt_of_lt_of_le b hb.size, fun k hk => by rw [hb.cell (p := ⟨g, k, none⟩) b]; exact c k hk⟩
theorem BR.conv {w : World} {A : Option Addr} {n : Nat} {F : Nat → BitVec 32} (h : BR w A n F) (c : Nat) : (convert 31 9 (.slice A (4 * n) c)).run Tryz.prog w = .ok (.string (strOfNums (wbL F n))) w := by
  by_cases h0 : 0 < n
  · obtain ⟨g, rfl, -, hc⟩ := h h0
    exact run_convert_bytes_arg w 31 5 Tryz.underlying31 Tryz.underlying5 g 0 (4 * n) c (wbL F n) (wbL_len F n) (fun i hi => by rw [Nat.zero_add]; exact hc i hi) 9 Tryz.underlying9
  · obtain rfl : n = 0 := by omega
    exact run_convert_bytes_zero w 31 5 Tryz.underlying31 Tryz.underlying5 A c 9 Tryz.underlying9
theorem br_own {w : World} {base : Nat} {v : Value} {n : Nat} {F : Nat → BitVec 32} (h : w.ownsRow base 5 1 v (4 * n) ((wbL F n).map (Value.int .u8))) : ∃ A c, v = .slice A (4 * n) c ∧ BR w A n F := by
  obtain ⟨A, c, rfl, -, -, h3⟩ := own_sliceS h rfl
  refine ⟨A, c, rfl, fun h0 => ?_⟩
  obtain ⟨g, a1, a2, a3⟩ := h3 (by omega)
  exact ⟨g, a1, a2, fun k hk => a3 k _ (by rw [List.getElem?_map, List.getElem?_eq_getElem (by rw [wbL_len]; exact hk)]; simp [List.getD, List.getElem?_eq_getElem (show k < (wbL F n).length by rw [wbL_len]; exact hk)])⟩
end Go.Proofs.YtdbpnbmaineniaaGreatDoor
