/- The walk of word.Of: the number of bytes, the low one first. The walk of package code's Words. A list of words in memory of its own; are two lists of words the same? Plain: words' bytes are read as those words. No program in sight. Lists of words and of bytes that come by value, opened to their cells. Conditions: as each theorem says. -/
import Derived.Test.YtdbpnbmaineniaaGreatDoorWord
import Derived.Test.YtdbpnbmaineniaaGreatDoorRefDf
import Derived.Lib.Hide
import Derived.Laws.BytesArg
import Derived.Test.YtdbpnbmaineniaaGreatDoorCodeBW
import Derived.Test.YtdbpnbmaineniaaGreatDoorOwn
import Derived.Deep.LoopGhost
import Derived.Deep.DeepCutAuto
import Derived.Deep.QuietTactic
import Derived.BigQuiet
import Derived.Deep.OwnRows
import Derived.Deep.MidRow
import Derived.Sort.OwnSortedInts
import Derived.Maps.AppendAt
import Derived.Laws.MakeOwn
import Derived.Test.YtdbpnbmaineniaaGreatDoorCodeOp
import Derived.ChangeSlices
import Derived.Deep.Slices
set_option linter.unusedSimpArgs false
set_option linter.unusedVariables false
namespace Go.Proofs.YtdbpnbmaineniaaGreatDoor
open Go.RowKit
attribute [local go_sem] wrap_u64_bv bv_un bv_sn bv_add bv_mul bv_neg bv_sub mul_bvpow shr_min shl_min sshr_min bv_lit bv_0 bv_1 un_shr sn_shr wrap_i64_un bits_u64_and bits_u64_or bits_u64_xor bits_u64_andNot bv_max u64_unsigned
theorem Of_nil (w : World) :
    Calls Tryz.prog 49 #[.slice none 0 0] w fun e w' => e = .returned (.int .u64 (un 0#64)) ∧ w = w' := by
  go_enter Tryz.func49, Tryz.ntmps49
  go_wp2
  go_loop [2, 11] (fun x i => x = .int .u64 0 ∧ i = .int .i64 0) (fun _ _ => 0)
  case atStart => exact ⟨rfl, rfl⟩
  case round =>
    obtain ⟨rfl, rfl⟩ := hrel
    go_wp2
    go_ret
    exact ⟨rfl, rfl⟩
theorem Of_empty (p : Addr) (cap : Nat) (w : World) :
    Calls Tryz.prog 49 #[.slice (some p) 0 cap] w fun e w' => e = .returned (.int .u64 (un 0#64)) ∧ w = w' := by
  go_enter Tryz.func49, Tryz.ntmps49
  go_wp2
  go_loop [2, 11] (fun x i => x = .int .u64 0 ∧ i = .int .i64 0) (fun _ _ => 0)
  case atStart => exact ⟨rfl, rfl⟩
  case round =>
    obtain ⟨rfl, rfl⟩ := hrel
    go_wp2
    go_ret
    exact ⟨rfl, rfl⟩
theorem Of_any (b off len cap : Nat) (f : Nat → Int) (w : World) (hl : len ≤ cap) (hm : len ≤ 9223372036854775807) (hc : ∀ i, i < len → w.cell? ⟨b, off + i, none⟩ = some (.int .u8 (f i))) :
    Calls Tryz.prog 49 #[.slice (some ⟨b, off, none⟩) len cap] w fun e w' => e = .returned (.int .u64 (un (OfK f (min len 8)))) ∧ w = w' := by
  have hc' := Lib.hid hc; clear hc
  have hlen : len ≤ 8 ∨ 8 < len := by omega
  rcases hlen with hlen | hlen
  all_goals
    obtain ⟨m, hm1, hm2, hm3⟩ : ∃ m, m = min len 8 ∧ m ≤ len ∧ m ≤ 8 := ⟨_, rfl, by omega, by omega⟩
    have hm1' := Lib.hid hm1; clear hm1
    go_enter Tryz.func49, Tryz.ntmps49
    go_wp2_with fail
    go_loop [2, 11] (fun x i => ∃ k : Nat, k ≤ min len 8 ∧ i = .int .i64 k ∧ x = .int .u64 (un (OfK f k))) (fun _ i => 8 - (intOf i).toNat)
    case atStart => exact ⟨0, Nat.zero_le _, rfl, rfl⟩
    case round =>
      obtain ⟨k, hk, rfl, rfl⟩ := hrel
      by_cases hlt : k < min len 8
      · have hcell := hc'.out k (by omega)
        go_wp2
        go_round
        case rel => exact ⟨k + 1, by omega, by go_num, rfl⟩
        case measure => simp [intOf]; omega
      · obtain rfl : k = min len 8 := by omega
        go_wp2
        go_ret
        exact ⟨rfl, rfl⟩
theorem run_convert_bytes_empty {P : Program} (w : World) (src e : TypeId) (hs : P.underlying src = some (.slice e)) (he : P.underlying e = some (.int .u8)) (p : Addr) (c : Nat) :
    ∀ dst, P.underlying dst = some .string → (convert src dst (.slice (some p) 0 c)).run P w = .ok (.string ByteArray.empty) w := by
  intro dst hd
  rw [run_convert_bytes_string w src dst e _ 0 c hs he hd, run_bytesToString w p 0 c [] (run_loadCells_list (P := P) w p [] (fun j v hj => by simp at hj))]
  rfl
end Go.Proofs.YtdbpnbmaineniaaGreatDoor
namespace Go.Proofs.YtdbpnbmaineniaaGreatDoor
open Go.RowKit
/-- Word k of some bytes. -/
def wordAt (f : Nat → Int) (k : Nat) : BitVec 32 := (OfK (fun i => f (4 * k + i)) 4).setWidth 32
def wordsV (f : Nat → Int) : Nat → List Value
  | 0 => []
  | k + 1 => wordsV f k ++ [.int .u32 (un32 (wordAt f k))]
theorem wordsV_len (f : Nat → Int) : ∀ k, (wordsV f k).length = k
  | 0 => rfl
  | k + 1 => by unfold wordsV; rw [List.length_append, wordsV_len f k]; rfl
theorem Tryz.info_u32W : (Tryz.prog.info? 27).map (fun i => (i.zero, i.size, i.bytes)) = some (some (.int .u32 0), 1, 4) := by kernel_rfl
attribute [local go_sem] wrap_u64_bv bv_un bv_sn bv_add bv_mul bv_neg bv_sub mul_bvpow shr_min shl_min sshr_min bv_lit bv_0 bv_1 un_shr sn_shr wrap_i64_un bits_u64_and bits_u64_or bits_u64_xor bits_u64_andNot bv_max u64_unsigned wrap_u32_un
set_option maxRecDepth 100000 in
set_option maxHeartbeats 4000000 in
theorem CWords_bad (ao : Option Addr) (n cap : Nat) (w : World) (hn : n % 4 ≠ 0) : Calls Tryz.prog 10 #[.slice ao n cap] w fun e w' => e = .returned (.tuple #[.slice none 0 0, .int .i64 4]) ∧ Below w.heap.size w w' := by
  have hm : ((n : Int).tmod 4 != 0) = true := by
    rw [bne_iff_ne]; intro h; rw [Int.tmod_eq_emod_of_nonneg (by omega)] at h; omega
  go_enter Tryz.func10, Tryz.ntmps10
  go_wp2
  go_ret2
  exact ⟨rfl, Below.refl _ _⟩
set_option maxRecDepth 100000 in
set_option maxHeartbeats 8000000 in
theorem CWords_ok (ao : Option Addr) (q cap : Nat) (f : Nat → Int) (w : World) (h : BytesAt w ao (4 * q) f) (hc : 4 * q ≤ cap) (hq : q ≤ 100000) :
    Calls Tryz.prog 10 #[.slice ao (4 * q) cap] w fun e w' => (∃ v, e = .returned (.tuple #[v, .int .i64 0]) ∧ w'.ownsRow w.heap.size 27 1 v q (wordsV f q)) ∧ Below w.heap.size w w' := by
  obtain ⟨i0, hi, hz0, hz1, hz2⟩ := info_parts Tryz.info_u32W
  have hi' := Lib.hid hi; have hz0' := Lib.hid hz0; have hz1' := Lib.hid hz1; have hz2' := Lib.hid hz2; clear hi hz0 hz1 hz2
  have hm : (((4 * q : Nat) : Int).tmod 4 != 0) = false := by
    have : ((4 * q : Nat) : Int).tmod 4 = 0 := by rw [Int.tmod_eq_emod_of_nonneg (by omega)]; omega
    rw [this]; rfl
  have hF := Lib.hid h.2
  clear h
  go_enter Tryz.func10, Tryz.ntmps10
  go_wp2_with fail
  go_loopg [0, 4] q (fun g s v wr => ∃ (k : Nat) (A : Option Addr), k ≤ q ∧ g = q - k ∧ s = .slice A (4 * q - 4 * k) (cap - 4 * k) ∧ (k < q → ∃ b off, A = some ⟨b, off, none⟩ ∧ b < w.heap.size ∧ ∀ i, i < 4 * q - 4 * k → w.cell? ⟨b, off + i, none⟩ = some (.int .u8 (f (4 * k + i)))) ∧ wr.ownsRow w.heap.size 27 1 v k (wordsV f k) ∧ Below w.heap.size w wr)
  case atStart => exact ⟨0, ao, Nat.zero_le _, rfl, by simp, fun hq0 => by
    obtain ⟨b, off, e, hl, hcc⟩ := hF.out (by omega)
    exact ⟨b, off, e, hl, fun i hi => by rw [Nat.mul_zero, Nat.zero_add]; exact hcc i (by omega)⟩, World.ownsRow_nil _ _ _ _, Below.refl _ _⟩
  case round =>
    clear hF
    obtain ⟨k, A, hk, rfl, rfl, hA, hown, hb⟩ := hrel
    by_cases hlt : k < q
    · obtain ⟨b, off, rfl, hbl, hcells⟩ := hA hlt
      have hO : Hid (Calls Tryz.prog 49 #[.slice (some ⟨b, off, none⟩) 4 (cap - 4 * k)] wr fun e w' => e = .returned (.int .u64 (un (OfK (fun i => f (4 * k + i)) 4))) ∧ wr = w') := Lib.hid (by
        have := Of_any b off 4 (cap - 4 * k) (fun i => f (4 * k + i)) wr (by omega) (by decide) (fun i hi => by rw [hb.cell (p := ⟨b, off + i, none⟩) hbl]; exact hcells i (by omega))
        exact this)
      have hq1 : Hid (wordsV f k ++ [.int .u32 (un32 (wordAt f k))] = wordsV f (k + 1)) := Lib.hid rfl
      have l1 : (0 : Int) < ((4 * q - 4 * k : Nat) : Int) := by omega
      have l2 : decide ((0 : Int) < ((4 * q - 4 * k : Nat) : Int)) = true := decide_eq_true l1
      have l3 : (4 : Nat) ≤ 4 * q - 4 * k := by omega
      have l4 : 4 * q - 4 * k ≤ cap - 4 * k := by omega
      have l5 : (4 : Nat) ≤ cap - 4 * k := by omega
      go_upto_region 6 with fail
      go_wp2_with (first | (go_at_call 49; (with_reducible refine hO.out.mono ?_); rintro e w4 ⟨rfl, rfl⟩) | (at_builtin; refine wpList_append_own _ rfl _ _ 28 rfl w.heap.size 27 i0 (.int .u32 0) 1 4 Tryz.underlying28 hi'.out hz0'.out hz1'.out hz2'.out rfl (by decide) _ k _ rfl (hown.alloc _) ⟨wr.heap.size, 0, none⟩ 1 1 [.int .u32 (un32 (wordAt f k))] rfl rfl ?c1 ?c2 ?c3 ?c4 ?c5 ?_))
      case c1 => exact cell_new1 _ _ _
      case c2 => simp [Value.oneCell']
      case c3 => unfold maxLen; omega
      case c4 => omega
      case c5 => have := hb.size; simp; omega
      intro v' w1' hown' hgrow _
      rw [hq1.out] at hown'
      have hb8 : Below w.heap.size w w1' := (hb.alloc hb.size _).grown hgrow (by have := hb.size; simp; omega) (fun j hj => (World.ownsRow.lt hown j hj).1)
      clear hown hb hgrow
      have e1 : 4 * q - 4 * k - 4 = 4 * q - 4 * (k + 1) := by omega
      have e2 : cap - 4 * k - 4 = cap - 4 * (k + 1) := by omega
      go_wp2
      · go_roundg (q - (k + 1))
        case measure => omega
        case rel => exact ⟨k + 1, _, by omega, rfl, rfl, fun hk2 => by omega, hown', hb8⟩
      · go_roundg (q - (k + 1))
        case measure => omega
        case rel => exact ⟨k + 1, _, by omega, rfl, rfl, fun hk2 => ⟨b, off + 4, rfl, hbl, fun i hi => by rw [Nat.add_assoc, show 4 * (k + 1) + i = 4 * k + (4 + i) by omega]; exact hcells (4 + i) (by omega)⟩, hown', hb8⟩
    · obtain rfl : k = q := by omega
      rw [Nat.sub_self]
      go_wp2_with fail
      go_ret2
      exact ⟨⟨_, rfl, hown⟩, hb⟩
end Go.Proofs.YtdbpnbmaineniaaGreatDoor
namespace Go.Proofs.YtdbpnbmaineniaaGreatDoor
open Go.RowKit
theorem int_factsW : (Tryz.prog.info? 27).map (fun i => (i.zero, i.size, i.bytes)) = some (some (.int .u32 0), 1, 4) := by kernel_rfl
theorem int_ofW : ∃ i, Tryz.prog.info? 27 = some i ∧ i.zero = some (.int .u32 0) ∧ i.size = 1 ∧ i.bytes = 4 := by
  have h := int_factsW
  cases hi : Tryz.prog.info? 27 with
  | none => rw [hi] at h; cases h
  | some i => rw [hi] at h; simp at h; exact ⟨i, rfl, h.1, h.2.1, h.2.2⟩
theorem one_intsW (l : List Int) : ∀ u ∈ l.map (Value.int .u32), u.oneCell' = true := by
  intro u hu
  obtain ⟨x, -, rfl⟩ := List.mem_map.1 hu
  rfl
/-- append, the source nil, empty or not. -/
theorem run_appW {w : World} {base : Nat} (ty : TypeId) (v : Value) (zs l : List Int) (A : Option Addr) (c : Nat) (hown : w.ownsRow base 27 1 v zs.length (zs.map (Value.int .u32))) (hbase : base ≤ w.heap.size) (hn : zs.length + l.length ≤ 1000000)
    (hl : l = [] ∨ ∃ b o, A = some ⟨b, o, none⟩ ∧ ∀ j x, l[j]? = some x → w.cell? ⟨b, o + j, none⟩ = some (.int .u32 x)) :
    ∃ v' w', (Builtin.append_ #[28, 28] ty #[v, .slice A l.length c]).run Tryz.prog w = .ok v' w' ∧ w'.ownsRow base 27 1 v' (zs ++ l).length ((zs ++ l).map (Value.int .u32)) ∧ w.grownBy w' v.ownBlock ∧ (v'.ownBlock = v.ownBlock ∨ v'.ownBlock = some w.heap.size) := by
  obtain ⟨i0, hi0, hi1, hi2, hi3⟩ := int_ofW
  have hu := Tryz.underlying28
  rcases A with _ | ad
  · have hl0 : l = [] := by
      rcases hl with h | ⟨b, o, h, _⟩
      · exact h
      · cases h
    subst hl0
    refine ⟨v, w, ?_, by simpa using hown, World.grownBy.refl w _, .inl rfl⟩
    rcases hown.2 with ⟨rfl, h0⟩ | ⟨g, cap, cur, rfl, _, _, hnc, _⟩
    · simp [Builtin.append_, run_underlying hu, sizeOf, typeInfo, hi0, Builtin.lenOf, Builtin.firstCells]
    · simp [Builtin.append_, run_underlying hu, sizeOf, typeInfo, hi0, Builtin.lenOf, Builtin.firstCells, hnc, storeCells]
  · have hc : ∀ j u, (l.map (Value.int .u32))[j]? = some u → w.cell? (ad.add j) = some u := by
      intro j u hu
      rcases hl with h | ⟨b, o, h, hc⟩
      · rw [h] at hu; cases hu
      · obtain rfl := Option.some.inj h
        rw [List.getElem?_map] at hu
        obtain ⟨x, hx, rfl⟩ := Option.map_eq_some_iff.1 hu
        rw [Addr.add_mid]
        exact hc j x hx
    obtain ⟨v', w', hr, h2, h3, -, h5⟩ := run_append_own_at (P := Tryz.prog) w base 28 ty 27 i0 (.int .u32 0) 1 4 hu hi0 hi1 hi2 hi3 rfl (by decide) v zs.length (zs.map (Value.int .u32)) hown ad l.length c (l.map (Value.int .u32)) (by simp) hc (one_intsW l) (by simp only [maxLen]; omega) (by omega) hbase
    refine ⟨v', w', hr, ?_, h3, h5⟩
    rw [List.length_append, List.map_append]
    exact h2
theorem wp_appW {P : Program} {w w' : World} {o : Oper} {a : Act} {K : Act → World → Prop} {Q : Exit → Act → World → Prop} (s x : Operand) (t : TypeId)
    (ho : o.op = .call { callee := .builtin .append, args := #[s, x], argTypes := #[t, t] }) (v u v' : Value) (hs : a.eval s = v) (hx : a.eval x = u)
    (hr : (Builtin.append_ #[t, t] o.type #[v, u]).run P w = .ok v' w') (h : K (a.put o.dst v') w') : o.wp P a w K Q := by
  unfold Oper.wp execOp
  simp only [ho, resolve, invoke, builtin, Sem.run_bind, Sem.run_pure, Result.andThen_ok, List.map_toArray, List.map_cons, List.map_nil, hs, hx, hr]
  exact h
theorem wpList_appW {P : Program} {w w' : World} {ops : Array Oper} {rest : List Oper} {o : Oper} {a : Act} {Q : Exit → Act → World → Prop} (hgd : o.guard = none) (s x : Operand) (t : TypeId)
    (ho : o.op = .call { callee := .builtin .append, args := #[s, x], argTypes := #[t, t] }) (v u v' : Value) (hs : a.eval s = v) (hx : a.eval x = u)
    (hr : (Builtin.append_ #[t, t] o.type #[v, u]).run P w = .ok v' w') (h : wpList P ops Q rest (a.put o.dst v') w') : wpList P ops Q (o :: rest) a w :=
  wpList_plain hgd fun _ hK => wp_appW s x t ho v u v' hs hx hr (hK _ _ h)
/-- The first n words, as integers. -/
def wiL (F : Nat → BitVec 32) (n : Nat) : List Int := (List.range n).map fun k => un32 (F k)
theorem wiL_len (F : Nat → BitVec 32) (n : Nat) : (wiL F n).length = n := by simp [wiL]
theorem wiL_at (F : Nat → BitVec 32) (n k : Nat) (h : k < n) : (wiL F n)[k]? = some (un32 (F k)) := by simp [wiL, h]
set_option maxRecDepth 100000 in
theorem KOwnW_any (ao : Option Addr) (n cap : Nat) (F : Nat → BitVec 32) (w : World) (h : WordsAt w ao n F) (hn : n ≤ 100000) :
    Calls Tryz.prog 20 #[.slice ao n cap] w fun e w' => (∃ v, e = .returned v ∧ w'.ownsRow w.heap.size 27 1 v n ((wiL F n).map (Value.int .u32))) ∧ Below w.heap.size w w' := by
  have hown : (w.alloc (.cells #[] 27)).ownsRow w.heap.size 27 1 (.slice (some ⟨w.heap.size, 0, none⟩) 0 0) ([] : List Int).length (([] : List Int).map (Value.int .u32)) := World.ownsRow_lit w #[] 0 (Nat.le_refl _) (Nat.zero_le _) rfl
  have hb0 : Below w.heap.size w (w.alloc (.cells #[] 27)) := (Below.refl _ _).alloc (Nat.le_refl _) _
  have hsrc : wiL F n = [] ∨ ∃ b o, ao = some ⟨b, o, none⟩ ∧ ∀ j x, (wiL F n)[j]? = some x → (w.alloc (.cells #[] 27)).cell? ⟨b, o + j, none⟩ = some (.int .u32 x) := by
    by_cases h0 : 0 < n
    · obtain ⟨b, o, e, hl, hc⟩ := h h0
      refine .inr ⟨b, o, e, fun j x hx => ?_⟩
      have hj : j < n := by have := (List.getElem?_eq_some_iff.1 hx).1; rwa [wiL_len] at this
      rw [wiL_at F n j hj] at hx
      obtain rfl := Option.some.inj hx
      exact (hb0.cell (p := ⟨b, o + j, none⟩) hl).trans (hc j hj)
    · exact .inl (List.length_eq_zero_iff.1 (by rw [wiL_len]; omega))
  obtain ⟨v', w', hr, ho, hg, -⟩ := run_appW (w := w.alloc (.cells #[] 27)) 28 (.slice (some ⟨w.heap.size, 0, none⟩) 0 0) [] (wiL F n) ao cap hown hb0.size (by rw [wiL_len]; show 0 + n ≤ _; omega) hsrc
  have hB : Below w.heap.size w w' := hb0.grown hg hb0.size (fun k hk => (hown.lt k hk).1)
  rw [List.nil_append, wiL_len] at ho
  rw [wiL_len] at hr
  replace hr := Lib.hid hr
  clear h hown hb0 hg hsrc
  go_enter Tryz.func20, Tryz.ntmps20
  go_wp2_with (at_builtin; refine wpList_appW rfl (.tmp 3) (.tmp 4) 28 rfl _ _ _ rfl rfl hr.out ?_)
  go_ret
  exact ⟨⟨_, rfl, ho⟩, hB⟩
/-- words read as a list -/
structure RLW (w : World) (B : Nat) (v : Value) (l : List Int) : Prop where
  form : ∃ A c, v = .slice A l.length c ∧ l.length ≤ c ∧ c ≤ maxLen ∧ (l = [] ∨ ∃ b o, A = some ⟨b, o, none⟩ ∧ b < B ∧ ∀ j x, l[j]? = some x → w.cell? ⟨b, o + j, none⟩ = some (.int .u32 x))
theorem drop_atW {l : List Int} {k : Nat} (h : k < l.length) : ∃ x, l[k]? = some x ∧ l.drop k = x :: l.drop (k + 1) := ⟨l[k], List.getElem?_eq_getElem h, List.drop_eq_getElem_cons h⟩
def QuietW (w : World) (v : Value) (e : Ending) (w' : World) : Prop := e = .returned v ∧ ∃ q, w' = w.drewN q
theorem drew_exW (w : World) (q n : Nat) : ∃ q', (w.drewN q).drewN n = w.drewN q' := ⟨q + n, by simp [World.drewN, Nat.add_assoc]⟩
set_option maxRecDepth 100000 in
set_option maxHeartbeats 4000000 in
theorem SameW_any (v1 v2 : Value) (l1 l2 : List Int) (B1 B2 : Nat) (w : World) (h1 : RLW w B1 v1 l1) (h2 : RLW w B2 v2 l2) :
    Calls Tryz.prog 19 #[v1, v2] w (QuietW w (.bool (l1 == l2))) := by
  obtain ⟨A1, c1, rfl, a1, a2, a3⟩ := h1.form
  obtain ⟨A2, c2, rfl, b1, b2, b3⟩ := h2.form
  unfold maxLen at a2 b2
  by_cases hl : l1.length = l2.length
  · obtain ⟨R, hR⟩ : ∃ R, (l1 == l2) = R := ⟨_, rfl⟩
    rw [hR]
    replace hR := Lib.hid hR
    rw [← hl] at b1 ⊢
    have a4 := Lib.hid a3
    have b4 := Lib.hid b3
    replace hl := Lib.hid hl
    clear a3 b3 h1 h2
    go_enter Tryz.func19, Tryz.ntmps19
    go_wp2_with fail
    go_loopw [5] (fun i wr => ∃ k : Nat, k ≤ l1.length ∧ i = .int .i64 k ∧ (∃ q, wr = w.drewN q) ∧ Hid (∀ j, j < k → l1[j]? = l2[j]?)) (fun i _ => l1.length - (intOf i).toNat)
    case atStart => exact ⟨0, Nat.zero_le _, rfl, ⟨0, rfl⟩, Lib.hid fun j hj => absurd hj (Nat.not_lt_zero _)⟩
    case round =>
      obtain ⟨k, hk, rfl, ⟨q, rfl⟩, hsm⟩ := hrel
      by_cases hlt : k < l1.length
      · obtain ⟨x, hx, -⟩ := drop_atW hlt
        obtain ⟨y, hy, -⟩ := drop_atW (l := l2) (k := k) (by rw [← hl.out]; exact hlt)
        obtain ⟨p1, o1, rfl, -, hc1⟩ := a4.out.resolve_left (fun e => by rw [e] at hlt; exact absurd hlt (Nat.not_lt_zero _))
        obtain ⟨p2, o2, rfl, -, hc2⟩ := b4.out.resolve_left (fun e => by rw [hl.out, e] at hlt; exact absurd hlt (Nat.not_lt_zero _))
        have m1 : w.cell? ⟨p1, o1 + k, none⟩ = some (.int .u32 x) := hc1 k x hx
        have m2 : w.cell? ⟨p2, o2 + k, none⟩ = some (.int .u32 y) := hc2 k y hy
        have n0 : (0 : Int) ≤ (k : Int) ∧ (k : Int) < (l1.length : Int) := by omega
        obtain ⟨n1, n2⟩ := n0
        have n3 : k < c1 := by omega
        have n4 : k < c2 := by omega
        replace hc1 := Lib.hid hc1
        replace hc2 := Lib.hid hc2
        by_cases hxy : x = y
        · have hne : (x != y) = false := by rw [hxy]; simp
          have hsm2 : Hid (∀ j, j < k + 1 → l1[j]? = l2[j]?) := Lib.hid fun j hj => by
            by_cases e : j = k
            · subst e; rw [hx, hy, hxy]
            · exact hsm.out j (by omega)
          clear hx hy hxy
          go_upto_region 6 with fail
          go_quiet (fail)
          go_wp2_with fail
          go_roundw
          case rel => exact ⟨k + 1, by omega, by go_num, ⟨_, rfl⟩, hsm2⟩
          case measure => simp [intOf]; omega
        · have hne : (x != y) = true := by simpa using hxy
          have hRf : Hid (R = false) := Lib.hid (by
            rw [← hR.out, beq_eq_false_iff_ne]
            intro e
            rw [e, hy] at hx
            exact hxy (Option.some.inj hx).symm)
          clear hx hy hxy
          go_upto_region 6 with fail
          go_quiet (fail)
          go_wp2_with fail
          go_ret
          exact ⟨by rw [hRf.out]; rfl, drew_exW _ _ _⟩
      · obtain rfl : k = l1.length := by omega
        have hRt : Hid (R = true) := Lib.hid (by
          rw [← hR.out, beq_iff_eq]
          refine List.ext_getElem? fun j => ?_
          by_cases hj : j < l1.length
          · exact hsm.out j hj
          · rw [List.getElem?_eq_none (by omega), List.getElem?_eq_none (by rw [← hl.out]; omega)])
        go_wp2_with fail
        go_ret
        exact ⟨by rw [hRt.out]; rfl, q, rfl⟩
  · have hf : (l1 == l2) = false := by rw [beq_eq_false_iff_ne]; intro e; exact hl (by rw [e])
    rw [hf]
    have hne : ((l1.length : Int) != (l2.length : Int)) = true := by simp; omega
    have hne2 : (l1.length != l2.length) = true := by simpa using hl
    clear hf a3 b3 h1 h2
    go_enter Tryz.func19, Tryz.ntmps19
    go_wp2_with fail
    go_ret
    exact ⟨rfl, 0, rfl⟩
end Go.Proofs.YtdbpnbmaineniaaGreatDoor
namespace Go.Proofs.YtdbpnbmaineniaaGreatDoor
theorem wbL_byte (F : Nat → BitVec 32) (n k i : Nat) (hk : k < n) (hi : i < 4) : (wbL F n).getD (4 * k + i) 0 = byteAt ((F k).setWidth 64) i := by
  rw [List.getD, wbL_at F n k i hk hi]
  simp [bytesL, hi]
theorem low_32 (x : BitVec 32) : (Low (x.setWidth 64) 32).setWidth 32 = x := by
  apply BitVec.eq_of_getLsbD_eq
  intro j hj
  rw [BitVec.getLsbD_setWidth, Low_bit, BitVec.getLsbD_setWidth]
  simp [hj, show cl 32 = 32 from rfl, show j < 64 by omega]
theorem wordAt_wbL (F : Nat → BitVec 32) (n k : Nat) (hk : k < n) : wordAt (fun i => (wbL F n).getD i 0) k = F k := by
  unfold wordAt
  rw [OfK_congr _ (byteAt ((F k).setWidth 64)) 4 (fun i hi => wbL_byte F n k i hk hi), OfK_byteAt _ 4 (by decide)]
  exact low_32 (F k)
theorem wordsV_wbL (F : Nat → BitVec 32) (n : Nat) : ∀ k, k ≤ n → wordsV (fun i => (wbL F n).getD i 0) k = (wiL F k).map (Value.int .u32)
  | 0, _ => rfl
  | k + 1, h => by
    unfold wordsV
    rw [wordsV_wbL F n k (by omega), wordAt_wbL F n k (by omega)]
    unfold wiL
    rw [List.range_succ, List.map_append, List.map_append]
    rfl
theorem byteAt_bd (x : BitVec 64) (i : Nat) : 0 ≤ byteAt x i ∧ byteAt x i < 256 := by
  unfold byteAt
  exact ⟨Int.emod_nonneg _ (by decide), Int.emod_lt_of_pos _ (by decide)⟩
/-- The first and the last byte of a word, as the law has them. -/
theorem byte_first (x : BitVec 32) : byteAt (x.setWidth 64) 0 = un32 x % 256 := by
  unfold byteAt un un32
  simp
end Go.Proofs.YtdbpnbmaineniaaGreatDoor
namespace Go.Proofs.YtdbpnbmaineniaaGreatDoor
open Go.ChangeShapes Go.WideShapes Go.RowKit
section
variable {H : Type} {enc : TypeId × Value → H} {w : World} {base : Nat} {spare : Nat → Bool} {held : Bool}
theorem u32_bounds {a : Int} (h : (Lit.int .u32 a).wf = true) : 0 ≤ a ∧ a < 4294967296 := by
  have h2 : (decide (IntKind.u32.min ≤ a) && decide (a ≤ IntKind.u32.max)) = true := h
  simp only [Bool.and_eq_true, decide_eq_true_eq] at h2
  have e1 : IntKind.u32.min = 0 := by decide
  have e2 : IntKind.u32.max = 4294967295 := by decide
  rw [e1, e2] at h2; omega
theorem u8_bounds {a : Int} (h : (Lit.int .u8 a).wf = true) : 0 ≤ a ∧ a < 256 := by
  have h2 : (decide (IntKind.u8.min ≤ a) && decide (a ≤ IntKind.u8.max)) = true := h
  simp only [Bool.and_eq_true, decide_eq_true_eq] at h2
  have e1 : IntKind.u8.min = 0 := by decide
  have e2 : IntKind.u8.max = 255 := by decide
  rw [e1, e2] at h2; omega
theorem un32_of (a : Int) (h : 0 ≤ a ∧ a < 4294967296) : un32 (BitVec.ofInt 32 a) = a := by
  unfold un32; rw [BitVec.toNat_ofInt]; simp; omega
set_option maxRecDepth 100000 in
theorem openW_words {v : Value} {d : DataW H} {p : List MemPlace} (h : DataW.Trod enc Tryz.prog w base spare held 28 v d p)
    {r : Reach} {b0 : Nat} (hv : Value.okWide Tryz.prog w r b0 28 v) : ∃ ao n c F, v = .slice ao n c ∧ n ≤ c ∧ c ≤ maxLen ∧ WordsAt w ao n F := by
  obtain ⟨ao, n, c, rfl⟩ := okWide_slice Tryz.underlying28 hv
  obtain ⟨fuel, hf⟩ := h
  rcases open_ints Tryz.underlying28 Tryz.underlying27 (by kernel_rfl) hf with ⟨hcs, _⟩ | ⟨a, l, c2, zs, hcs, _, hl, hm, hz, _, hcell, hwz⟩
  · obtain ⟨rfl, rfl, rfl⟩ := Value.slice.inj (List.cons.inj hcs).1
    exact ⟨none, 0, 0, fun _ => 0#32, rfl, Nat.le_refl _, Nat.zero_le _, fun h => absurd h (Nat.lt_irrefl 0)⟩
  · obtain ⟨rfl, rfl, rfl⟩ := Value.slice.inj (List.cons.inj hcs).1
    have hlz : n ≤ zs.length := by rw [hz]; split <;> omega
    refine ⟨some a, n, c, fun k => BitVec.ofInt 32 (zs.getD k 0), rfl, hl, hm, fun h0 => ?_⟩
    obtain ⟨b, off, rfl, hc⟩ := ints_at hcell (show 0 < zs.length by omega)
    refine ⟨b, off, rfl, World.block_lt_of_cell? w _ (hc 0 (by omega)), fun k hk => ?_⟩
    rw [hc k (by omega), un32_of]
    have hm : zs.getD k 0 ∈ zs := by rw [List.getD, List.getElem?_eq_getElem (by omega)]; exact List.getElem_mem _
    exact u32_bounds (hwz _ hm)
set_option maxRecDepth 100000 in
theorem openW_bytes {v : Value} {d : DataW H} {p : List MemPlace} (h : DataW.Trod enc Tryz.prog w base spare held 31 v d p)
    {r : Reach} {b0 : Nat} (hv : Value.okWide Tryz.prog w r b0 31 v) : ∃ ao n c f, v = .slice ao n c ∧ n ≤ c ∧ (ao = none → c = 0) ∧ BytesAt w ao n f := by
  obtain ⟨ao, n, c, rfl⟩ := okWide_slice Tryz.underlying31 hv
  obtain ⟨fuel, hf⟩ := h
  rcases open_ints Tryz.underlying31 Tryz.underlying5 (by kernel_rfl) hf with ⟨hcs, _⟩ | ⟨a, l, c2, zs, hcs, _, hl, hm, hz, _, hcell, hwz⟩
  · obtain ⟨rfl, rfl, rfl⟩ := Value.slice.inj (List.cons.inj hcs).1
    exact ⟨none, 0, 0, fun _ => 0, rfl, Nat.le_refl _, fun _ => rfl, fun _ => ⟨Int.le_refl _, (by decide : (0 : Int) < 256)⟩, fun h => absurd h (Nat.lt_irrefl 0)⟩
  · obtain ⟨rfl, rfl, rfl⟩ := Value.slice.inj (List.cons.inj hcs).1
    have hlz : n ≤ zs.length := by rw [hz]; split <;> omega
    refine ⟨some a, n, c, fun k => zs.getD k 0, rfl, hl, (fun e => nomatch e), fun k => ?_, fun h0 => ?_⟩
    · show 0 ≤ zs.getD k 0 ∧ zs.getD k 0 < 256
      by_cases hk : k < zs.length
      · have hm : zs.getD k 0 ∈ zs := by rw [List.getD, List.getElem?_eq_getElem hk]; exact List.getElem_mem _
        exact u8_bounds (hwz _ hm)
      · rw [List.getD, List.getElem?_eq_none (by omega)]; decide
    · obtain ⟨b, off, rfl, hc⟩ := ints_at hcell (show 0 < zs.length by omega)
      exact ⟨b, off, rfl, World.block_lt_of_cell? w _ (hc 0 (by omega)), fun k hk => hc k (by omega)⟩
end
end Go.Proofs.YtdbpnbmaineniaaGreatDoor
