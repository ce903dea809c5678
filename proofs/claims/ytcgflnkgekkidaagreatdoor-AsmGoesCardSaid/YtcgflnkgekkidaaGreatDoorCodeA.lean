/- The table of the ops' parts: a map whose entries are known by a function; its store and its look-up. Plain: the words of instructions, on bit vectors. No program in sight. The walks of package code's digits and some. The walks of package code's amos and made: the table of the ops' parts. Plain: an instruction's word, and a word's instruction. No program in sight. Slices of words and of bytes that came in; rows of a call's own. Conditions: as each theorem says. -/
import Derived.Test.YtcgflnkgekkidaaGreatDoorProg
import Derived.Test.YtcgflnkgekkidaaGreatDoorInsnDf
import Derived.ProofKit
import Derived.Maps.OwnSet
import Derived.Maps.Views
import Derived.Lib.Hide
import Derived.Test.YtcgflnkgekkidaaGreatDoorRefDf
import Derived.Laws.IdiomStrings
set_option linter.unusedSimpArgs false
set_option linter.unusedVariables false
namespace Go.Proofs.YtcgflnkgekkidaaGreatDoor
open Go.RowKit Go.Maps
/-- An op's parts. -/
structure PartV where
  code : Int
  f3 : Int
  f7 : Int
  deriving DecidableEq
def PartV.cells (p : PartV) : Array Value := #[.int .u32 p.code, .int .i64 p.f3, .int .i64 p.f7]
def PartV.datum (p : PartV) : DataW Unit := .agg [.lit (.int .u32 p.code), .lit (.int .i64 p.f3), .lit (.int .i64 p.f7)]
theorem PartV.datum_inj {p q : PartV} (h : p.datum = q.datum) : p = q := by
  obtain ⟨a, b, c⟩ := p; obtain ⟨a', b', c'⟩ := q
  simp [PartV.datum] at h
  simp [h]
def noPart : PartV := ⟨0, 0, 0⟩
/-- How the table's elements read. -/
def partR : Value → Option (DataW Unit × List MemPlace)
  | .agg cs => match cs.toList with
    | [.int .u32 c, .int .i64 a, .int .i64 f] => some (PartV.datum ⟨c, a, f⟩, [])
    | _ => none
  | _ => none
theorem partR_mk (p : PartV) : partR (.agg p.cells) = some (p.datum, []) := rfl
theorem partR_inv {v : Value} {d : DataW Unit} {ps : List MemPlace} (h : partR v = some (d, ps)) : ∃ p : PartV, v = .agg p.cells ∧ d = p.datum := by
  unfold partR at h
  split at h
  · rename_i cs
    split at h
    · rename_i c a f he
      simp only [Option.some.injEq, Prod.mk.injEq] at h
      refine ⟨⟨c, a, f⟩, ?_, h.1.symm⟩
      rw [PartV.cells, ← he]
    · cases h
  · cases h
/-- Block b of w is a table of at most n entries: at each op its parts. -/
def TM (w : World) (b n : Nat) (T : Int → PartV) : Prop :=
  ∃ D : DataW Unit, w.ownsMap Tryz.prog 3 partR b n D ∧ ∀ k : Int, D.atKey (.int .i64 k) noPart.datum = (T k).datum
theorem TM.made (w : World) : TM (w.alloc (.map #[] 0)) w.heap.size 0 (fun _ => noPart) :=
  ⟨.map [], World.ownsMap_made _ _ _ _, fun _ => rfl⟩
theorem TM.mono {w : World} {b n n' : Nat} {T : Int → PartV} (h : TM w b n T) (hn : n ≤ n') : TM w b n' T := by
  obtain ⟨D, h1, h2⟩ := h; exact ⟨D, h1.mono hn, h2⟩
theorem TM.lt {w : World} {b n : Nat} {T : Int → PartV} (h : TM w b n T) : b < w.heap.size := by
  obtain ⟨D, h1, h2⟩ := h; exact h1.lt
theorem TM.grown {w w' : World} {b n : Nat} {T : Int → PartV} {row : Option Nat} (h : TM w b n T) (hg : w.grownBy w' row) (hne : some b ≠ row) : TM w' b n T := by
  obtain ⟨D, h1, h2⟩ := h; exact ⟨D, h1.kept hg hne, h2⟩
theorem TM.alloc {w : World} {b n : Nat} {T : Int → PartV} (h : TM w b n T) (o : Obj) : TM (w.alloc o) b n T := h.grown (World.grownBy_alloc w o none) (by simp)
theorem TM.drew {w : World} {b n : Nat} {T : Int → PartV} (h : TM w b n T) : TM w.drew b n T := h
theorem TM.drewN {w : World} {b n : Nat} {T : Int → PartV} (h : TM w b n T) (k : Nat) : TM (w.drewN k) b n T := h
theorem grown_below {w w' : World} (hb : Below w.heap.size w w') (row : Option Nat) : w.grownBy w' row := ⟨hb.os, hb.tape, hb.output, hb.size, fun k hk _ => hb.block k hk⟩
theorem TM.keep {w w' : World} {b n : Nat} {T : Int → PartV} (h : TM w b n T) (hb : Below w.heap.size w w') : TM w' b n T := h.grown (grown_below hb none) (by simp)
theorem grown_trans {a b c : World} {row : Option Nat} (h : a.grownBy b row) (k : b.grownBy c row) : a.grownBy c row :=
  ⟨k.os.trans h.os, k.tape.trans h.tape, k.output.trans h.output, Nat.le_trans h.size k.size, fun i hi hne => (k.block i (Nat.lt_of_lt_of_le hi h.size) hne).trans (h.block i hi hne)⟩
theorem grown_refl (w : World) (row : Option Nat) : w.grownBy w row := ⟨rfl, rfl, rfl, Nat.le_refl _, fun _ _ _ => rfl⟩
theorem TM.congr {w : World} {b n : Nat} {T T' : Int → PartV} (h : TM w b n T) (e : ∀ k, T k = T' k) : TM w b n T' := by
  obtain ⟨D, h1, h2⟩ := h; exact ⟨D, h1, fun k => by rw [h2 k, e k]⟩
def TSet (T : Int → PartV) (k : Int) (p : PartV) : Int → PartV := fun j => if j = k then p else T j
theorem int_law : Keyed Tryz.prog 3 := int_keyed Tryz.underlying3
/-- A store into the table. -/
theorem wpList_tm_put {t : TypeId} {w : World} {ops : Array Oper} {rest : List Oper} {o : Oper} {a : Act} {Q : Exit → Act → World → Prop}
    (hg : o.guard = none) (m x v : Operand) (hop : o.op = Op.mapUpdate t m x v) (ht : Tryz.prog.underlying t = some (.map 3 139))
    (b n : Nat) (T : Int → PartV) (hm : a.eval m = .map (some b)) (hown : TM w b n T) (hn : n < maxLen) (k : Int) (p : PartV)
    (hx : a.eval x = .int .i64 k) (hv : a.eval v = .agg p.cells) (hw : (Lit.int .i64 k).wf = true)
    (hK : ∀ w', TM w' b (n + 1) (TSet T k p) → w.grownBy w' (some b) → wpList Tryz.prog ops Q rest (a.put o.dst undef) w') :
    wpList Tryz.prog ops Q (o :: rest) a w := by
  obtain ⟨D, h1, h2⟩ := hown
  refine wpList_mapUpdate_own w hg m x v t hop 3 139 int_law ht partR b n D hm h1 hn _ _ (.int .i64 k) hx hv (keyOf_int_mk Tryz.underlying3 hw) p.datum [] (partR_mk p) ?_
  intro w' o1 g1
  refine hK w' ⟨_, o1, fun j => ?_⟩ g1
  unfold TSet
  by_cases e : j = k
  · rw [if_pos e, e]; exact atKey_put_same h1.isMap (show WideAt.IsKeyLit (.int .i64 k) from trivial) _ _
  · rw [if_neg e, atKey_put_other (fun h => e (by injection h)) _ _]; exact h2 j
theorem zeroPart (w : World) : (zeroValue 139).run Tryz.prog w = .ok (.agg noPart.cells) w := by kernel_rfl
/-- A look-up in the table. -/
theorem wpList_tm_get {t : TypeId} {w : World} {ops : Array Oper} {rest : List Oper} {o : Oper} {a : Act} {Q : Exit → Act → World → Prop}
    (hg : o.guard = none) (m x : Operand) (hop : o.op = Op.lookup t m x false) (ht : Tryz.prog.underlying t = some (.map 3 139))
    (b n : Nat) (T : Int → PartV) (hm : a.eval m = .map (some b)) (hown : TM w b n T) (k : Int)
    (hx : a.eval x = .int .i64 k) (hw : (Lit.int .i64 k).wf = true)
    (hK : wpList Tryz.prog ops Q rest (a.put o.dst (.agg (T k).cells)) w) :
    wpList Tryz.prog ops Q (o :: rest) a w := by
  obtain ⟨D, h1, h2⟩ := hown
  refine wpList_plain hg fun K' hK' => ?_
  obtain ⟨v, ps, hrun, hR⟩ := h1.lookup int_law ht (zeroPart w) (partR_mk noPart) (keyOf_int_mk Tryz.underlying3 hw)
  rw [h2 k] at hR
  obtain ⟨q, rfl, hq⟩ := partR_inv hR
  rw [← PartV.datum_inj hq] at hrun
  unfold Oper.wp
  simp [execOp, hop, hm, hx, hrun, Result.andThen]
  exact hK' _ _ hK
end Go.Proofs.YtcgflnkgekkidaaGreatDoor
namespace Go.Proofs.YtcgflnkgekkidaaGreatDoor
/-- The pieces of a form's number: from, how many, where. -/
def pieces (f : Int) : List (Int × Int × Int) :=
  if f = 1 then [(0, 20, 12)]
  else if f = 2 then [(12, 8, 12), (11, 1, 20), (1, 10, 21), (20, 1, 31)]
  else if f = 3 ∨ f = 4 then [(0, 12, 20)]
  else if f = 5 then [(0, 5, 7), (5, 7, 25)]
  else if f = 6 then [(11, 1, 7), (1, 4, 8), (5, 6, 25), (12, 1, 31)]
  else []
def pieceBits (f : Int) : Int := if f = 1 then 20 else if f = 2 then 21 else if f = 3 ∨ f = 4 then 12 else if f = 5 then 12 else if f = 6 then 13 else 0
/-- The first k pieces are put. -/
def immPut (n : BitVec 64) (l : List (Int × Int × Int)) (w : BitVec 64) : Nat → BitVec 64
  | 0 => w
  | k + 1 => let p := l.getD k (0, 0, 0); Put (immPut n l w k) p.2.2 p.2.1 (Part n p.1 p.2.1)
def mk64 (b : Bool) : BitVec 64 := if b then 1#64 else 0#64
def hasL (l : List Int) (f : Int) : Bool := l.contains f
/-- An instruction's word by its form and its op's parts. -/
def wordG (f : Int) (p : PartV) (i : InsnV) : BitVec 64 :=
  let w1 := immPut (bv i.imm) (pieces f) (bv p.code) (pieces f).length
  let w2 := if hasL [1, 2] f then w1 else Put w1 12 3 (bv p.f3)
  let w3 := if hasL [1, 2, 3, 4, 7, 8, 11, 12] f then Put w2 7 5 (bv i.rd) else w2
  let w4 := if hasL [3, 4, 7, 8, 11, 12, 5, 6] f then Put w3 15 5 (bv i.rs1) else w3
  if f = 5 ∨ f = 6 then Put w4 20 5 (bv i.rs2)
  else if f = 8 then Put (Put w4 20 5 (bv i.rs2)) 25 7 (bv p.f7)
  else if f = 7 then w4 ||| (bv p.f7 <<< 25 ||| bv i.imm <<< 20)
  else if f = 11 ∨ f = 12 then Put (Put w4 20 5 (bv i.rs2)) 25 7 (bv p.f7 ||| mk64 i.aq <<< 1 ||| mk64 i.rl)
  else if f = 9 then Put (Put w4 20 4 (bv i.succ)) 24 4 (bv i.pred)
  else if f = 10 then w4 ||| mk64 (i.op == 65) <<< 20
  else w4
/-- A uint32's integer. -/
def un32 (x : BitVec 32) : Int := (x.toNat : Int)
theorem wrap_u32_un (x : BitVec 64) : IntKind.u32.wrap (un x) = un32 (x.setWidth 32) := by
  unfold un un32
  simp [IntKind.wrap, IntKind.bits, IntKind.signed]
theorem ofNat_mod (a : Int) : BitVec.ofNat 64 (a % 2 ^ IntKind.i64.bits).toNat = BitVec.ofInt 64 a := by
  apply BitVec.eq_of_toNat_eq
  have h : (0 : Int) ≤ a % 18446744073709551616 := Int.emod_nonneg _ (by decide)
  have h2 : a % 18446744073709551616 < 18446744073709551616 := Int.emod_lt_of_pos _ (by decide)
  simp [BitVec.toNat_ofInt, IntKind.bits]
  omega
theorem bits_i64_or (a b : Int) : bits .or .i64 a b = sn (bv a ||| bv b) := by
  show IntKind.i64.wrap _ = _
  rw [wrap_i64_sn]
  unfold bv
  simp [ofNat_mod]
end Go.Proofs.YtcgflnkgekkidaaGreatDoor
namespace Go.Proofs.YtcgflnkgekkidaaGreatDoor
open Go.RowKit
theorem Tryz.info_int' : (Tryz.prog.info? 3).map (fun i => (i.zero, i.size, i.bytes)) = some (some (.int .i64 0), 1, 8) := by kernel_rfl
/-- The small numbers of a text. -/
def digL (l : List UInt8) : List Int := l.map fun c => ((c.toNat : Int) - 48) % 256
theorem digL_len (l : List UInt8) : (digL l).length = l.length := by unfold digL; simp
theorem digL_snoc (s : ByteArray) (k : Nat) (h : k < s.size) : digL (s.data.toList.take (k + 1)) = digL (s.data.toList.take k) ++ [((s[k].toNat : Int) - 48) % 256] := by
  unfold digL
  rw [List.take_succ_eq_append_getElem (by simpa using h), List.map_append]; rfl
theorem cell_new_any (w : World) (C : Array Value) (t : TypeId) (f : Nat × Nat) (j : Nat) : ((w.alloc (.cells C t f)).drew).cell? ⟨w.heap.size, j, none⟩ = C[j]? := by
  show (w.alloc (.cells C t f)).cell? ⟨w.heap.size, j, none⟩ = _
  simp only [World.cell?, World.alloc, Array.getElem?_push]
  simp
set_option maxRecDepth 100000 in
set_option maxHeartbeats 1000000 in
theorem CDigits_any (s : ByteArray) (w : World) (hs : s.size ≤ 1000) :
    Calls Tryz.prog 124 #[.string s] w (NewInts w (digL s.data.toList)) := by
  have hcv := run_bytes_of_string (P := Tryz.prog) w 9 174 5 s Tryz.underlying9 Tryz.underlying174 Tryz.underlying5
  generalize grownCap w s.size 0 5 = cap at hcv
  have hrow : ∀ j (hj : j < s.size), (bytesRow s cap)[j]? = some (.int .u8 (s[j].toNat : Int)) := fun j hj => bytesRow_at s cap j hj
  have hrow := Lib.hid hrow
  generalize bytesRow s cap = C at hcv hrow
  obtain ⟨i0, hi, hz0, hz1, hz2⟩ := info_parts Tryz.info_int'
  have hi' := Lib.hid hi; have hz0' := Lib.hid hz0; have hz1' := Lib.hid hz1; have hz2' := Lib.hid hz2; clear hi hz0 hz1 hz2
  have hsn := Lib.hid (digL_snoc s)
  obtain ⟨R, hR⟩ : ∃ R : Nat → List Int, R = fun k => digL (s.data.toList.take k) := ⟨_, rfl⟩
  have hRl : Hid (∀ k, (R k).length ≤ k) := Lib.hid fun k => by rw [hR]; show (digL (s.data.toList.take k)).length ≤ k; rw [digL_len]; exact List.length_take_le _ _
  have hR0 : Hid (R 0 = []) := Lib.hid (by rw [hR]; rfl)
  have hRn : Hid (R s.size = digL s.data.toList) := Lib.hid (by rw [hR]; show digL (s.data.toList.take s.size) = _; rw [List.take_of_length_le (by simp)])
  have hRs : Hid (∀ k (h : k < s.size), R (k + 1) = R k ++ [((s[k].toNat : Int) - 48) % 256]) := Lib.hid fun k h => by rw [hR]; exact hsn.out k h
  clear hR hsn
  go_enter Tryz.func124, Tryz.ntmps124
  go_wp2
  have hbw : Below w.heap.size w ((w.alloc (.cells C 5 (C.size, C.size + 1))).drew) := ((Below.refl _ _).alloc (Nat.le_refl _) _).drew
  have hcell : Hid (∀ j (hj : j < s.size) (W : World), Below (w.heap.size + 1) ((w.alloc (.cells C 5 (C.size, C.size + 1))).drew) W → W.cell? ⟨w.heap.size, j, none⟩ = some (.int .u8 (s[j].toNat : Int))) := Lib.hid fun j hj W hW => by
    rw [hW.cell (p := ⟨w.heap.size, j, none⟩) (Nat.lt_succ_self _)]
    exact (cell_new_any w C _ _ j).trans (hrow.out j hj)
  have hz : ((w.alloc (.cells C 5 (C.size, C.size + 1))).drew).heap.size = w.heap.size + 1 := by simp
  generalize (w.alloc (.cells C 5 (C.size, C.size + 1))).drew = W1 at hbw hcell hz
  replace hz := Lib.hid hz
  clear hcv hrow
  go_loopw [2, 8] (fun v i wr => ∃ k : Nat, k ≤ s.size ∧ i = .int .i64 k ∧ wr.ownsRow W1.heap.size 3 1 v (R k).length ((R k).map (Value.int .i64)) ∧ Below W1.heap.size W1 wr) (fun _ i _ => s.size - (intOf i).toNat)
  case atStart => exact ⟨0, Nat.zero_le _, rfl, by rw [hR0.out]; exact World.ownsRow_nil _ _ _ _, Below.refl _ _⟩
  case round =>
    obtain ⟨k, hk, rfl, hown, hb⟩ := hrel
    have hlen := hRl.out k
    by_cases hlt : k < s.size
    · have hq : Hid ((R k).map (Value.int .i64) ++ [Value.int .i64 (((s[k].toNat : Int) - 48) % 256)] = (R (k + 1)).map (Value.int .i64) ∧ (R k).length + 1 = (R (k + 1)).length) := Lib.hid (by rw [hRs.out k hlt]; simp)
      have ck := hcell.out k hlt wr (hb.mono (by rw [hz.out]; exact Nat.le_refl _))
      have hc8 := s[k].toNat_lt
      generalize (s[k].toNat : Int) = c at hq ck
      go_wp2_with (first | (at_builtin; refine wpList_append_own _ rfl _ _ 32 rfl W1.heap.size 3 i0 (.int .i64 0) 1 8 Tryz.underlying32 hi'.out hz0'.out hz1'.out hz2'.out rfl (by decide) _ (R k).length _ rfl (hown.alloc _) ⟨wr.heap.size, 0, none⟩ 1 1 [.int .i64 ((c - 48) % 256)] rfl rfl ?c1 ?c2 ?c3 ?c4 ?c5 ?_))
      case c1 => exact cell_new1 _ _ _
      case c2 => simp [Value.oneCell']
      case c3 => unfold maxLen; omega
      case c4 => omega
      case c5 => have := hb.size; simp; omega
      intro v' w1 hown' hgrow _
      rw [hq.out.1, hq.out.2] at hown'
      have hb1 : Below W1.heap.size W1 w1 := (hb.alloc hb.size _).grown hgrow (by have := hb.size; simp; omega) (fun j hj => (World.ownsRow.lt hown j hj).1)
      clear hown hb hgrow
      go_wp2
      go_roundw
      case rel => exact ⟨k + 1, by omega, by go_num, hown', hb1⟩
      case measure => simp [intOf]; omega
    · obtain rfl : k = s.size := by omega
      go_wp2_with fail
      go_ret
      rw [hRn.out] at hown
      exact ⟨⟨_, rfl, ownsRow_low hown hbw.size⟩, hbw.trans (hb.mono hbw.size)⟩
/-- What an op of a row gets. -/
def someP (code : Int) (ds : List Int) (mk : List UInt8) (f7 : Int) (j : Nat) : PartV := ⟨code, ds.getD j 0, if mk ≠ [] ∧ mk.getD j 0 = 49 then f7 else 0⟩
def someT (T : Int → PartV) (first code : Int) (ds : List Int) (mk : List UInt8) (f7 : Int) : Nat → (Int → PartV)
  | 0 => T
  | k + 1 => TSet (someT T first code ds mk f7 k) (first + k) (someP code ds mk f7 k)
theorem someP_yes (code : Int) (L : List Int) (s : ByteArray) (f7 d : Int) (k : Nat) (h : k < s.size) (hd : L.getD k 0 = d) (h49 : ((s[k].toNat : Int) == 49) = true) : someP code L s.data.toList f7 k = ⟨code, d, f7⟩ := by
  unfold someP
  have e : s.data.toList.getD k 0 = s[k] := by rw [List.getD_eq_getElem?_getD, List.getElem?_eq_getElem (by simpa using h)]; rfl
  rw [hd, e, if_pos]
  refine ⟨fun h0 => ?_, ?_⟩
  · have h3 : s.data.toList.length = s.size := by simp
    rw [h0] at h3
    simp at h3
    omega
  · have h3 : (s[k].toNat : Int) = 49 := by simpa using h49
    exact UInt8.toNat_inj.1 (show s[k].toNat = 49 by omega)
theorem someP_no (code : Int) (L : List Int) (s : ByteArray) (f7 d : Int) (k : Nat) (hd : L.getD k 0 = d) (h49 : s.toList = [] ∨ ∃ h : k < s.size, ((s[k].toNat : Int) == 49) = false) : someP code L s.data.toList f7 k = ⟨code, d, 0⟩ := by
  unfold someP
  rw [hd, if_neg]
  rintro ⟨h1, h2⟩
  rcases h49 with h0 | ⟨h, h0⟩
  · exact h1 (by rw [← ba_toList]; exact h0)
  · have e : s.data.toList.getD k 0 = s[k] := by rw [List.getD_eq_getElem?_getD, List.getElem?_eq_getElem (by simpa using h)]; rfl
    rw [e] at h2
    rw [h2] at h0
    exact absurd h0 (by decide)
theorem ownBlock_ne {w : World} {base b : Nat} {e : TypeId} {v : Value} {n : Nat} {xs : List Value} (h : w.ownsRow base e 1 v n xs) (hb : b < base) : v.ownBlock = none ∨ v.ownBlock ≠ some b := by
  rcases h.2 with ⟨rfl, _⟩ | ⟨g, cap, cur, rfl, h2, _⟩
  · exact .inl rfl
  · refine .inr ?_; simp [Value.ownBlock]; omega
set_option maxRecDepth 100000 in
set_option maxHeartbeats 2000000 in
theorem Some_any (b n : Nat) (T : Int → PartV) (first code : Int) (s mk : ByteArray) (f7 : Int) (w : World) (hT : TM w b n T) (hn : n ≤ 1000) (hf : 0 ≤ first ∧ first ≤ 1000) (hs : s.size ≤ 100) (hm : mk.size = 0 ∨ s.size ≤ mk.size) (hm2 : mk.size ≤ 1000) :
    Calls Tryz.prog 98 #[.map (some b), .int .i64 first, .int .u32 code, .string s, .string mk, .int .i64 f7] w fun e w' => e = .returned (.tuple #[]) ∧ TM w' b (n + s.size) (someT T first code (digL s.data.toList) mk.data.toList f7 s.size) ∧ w.grownBy w' (some b) := by
  have hbl := hT.lt
  have hD := Lib.hid (fun W => CDigits_any s W (by omega))
  have hlen : (digL s.data.toList).length = s.size := by rw [digL_len]; simp
  obtain ⟨L, hL⟩ : ∃ L, L = digL s.data.toList := ⟨_, rfl⟩
  rw [← hL] at hD hlen ⊢
  clear hL
  rw [← hlen] at hm hs ⊢
  clear hlen
  obtain ⟨R, hR⟩ : ∃ R : Nat → (Int → PartV), R = someT T first code L mk.data.toList f7 := ⟨_, rfl⟩
  have hR0 : Hid (R 0 = T) := Lib.hid (by rw [hR]; rfl)
  have hRs : Hid (∀ k : Nat, R (k + 1) = TSet (R k) (first + k) (someP code L mk.data.toList f7 k)) := Lib.hid (fun k => by rw [hR]; rfl)
  have hRn : Hid (R L.length = someT T first code L mk.data.toList f7 L.length) := Lib.hid (by rw [hR])
  rw [← hRn.out]
  clear hR hRn
  go_enter Tryz.func98, Tryz.ntmps98
  go_wp2_with (go_at_call 124; refine (hD.out _).mono ?_; rintro e w1 ⟨⟨vs, rfl, hown⟩, hb1⟩; obtain ⟨ao, cap, rfl⟩ := own_slice hown)
  have hne := ownBlock_ne hown hbl
  go_loopw [18] (fun i wr => ∃ k : Nat, k ≤ L.length ∧ i = .int .i64 k ∧ TM wr b (n + k) (R k) ∧ w.grownBy wr (some b) ∧ w1.grownBy wr (some b)) (fun i _ => L.length - (intOf i).toNat)
  case atStart => exact ⟨0, Nat.zero_le _, rfl, by rw [hR0.out]; exact hT.keep hb1, grown_below hb1 _, grown_refl _ _⟩
  case round =>
    obtain ⟨k, hk, rfl, hTk, hg, hg1⟩ := hrel
    have hown' := hown.kept hg1 hne
    by_cases hlt : k < L.length
    · obtain ⟨g, rfl, ck⟩ := own_cell hown' k hlt
      have hnx := Lib.hid (hRs.out k)
      obtain ⟨d, hd⟩ : ∃ d, L.getD k 0 = d := ⟨_, rfl⟩
      rw [hd] at ck
      replace hd := Lib.hid hd
      go_wp2_with (at_mapUpdate; refine wpList_tm_put rfl _ _ _ rfl Tryz.underlying111 b (n + k) (R k) rfl (hTk.alloc _) (by unfold maxLen; omega) _ ⟨code, d, _⟩ rfl rfl (WalkArith.wf_i64 (by omega)) ?_; intro w2 hT2 hg2)
      · have hpp := someP_no code L mk f7 d k hd.out (.inl ‹mk.toList = []›)
        rw [← hpp, ← hnx.out, Nat.add_assoc] at hT2
        replace hg2 := grown_trans (World.grownBy_alloc wr _ (some b)) hg2
        clear hpp
        go_roundw
        case rel => exact ⟨k + 1, by omega, by go_num, hT2, grown_trans hg hg2, grown_trans hg1 hg2⟩
        case measure => simp [intOf]; omega
      · have hkm : k < mk.size := by assumption
        have h49 : (!mk.toList.isEmpty) = true ∧ ((mk[k].toNat : Int) == 49) = true := by assumption
        have hpp := someP_yes code L mk f7 d k hkm hd.out h49.2
        rw [← hpp, ← hnx.out, Nat.add_assoc] at hT2
        replace hg2 := grown_trans (World.grownBy_alloc wr _ (some b)) hg2
        clear hpp
        go_roundw
        case rel => exact ⟨k + 1, by omega, by go_num, hT2, grown_trans hg hg2, grown_trans hg1 hg2⟩
        case measure => simp [intOf]; omega
      · have hkm : k < mk.size := by assumption
        have hne0 : ¬ mk.toList = [] := by assumption
        have h49 : (!mk.toList.isEmpty) = false ∨ ((mk[k].toNat : Int) == 49) = false := by assumption
        have hpp := someP_no code L mk f7 d k hd.out (.inr ⟨hkm, h49.resolve_left (by simpa using hne0)⟩)
        rw [← hpp, ← hnx.out, Nat.add_assoc] at hT2
        replace hg2 := grown_trans (World.grownBy_alloc wr _ (some b)) hg2
        clear hpp
        go_roundw
        case rel => exact ⟨k + 1, by omega, by go_num, hT2, grown_trans hg hg2, grown_trans hg1 hg2⟩
        case measure => simp [intOf]; omega
      · exfalso
        have h1 : ¬ mk.toList = [] := by assumption
        have h2 : ¬ k < mk.size := by assumption
        exact hm.elim (fun h => h1 (ba_empty h)) (fun h => by omega)
    · obtain rfl : k = L.length := by omega
      go_wp2_with fail
      go_end0
      exact ⟨rfl, hTk, hg⟩
end Go.Proofs.YtcgflnkgekkidaaGreatDoor
namespace Go.Proofs.YtcgflnkgekkidaaGreatDoor
open Go.RowKit
def amoL : List Int := [1, 0, 4, 12, 8, 16, 20, 24, 28]
theorem Amos_any (w : World) : Calls Tryz.prog 99 #[] w (NewInts w amoL) := by
  go_enter Tryz.func99, Tryz.ntmps99
  go_wp2
  go_ret
  refine ⟨⟨_, rfl, ?_⟩, (Below.refl _ _).alloc (Nat.le_refl _) _⟩
  exact World.ownsRow_lit (e := 3) (size := 1) w #[.int .i64 1, .int .i64 0, .int .i64 4, .int .i64 12, .int .i64 8, .int .i64 16, .int .i64 20, .int .i64 24, .int .i64 28] 9 (Nat.le_refl _) (by decide) rfl
def lrT (T : Int → PartV) (i : Int) : Int → PartV := TSet (TSet T (66 + i) ⟨47, 2 + i, 8⟩) (68 + i) ⟨47, 2 + i, 12⟩
def amT (T : Int → PartV) (first f3 : Int) : Nat → (Int → PartV)
  | 0 => T
  | k + 1 => TSet (amT T first f3 k) (first + k) ⟨47, f3, amoL.getD k 0 * 4⟩
def rdT (T : Int → PartV) (i : Int) : Int → PartV := amT (lrT T i) (70 + 9 * i) (2 + i) 9
/-- The rows of the table: first op, opcode, funct3s, marks, the other funct7. -/
def codeRows : List (Int × Int × List UInt8 × List UInt8 × Int) := [
  (1, 0x37, [48], [], 0), (2, 0x17, [48], [], 0), (3, 0x6f, [48], [], 0), (4, 0x67, [48], [], 0),
  (5, 0x63, [48, 49, 52, 53, 54, 55], [], 0), (11, 0x03, [48, 49, 50, 51, 52, 53, 54], [], 0), (18, 0x23, [48, 49, 50, 51], [], 0),
  (22, 0x13, [48, 50, 51, 52, 54, 55, 49, 53, 53], [48, 48, 48, 48, 48, 48, 48, 48, 49], 32), (31, 0x1b, [48, 49, 53, 53], [48, 48, 48, 49], 32),
  (35, 0x33, [48, 48, 49, 50, 51, 52, 53, 53, 54, 55], [48, 49, 48, 48, 48, 48, 48, 49, 48, 48], 32), (45, 0x3b, [48, 48, 49, 53, 53], [48, 49, 48, 48, 49], 32),
  (50, 0x33, [48, 49, 50, 51, 52, 53, 54, 55], [49, 49, 49, 49, 49, 49, 49, 49], 1), (58, 0x3b, [48, 52, 53, 54, 55], [49, 49, 49, 49, 49], 1),
  (63, 0x0f, [48], [], 0), (64, 0x73, [48, 48], [], 0)]
def rowT (T : Int → PartV) (r : Int × Int × List UInt8 × List UInt8 × Int) : Int → PartV := someT T r.1 r.2.1 (digL r.2.2.1) r.2.2.2.1 r.2.2.2.2 r.2.2.1.length
def rowsT : Int → PartV := codeRows.foldl rowT (fun _ => noPart)
def madeT : Int → PartV := rdT (rdT rowsT 0) 1
theorem cell_grown {w w' : World} {row : Option Nat} (hg : w.grownBy w' row) {g j : Nat} {v : Option Value} (hl : g < w.heap.size) (hne : some g ≠ row) (h : w.cell? ⟨g, j, none⟩ = v) : w'.cell? ⟨g, j, none⟩ = v := by
  rw [World.cell?_of_block (w := w) (hg.block g hl hne)]; exact h
theorem amoL_bd (q : Nat) : 0 ≤ amoL.getD q 0 ∧ amoL.getD q 0 ≤ 28 := by
  by_cases h : q < 9
  · have : ∀ q : Fin 9, 0 ≤ amoL.getD q 0 ∧ amoL.getD q 0 ≤ 28 := by decide
    exact this ⟨q, h⟩
  · rw [List.getD_eq_getElem?_getD, List.getElem?_eq_none (by show 9 ≤ q; omega)]; decide
set_option maxRecDepth 100000 in
set_option maxHeartbeats 4000000 in
theorem Made_any (w : World) : Calls Tryz.prog 75 #[] w fun e w' => e = .returned (.map (some w.heap.size)) ∧ TM w' w.heap.size 200 madeT ∧ Below w.heap.size w w' := by
  have hmm := @run_makeMap Tryz.prog
  have hT := TM.made w
  have hg := grown_refl (w.alloc (.map #[] 0)) (some w.heap.size)
  have hbw : Below w.heap.size w (w.alloc (.map #[] 0)) := (Below.refl _ _).alloc (Nat.le_refl _) _
  go_enter Tryz.func75, Tryz.ntmps75
  go_wp2_with (go_at_call 98; refine (Some_any _ _ _ _ _ _ _ _ _ hT (by decide) (by decide) (by decide) (by first | exact .inl rfl | exact .inr (by decide)) (by decide)).mono ?_; rintro e w1 ⟨rfl, hT1, hg1⟩; have hT2 := hT1; have hg2 := grown_trans hg hg1; clear hT hg hT1 hg1; have hT := hT2; have hg := hg2; clear hT2 hg2)
  replace hT : TM w1 w.heap.size 65 rowsT := hT.mono (by decide)
  have hsz := Lib.hid hT.lt
  have hne : w1.heap.size ≠ w.heap.size := fun e => by have := hT.lt; omega
  generalize hR0 : rowsT = T0 at hT
  replace hR0 := Lib.hid hR0
  have hne1 := hne
  have hT4 := hT.alloc (.cells #[.int .i64 2, .int .i64 3] 3)
  have hg4 := grown_trans hg (World.grownBy_alloc w1 (.cells #[.int .i64 2, .int .i64 3] 3) _)
  have c0 : (w1.alloc (.cells #[.int .i64 2, .int .i64 3] 3)).cell? ⟨w1.heap.size, 0, none⟩ = some (.int .i64 2) := by rw [World.cell?_alloc_new]; rfl
  have c1 : (w1.alloc (.cells #[.int .i64 2, .int .i64 3] 3)).cell? ⟨w1.heap.size, 1, none⟩ = some (.int .i64 3) := by rw [World.cell?_alloc_new]; rfl
  have lt1 : w1.heap.size < (w1.alloc (.cells #[.int .i64 2, .int .i64 3] 3)).heap.size := by simp
  generalize w1.alloc (.cells #[.int .i64 2, .int .i64 3] 3) = w0 at hT4 hg4 c0 c1 lt1
  generalize w1.heap.size = g1 at *
  clear hT hg
  go_loopw [40] (fun i wr => (i = .int .i64 0 ∧ wr = w0) ∨ ((i = .int .i64 1 ∧ TM wr w.heap.size 76 (rdT T0 0)) ∨ (i = .int .i64 2 ∧ TM wr w.heap.size 87 (rdT (rdT T0 0) 1))) ∧ w0.grownBy wr (some w.heap.size)) (fun i _ => 2 - (intOf i).toNat)
  case atStart => exact .inl ⟨rfl, rfl⟩
  case round =>
    rcases hrel with ⟨rfl, rfl⟩ | ⟨⟨rfl, hT⟩ | ⟨rfl, hT⟩, hgo⟩
    · have hT := hT4
      have hgo := grown_refl wr (some w.heap.size)
      go_wp2_with (first | (at_mapUpdate; refine wpList_tm_put rfl _ _ _ rfl Tryz.underlying112 w.heap.size _ _ rfl hT (by decide) _ ⟨47, 2, _⟩ rfl rfl (by decide) ?_; intro w2 hT2 hg2; have hT3 := hT2; have hgo3 := grown_trans hgo hg2; clear hT hgo; have hT := hT3; have hgo := hgo3; clear hT3 hgo3 hT2 hg2) | (go_at_call 99; refine (Amos_any _).mono ?_; rintro e w4 ⟨⟨vs, rfl, hown⟩, hb4⟩; rw [show amoL.length = 9 from rfl] at hown; obtain ⟨ao, cap, rfl⟩ := own_slice hown))
      have hne4 := ownBlock_ne hown (Nat.lt_of_lt_of_le (Nat.lt_trans hsz.out lt1) hgo.size)
      replace hT := hT.keep hb4
      replace hgo := grown_trans hgo (grown_below hb4 _)
      replace hT : TM w4 w.heap.size 67 (lrT T0 0) := hT
      have hR0 : Hid (amT (lrT T0 0) 70 2 0 = lrT T0 0) := Lib.hid rfl
      have hRs : Hid (∀ q : Nat, amT (lrT T0 0) 70 2 (q + 1) = TSet (amT (lrT T0 0) 70 2 q) (70 + q) ⟨47, 2, amoL.getD q 0 * 4⟩) := Lib.hid fun _ => rfl
      have hRn : Hid (amT (lrT T0 0) 70 2 9 = rdT T0 0) := Lib.hid rfl
      generalize amT (lrT T0 0) 70 2 = R at hR0 hRs hRn
      rw [← hR0.out] at hT
      clear hR0
      go_loopw [59] (fun j wx => ∃ q : Nat, q ≤ 9 ∧ j = .int .i64 q ∧ TM wx w.heap.size (67 + q) (R q) ∧ w4.grownBy wx (some w.heap.size)) (fun j _ => 9 - (intOf j).toNat)
      case atStart => exact ⟨0, by decide, rfl, hT, grown_refl _ _⟩
      case round =>
        obtain ⟨q, hq, rfl, hTq, hgq⟩ := hrel
        by_cases hlt : q < 9
        · obtain ⟨g, rfl, ck⟩ := own_cell (hown.kept hgq hne4) q hlt
          have hbd := amoL_bd q
          have hnx := Lib.hid (hRs.out q)
          obtain ⟨d, hd⟩ : ∃ d, amoL.getD q 0 = d := ⟨_, rfl⟩
          rw [hd] at ck hbd hnx
          clear hd
          have hsh : IntKind.i64.wrap (d * 2 ^ 2) = d * 4 := IntWalk.i64_in _ (by omega)
          go_wp2_with (at_mapUpdate; refine wpList_tm_put rfl _ _ _ rfl Tryz.underlying112 w.heap.size _ _ rfl hTq (by unfold maxLen; omega) _ ⟨47, 2, _⟩ rfl rfl (WalkArith.wf_i64 (by omega)) ?_; intro w5 hT5 hg5)
          rw [← hnx.out, Nat.add_assoc] at hT5
          go_roundw
          case rel => exact ⟨q + 1, by omega, by go_num, hT5, grown_trans hgq hg5⟩
          case measure => simp [intOf]; omega
        · obtain rfl : q = 9 := by omega
          rw [hRn.out] at hTq
          go_wp2_with fail
          go_roundw
          case rel => exact .inr ⟨.inl ⟨rfl, hTq⟩, grown_trans hgo hgq⟩
          case measure => decide
    · replace c1 := cell_grown hgo lt1 (fun e => hne1 (Option.some.inj e)) c1
      go_wp2_with (first | (at_mapUpdate; refine wpList_tm_put rfl _ _ _ rfl Tryz.underlying112 w.heap.size _ _ rfl hT (by decide) _ ⟨47, 3, _⟩ rfl rfl (by decide) ?_; intro w2 hT2 hg2; have hT3 := hT2; have hgo3 := grown_trans hgo hg2; clear hT hgo; have hT := hT3; have hgo := hgo3; clear hT3 hgo3 hT2 hg2) | (go_at_call 99; refine (Amos_any _).mono ?_; rintro e w4 ⟨⟨vs, rfl, hown⟩, hb4⟩; rw [show amoL.length = 9 from rfl] at hown; obtain ⟨ao, cap, rfl⟩ := own_slice hown))
      have hne4 := ownBlock_ne hown (Nat.lt_of_lt_of_le (Nat.lt_trans hsz.out lt1) hgo.size)
      replace hT := hT.keep hb4
      replace hgo := grown_trans hgo (grown_below hb4 _)
      replace hT : TM w4 w.heap.size 78 (lrT (rdT T0 0) 1) := hT
      have hR0 : Hid (amT (lrT (rdT T0 0) 1) 79 3 0 = lrT (rdT T0 0) 1) := Lib.hid rfl
      have hRs : Hid (∀ q : Nat, amT (lrT (rdT T0 0) 1) 79 3 (q + 1) = TSet (amT (lrT (rdT T0 0) 1) 79 3 q) (79 + q) ⟨47, 3, amoL.getD q 0 * 4⟩) := Lib.hid fun _ => rfl
      have hRn : Hid (amT (lrT (rdT T0 0) 1) 79 3 9 = rdT (rdT T0 0) 1) := Lib.hid rfl
      generalize amT (lrT (rdT T0 0) 1) 79 3 = R at hR0 hRs hRn
      rw [← hR0.out] at hT
      clear hR0
      go_loopw [59] (fun j wx => ∃ q : Nat, q ≤ 9 ∧ j = .int .i64 q ∧ TM wx w.heap.size (78 + q) (R q) ∧ w4.grownBy wx (some w.heap.size)) (fun j _ => 9 - (intOf j).toNat)
      case atStart => exact ⟨0, by decide, rfl, hT, grown_refl _ _⟩
      case round =>
        obtain ⟨q, hq, rfl, hTq, hgq⟩ := hrel
        by_cases hlt : q < 9
        · obtain ⟨g, rfl, ck⟩ := own_cell (hown.kept hgq hne4) q hlt
          have hbd := amoL_bd q
          have hnx := Lib.hid (hRs.out q)
          obtain ⟨d, hd⟩ : ∃ d, amoL.getD q 0 = d := ⟨_, rfl⟩
          rw [hd] at ck hbd hnx
          clear hd
          have hsh : IntKind.i64.wrap (d * 2 ^ 2) = d * 4 := IntWalk.i64_in _ (by omega)
          go_wp2_with (at_mapUpdate; refine wpList_tm_put rfl _ _ _ rfl Tryz.underlying112 w.heap.size _ _ rfl hTq (by unfold maxLen; omega) _ ⟨47, 3, _⟩ rfl rfl (WalkArith.wf_i64 (by omega)) ?_; intro w5 hT5 hg5)
          rw [← hnx.out, Nat.add_assoc] at hT5
          go_roundw
          case rel => exact ⟨q + 1, by omega, by go_num, hT5, grown_trans hgq hg5⟩
          case measure => simp [intOf]; omega
        · obtain rfl : q = 9 := by omega
          rw [hRn.out] at hTq
          go_wp2_with fail
          go_roundw
          case rel => exact .inr ⟨.inr ⟨rfl, hTq⟩, grown_trans hgo hgq⟩
          case measure => decide
    · go_wp2_with fail
      go_ret
      exact ⟨rfl, by rw [← hR0.out] at hT; exact hT.mono (by decide), (hbw.grown (grown_trans hg4 hgo) hbw.size (fun j hj => by cases hj; exact Nat.le_refl _))⟩
end Go.Proofs.YtcgflnkgekkidaaGreatDoor
namespace Go.Proofs.YtcgflnkgekkidaaGreatDoor
/-- An instruction's word, by a table of the ops' parts. -/
def wordT (T : Int → PartV) (i : InsnV) : BitVec 32 := if checkE i = 0 then (wordG (opOf i.op).form (T i.op) i).setWidth 32 else 0#32
def wordV (i : InsnV) : BitVec 32 := wordT madeT i
/-- The number of a form's pieces, read. -/
def immGet (x : BitVec 64) (l : List (Int × Int × Int)) : Nat → BitVec 64
  | 0 => 0#64
  | k + 1 => let p := l.getD k (0, 0, 0); immGet x l k ||| Part x p.2.2 p.2.1 <<< p.1.toNat
/-- A word taken apart as an op's instruction. -/
def decV (f op : Int) (x : BitVec 64) : InsnV :=
  { op := op
    rd := if hasL [1, 2, 3, 4, 7, 8, 11, 12] f then sn (Part x 7 5) else 0
    rs1 := if hasL [3, 4, 7, 8, 11, 12, 5, 6] f then sn (Part x 15 5) else 0
    rs2 := if hasL [5, 6, 8, 12] f then sn (Part x 20 5) else 0
    imm := if hasL [1, 2, 3, 4, 5, 6] f then sn (Sign (immGet x (pieces f) (pieces f).length) (pieceBits f)) else if f = 7 then sn (Part x 20 6) else 0
    aq := hasL [11, 12] f && (un (Part x 26 1) == 1)
    rl := hasL [11, 12] f && (un (Part x 25 1) == 1)
    pred := if f = 9 then sn (Part x 24 4) else 0
    succ := if f = 9 then sn (Part x 20 4) else 0 }
def decI (op : Int) (w : BitVec 32) : InsnV := decV (opOf op).form op (w.setWidth 64)
/-- Whether a word is an op's. -/
def isOp (w : BitVec 32) (op : Int) : Bool := ((madeT op).code == un (Low (w.setWidth 64) 7)) && (checkE (decI op w) == 0) && (wordV (decI op w) == w)
def insnNone : InsnV := ⟨0, 0, 0, 0, 0, false, false, 0, 0⟩
/-- From an op on: the first of n whose word it is. -/
def insnFrom (w : BitVec 32) (op : Int) : Nat → InsnV × Int
  | 0 => (insnNone, 4)
  | n + 1 => if isOp w op then (decI op w, 0) else insnFrom w (op + 1) n
def insnW (w : BitVec 32) : InsnV × Int := insnFrom w 1 87
end Go.Proofs.YtcgflnkgekkidaaGreatDoor
namespace Go.Proofs.YtcgflnkgekkidaaGreatDoor
open Go.RowKit
/-- A slice of words that came in. -/
def WordsAt (w : World) (ao : Option Addr) (n : Nat) (F : Nat → BitVec 32) : Prop := 0 < n → ∃ b off, ao = some ⟨b, off, none⟩ ∧ b < w.heap.size ∧ ∀ k, k < n → w.cell? ⟨b, off + k, none⟩ = some (.int .u32 (un32 (F k)))
theorem WordsAt.keep {w w' : World} {ao : Option Addr} {n : Nat} {F : Nat → BitVec 32} (h : WordsAt w ao n F) (hb : Below w.heap.size w w') : WordsAt w' ao n F := fun hn => by
  obtain ⟨b, off, e, hlt, hc⟩ := h hn
  exact ⟨b, off, e, Nat.lt_of_lt_of_le hlt hb.size, fun k hk => by rw [hb.cell (p := ⟨b, off + k, none⟩) hlt]; exact hc k hk⟩
/-- A slice of bytes that came in. -/
def BytesAt (w : World) (ao : Option Addr) (n : Nat) (f : Nat → Int) : Prop := (∀ k, 0 ≤ f k ∧ f k < 256) ∧ (0 < n → ∃ b off, ao = some ⟨b, off, none⟩ ∧ b < w.heap.size ∧ ∀ k, k < n → w.cell? ⟨b, off + k, none⟩ = some (.int .u8 (f k)))
theorem BytesAt.keep {w w' : World} {ao : Option Addr} {n : Nat} {f : Nat → Int} (h : BytesAt w ao n f) (hb : Below w.heap.size w w') : BytesAt w' ao n f := ⟨h.1, fun hn => by
  obtain ⟨b, off, e, hlt, hc⟩ := h.2 hn
  exact ⟨b, off, e, Nat.lt_of_lt_of_le hlt hb.size, fun k hk => by rw [hb.cell (p := ⟨b, off + k, none⟩) hlt]; exact hc k hk⟩⟩
/-- A slice of the call's own, with these values of one cell each. -/
def NewRow (t : TypeId) (w : World) (l : List Value) (e : Ending) (w' : World) : Prop := (∃ v, e = .returned v ∧ w'.ownsRow w.heap.size t 1 v l.length l) ∧ Below w.heap.size w w'
end Go.Proofs.YtcgflnkgekkidaaGreatDoor
